/- A region whose order is open: a condition over what has come up so far; two lists that are built beside each other. -/
import Derived.Test.YtccjbipmlpnhkaaT2
import Derived.Deep.AppendLies
namespace Go.Proofs.Ytccjbipmlpnhkaa
set_option maxRecDepth 100000
open Go.RowKit
set_option linter.unusedSimpArgs false
set_option linter.unusedVariables false

section
variable {P : Program} {ops : Array Oper} {Q : Exit → Act → World → Prop} {md : Region.Mode} {S : World → Prop} {n : Nat}
/-- m operations more, by a condition that each of those that may come up next keeps. -/
theorem wpAnyT_inv {Inv : Nat → Array Bool → Act → World → Prop} {f : Nat}
    (hfin : ∀ listed a w, S w → Inv 0 listed a w → wpAnyT P md ops Q S n f listed a w)
    (hstep : ∀ m listed a w, S w → Inv (m + 1) listed a w → headAll n listed = false ∧ ∀ i ∈ Region.ready md ops listed, i < n → wpOp P ops Q i (fun a' w' => S w' ∧ Inv m (listed.setIfInBounds i true) a' w') a w) :
    ∀ (m : Nat) (listed : Array Bool) (a : Act) (w : World), S w → Inv m listed a w → wpAnyT P md ops Q S n (m + f) listed a w
  | 0, listed, a, w, hS, h => by rw [Nat.zero_add]; exact hfin listed a w hS h
  | m + 1, listed, a, w, hS, h => by
    obtain ⟨h1, h2⟩ := hstep m listed a w hS h
    rw [Nat.succ_add]
    exact ⟨h1, fun i hi hin => wpOp_mono (fun a' w' h3 => ⟨h3.1, wpAnyT_inv hfin hstep m _ a' w' h3.1 h3.2⟩) (h2 i hi hin)⟩
end
theorem own_at {w w' : World} {base : Nat} {e : TypeId} {size : Nat} {v : Value} {n : Nat} {xs : List Value} (h : w.ownsRow base e size v n xs) (hb : ∀ b, v.ownBlock = some b → w'.heap[b]? = w.heap[b]?) : w'.ownsRow base e size v n xs := by
  refine ⟨h.1, ?_⟩
  rcases h.2 with hn | ⟨g, cap, cur, rfl, hb0, hg, rest⟩
  · exact .inl hn
  · exact .inr ⟨g, cap, cur, rfl, hb0, (hb g rfl).trans hg, rest⟩
/-- A list that is built: s: 0 nothing yet, 1 the empty list, 2 with the k elements zs, 3 with one more; t: the list of this one element is there. -/
structure GI (e : TypeId) (size k base : Nat) (zs us : List Value) (s : Nat) (t : Bool) (v1 v2 v4 v5 : Value) (r q : Option Nat) (w : World) : Prop where
  r0 : s = 0 → r = none
  r1 : s = 1 → ∃ E, r = some E ∧ v1 = .slice (some ⟨E, 0, none⟩) 0 0 ∧ w.ownsRow base e size v1 0 []
  r2 : s = 2 → ∃ E c, r = some E ∧ v2 = .slice (some ⟨E, 0, none⟩) k c ∧ w.ownsRow base e size v2 k zs
  r3 : s = 3 → ∃ E c, r = some E ∧ v5 = .slice (some ⟨E, 0, none⟩) (k + 1) c ∧ w.ownsRow base e size v5 (k + 1) (zs ++ us)
  q0 : t = false → q = none
  q1 : t = true → ∃ G, q = some G ∧ v4 = .slice (some ⟨G, 0, none⟩) 1 1 ∧ ∀ j u, us[j]? = some u → w.cell? ((⟨G, 0, none⟩ : Addr).add j) = some u
  lt : ∀ b, (r = some b ∨ q = some b) → base ≤ b ∧ b < w.heap.size
  ne : ∀ b, r = some b → q ≠ some b
theorem addr_add (G j : Nat) : (⟨G, 0, none⟩ : Addr).add j = ⟨G, j, none⟩ := by unfold Addr.add; split <;> simp_all
theorem GI.start (e : TypeId) (size k base : Nat) (zs us : List Value) (v1 v2 v4 v5 : Value) (w : World) : GI e size k base zs us 0 false v1 v2 v4 v5 none none w :=
  ⟨fun _ => rfl, fun h => absurd h (by omega), fun h => absurd h (by omega), fun h => absurd h (by omega), fun _ => rfl, fun h => (by cases h), fun b h => (by rcases h with h | h <;> cases h), fun b h => (by cases h)⟩
section
variable {e : TypeId} {size k base : Nat} {zs us : List Value} {s : Nat} {t : Bool} {v1 v2 v4 v5 : Value} {r q : Option Nat} {w w' : World}
theorem GI.keep (h : GI e size k base zs us s t v1 v2 v4 v5 r q w) (hz : w.heap.size ≤ w'.heap.size) (hk : ∀ b, (r = some b ∨ q = some b) → w'.heap[b]? = w.heap[b]?) : GI e size k base zs us s t v1 v2 v4 v5 r q w' := by
  refine ⟨h.r0, fun e => ?_, fun e => ?_, fun e => ?_, h.q0, fun e => ?_, fun b hb => ⟨(h.lt b hb).1, Nat.lt_of_lt_of_le (h.lt b hb).2 hz⟩, h.ne⟩
  · obtain ⟨E, h1, rfl, h3⟩ := h.r1 e
    exact ⟨E, h1, rfl, own_at h3 (fun b hb => hk b (.inl (by rw [h1]; exact hb)))⟩
  · obtain ⟨E, c, h1, rfl, h3⟩ := h.r2 e
    exact ⟨E, c, h1, rfl, own_at h3 (fun b hb => hk b (.inl (by rw [h1]; exact hb)))⟩
  · obtain ⟨E, c, h1, rfl, h3⟩ := h.r3 e
    exact ⟨E, c, h1, rfl, own_at h3 (fun b hb => hk b (.inl (by rw [h1]; exact hb)))⟩
  · obtain ⟨G, h1, h2, h3⟩ := h.q1 e
    refine ⟨G, h1, h2, fun j u hu => ?_⟩
    have h4 := h3 j u hu
    rw [addr_add] at h4 ⊢
    exact (World.cell?_of_block (w := w) (a := ⟨G, j, none⟩) (hk G (.inr h1))).trans h4
theorem GI.make (h : GI e size k base zs us 0 t v1 v2 v4 v5 r q w) (hb : base ≤ w.heap.size) : GI e size k base zs us 1 t (.slice (some ⟨w.heap.size, 0, none⟩) 0 0) v2 v4 v5 (some w.heap.size) q (w.alloc (.cells #[] e)) := by
  have hk := h.keep (w' := w.alloc (.cells #[] e)) (by simp) (fun b hb => ((Below.refl _ _).alloc (Nat.le_refl _) _).block b (h.lt b hb).2)
  refine ⟨fun e => by omega, fun _ => ⟨_, rfl, rfl, World.ownsRow_lit w #[] 0 hb (by simp) (by simp)⟩, fun e => by omega, fun e => by omega, hk.q0, hk.q1, fun b hb' => ?_, fun b hb' e => ?_⟩
  · rcases hb' with hb' | hb'
    · injection hb' with hb'
      subst hb'
      exact ⟨hb, by simp⟩
    · exact hk.lt b (.inr hb')
  · injection hb' with hb'
    have := (h.lt b (.inr e)).2
    omega
theorem GI.grow {g c : Nat} (h : GI e size k base zs us s t v1 v2 v4 v5 r q w) {E : Nat} (hr : r = some E) (hg : w.grownBy w' (some E)) {H : Nat} (hat : some E = some g ∨ g = H) (hH : H = w.heap.size) (hlt : base ≤ g ∧ g < w'.heap.size) :
    (t = false → q = none) ∧ (t = true → ∃ G, q = some G ∧ v4 = .slice (some ⟨G, 0, none⟩) 1 1 ∧ ∀ j u, us[j]? = some u → w'.cell? ((⟨G, 0, none⟩ : Addr).add j) = some u) ∧ (∀ b, (some g = some b ∨ q = some b) → base ≤ b ∧ b < w'.heap.size) ∧ (∀ b, some g = some b → q ≠ some b) := by
  have hqb : ∀ b, q = some b → w'.heap[b]? = w.heap[b]? := fun b hb => hg.block b (h.lt b (.inr hb)).2 (fun e => by
    injection e with e
    exact h.ne E hr (by rw [← e]; exact hb))
  refine ⟨h.q0, fun e => ?_, fun b hb => ?_, fun b hb hq => ?_⟩
  · obtain ⟨G, h1, h2, h3⟩ := h.q1 e
    refine ⟨G, h1, h2, fun j u hu => ?_⟩
    have h4 := h3 j u hu
    rw [addr_add] at h4 ⊢
    exact (World.cell?_of_block (w := w) (a := ⟨G, j, none⟩) (hqb G h1)).trans h4
  · rcases hb with hb | hb
    · injection hb with hb
      subst hb
      exact hlt
    · exact ⟨(h.lt b (.inr hb)).1, Nat.lt_of_lt_of_le (h.lt b (.inr hb)).2 hg.size⟩
  · injection hb with hb
    subst hb
    rcases hat with e | e
    · injection e with e
      exact h.ne E hr (by rw [e]; exact hq)
    · have := (h.lt g (.inr hq)).2
      omega
theorem GI.fill {g c E : Nat} (h : GI e size k base zs us 1 t v1 v2 v4 v5 r q w) (hr : r = some E) (ho : w'.ownsRow base e size (.slice (some ⟨g, 0, none⟩) (0 + k) c) (0 + k) ([] ++ zs)) (hg : w.grownBy w' (some E)) {H : Nat} (hat : some E = some g ∨ g = H) (hH : H = w.heap.size) :
    GI e size k base zs us 2 t v1 (.slice (some ⟨g, 0, none⟩) (0 + k) c) v4 v5 (some g) q w' := by
  rw [Nat.zero_add, List.nil_append] at ho
  obtain ⟨a, b, cc, d⟩ := h.grow (c := c) hr hg hat hH (ho.lt g rfl)
  rw [Nat.zero_add]
  exact ⟨fun e => by omega, fun e => by omega, fun _ => ⟨g, c, rfl, rfl, ho⟩, fun e => by omega, a, b, cc, d⟩
theorem GI.more {g c E : Nat} (h : GI e size k base zs us 2 t v1 v2 v4 v5 r q w) (hr : r = some E) (ho : w'.ownsRow base e size (.slice (some ⟨g, 0, none⟩) (k + 1) c) (k + 1) (zs ++ us)) (hg : w.grownBy w' (some E)) {H : Nat} (hat : some E = some g ∨ g = H) (hH : H = w.heap.size) :
    GI e size k base zs us 3 t v1 v2 v4 (.slice (some ⟨g, 0, none⟩) (k + 1) c) (some g) q w' := by
  obtain ⟨a, b, cc, d⟩ := h.grow (c := c) hr hg hat hH (ho.lt g rfl)
  exact ⟨fun e => by omega, fun e => by omega, fun e => by omega, fun _ => ⟨g, c, rfl, rfl, ho⟩, a, b, cc, d⟩
theorem GI.aux {e' : TypeId} (h : GI e size k base zs us s false v1 v2 v4 v5 r q w) (hb : base ≤ w.heap.size) : GI e size k base zs us s true v1 v2 (.slice (some ⟨w.heap.size, 0, none⟩) 1 1) v5 r (some w.heap.size) (w.alloc (.cells us.toArray e')) := by
  have hk := h.keep (w' := w.alloc (.cells us.toArray e')) (by simp) (fun b hb => ((Below.refl _ _).alloc (Nat.le_refl _) _).block b (h.lt b hb).2)
  refine ⟨hk.r0, hk.r1, hk.r2, hk.r3, fun e => (by cases e), fun _ => ⟨_, rfl, rfl, fun j u hu => World.news_of_block (cs := us.toArray) (t := e') (fr := (0, 0)) (heap_alloc_new w _) j u (by simpa using hu)⟩, fun b hb' => ?_, fun b hb' e => ?_⟩
  · rcases hb' with hb' | hb'
    · exact hk.lt b (.inl hb')
    · injection hb' with hb'
      subst hb'
      exact ⟨hb, by simp⟩
  · injection e with e
    have := (h.lt b (.inl hb')).2
    omega
end
/-- no block is in both -/
def Sep (r q r' q' : Option Nat) : Prop := ∀ b, (r = some b ∨ q = some b) → ¬ (r' = some b ∨ q' = some b)
theorem Sep.symm {r q r' q' : Option Nat} (h : Sep r q r' q') : Sep r' q' r q := fun b hb hc => h b hc hb
theorem Sep.row {r q r' q' : Option Nat} {g H : Nat} (h : Sep r q r' q') (hg : r = some g ∨ g = H) (hH : ∀ b, (r' = some b ∨ q' = some b) → b < H) : Sep (some g) q r' q' := fun b hb hc => by
  rcases hb with hb | hb
  · injection hb with hb
    subst hb
    rcases hg with e | e
    · exact h g (.inl e) hc
    · have := hH g hc
      omega
  · exact h b (.inr hb) hc
theorem Sep.aux {r q r' q' : Option Nat} {H : Nat} (h : Sep r q r' q') (hH : ∀ b, (r' = some b ∨ q' = some b) → b < H) : Sep r (some H) r' q' := fun b hb hc => by
  rcases hb with hb | hb
  · exact h b (.inl hb) hc
  · injection hb with hb
    have := hH b hc
    omega
end Go.Proofs.Ytccjbipmlpnhkaa

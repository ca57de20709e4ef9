/- Terms that are being built by draws: what they are in memory. -/
import Derived.Test.YtgmeoblapnmpiaaKp
import Derived.Test.YtgmeoblapnmpiaaTs
import Derived.Test.YtgmeoblapnmpiaaTp
import Derived.Test.YtgmeoblapnmpiaaSg
namespace Go.Proofs.Ytgmeoblapnmpiaa
set_option maxRecDepth 100000
open Go.RowKit Go.ChangeShapes Go.WideShapes Go.ChangeAt
set_option linter.unusedSimpArgs false
set_option linter.unusedVariables false

/-- w' is w but for block r, as far as what lies from lo on goes. -/
structure Same (lo : Nat) (r : Option Nat) (w w' : World) : Prop where
  size : w.heap.size ≤ w'.heap.size
  block : ∀ i, lo ≤ i → i < w.heap.size → some i ≠ r → w'.heap[i]? = w.heap[i]?
theorem Same.refl (lo : Nat) (r : Option Nat) (w : World) : Same lo r w w := ⟨Nat.le_refl _, fun _ _ _ _ => rfl⟩
theorem Same.trans {lo : Nat} {r : Option Nat} {a b c : World} (h : Same lo r a b) (k : Same lo r b c) : Same lo r a c :=
  ⟨Nat.le_trans h.size k.size, fun i h0 h1 h2 => (k.block i h0 (Nat.lt_of_lt_of_le h1 h.size) h2).trans (h.block i h0 h1 h2)⟩
theorem Same.below {lo : Nat} {r : Option Nat} {w w' : World} (h : Below w.heap.size w w') : Same lo r w w' := ⟨h.size, fun i _ h1 _ => h.block i h1⟩
theorem Same.only {lo g : Nat} {r : Option Nat} {w w' : World} (h : Only g w w') (hg : g < lo) : Same lo r w w' := ⟨h.size, fun i h0 h1 _ => h.block i h1 (fun e => by injection e with e; omega)⟩
theorem Same.set {lo : Nat} {r : Option Nat} {w : World} {p : Addr} (hp : p.block < lo) (v : Value) : Same lo r w (w.setCell p v) := ⟨by simp [World.setCell], fun i h0 _ _ => Below.heap_setCell w p v i (by omega)⟩
theorem Same.grown {lo : Nat} {r : Option Nat} {w w' : World} (h : w.grownBy w' r) : Same lo r w w' := ⟨h.size, fun i _ h1 h2 => h.block i h1 h2⟩
/-- The kids stay what they are, whatever is done to block r and below lo. -/
def KidX (w : World) (lo : Nat) (r : Option Nat) (d : Nat) (A : Option Addr) (n : Nat) (ks : List TermV) : Prop := ∀ w', Same lo r w w' → Kids w' 0 d A n ks
theorem KidX.here {w : World} {lo d n : Nat} {r : Option Nat} {A : Option Addr} {ks : List TermV} (h : KidX w lo r d A n ks) : Kids w 0 d A n ks := h w (Same.refl _ _ _)
theorem KidX.step {w w' : World} {lo d n : Nat} {r : Option Nat} {A : Option Addr} {ks : List TermV} (h : KidX w lo r d A n ks) (hs : Same lo r w w') : KidX w' lo r d A n ks := fun w'' h2 => h w'' (hs.trans h2)
theorem KidX.inside {w : World} {lo lo' b d n : Nat} {A : Option Addr} {ks : List TermV} (h : KidX w lo none d A n ks) (hb : b < lo) (hl : lo' ≤ lo) : KidX w lo' (some b) d A n ks := fun w' hs =>
  h w' ⟨hs.size, fun i h0 h1 _ => hs.block i (by omega) h1 (fun e => by injection e with e; omega)⟩
theorem KidX.row {w w' : World} {lo g d n : Nat} {r : Option Nat} {A : Option Addr} {ks : List TermV} (h : KidX w lo r d A n ks) (hg : w.grownBy w' r) {H : Nat} (hat : r = some g ∨ g = H) (hH : H = w.heap.size) : KidX w' lo (some g) d A n ks := fun w'' hs =>
  h w'' ⟨Nat.le_trans hg.size hs.size, fun i h0 h1 h2 => (hs.block i h0 (Nat.lt_of_lt_of_le h1 hg.size) (fun e => by
    rcases hat with e2 | e2
    · exact h2 (by rw [e2]; exact e)
    · injection e with e; omega)).trans (hg.block i h1 h2)⟩
theorem KidX.le {w : World} {lo d1 d2 n : Nat} {r : Option Nat} {A : Option Addr} {ks : List TermV} (h : KidX w lo r d1 A n ks) (hd : d1 ≤ d2) : KidX w lo r d2 A n ks := fun w' hs => (h w' hs).le hd
theorem KidX.nil (w : World) (lo d : Nat) (r : Option Nat) (A : Option Addr) : KidX w lo r d A 0 [] := fun w' _ => by
  cases d with
  | zero => exact ⟨rfl, rfl⟩
  | succ d => exact ⟨rfl, by omega, fun h => absurd h (by omega)⟩
/-- Term j of what is being appended. -/
def TermZ (w : World) (lo : Nat) (r : Option Nat) (d : Nat) (zs : List Value) (j : Nat) (t : TermV) : Prop :=
  ∃ A m c, KidX w lo r d A m t.kids ∧ t.name.size ≤ 9223372036854775807 ∧ zs[j * 2]? = some (.string t.name) ∧ zs[j * 2 + 1]? = some (.slice A m c)
/-- Terms that are being appended: k so far. -/
structure TermG (w : World) (B : Nat) (v : Value) (k : Nat) (ts : List TermV) (zs : List Value) (d : Nat) : Prop where
  own : w.ownsRow B 30 2 v k zs
  len : ts.length = k
  each : ∀ j, j < k → TermZ w B v.ownBlock d zs j (ts.getD j tm0)
theorem TermG.nil (w : World) (B d : Nat) : TermG w B (.slice none 0 0) 0 [] [] d := ⟨⟨rfl, .inl ⟨rfl, rfl⟩⟩, rfl, fun _ h => absurd h (by omega)⟩
theorem TermG.later {w w' : World} {B : Nat} {v : Value} {k d : Nat} {ts : List TermV} {zs : List Value} (h : TermG w B v k ts zs d) (hb : Below w.heap.size w w') : TermG w' B v k ts zs d :=
  ⟨h.own.kept (row := none) ⟨hb.os, hb.tape, hb.output, hb.size, fun i hi _ => hb.block i hi⟩ (by cases hv : v.ownBlock <;> simp), h.len, fun j hj => by
    obtain ⟨A, m, c, hI, h1⟩ := h.each j hj
    exact ⟨A, m, c, hI.step (Same.below hb), h1⟩⟩
theorem TermG.only {w w' : World} {B g : Nat} {v : Value} {k d : Nat} {ts : List TermV} {zs : List Value} (h : TermG w B v k ts zs d) (ho : Only g w w') (hg : g < B) : TermG w' B v k ts zs d :=
  ⟨h.own.kept ho (.inr (fun e => by have := (h.own.lt g e).1; omega)), h.len, fun j hj => by
    obtain ⟨A, m, c, hI, h1⟩ := h.each j hj
    exact ⟨A, m, c, hI.step (Same.only ho hg), h1⟩⟩
theorem TermG.set {w : World} {B : Nat} {v : Value} {k d : Nat} {ts : List TermV} {zs : List Value} (h : TermG w B v k ts zs d) {p : Addr} (hp : p.block < B) (u : Value) : TermG (w.setCell p u) B v k ts zs d :=
  ⟨h.own.kept (row := some p.block) ⟨rfl, rfl, rfl, by simp [World.setCell], fun i hi hn => Below.heap_setCell w p u i (fun e => hn (by rw [e]))⟩ (.inr (fun e => by have := (h.own.lt _ e).1; omega)), h.len, fun j hj => by
    obtain ⟨A, m, c, hI, h1⟩ := h.each j hj
    exact ⟨A, m, c, hI.step (Same.set hp u), h1⟩⟩
theorem TermG.drew {w : World} {B : Nat} {v : Value} {k d : Nat} {ts : List TermV} {zs : List Value} (h : TermG w B v k ts zs d) : TermG w.drew B v k ts zs d := h.later (Below.drew (Below.refl _ _))
theorem TermG.alloc {w : World} {B : Nat} {v : Value} {k d : Nat} {ts : List TermV} {zs : List Value} (h : TermG w B v k ts zs d) (o : Obj) : TermG (w.alloc o) B v k ts zs d := h.later ((Below.refl _ _).alloc (Nat.le_refl _) o)
/-- more of them -/
theorem TermG.app {w w' : World} {B : Nat} {v : Value} {k d : Nat} {ts : List TermV} {zs : List Value} (h : TermG w B v k ts zs d) {g cap m : Nat} {us : List TermV} {ys : List Value}
    (ho : w'.ownsRow B 30 2 (.slice (some ⟨g, 0, none⟩) (k + m) cap) (k + m) (zs ++ ys)) (hg : w.grownBy w' v.ownBlock) {H : Nat} (hat : v.ownBlock = some g ∨ g = H) (hH : H = w.heap.size)
    (hd : us.length = m) (hx : ∀ j, j < m → TermZ w B v.ownBlock d ys j (us.getD j tm0)) :
    TermG w' B (.slice (some ⟨g, 0, none⟩) (k + m) cap) (k + m) (ts ++ us) (zs ++ ys) d := by
  have hl := h.own.1
  have hk := h.len
  refine ⟨ho, by simp [hk, hd], fun j hj => ?_⟩
  show TermZ w' B (some g) d _ j _
  by_cases e : k ≤ j
  · obtain ⟨A, m', c, hI, hn, h0, h1⟩ := hx (j - k) (by omega)
    have hxx : (ts ++ us).getD j tm0 = us.getD (j - k) tm0 := by rw [List.getD_eq_getElem?_getD, List.getElem?_append_right (by omega), hk, ← List.getD_eq_getElem?_getD]
    rw [hxx]
    refine ⟨A, m', c, hI.row hg hat hH, hn, ?_, ?_⟩
    · rw [List.getElem?_append_right (by omega), hl, show j * 2 - k * 2 = (j - k) * 2 by omega]; exact h0
    · rw [List.getElem?_append_right (by omega), hl, show j * 2 + 1 - k * 2 = (j - k) * 2 + 1 by omega]; exact h1
  · obtain ⟨A, m', c, hI, hn, h0, h1⟩ := h.each j (by omega)
    have hx : (ts ++ us).getD j tm0 = ts.getD j tm0 := by rw [List.getD_eq_getElem?_getD, List.getElem?_append_left (by omega), ← List.getD_eq_getElem?_getD]
    rw [hx]
    refine ⟨A, m', c, hI.row hg hat hH, hn, ?_, ?_⟩
    · rw [List.getElem?_append_left (by omega)]; exact h0
    · rw [List.getElem?_append_left (by omega)]; exact h1
/-- What is built is terms. -/
theorem TermG.kids {w : World} {B : Nat} {A : Option Addr} {k n c d : Nat} {ts : List TermV} {zs : List Value} (h : TermG w B (.slice A n c) k ts zs d) (hk : k ≤ 1000) : KidX w B none (d + 1) A k ts := fun w' hs => by
  refine ⟨h.len, by omega, fun hn => ?_⟩
  obtain ⟨g, cap, e, _⟩ := h.own.form hn
  simp only [Value.slice.injEq] at e
  obtain ⟨rfl, rfl, rfl⟩ := e
  have hgl := h.own.lt g rfl
  refine ⟨g, 0, rfl, Nat.zero_le _, Nat.lt_of_lt_of_le hgl.2 hs.size, fun j hj => ?_⟩
  obtain ⟨A', m', c', hI', hn', h0, h1⟩ := h.each j hj
  have hb := hs.block g hgl.1 hgl.2 (by simp)
  have hl := h.own.1
  rw [Nat.zero_add]
  refine ⟨A', m', c', ?_, ?_, hI' w' ⟨hs.size, fun i h2 h3 _ => hs.block i h2 h3 (by simp)⟩, by omega⟩
  · exact (World.cell?_of_block (w := w) (a := ⟨g, j * 2, none⟩) hb).trans (by rw [h.own.cellAt _ (by omega)]; exact h0)
  · exact (World.cell?_of_block (w := w) (a := ⟨g, j * 2 + 1, none⟩) hb).trans (by rw [h.own.cellAt _ (by omega)]; exact h1)
theorem TermG.form {w : World} {B : Nat} {v : Value} {k d : Nat} {ts : List TermV} {zs : List Value} (h : TermG w B v k ts zs d) : ∃ A c, v = .slice A k c := by
  rcases h.own.2 with ⟨rfl, rfl⟩ | ⟨g, cap, _, rfl, _⟩
  · exact ⟨none, 0, rfl⟩
  · exact ⟨some ⟨g, 0, none⟩, cap, rfl⟩
theorem KidX.into {w w0 : World} {B1 B2 d n k : Nat} {t : TypeId} {sz : Nat} {v : Value} {zs : List Value} {A : Option Addr} {ks : List TermV} (h : KidX w B1 none d A n ks) (hown : w0.ownsRow B2 t sz v k zs) (h0 : w0.heap.size ≤ B1) (hB : B2 ≤ B1) : KidX w B2 v.ownBlock d A n ks := by
  cases hv : v.ownBlock with
  | none => exact fun w' hs => h w' ⟨hs.size, fun i h1 h2 h3 => hs.block i (by omega) h2 h3⟩
  | some b => exact h.inside (by have := (hown.lt b hv).2; omega) hB
/-- few kids everywhere -/
def narrow : Nat → List TermV → Prop
  | 0, ks => ks = []
  | d + 1, ks => ks.length ≤ 9 ∧ ∀ j, j < ks.length → narrow d (ks.getD j tm0).kids
theorem narrow.few {d : Nat} {ks : List TermV} (h : narrow d ks) : ks.length ≤ 9 := by
  cases d with
  | zero => rw [show ks = [] from h]; simp
  | succ d => exact h.1
theorem narrow.up : ∀ {d : Nat} {ks : List TermV}, narrow d ks → narrow (d + 1) ks
  | 0, ks, h => by rw [show ks = [] from h]; exact ⟨by simp, fun j hj => absurd hj (by simp)⟩
  | d + 1, ks, h => ⟨h.1, fun j hj => (h.2 j hj).up⟩
theorem narrow.nil (d : Nat) : narrow d [] := by
  cases d with
  | zero => rfl
  | succ d => exact ⟨by simp, fun j hj => absurd hj (by simp)⟩
theorem take_next {ks : List TermV} {k : Nat} (hk : k < ks.length) : ks.take (k + 1) = ks.take k ++ [.mk (ks.getD k tm0).name (ks.getD k tm0).kids] := by
  rw [List.take_add_one, List.getElem?_eq_getElem hk, List.getD_eq_getElem?_getD, List.getElem?_eq_getElem hk]
  show _ ++ [ks[k]] = _ ++ [TermV.mk ks[k].name ks[k].kids]
  cases ks[k]; rfl
theorem news2 {W : World} {E : Nat} {a b : Value} {t : TypeId} (hE : W.heap.size = E) : ∀ j u, [a, b][j]? = some u → (W.alloc (.cells #[a, b] t)).cell? ((⟨E, 0, none⟩ : Addr).add j) = some u := by
  subst hE
  exact World.news_of_block (cs := #[a, b]) (t := t) (fr := (0, 0)) (heap_alloc_new _ _)
theorem term_info2 : (Try.prog.info? 30).map (fun i => (i.zero, i.size, i.bytes)) = some (some (.agg #[.string ⟨#[]⟩, .slice none 0 0]), 2, 40) := by kernel_rfl
/-- A vocabulary that stays what it is, whatever is done below lo. -/
structure SigK (w : World) (lo : Nat) (A : Option Addr) (n : Nat) : Prop where
  few : n ≤ 9
  cells : 0 < n → ∃ b o, A = some ⟨b, o, none⟩ ∧ ∀ j, j < n → ∃ (nm : ByteArray) (B : Option Addr) (m c : Nat) (k : Int) (xs : List Int), m ≤ 3 ∧ nm.size ≤ 9 ∧
    ∀ w', Same lo none w w' → b < w'.heap.size ∧ w'.cell? ⟨b, o + j * 3, none⟩ = some (.string nm) ∧ w'.cell? ⟨b, o + j * 3 + 1, none⟩ = some (.slice B m c) ∧ w'.cell? ⟨b, o + j * 3 + 2, none⟩ = some (.int .i64 k) ∧ Ints w' B m xs
theorem SigK.step {w w' : World} {lo : Nat} {A : Option Addr} {n : Nat} (h : SigK w lo A n) (hk : Same lo none w w') : SigK w' lo A n :=
  ⟨h.few, fun hn => by
    obtain ⟨b, o, e, hc⟩ := h.cells hn
    refine ⟨b, o, e, fun j hj => ?_⟩
    obtain ⟨nm, B, m, c, k, xs, hm, hnm, hw⟩ := hc j hj
    exact ⟨nm, B, m, c, k, xs, hm, hnm, fun w'' hk2 => hw w'' (hk.trans hk2)⟩⟩
theorem SigK.weak {w : World} {lo lo' : Nat} {A : Option Addr} {n : Nat} (h : SigK w lo A n) (hl : lo' ≤ lo) : SigK w lo' A n :=
  ⟨h.few, fun hn => by
    obtain ⟨b, o, e, hc⟩ := h.cells hn
    refine ⟨b, o, e, fun j hj => ?_⟩
    obtain ⟨nm, B, m, c, k, xs, hm, hnm, hw⟩ := hc j hj
    exact ⟨nm, B, m, c, k, xs, hm, hnm, fun w'' hk2 => hw w'' ⟨hk2.size, fun i h0 h1 h2 => hk2.block i (by omega) h1 h2⟩⟩⟩
end Go.Proofs.Ytgmeoblapnmpiaa

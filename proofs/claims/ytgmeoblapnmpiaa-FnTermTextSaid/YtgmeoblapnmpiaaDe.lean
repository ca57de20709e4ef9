/- Terms that are bent: a block beside the term may turn. -/
import Derived.Test.YtgmeoblapnmpiaaDa
namespace Go.Proofs.Ytgmeoblapnmpiaa
set_option maxRecDepth 100000
open Go.RowKit Go.ChangeShapes Go.WideShapes Go.ChangeAt
set_option linter.unusedSimpArgs false
set_option linter.unusedVariables false

/-- As Same, but block x may have turned too. -/
structure SameY (lo x : Nat) (r : Option Nat) (w w' : World) : Prop where
  size : w.heap.size ≤ w'.heap.size
  block : ∀ i, lo ≤ i → i < w.heap.size → i ≠ x → some i ≠ r → w'.heap[i]? = w.heap[i]?
theorem SameY.refl (lo x : Nat) (r : Option Nat) (w : World) : SameY lo x r w w := ⟨Nat.le_refl _, fun _ _ _ _ _ => rfl⟩
theorem SameY.trans {lo x : Nat} {r : Option Nat} {a b c : World} (h : SameY lo x r a b) (k : SameY lo x r b c) : SameY lo x r a c :=
  ⟨Nat.le_trans h.size k.size, fun i h0 h1 h2 h3 => (k.block i h0 (Nat.lt_of_lt_of_le h1 h.size) h2 h3).trans (h.block i h0 h1 h2 h3)⟩
theorem SameY.below {lo x : Nat} {r : Option Nat} {w w' : World} (h : Below w.heap.size w w') : SameY lo x r w w' := ⟨h.size, fun i _ h1 _ _ => h.block i h1⟩
theorem SameY.only {lo x g : Nat} {r : Option Nat} {w w' : World} (h : Only g w w') (hg : g < lo) : SameY lo x r w w' := ⟨h.size, fun i h0 h1 _ _ => h.block i h1 (fun e => by injection e with e; omega)⟩
theorem SameY.set {lo x : Nat} {r : Option Nat} {w : World} {p : Addr} (hp : p.block < lo ∨ p.block = x) (v : Value) : SameY lo x r w (w.setCell p v) := ⟨by simp [World.setCell], fun i h0 _ h2 _ => Below.heap_setCell w p v i (by rcases hp with h | h <;> omega)⟩
def KidY (w : World) (lo x : Nat) (r : Option Nat) (d : Nat) (A : Option Addr) (n : Nat) (ks : List TermV) : Prop := ∀ w', SameY lo x r w w' → Kids w' 0 d A n ks
theorem KidX.y {w : World} {lo x d n : Nat} {r : Option Nat} {A : Option Addr} {ks : List TermV} (h : KidX w lo r d A n ks) (hx : x < lo ∨ w.heap.size ≤ x) : KidY w lo x r d A n ks := fun w' hs =>
  h w' ⟨hs.size, fun i h0 h1 h2 => hs.block i h0 h1 (by rcases hx with h | h <;> omega) h2⟩
theorem KidY.step {w w' : World} {lo x d n : Nat} {r : Option Nat} {A : Option Addr} {ks : List TermV} (h : KidY w lo x r d A n ks) (hs : SameY lo x r w w') : KidY w' lo x r d A n ks := fun w'' h2 => h w'' (hs.trans h2)
theorem KidY.le {w : World} {lo x d1 d2 n : Nat} {r : Option Nat} {A : Option Addr} {ks : List TermV} (h : KidY w lo x r d1 A n ks) (hd : d1 ≤ d2) : KidY w lo x r d2 A n ks := fun w' hs => (h w' hs).le hd
theorem KidY.row {w w' : World} {lo x g d n : Nat} {r : Option Nat} {A : Option Addr} {ks : List TermV} (h : KidY w lo x r d A n ks) (hg : w.grownBy w' r) {H : Nat} (hat : r = some g ∨ g = H) (hH : H = w.heap.size) : KidY w' lo x (some g) d A n ks := fun w'' hs =>
  h w'' ⟨Nat.le_trans hg.size hs.size, fun i h0 h1 hx h2 => (hs.block i h0 (Nat.lt_of_lt_of_le h1 hg.size) hx (fun e => by
    rcases hat with e2 | e2
    · exact h2 (by rw [e2]; exact e)
    · injection e with e; omega)).trans (hg.block i h1 h2)⟩
theorem KidX.intoY {w w0 : World} {B1 B2 x d n k : Nat} {t : TypeId} {sz : Nat} {v : Value} {zs : List Value} {A : Option Addr} {ks : List TermV} (h : KidX w B1 none d A n ks) (hown : w0.ownsRow B2 t sz v k zs) (h0 : w0.heap.size ≤ B1) (hB : B2 ≤ B1) (hx : x < B1) : KidY w B2 x v.ownBlock d A n ks := fun w' hs =>
  h w' ⟨hs.size, fun i h1 h2 _ => hs.block i (by omega) h2 (by omega) (fun e => by have := (hown.lt i e.symm).2; omega)⟩
def TermZY (w : World) (lo x : Nat) (r : Option Nat) (d : Nat) (zs : List Value) (j : Nat) (t : TermV) : Prop :=
  ∃ A m c, KidY w lo x r d A m t.kids ∧ t.name.size ≤ 9223372036854775807 ∧ zs[j * 2]? = some (.string t.name) ∧ zs[j * 2 + 1]? = some (.slice A m c)
/-- Terms, beside which block x may turn. -/
structure TermY (w : World) (B x : Nat) (v : Value) (k : Nat) (ts : List TermV) (zs : List Value) (d : Nat) : Prop where
  own : w.ownsRow B 30 2 v k zs
  off : v.ownBlock ≠ some x
  len : ts.length = k
  each : ∀ j, j < k → TermZY w B x v.ownBlock d zs j (ts.getD j tm0)
theorem TermG.y {w : World} {B x : Nat} {v : Value} {k d : Nat} {ts : List TermV} {zs : List Value} (h : TermG w B v k ts zs d) (hx : x < B ∨ w.heap.size ≤ x) : TermY w B x v k ts zs d :=
  ⟨h.own, fun e => by have := h.own.lt x e; omega, h.len, fun j hj => by
    obtain ⟨A, m, c, hI, h1⟩ := h.each j hj
    exact ⟨A, m, c, hI.y hx, h1⟩⟩
theorem TermY.le {w : World} {B x : Nat} {v : Value} {k d d2 : Nat} {ts : List TermV} {zs : List Value} (h : TermY w B x v k ts zs d) (hd : d ≤ d2) : TermY w B x v k ts zs d2 :=
  ⟨h.own, h.off, h.len, fun j hj => by
    obtain ⟨A, m, c, hI, h1⟩ := h.each j hj
    exact ⟨A, m, c, hI.le hd, h1⟩⟩
theorem TermY.later {w w' : World} {B x : Nat} {v : Value} {k d : Nat} {ts : List TermV} {zs : List Value} (h : TermY w B x v k ts zs d) (hb : Below w.heap.size w w') : TermY w' B x v k ts zs d :=
  ⟨h.own.kept (row := none) ⟨hb.os, hb.tape, hb.output, hb.size, fun i hi _ => hb.block i hi⟩ (by cases hv : v.ownBlock <;> simp), h.off, h.len, fun j hj => by
    obtain ⟨A, m, c, hI, h1⟩ := h.each j hj
    exact ⟨A, m, c, hI.step (SameY.below hb), h1⟩⟩
theorem TermY.only {w w' : World} {B x g : Nat} {v : Value} {k d : Nat} {ts : List TermV} {zs : List Value} (h : TermY w B x v k ts zs d) (ho : Only g w w') (hg : g < B) : TermY w' B x v k ts zs d :=
  ⟨h.own.kept ho (.inr (fun e => by have := (h.own.lt g e).1; omega)), h.off, h.len, fun j hj => by
    obtain ⟨A, m, c, hI, h1⟩ := h.each j hj
    exact ⟨A, m, c, hI.step (SameY.only ho hg), h1⟩⟩
theorem TermY.set {w : World} {B x : Nat} {v : Value} {k d : Nat} {ts : List TermV} {zs : List Value} (h : TermY w B x v k ts zs d) {p : Addr} (hp : p.block < B ∨ p.block = x) (u : Value) : TermY (w.setCell p u) B x v k ts zs d :=
  ⟨h.own.kept (row := some p.block) ⟨rfl, rfl, rfl, by simp [World.setCell], fun i hi hn => Below.heap_setCell w p u i (fun e => hn (by rw [e]))⟩ (.inr (fun e => by
    rcases hp with h1 | h1
    · have := (h.own.lt _ e).1; omega
    · exact h.off (by rw [e, h1]))), h.off, h.len, fun j hj => by
    obtain ⟨A, m, c, hI, h1⟩ := h.each j hj
    exact ⟨A, m, c, hI.step (SameY.set hp u), h1⟩⟩
theorem TermY.app {w w' : World} {B x : Nat} {v : Value} {k d : Nat} {ts : List TermV} {zs : List Value} (h : TermY w B x v k ts zs d) (hxl : x < w.heap.size) {g cap m : Nat} {us : List TermV} {ys : List Value}
    (ho : w'.ownsRow B 30 2 (.slice (some ⟨g, 0, none⟩) (k + m) cap) (k + m) (zs ++ ys)) (hg : w.grownBy w' v.ownBlock) {H : Nat} (hat : v.ownBlock = some g ∨ g = H) (hH : H = w.heap.size)
    (hd : us.length = m) (hx : ∀ j, j < m → TermZY w B x v.ownBlock d ys j (us.getD j tm0)) :
    TermY w' B x (.slice (some ⟨g, 0, none⟩) (k + m) cap) (k + m) (ts ++ us) (zs ++ ys) d := by
  have hl := h.own.1
  have hk := h.len
  refine ⟨ho, fun e => ?_, by simp [hk, hd], fun j hj => ?_⟩
  · have e2 : g = x := by injection e
    rcases hat with e3 | e3
    · exact h.off (by rw [e3, e2])
    · omega
  show TermZY w' B x (some g) d _ j _
  by_cases e : k ≤ j
  · obtain ⟨A, m', c, hI, hn, h0, h1⟩ := hx (j - k) (by omega)
    have hxx : (ts ++ us).getD j tm0 = us.getD (j - k) tm0 := by rw [List.getD_eq_getElem?_getD, List.getElem?_append_right (by omega), hk, ← List.getD_eq_getElem?_getD]
    rw [hxx]
    refine ⟨A, m', c, hI.row hg hat hH, hn, ?_, ?_⟩
    · rw [List.getElem?_append_right (by omega), hl, show j * 2 - k * 2 = (j - k) * 2 by omega]; exact h0
    · rw [List.getElem?_append_right (by omega), hl, show j * 2 + 1 - k * 2 = (j - k) * 2 + 1 by omega]; exact h1
  · obtain ⟨A, m', c, hI, hn, h0, h1⟩ := h.each j (by omega)
    have hx : (ts ++ us).getD j tm0 = ts.getD j tm0 := by rw [List.getD_eq_getElem?_getD, List.getElem?_append_left (by omega), ← List.getD_eq_getElem?_getD]
    rw [hx]
    refine ⟨A, m', c, hI.row hg hat hH, hn, ?_, ?_⟩
    · rw [List.getElem?_append_left (by omega)]; exact h0
    · rw [List.getElem?_append_left (by omega)]; exact h1
theorem TermY.kids {w : World} {B x lo : Nat} {A : Option Addr} {k n c d : Nat} {ts : List TermV} {zs : List Value} (h : TermY w B x (.slice A n c) k ts zs d) (hk : k ≤ 1000) (hg : lo ≤ B) : KidX w lo none (d + 1) A k ts := fun w' hs => by
  refine ⟨h.len, by omega, fun hn => ?_⟩
  obtain ⟨q, cap, e, _⟩ := h.own.form hn
  simp only [Value.slice.injEq] at e
  obtain ⟨rfl, rfl, rfl⟩ := e
  have hgl := h.own.lt q rfl
  refine ⟨q, 0, rfl, Nat.zero_le _, Nat.lt_of_lt_of_le hgl.2 hs.size, fun j hj => ?_⟩
  obtain ⟨A', m', c', hI', hn', h0, h1⟩ := h.each j hj
  have hb := hs.block q (Nat.le_trans hg hgl.1) hgl.2 (by simp)
  have hl := h.own.1
  rw [Nat.zero_add]
  refine ⟨A', m', c', ?_, ?_, hI' w' ⟨hs.size, fun i h2 h3 _ _ => hs.block i (Nat.le_trans hg h2) h3 (by simp)⟩, by omega⟩
  · exact (World.cell?_of_block (w := w) (a := ⟨q, j * 2, none⟩) hb).trans (by rw [h.own.cellAt _ (by omega)]; exact h0)
  · exact (World.cell?_of_block (w := w) (a := ⟨q, j * 2 + 1, none⟩) hb).trans (by rw [h.own.cellAt _ (by omega)]; exact h1)
theorem TermY.form {w : World} {B x : Nat} {v : Value} {k d : Nat} {ts : List TermV} {zs : List Value} (h : TermY w B x v k ts zs d) : ∃ A c, v = .slice A k c := by
  rcases h.own.2 with ⟨rfl, rfl⟩ | ⟨g, cap, _, rfl, _⟩
  · exact ⟨none, 0, rfl⟩
  · exact ⟨some ⟨g, 0, none⟩, cap, rfl⟩
theorem deep_of {r : Int} (h : r ∈ [2, 3, 1, 4]) : ∃ f : Nat, r = (f : Int) ∧ 1 ≤ f ∧ f ≤ 4 := by
  simp at h
  rcases h with rfl | rfl | rfl | rfl
  · exact ⟨2, rfl, by omega, by omega⟩
  · exact ⟨3, rfl, by omega, by omega⟩
  · exact ⟨1, rfl, by omega, by omega⟩
  · exact ⟨4, rfl, by omega, by omega⟩
theorem pow_256 {f : Nat} (h : f ≤ 4) : 4 ^ f ≤ 256 := by
  have := Nat.pow_le_pow_right (show 0 < 4 by omega) h
  simpa using this
def bents : List ByteArray := [⟨#[]⟩, ⟨#[65]⟩, ⟨#[97, 98, 99]⟩, ⟨#[102]⟩]
theorem bents_small : ∀ t ∈ bents, t.size ≤ 9 := by decide
/-- the cells of a term lie in block b -/
structure T2c (w : World) (b : Nat) (s : ByteArray) (v : Value) : Prop where
  c0 : w.cell? ⟨b, 0, none⟩ = some (.string s)
  c1 : w.cell? ⟨b, 1, none⟩ = some v
  f0 : w.frozen? ⟨b, 0, none⟩ = false
  f1 : w.frozen? ⟨b, 1, none⟩ = false
theorem T2c.lt {w : World} {b : Nat} {s : ByteArray} {v : Value} (h : T2c w b s v) : b < w.heap.size := World.block_lt_of_cell? _ _ h.c0
theorem T2c.of_block {w w' : World} {b : Nat} {s : ByteArray} {v : Value} (h : T2c w b s v) (hb : w'.heap[b]? = w.heap[b]?) : T2c w' b s v :=
  ⟨(World.cell?_of_block (w := w) (a := ⟨b, 0, none⟩) hb).trans h.c0, (World.cell?_of_block (w := w) (a := ⟨b, 1, none⟩) hb).trans h.c1, (World.frozen?_of_block (w := w) (a := ⟨b, 0, none⟩) hb).trans h.f0, (World.frozen?_of_block (w := w) (a := ⟨b, 1, none⟩) hb).trans h.f1⟩
theorem T2c.only {w w' : World} {b g : Nat} {s : ByteArray} {v : Value} (h : T2c w b s v) (ho : Only g w w') (hg : b ≠ g) : T2c w' b s v := h.of_block (ho.block b h.lt (fun e => hg (by injection e)))
theorem T2c.later {w w' : World} {b : Nat} {s : ByteArray} {v : Value} (h : T2c w b s v) (hb : Below w.heap.size w w') : T2c w' b s v := h.of_block (hb.block b h.lt)
theorem T2c.grown {w w' : World} {b : Nat} {s : ByteArray} {v : Value} {row : Option Nat} (h : T2c w b s v) (hg : w.grownBy w' row) (hn : row ≠ some b) : T2c w' b s v := h.of_block (hg.block b h.lt (fun e => hn e.symm))
theorem T2c.new (W : World) (s : ByteArray) (v : Value) (t : TypeId) : T2c (W.alloc (.cells #[.string s, v] t)) W.heap.size s v := ⟨by simp [go_sem], by simp [go_sem], by simp [go_sem], by simp [go_sem]⟩
/-- What holds while a term is being drawn. -/
structure St (w : World) (g : Nat) (A : Option Addr) (cap : Nat) (bs : List UInt8) (S : Option Addr) (n c : Nat) (pp : Nat) (ob oe : Option Nat) (W : World) : Prop where
  rd : Rd W g A cap bs pp
  only : Only g w W
  sig : W.cell? ⟨w.heap.size, 0, none⟩ = some (.slice S n c)
  res : T2c W (w.heap.size + 1) ⟨#[]⟩ (.slice none 0 0)
  new : ∀ b, ob = some b → w.heap.size + 2 ≤ b ∧ T2c W b ⟨#[]⟩ (.slice none 0 0)
  row : ∀ e, oe = some e → e ≠ g ∧ ∀ j, j < 4 → W.cell? ⟨e, 0 + j, none⟩ = some (.int .i64 ([2, 3, 1, 4].getD j 0))
theorem St.step {w W W' : World} {g cap n c pp pp' : Nat} {A S : Option Addr} {bs : List UInt8} {ob oe : Option Nat} (h : St w g A cap bs S n c pp ob oe W) (hg : g < w.heap.size) (ho : Only g W W') (hr : Rd W' g A cap bs pp') : St w g A cap bs S n c pp' ob oe W' :=
  ⟨hr, h.only.trans ho, onlyCell ho (by show w.heap.size ≠ g; omega) h.sig, h.res.only ho (by omega), fun b hb => ⟨(h.new b hb).1, (h.new b hb).2.only ho (by have := (h.new b hb).1; omega)⟩, fun e he => ⟨(h.row e he).1, fun j hj => onlyCell ho (h.row e he).1 ((h.row e he).2 j hj)⟩⟩
theorem St.allocT {w W : World} {g cap n c pp : Nat} {A S : Option Addr} {bs : List UInt8} {oe : Option Nat} (h : St w g A cap bs S n c pp none oe W) (E : Nat) (hE : W.heap.size = E) (hg : g < w.heap.size) (hw : w.heap.size + 2 ≤ E) : St w g A cap bs S n c pp (some E) oe (W.alloc (.cells #[.string ⟨#[]⟩, .slice none 0 0] 30)) := by
  subst hE
  have hb : Below W.heap.size W (W.alloc (.cells #[.string ⟨#[]⟩, .slice none 0 0] 30)) := (Below.refl _ _).alloc (Nat.le_refl _) _
  have h1 := h.step hg (Only.of_below hb) (h.rd.grown hb)
  exact ⟨h1.rd, h1.only, h1.sig, h1.res, fun b e => by
    injection e with e; subst e
    exact ⟨hw, T2c.new W _ _ _⟩, h1.row⟩
theorem St.allocI {w W : World} {g cap n c pp : Nat} {A S : Option Addr} {bs : List UInt8} {ob : Option Nat} (h : St w g A cap bs S n c pp ob none W) (E : Nat) (hE : W.heap.size = E) (hg : g < w.heap.size) : St w g A cap bs S n c pp ob (some E) (W.alloc (.cells #[.int .i64 2, .int .i64 3, .int .i64 1, .int .i64 4] 3)) := by
  subst hE
  have hb : Below W.heap.size W (W.alloc (.cells #[.int .i64 2, .int .i64 3, .int .i64 1, .int .i64 4] 3)) := (Below.refl _ _).alloc (Nat.le_refl _) _
  have h1 := h.step hg (Only.of_below hb) (h.rd.grown hb)
  exact ⟨h1.rd, h1.only, h1.sig, h1.res, h1.new, fun e he => by
    injection he with he; subst he
    have := h.only.size
    exact ⟨by omega, fun j hj => alloc_list W [2, 3, 1, 4] 3 j hj⟩⟩
theorem T2c.put {W : World} {b : Nat} {s s0 : ByteArray} {v v0 : Value} (h : T2c W b s0 v0) : T2c ((W.setCell ⟨b, 0, none⟩ (.string s)).setCell ⟨b, 1, none⟩ v) b s v := by
  obtain ⟨c0, c1, f0, f1⟩ := h
  exact ⟨by go_simp, by go_simp, by go_simp, by go_simp⟩
theorem T2c.put0 {W : World} {b : Nat} {s s0 : ByteArray} {v : Value} (h : T2c W b s0 v) : T2c (W.setCell ⟨b, 0, none⟩ (.string s)) b s v := by
  obtain ⟨c0, c1, f0, f1⟩ := h
  exact ⟨by go_simp, by go_simp, by go_simp, by go_simp⟩
theorem T2c.put1 {W : World} {b : Nat} {s : ByteArray} {v v0 : Value} (h : T2c W b s v0) : T2c (W.setCell ⟨b, 1, none⟩ v) b s v := by
  obtain ⟨c0, c1, f0, f1⟩ := h
  exact ⟨by go_simp, by go_simp, by go_simp, by go_simp⟩
theorem T2c.far {W : World} {b : Nat} {s : ByteArray} {v : Value} (h : T2c W b s v) {p : Addr} (hp : p.block ≠ b) (u : Value) : T2c (W.setCell p u) b s v := h.of_block (Below.heap_setCell W p u b (fun e => hp e.symm))
/-- A term was drawn; it lies in block b. -/
structure Drawn (w : World) (g : Nat) (A : Option Addr) (cap : Nat) (bs : List UInt8) (pp b : Nat) (s : ByteArray) (v : Value) (m : Nat) (ts : List TermV) (zs : List Value) (B f : Nat) (W : World) : Prop where
  rd : Rd W g A cap bs pp
  only : Only g w W
  res : T2c W (w.heap.size + 1) ⟨#[]⟩ (.slice none 0 0)
  term : T2c W b s v
  all : TermY W B b v m ts zs f
  nar : narrow (f + 1) ts
  lo : w.heap.size + 2 ≤ b ∧ w.heap.size + 2 ≤ B ∧ B ≤ W.heap.size
  few : s.size ≤ 9
theorem Drawn.step {w W W' : World} {g cap pp pp' b m B f : Nat} {A : Option Addr} {bs : List UInt8} {s : ByteArray} {v : Value} {ts : List TermV} {zs : List Value} (h : Drawn w g A cap bs pp b s v m ts zs B f W) (hg : g < w.heap.size) (ho : Only g W W') (hr : Rd W' g A cap bs pp') : Drawn w g A cap bs pp' b s v m ts zs B f W' :=
  ⟨hr, h.only.trans ho, h.res.only ho (by omega), h.term.only ho (by have := h.lo; omega), h.all.only ho (by have := h.lo; omega), h.nar, ⟨h.lo.1, h.lo.2.1, Nat.le_trans h.lo.2.2 ho.size⟩, h.few⟩
theorem Drawn.of {w W : World} {g cap n c pp b m B f : Nat} {A S : Option Addr} {bs : List UInt8} {oe : Option Nat} {s : ByteArray} {v : Value} {ts : List TermV} {zs : List Value} (h : St w g A cap bs S n c pp (some b) oe W) (hg : g < w.heap.size) (hY : TermY W B b v m ts zs f) (hn : narrow (f + 1) ts) (hB : w.heap.size + 2 ≤ B ∧ B ≤ W.heap.size) (hs : s.size ≤ 9) :
    Drawn w g A cap bs pp b s v m ts zs B f ((W.setCell ⟨b, 0, none⟩ (.string s)).setCell ⟨b, 1, none⟩ v) := by
  obtain ⟨h0, hT⟩ := h.new b rfl
  refine ⟨(h.rd.far (by show g < b; omega) _).far (by show g < b; omega) _, Only.out (Only.out h.only (by show w.heap.size ≤ b; omega) _) (by show w.heap.size ≤ b; omega) _, (h.res.far (by show b ≠ _; omega) _).far (by show b ≠ _; omega) _, hT.put, (hY.set (.inr rfl) _).set (.inr rfl) _, hn, ⟨h0, hB.1, by simpa [World.setCell] using hB.2⟩, hs⟩
theorem Drawn.new {w W : World} {g cap n c pp m B f : Nat} {A S : Option Addr} {bs : List UInt8} {oe : Option Nat} {s : ByteArray} {v : Value} {ts : List TermV} {zs : List Value} (h : St w g A cap bs S n c pp none oe W) (hg : g < w.heap.size) (hG : TermG W B v m ts zs f) (hn : narrow (f + 1) ts) (hB : w.heap.size + 2 ≤ B ∧ B ≤ W.heap.size) (hs : s.size ≤ 9) :
    Drawn w g A cap bs pp W.heap.size s v m ts zs B f (W.alloc (.cells #[.string s, v] 30)) := by
  have hb : Below W.heap.size W (W.alloc (.cells #[.string s, v] 30)) := (Below.refl _ _).alloc (Nat.le_refl _) _
  exact ⟨h.rd.grown hb, h.only.below hb, h.res.later hb, T2c.new _ _ _ _, (hG.y (.inr (Nat.le_refl _))).later hb, hn, ⟨by omega, hB.1, by simp; omega⟩, hs⟩
theorem Drawn.name {w W : World} {g cap pp b m B f : Nat} {A : Option Addr} {bs : List UInt8} {s s' : ByteArray} {v : Value} {ts : List TermV} {zs : List Value} (h : Drawn w g A cap bs pp b s v m ts zs B f W) (hg : g < w.heap.size) (hs : s'.size ≤ 9) :
    Drawn w g A cap bs pp b s' v m ts zs B f (W.setCell ⟨b, 0, none⟩ (.string s')) := by
  have hl := h.lo
  exact ⟨h.rd.far (by show g < b; omega) _, Only.out h.only (by show w.heap.size ≤ b; omega) _, h.res.far (by show b ≠ _; omega) _, h.term.put0, h.all.set (.inr rfl) _, h.nar, ⟨hl.1, hl.2.1, by simpa [World.setCell] using hl.2.2⟩, hs⟩
theorem Drawn.more {w W wq : World} {g cap pp b m B f M g' cap' cz : Nat} {A Z : Option Addr} {bs : List UInt8} {s : ByteArray} {ts us : List TermV} {zs zs' : List Value} (h : Drawn w g A cap bs pp b s (.slice Z m cz) m ts zs B f W) (hg : g < w.heap.size)
    (hgrow : W.grownBy wq (Value.slice Z m cz).ownBlock) (hY : TermY wq B b (.slice (some ⟨g', 0, none⟩) M cap') M us zs' (f + 2)) (hn : narrow (f + 2 + 1) us) :
    Drawn w g A cap bs pp b s (.slice (some ⟨g', 0, none⟩) M cap') M us zs' B (f + 2) (wq.setCell ⟨b, 1, none⟩ (.slice (some ⟨g', 0, none⟩) M cap')) := by
  have hl := h.lo
  have hrj : ∀ j, (Value.slice Z m cz).ownBlock = some j → B ≤ j := fun j hj => (h.all.own.lt j hj).1
  have hsz := hgrow.size
  have hR : Rd wq g A cap bs pp := Rd.aside h.rd hgrow (fun j hj => by have := hrj j hj; omega)
  have hO : Only g w wq := onlyRow h.only hgrow (fun j hj => by have := hrj j hj; omega)
  have hr : T2c wq (w.heap.size + 1) ⟨#[]⟩ (.slice none 0 0) := h.res.grown hgrow (fun e => by have := hrj _ e; have := hl.2.1; omega)
  have ht : T2c wq b s (.slice Z m cz) := h.term.grown hgrow h.all.off
  have hq : B ≤ (wq.setCell ⟨b, 1, none⟩ (.slice (some ⟨g', 0, none⟩) M cap')).heap.size := by
    rw [show (wq.setCell ⟨b, 1, none⟩ (.slice (some ⟨g', 0, none⟩) M cap')).heap.size = wq.heap.size by simp [World.setCell]]
    exact Nat.le_trans hl.2.2 hsz
  exact ⟨hR.far (by show g < b; omega) _, Only.out hO (by show w.heap.size ≤ b; omega) _, hr.far (by show b ≠ w.heap.size + 1; omega) _, ht.put1, hY.set (.inr rfl) _, hn, ⟨hl.1, hl.2.1, hq⟩, h.few⟩
theorem Drawn.fin {w W : World} {g cap pp b m B f c : Nat} {A Z : Option Addr} {bs : List UInt8} {s : ByteArray} {ts : List TermV} {zs : List Value} (h : Drawn w g A cap bs pp b s (.slice Z m c) m ts zs B f W) (hg : g < w.heap.size) (x y : Value) :
    KidX ((W.setCell ⟨w.heap.size + 1, 0, none⟩ x).setCell ⟨w.heap.size + 1, 1, none⟩ y) w.heap.size none (f + 1) Z m ts ∧ Rd ((W.setCell ⟨w.heap.size + 1, 0, none⟩ x).setCell ⟨w.heap.size + 1, 1, none⟩ y) g A cap bs pp ∧ Only g w ((W.setCell ⟨w.heap.size + 1, 0, none⟩ x).setCell ⟨w.heap.size + 1, 1, none⟩ y) := by
  have hl := h.lo
  have hm := h.nar.few
  have hlen := h.all.len
  refine ⟨((h.all.set (.inl (by dsimp only; omega)) _).set (.inl (by dsimp only; omega)) _).kids (by omega) (by omega), (h.rd.far (by dsimp only; omega) _).far (by dsimp only; omega) _, Only.out (Only.out h.only (by dsimp only; omega) _) (by dsimp only; omega) _⟩
end Go.Proofs.Ytgmeoblapnmpiaa

/- Vocabularies are bent (the draws' l4Bent). -/
import Derived.Test.YtgmeoblapnmpiaaDb
namespace Go.Proofs.Ytgmeoblapnmpiaa
set_option maxRecDepth 100000
open Go.RowKit Go.ChangeShapes Go.WideShapes Go.ChangeAt
set_option linter.unusedSimpArgs false
set_option linter.unusedVariables false

section
variable {P : Program} {w : World}
/-- nothing is appended -/
theorem run_append_zero (base : Nat) (t ty e : TypeId) (i : TypeInfo) (size : Nat) (ht : P.underlying t = some (.slice e)) (hi : P.info? e = some i)
    (v : Value) (n : Nat) (xs : List Value) (hown : w.ownsRow base e size v n xs) (A : Option Addr) (c : Nat) :
    (Builtin.append_ #[t, t] ty #[v, .slice A 0 c]).run P w = .ok v w := by
  rcases hown.2 with ⟨rfl, rfl⟩ | ⟨g, cap, cur, rfl, _, _, hnc, _⟩
  · cases A <;> simp [Builtin.append_, run_underlying ht, sizeOf, typeInfo, hi, Builtin.lenOf, Builtin.firstCells, loadCells, loadCellsFrom, storeCells]
  · cases A <;> simp [Builtin.append_, run_underlying ht, sizeOf, typeInfo, hi, Builtin.lenOf, Builtin.firstCells, hnc, storeCells, loadCells, loadCellsFrom]
end
/-- numbers are appended to an empty list of one's own -/
theorem wpList_append_ints {P : Program} {w : World} {ops : Array Oper} {rest : List Oper} {o : Oper} {a : Act} {Q : Exit → Act → World → Prop} (hgd : o.guard = none) (s x : Operand) (t : TypeId)
    (ho : o.op = .call { callee := .builtin .append, args := #[s, x], argTypes := #[t, t] }) (base : Nat) (e : TypeId) (i : TypeInfo) (z : Value) (ht : P.underlying t = some (.slice e)) (hi : P.info? e = some i) (hz : i.zero = some z)
    (hsize : i.size = 1) (hby : i.bytes = 8) (hzs : z.cells.size = 1) (E : Nat) (hs : a.eval s = .slice (some ⟨E, 0, none⟩) 0 0) (hown : w.ownsRow base e 1 (.slice (some ⟨E, 0, none⟩) 0 0) 0 [])
    {A : Option Addr} {m c : Nat} {xs : List Int} (hx : a.eval x = .slice A m c) (hI : Ints w A m xs) (hm : m ≤ 1000) (hbase : base ≤ w.heap.size) (H : Nat) (hH : w.heap.size = H)
    (h : ∀ q cap w', w'.ownsRow base e 1 (.slice (some ⟨q, 0, none⟩) m cap) m (xs.map (Value.int .i64)) → w.grownBy w' (some E) → (q = E ∨ q = H) → q < w'.heap.size → wpList P ops Q rest (a.put o.dst (.slice (some ⟨q, 0, none⟩) m cap)) w') : wpList P ops Q (o :: rest) a w := by
  by_cases hm0 : m = 0
  · subst hm0
    have hx0 : xs = [] := List.eq_nil_of_length_eq_zero hI.len
    subst hx0
    refine wpList_plain hgd fun K hK => ?_
    have hrun := run_append_zero (P := P) (w := w) base t o.type e i 1 ht hi _ 0 [] hown A c
    unfold Oper.wp
    simp [execOp, ho, resolve, invoke, builtin, hs, hx, hrun, Result.andThen]
    exact hK _ _ (h E 0 w hown ⟨rfl, rfl, rfl, Nat.le_refl _, fun _ _ _ => rfl⟩ (.inl rfl) (hown.lt E rfl).2)
  · obtain ⟨b, o', rfl, hb, hc⟩ := hI.cells (by omega)
    refine wpList_append_lies w hgd s x t ho base e i z 1 8 ht hi hz hsize hby hzs (by omega) _ 0 [] hs hown ⟨b, o', none⟩ m c (xs.map (Value.int .i64)) hx (by simp [hI.len]) (fun j u hu => ?_) (by simp [Value.oneCell']) (by omega) (by unfold maxLen; omega) (by omega) hbase H hH (fun g cap w' h1 h2 h3 h4 => ?_)
    · rw [List.getElem?_map] at hu
      have hj : j < xs.length := by
        rcases Nat.lt_or_ge j xs.length with h0 | h0
        · exact h0
        · rw [List.getElem?_eq_none h0] at hu; cases hu
      rw [List.getElem?_eq_getElem hj] at hu
      have hu' : Value.int .i64 xs[j] = u := Option.some.inj hu
      rw [show (⟨b, o', none⟩ : Addr).add j = ⟨b, o' + j, none⟩ by unfold Addr.add; split <;> simp_all, hc j (by have := hI.len; omega), ← hu', List.getD_eq_getElem?_getD, List.getElem?_eq_getElem hj]
      rfl
    · rw [Nat.zero_add, List.nil_append] at h1
      rw [Nat.zero_add]
      exact h g cap w' h1 h2 (h3.elim (fun e => .inl (Option.some.inj e).symm) .inr) h4
theorem int_info9 : (Try.prog.info? 3).map (fun i => (i.zero, i.size, i.bytes)) = some (some (.int .i64 0), 1, 8) := by kernel_rfl
/-- The cells that l4Bent has made first. -/
structure BentC (w : World) (S : Option Addr) (n c : Nat) (v : Value) (wr : World) : Prop where
  box : wr.cell? ⟨w.heap.size, 0, none⟩ = some (.slice S n c)
  res : wr.cell? ⟨w.heap.size + 1, 0, none⟩ = some (.slice none 0 0)
  out : wr.cell? ⟨w.heap.size + 1 + 1 + 1, 0, none⟩ = some v
  fres : wr.frozen? ⟨w.heap.size + 1, 0, none⟩ = false
  fout : wr.frozen? ⟨w.heap.size + 1 + 1 + 1, 0, none⟩ = false
theorem BentC.lt {w wr : World} {S : Option Addr} {n c : Nat} {v : Value} (h : BentC w S n c v wr) : w.heap.size + 1 + 1 + 1 < wr.heap.size := World.block_lt_of_cell? _ _ h.out
theorem BentC.stay {w wr w' : World} {S : Option Addr} {n c : Nat} {v : Value} (h : BentC w S n c v wr) (hs : ∀ i, (i = w.heap.size ∨ i = w.heap.size + 1 ∨ i = w.heap.size + 1 + 1 + 1) → i < wr.heap.size → w'.heap[i]? = wr.heap[i]?) : BentC w S n c v w' := by
  have hl := h.lt
  have e0 := hs w.heap.size (.inl rfl) (by omega)
  have e1 := hs (w.heap.size + 1) (.inr (.inl rfl)) (by omega)
  have e2 := hs (w.heap.size + 1 + 1 + 1) (.inr (.inr rfl)) (by omega)
  exact ⟨(World.cell?_of_block (w := wr) (a := ⟨w.heap.size, 0, none⟩) e0).trans h.box, (World.cell?_of_block (w := wr) (a := ⟨w.heap.size + 1, 0, none⟩) e1).trans h.res, (World.cell?_of_block (w := wr) (a := ⟨w.heap.size + 1 + 1 + 1, 0, none⟩) e2).trans h.out,
    (World.frozen?_of_block (w := wr) (a := ⟨w.heap.size + 1, 0, none⟩) e1).trans h.fres, (World.frozen?_of_block (w := wr) (a := ⟨w.heap.size + 1 + 1 + 1, 0, none⟩) e2).trans h.fout⟩
theorem BentC.later {w wr w' : World} {S : Option Addr} {n c : Nat} {v : Value} (h : BentC w S n c v wr) (hb : Below wr.heap.size wr w') : BentC w S n c v w' := h.stay (fun i _ hl => hb.block i hl)
theorem BentC.only {w wr w' : World} {S : Option Addr} {n c g : Nat} {v : Value} (h : BentC w S n c v wr) (ho : Only g wr w') (hg : g < w.heap.size) : BentC w S n c v w' := h.stay (fun i hi hl => ho.block i hl (fun e => by injection e with e; omega))
theorem BentC.grown {w wr w' : World} {S : Option Addr} {n c : Nat} {v : Value} {r : Option Nat} (h : BentC w S n c v wr) (ho : wr.grownBy w' r) (hr : ∀ b, r = some b → w.heap.size + 1 + 1 ≤ b ∧ b ≠ w.heap.size + 1 + 1 + 1) : BentC w S n c v w' := h.stay (fun i hi hl => ho.block i hl (fun e => by have := hr i e.symm; omega))
theorem BentC.far {w wr : World} {S : Option Addr} {n c : Nat} {v : Value} (h : BentC w S n c v wr) {p : Addr} (hp : w.heap.size + 1 + 1 ≤ p.block ∧ p.block ≠ w.heap.size + 1 + 1 + 1) (u : Value) : BentC w S n c v (wr.setCell p u) := h.stay (fun i hi _ => Below.heap_setCell wr p u i (by omega))
theorem BentC.put {w wr : World} {S : Option Addr} {n c : Nat} {v : Value} (h : BentC w S n c v wr) (u : Value) : BentC w S n c u (wr.setCell ⟨w.heap.size + 1 + 1 + 1, 0, none⟩ u) := by
  have hl := h.lt
  obtain ⟨a0, a1, a2, a3, a4⟩ := h
  exact ⟨by go_simp, by go_simp, by go_simp, by go_simp, by go_simp⟩
/-- the cells of a word lie in block b -/
structure T3c (w : World) (b : Nat) (v0 v1 v2 : Value) : Prop where
  c0 : w.cell? ⟨b, 0, none⟩ = some v0
  c1 : w.cell? ⟨b, 1, none⟩ = some v1
  c2 : w.cell? ⟨b, 2, none⟩ = some v2
  f1 : w.frozen? ⟨b, 1, none⟩ = false
theorem T3c.new (W : World) (v0 v1 v2 : Value) (t : TypeId) : T3c (W.alloc (.cells #[v0, v1, v2] t)) W.heap.size v0 v1 v2 := ⟨by simp [go_sem], by simp [go_sem], by simp [go_sem], by simp [go_sem]⟩
theorem T3c.of_block {w w' : World} {b : Nat} {v0 v1 v2 : Value} (h : T3c w b v0 v1 v2) (hb : w'.heap[b]? = w.heap[b]?) : T3c w' b v0 v1 v2 :=
  ⟨(World.cell?_of_block (w := w) (a := ⟨b, 0, none⟩) hb).trans h.c0, (World.cell?_of_block (w := w) (a := ⟨b, 1, none⟩) hb).trans h.c1, (World.cell?_of_block (w := w) (a := ⟨b, 2, none⟩) hb).trans h.c2, (World.frozen?_of_block (w := w) (a := ⟨b, 1, none⟩) hb).trans h.f1⟩
theorem StayX.grown_new {B x E : Nat} {wr W w' : World} (hb : Below wr.heap.size wr W) (hg : W.grownBy w' (some E)) (hE : wr.heap.size ≤ E) : StayX B x wr w' :=
  ⟨Nat.le_trans hb.size hg.size, fun i _ _ hl => (hg.block i (Nat.lt_of_lt_of_le hl hb.size) (fun e => by injection e with e; omega)).trans (hb.block i hl)⟩
theorem take_word {ls : List SymV} {k : Nat} (hk : k < ls.length) : ls.take (k + 1) = ls.take k ++ [ls.getD k sym0] := by
  rw [List.take_add_one, List.getElem?_eq_getElem hk, List.getD_eq_getElem?_getD, List.getElem?_eq_getElem hk]; rfl
/-- the world in which a word is appended -/
theorem bent_mid {w wr w5 : World} {S : Option Addr} {n c M k q m cap N : Nat} {v : Value} {ls : List SymV} {zs ys : List Value} {nm : ByteArray} {b : Int} {t : TypeId} (hG : SymG wr (w.heap.size + 1 + 1) (w.heap.size + 1 + 1 + 1) N M v k ls zs) (hC : BentC w S n c v w5)
    (hs : StayX (w.heap.size + 1 + 1) (w.heap.size + 1 + 1 + 1) wr w5) (hown : w5.ownsRow (wr.heap.size + 1) 3 1 (.slice (some ⟨q, 0, none⟩) m cap) m ys) (hq : wr.heap.size + 1 ≤ q) (hz : wr.heap.size + 1 + 1 ≤ w5.heap.size) (hw : w.heap.size + 1 + 1 + 1 < wr.heap.size) :
    SymG ((w5.setCell ⟨wr.heap.size, 1, none⟩ (.slice (some ⟨q, 0, none⟩) m cap)).alloc (.cells #[.string nm, .slice (some ⟨q, 0, none⟩) m cap, .int .i64 b] t)) (w.heap.size + 1 + 1) (w.heap.size + 1 + 1 + 1) N M v k ls zs ∧
    BentC w S n c v ((w5.setCell ⟨wr.heap.size, 1, none⟩ (.slice (some ⟨q, 0, none⟩) m cap)).alloc (.cells #[.string nm, .slice (some ⟨q, 0, none⟩) m cap, .int .i64 b] t)) ∧
    ((w5.setCell ⟨wr.heap.size, 1, none⟩ (.slice (some ⟨q, 0, none⟩) m cap)).alloc (.cells #[.string nm, .slice (some ⟨q, 0, none⟩) m cap, .int .i64 b] t)).ownsRow (w.heap.size + 1 + 1) 3 1 (.slice (some ⟨q, 0, none⟩) m cap) m ys := by
  have hsz : (w5.setCell ⟨wr.heap.size, 1, none⟩ (.slice (some ⟨q, 0, none⟩) m cap)).heap.size = w5.heap.size := by simp [World.setCell]
  refine ⟨hG.step ⟨by rw [World.size_alloc, hsz]; omega, fun i h0 h1 h2 => ?_⟩, (hC.far (p := ⟨wr.heap.size, 1, none⟩) (by dsimp only; omega) _).later ((Below.refl _ _).alloc (Nat.le_refl _) _), own_low (own_step hown (fun b' hb' => ?_)) (by omega)⟩
  · rw [heap_old (by rw [hsz]; omega)]
    exact (Below.heap_setCell w5 _ _ i (by show i ≠ wr.heap.size; omega)).trans (hs.block i h0 h1 h2)
  · have hl := hown.lt b' hb'
    have e : q = b' := Option.some.inj hb'
    rw [heap_old (by rw [hsz]; exact hl.2)]
    exact Below.heap_setCell w5 _ _ b' (by show b' ≠ wr.heap.size; omega)
theorem news1i {W : World} {E : Nat} {a : Value} {t : TypeId} (hE : W.heap.size = E) : ∀ j u, [a][j]? = some u → (W.alloc (.cells #[a] t)).cell? ((⟨E, 0, none⟩ : Addr).add j) = some u := by
  subst hE
  exact World.news_of_block (cs := #[a]) (t := t) (fr := (0, 0)) (heap_alloc_new _ _)
/-- how many words stand in a cell -/
def outLen (w : World) (b : Nat) : Nat :=
  match w.cell? ⟨b, 0, none⟩ with
  | some (.slice _ n _) => n
  | _ => 0
theorem outLen_at {w : World} {b n c : Nat} {A : Option Addr} (h : w.cell? ⟨b, 0, none⟩ = some (.slice A n c)) : outLen w b = n := by unfold outLen; rw [h]
def bentNames : List ByteArray := [⟨#[]⟩, ⟨#[65]⟩, ⟨#[97, 98, 99]⟩, ⟨#[122, 122]⟩, ⟨#[97]⟩]
def bentTails : List ByteArray := [⟨#[97]⟩, ⟨#[98]⟩, ⟨#[122]⟩]
theorem bentTails_small : ∀ t ∈ bentTails, t.size ≤ 1 := by decide
theorem bentNames_small : ∀ t ∈ bentNames, t.size ≤ 9 := by decide

/-- A vocabulary, bent or not. -/
def BentBack (N M : Nat) (g : Nat) (A : Option Addr) (cap : Nat) (bs : List UInt8) (p : Nat) (w : World) (e : Ending) (w' : World) : Prop :=
  ∃ (B : Option Addr) (n c : Nat) (ls : List SymV), e = .returned (.agg #[.slice B n c]) ∧ SigI w' w.heap.size B n ls (N + 9) (M + 1) ∧ Moved g A cap bs p 30 w w'
set_option maxRecDepth 100000 in
set_option maxHeartbeats 8000000 in
theorem l4Bent_any {g : Nat} {A : Option Addr} {cap : Nat} {bs : List UInt8} {p : Nat} {S : Option Addr} {n c lo N M : Nat} {ls : List SymV} {w : World} (hR : Rd w g A cap bs p) (hp : p ≤ 600000) (hSg : SigI w lo S n ls N M) (hN : N ≤ 40) (hM : M ≤ 20) (hglo : g < lo) (hlo : lo ≤ w.heap.size) :
    Calls Try.prog 47 #[.pointer (some ⟨g, 0, none⟩), .agg #[.slice S n c]] w (BentBack N M g A cap bs p w) := by
  have hg := hR.lt
  have hnN := hSg.few
  have hlen := hSg.here.len
  obtain ⟨i0, hi, zi0, zi1, zi2⟩ := info_parts int_info9
  obtain ⟨j0, hj, yj0, yj1, yj2⟩ := info_parts sym_info3
  go_enter Try.func47, Try.ntmps47
  go_wp2_with fail
  go_loopw [6] (fun i wr => ∃ (k : Nat) (v : Value) (zs : List Value), i = .int .i64 k ∧ k ≤ n ∧ SymG wr (w.heap.size + 1 + 1) (w.heap.size + 1 + 1 + 1) wr.heap.size M v k (ls.take k) zs ∧ BentC w S n c v wr ∧ Below w.heap.size w wr) (fun i _ => n - (intOf i).toNat)
  case atStart => exact ⟨0, _, [], rfl, by omega, SymG.empty (W := (w.alloc (.cells #[.slice S n c] 36)).alloc (.cells #[.slice none 0 0] 36)) (by simp) (Nat.le_refl _) (StayX.below (by (repeat (first | with_reducible exact Below.refl _ _ | with_reducible assumption | (with_reducible refine below_drewN ?_ _) | (with_reducible refine Below.drew ?_) | (with_reducible refine Below.setCell ?_ (by first | omega | (simp; done) | (simp; omega)) _) | (with_reducible refine Below.alloc ?_ (by first | omega | (simp; done) | (simp; omega)) _) | refine Below.trans ?_ (Below.mono (by with_reducible assumption) (by first | omega | (simp; done) | (simp; omega))))))) (by omega) (by simp) (Nat.le_refl _), ⟨by go_simp, by go_simp, by go_simp, by go_simp, by go_simp⟩, by (repeat (first | with_reducible exact Below.refl _ _ | with_reducible assumption | (with_reducible refine below_drewN ?_ _) | (with_reducible refine Below.drew ?_) | (with_reducible refine Below.setCell ?_ (by first | omega | (simp; done) | (simp; omega)) _) | (with_reducible refine Below.alloc ?_ (by first | omega | (simp; done) | (simp; omega)) _) | refine Below.trans ?_ (Below.mono (by with_reducible assumption) (by first | omega | (simp; done) | (simp; omega)))))⟩
  case round =>
    obtain ⟨k, v, zs, rfl, hk, hG, hC, hB⟩ := hrel
    have hzr := hC.lt
    obtain ⟨Av, cv, rfl⟩ := hG.form
    obtain ⟨b0, b1, b2, b3, b4⟩ := hC
    by_cases hlt : k < n
    · have hS := hSg.stay wr (Same.below hB)
      obtain ⟨p0, o0, rfl, hp0, hcs⟩ := hS.cells (by omega)
      obtain ⟨A1, m1, c1, hI1, hc1, hc2, hc3⟩ := (hcs k hlt).ex
      have harg := hSg.args k hlt
      have htk := take_word (ls := ls) (k := k) (by omega)
      have hm1 := hI1.len
      obtain ⟨y, hy⟩ : ∃ y, ls.getD k sym0 = y := ⟨_, rfl⟩
      rw [hy] at hI1 hc1 hc3 harg htk hm1
      obtain ⟨nm, xs, b⟩ := y
      dsimp only at hI1 hc1 hc3 harg htk hm1
      have HTK := Lib.hid htk
      have HARG := Lib.hid (And.intro harg.1 (And.intro harg.2 hI1.rng))
      have hmM : m1 ≤ M := by omega
      have HM := Lib.hid hm1
      clear hy htk hcs hS harg hm1
      have hCC : BentC w (some ⟨p0, o0, none⟩) n c (.slice Av k cv) wr := ⟨b0, b1, b2, b3, b4⟩
      clear b0 b1 b2 b3 b4
      have hbW : Below wr.heap.size wr ((wr.alloc (.cells #[.string nm, .slice A1 m1 c1, .int .i64 b] 43)).alloc (.cells #[] 3)) := by (repeat (first | with_reducible exact Below.refl _ _ | with_reducible assumption | (with_reducible refine below_drewN ?_ _) | (with_reducible refine Below.drew ?_) | (with_reducible refine Below.setCell ?_ (by first | omega | (simp; done) | (simp; omega)) _) | (with_reducible refine Below.alloc ?_ (by first | omega | (simp; done) | (simp; omega)) _) | refine Below.trans ?_ (Below.mono (by with_reducible assumption) (by first | omega | (simp; done) | (simp; omega)))))
      have hE0 : ((wr.alloc (.cells #[.string nm, .slice A1 m1 c1, .int .i64 b] 43)).alloc (.cells #[] 3)).ownsRow (wr.heap.size + 1) 3 1 (.slice (some ⟨wr.heap.size + 1, 0, none⟩) 0 0) 0 [] := by
        have h0 := World.ownsRow_lit (size := 1) (e := 3) (base := wr.heap.size + 1) (wr.alloc (.cells #[.string nm, .slice A1 m1 c1, .int .i64 b] 43)) #[] 0 (by simp) (by simp) rfl
        rw [World.size_alloc] at h0
        exact h0
      have hX4 : T3c ((wr.alloc (.cells #[.string nm, .slice A1 m1 c1, .int .i64 b] 43)).alloc (.cells #[] 3)) wr.heap.size (.string nm) (.slice A1 m1 c1) (.int .i64 b) := (T3c.new wr _ _ _ _).of_block (heap_old (by simp))
      obtain ⟨b0, b1, b2, b3, b4⟩ := hCC
      have HXH := Lib.hid (And.intro hX4 hE0)
      clear hX4 hE0
      go_wp2_with (first | (at_builtin; refine wpList_append_ints (by rfl) (.tmp 24) (.tmp 26) _ (by rfl) (wr.heap.size + 1) 3 i0 _ Try.underlying41 hi zi0 zi1 zi2 rfl (wr.heap.size + 1) (by rfl) HXH.out.2 (by rfl) (hI1.later hbW) (by omega) (by first | omega | (simp; done) | (simp; omega)) _ rfl ?_; intro q1 cap1 w5 hown5 hg5 hat5 hlt5; (have hCC5 := ((⟨b0, b1, b2, b3, b4⟩ : BentC w (some ⟨p0, o0, none⟩) n c (.slice Av k cv) wr).later hbW).grown hg5 (fun b hb => by (injection hb with hb); omega); have hz5 := hg5.size; simp at hz5; have hX5 := HXH.out.1.of_block (hg5.block wr.heap.size (by first | omega | (simp; done) | (simp; omega)) (fun e => by (injection e with e); omega)); have hB5 : Below w.heap.size w w5 := Below.grown (hB.trans (hbW.mono (by omega))) hg5 (by first | omega | (simp; done) | (simp; omega)) (fun j hj => by (injection hj with hj); omega); have hGs := StayX.grown_new (B := w.heap.size + 1 + 1) (x := w.heap.size + 1 + 1 + 1) hbW hg5 (by omega); have hq1 : wr.heap.size + 1 ≤ q1 := (by rcases hat5 with e | e; (omega); (simp at e; omega)); have HW := Lib.hid (bent_mid (w := w) (nm := nm) (b := b) (m := m1) (ys := xs.map (Value.int .i64)) (t := 43) hG hCC5 hGs hown5 hq1 (by omega) (by omega)); clear HXH hG hbW hown5 hg5 hat5 hGs b0 b1 b2 b3 b4; obtain ⟨b0, b1, b2, b3, b4⟩ := hCC5; obtain ⟨x0, x1, x2, x3⟩ := hX5; have hzw0 : w.heap.size < w5.heap.size := (by omega); have hzw1 : w.heap.size + 1 + 1 + 1 < w5.heap.size := (by omega); have hzw2 : wr.heap.size < w5.heap.size := (by omega))) | (at_builtin; refine wpList_append_lies _ (by rfl) (.tmp 30) (.tmp 32) _ (by rfl) (w.heap.size + 1 + 1) 43 j0 _ 3 48 Try.underlying34 hj yj0 yj1 yj2 rfl (by omega) (.slice Av k cv) k zs (by rfl) HW.out.1.own ⟨w5.heap.size, 0, none⟩ 1 1 [.string nm, .slice (some ⟨q1, 0, none⟩) m1 cap1, .int .i64 b] (by rfl) (by rfl) (news3s (by first | omega | (simp; done) | (simp; omega))) (by simp [Value.oneCell']) (by omega) (by unfold maxLen; omega) (by omega) (by first | omega | (simp; done) | (simp; omega)) _ rfl ?_; intro g' cap' wq hown3 hgrow hat hlt2; (have hC8 := HW.out.2.1.grown hgrow (fun b hb => by have h1 := HW.out.1.off b hb; have h2 := HW.out.1.own.lt b hb; omega); have hzq := hgrow.size; simp at hzq; have hbM : Below w.heap.size w ((w5.setCell ⟨wr.heap.size, 1, none⟩ (.slice (some ⟨q1, 0, none⟩) m1 cap1)).alloc (.cells #[.string nm, .slice (some ⟨q1, 0, none⟩) m1 cap1, .int .i64 b] 43)) := (by (repeat (first | with_reducible exact Below.refl _ _ | with_reducible assumption | (with_reducible refine below_drewN ?_ _) | (with_reducible refine Below.drew ?_) | (with_reducible refine Below.setCell ?_ (by first | omega | (simp; done) | (simp; omega)) _) | (with_reducible refine Below.alloc ?_ (by first | omega | (simp; done) | (simp; omega)) _) | refine Below.trans ?_ (Below.mono (by with_reducible assumption) (by first | omega | (simp; done) | (simp; omega)))))); have hBq : Below w.heap.size w wq := Below.grown hbM hgrow (by first | omega | (simp; done) | (simp; omega)) (fun j hj => by have h2 := HW.out.1.own.lt j hj; omega); have HG8 := Lib.hid (by have h := HW.out.1.snoc (y := (nm, xs, b)) (c := cap1) (q := q1) (g := g') (cap := cap') HM.out hown3 hgrow hat rfl HW.out.2.2 (by omega) HARG.out; rw [← HTK.out] at h; exact h); clear hown3 hgrow hat hlt2 HW hbM x0 x1 x2 x3 b0 b1 b2 b3 b4; obtain ⟨b0, b1, b2, b3, b4⟩ := id hC8; have hzw3 : w.heap.size + 1 + 1 + 1 < wq.heap.size := (by omega))))
      have HQ := Lib.hid (HG8.out.step (StayX.set wq (p := ⟨w.heap.size + 1 + 1 + 1, 0, none⟩) (.inr rfl) (.slice (some ⟨g', 0, none⟩) (k + 1) cap')))
      have HC9 := Lib.hid (hC8.put (.slice (some ⟨g', 0, none⟩) (k + 1) cap'))
      clear hC8
      go_wp2
      go_roundw
      case rel => exact ⟨k + 1, _, _, by go_num, by omega, HQ.out.up (by first | omega | (simp; done) | (simp; omega)) (Nat.le_refl _), HC9.out, by (repeat (first | with_reducible exact Below.refl _ _ | with_reducible assumption | (with_reducible refine below_drewN ?_ _) | (with_reducible refine Below.drew ?_) | (with_reducible refine Below.setCell ?_ (by first | omega | (simp; done) | (simp; omega)) _) | (with_reducible refine Below.alloc ?_ (by first | omega | (simp; done) | (simp; omega)) _) | refine Below.trans ?_ (Below.mono (by with_reducible assumption) (by first | omega | (simp; done) | (simp; omega)))))⟩
      case measure => simp [intOf]; omega
    · obtain rfl : k = n := by omega
      have htk : ls.take k = ls := by rw [← hlen, List.take_length]
      rw [htk] at hG
      clear htk
      have hR0 := hR.grown hB
      have hO0 : Only g w wr := Only.of_below hB
      have hX : w.heap.size + 1 < w.heap.size + 1 + 1 := by omega
      by_cases hk0 : k = 0
      · subst hk0
        have hL := Lib.hid (hG.l (by omega))
        clear hG
        go_wp2
        exact bodyPost_ret (v := .agg #[.slice Av 0 cv]) (by simp only [results, Try.results47]; go_simp) rfl ⟨_, 0, cv, _, rfl, ((((hL.out).wide (by omega)).step (StayX.set _ (p := ⟨w.heap.size + 1, 0, none⟩) (.inl hX) _)).sig (by omega) (by omega)).weak (by omega), ⟨⟨_, by omega, (hR0).far (by dsimp only; omega) _⟩, Only.out (hO0) (by dsimp only; omega) _⟩⟩
      have hk1 : ¬ (k : Int) = 0 := by omega
      have hk2 : ((k : Int) == 0) = false := by rw [beq_eq_false_iff_ne]; exact hk1
      have hCC : BentC w S k c (.slice Av k cv) wr := ⟨b0, b1, b2, b3, b4⟩
      go_wp2_with fail
      refine (pick_any 8 hR0 (by omega) (by omega) (by omega)).mono ?_
      rintro e w1 ⟨r, rfl, hr⟩
      have hR1 := hr.rd
      have hO1 := (hO0).trans hr.only
      have hzp := hr.only.size
      replace hG := hG.step (StayX.only hr.only (by omega))
      replace hCC := hCC.only hr.only hg
      clear b0 b1 b2 b3 b4
      obtain ⟨b0, b1, b2, b3, b4⟩ := id hCC
      have hzx : w.heap.size + 1 + 1 + 1 < (w1).heap.size := by omega
      by_cases hr0 : r = 0
      · subst hr0
        go_wp2_with fail
        refine (pick_any (k : Int) hR1 (by omega) (by omega) (by omega)).mono ?_
        rintro e w2 ⟨r, rfl, hr⟩
        have hrl := hr.lo
        have hrh := hr.hi (by omega)
        obtain ⟨j, rfl⟩ := Int.eq_ofNat_of_zero_le hrl
        have hjk : j < k := by omega
        clear hrl hrh
        have hR2 := hr.rd
        have hO2 := (hO1).trans hr.only
        have hzp := hr.only.size
        replace hG := hG.step (StayX.only hr.only (by omega))
        replace hCC := hCC.only hr.only hg
        clear b0 b1 b2 b3 b4
        obtain ⟨b0, b1, b2, b3, b4⟩ := id hCC
        have hzx : w.heap.size + 1 + 1 + 1 < (w2).heap.size := by omega
        go_wp2_with fail
        refine (pick_any 5 hR2 (by omega) (by omega) (by omega)).mono ?_
        rintro e w3 ⟨r, rfl, hr⟩
        have hrl := hr.lo
        have hrh := hr.hi (by omega)
        have hR3 := hr.rd
        have hO3 := (hO2).trans hr.only
        have hzp := hr.only.size
        replace hG := hG.step (StayX.only hr.only (by omega))
        replace hCC := hCC.only hr.only hg
        clear b0 b1 b2 b3 b4
        obtain ⟨b0, b1, b2, b3, b4⟩ := id hCC
        have hzx : w.heap.size + 1 + 1 + 1 < (w3).heap.size := by omega
        obtain ⟨rb, capr, e, hrb, hrb2⟩ := hG.own.form (by omega)
        simp only [Value.slice.injEq] at e
        obtain ⟨rfl, _, rfl⟩ := e
        have hbx := (hG.off rb rfl).1
        by_cases q0 : r = 0
        · subst q0
          have hS0 := hCC.out
          go_wp2_with fail
          refine wp_region_T2 6 (fun w' => w'.cell? ⟨w.heap.size + 1 + 1 + 1, 0, none⟩ = some (.slice (some ⟨rb, 0, none⟩) k cv)) (by kernel_rfl) (by kernel_rfl) ?_ (fun hHeld => ?_)
          · exact hS0
          (refine wpAnyT_take (i := 0) (v := ?_) (by simp only [List.getElem?_toArray, List.getElem?_cons_succ, List.getElem?_cons_zero]; rfl) (by kernel_rfl) (by kernel_rfl) (by kernel_rfl) (by kernel_rfl) (by intro _ _ _ h; exact h) (Or.inl ⟨by rfl, ?_⟩) (by assumption) ?_; rotate_left; (focus (intro wS hSw; (try dsimp only at hSw); go_simp; (try with_reducible rfl))); (try simp only [Act.put, List.setIfInBounds_toArray, List.set_cons_zero, List.set_cons_succ]))
          (refine wpAnyT_take (i := 1) (v := ?_) (by simp only [List.getElem?_toArray, List.getElem?_cons_succ, List.getElem?_cons_zero]; rfl) (by kernel_rfl) (by kernel_rfl) (by kernel_rfl) (by kernel_rfl) (by intro _ _ _ h; exact h) (Or.inl ⟨by rfl, ?_⟩) (by assumption) ?_; rotate_left; (focus (intro wS hSw; (try dsimp only at hSw); go_simp; (try with_reducible rfl))); (try simp only [Act.put, List.setIfInBounds_toArray, List.set_cons_zero, List.set_cons_succ]))
          (refine wpAnyT_take (i := 2) (v := ?_) (by simp only [List.getElem?_toArray, List.getElem?_cons_succ, List.getElem?_cons_zero]; rfl) (by kernel_rfl) (by kernel_rfl) (by kernel_rfl) (by kernel_rfl) (by intro _ _ _ h; exact h) (Or.inl ⟨by rfl, ?_⟩) (by assumption) ?_; rotate_left; (focus (intro wS hSw; (try dsimp only at hSw); go_simp; (try with_reducible rfl))); (try simp only [Act.put, List.setIfInBounds_toArray, List.set_cons_zero, List.set_cons_succ]))
          (refine wpAnyT_take (i := 3) (v := ?_) (by simp only [List.getElem?_toArray, List.getElem?_cons_succ, List.getElem?_cons_zero]; rfl) (by kernel_rfl) (by kernel_rfl) (by kernel_rfl) (by kernel_rfl) (by intro _ _ _ h; exact h) (Or.inl ⟨by rfl, ?_⟩) (by assumption) ?_; rotate_left; (focus (intro wS hSw; (try dsimp only at hSw); go_simp; (try with_reducible rfl))); (try simp only [Act.put, List.setIfInBounds_toArray, List.set_cons_zero, List.set_cons_succ]))
          refine wpAnyT_ready (rs := [4]) (by kernel_rfl) (by kernel_rfl) ?_
          refine AllReadyT.cons (by simp only [List.getElem?_toArray, List.getElem?_cons_succ, List.getElem?_cons_zero]; rfl) (fun K hK => ?_) AllReadyT.nil
          go_simp
          refine hK.out _ _ ?_ (fun hHeld => ?_)
          · (try dsimp only)
            (exact (hCC.later (by (repeat (first | with_reducible exact Below.refl _ _ | with_reducible assumption | (with_reducible refine below_drewN ?_ _) | (with_reducible refine Below.drew ?_) | (with_reducible refine Below.setCell ?_ (by first | omega | (simp; done) | (simp; omega)) _) | (with_reducible refine Below.alloc ?_ (by first | omega | (simp; done) | (simp; omega)) _) | refine Below.trans ?_ (Below.mono (by with_reducible assumption) (by first | omega | (simp; done) | (simp; omega))))))).out)
          clear hK K
          (try simp only [Act.put, List.setIfInBounds_toArray, List.set_cons_zero, List.set_cons_succ])
          refine wpAnyT_ready (rs := [5]) (by kernel_rfl) (by kernel_rfl) ?_
          refine AllReadyT.cons (by simp only [List.getElem?_toArray, List.getElem?_cons_succ, List.getElem?_cons_zero]; rfl) (fun K hK => ?_) AllReadyT.nil
          (go_simp; (refine (of_any bentNames w3.heap.size 5 5 ((Rd.drew hR3).alloc _) (by omega) rfl (by omega) (by omega) (by omega) (alloc_vals w3.drew (bentNames.map Value.string) _)).mono ?_); rintro e w4 ⟨t, rfl, ht⟩; have hC4 := ((hCC.later (w' := w3.drew.alloc (.cells (List.map Value.string bentNames).toArray 9)) (by (repeat (first | with_reducible exact Below.refl _ _ | with_reducible assumption | (with_reducible refine below_drewN ?_ _) | (with_reducible refine Below.drew ?_) | (with_reducible refine Below.setCell ?_ (by first | omega | (simp; done) | (simp; omega)) _) | (with_reducible refine Below.alloc ?_ (by first | omega | (simp; done) | (simp; omega)) _) | refine Below.trans ?_ (Below.mono (by with_reducible assumption) (by first | omega | (simp; done) | (simp; omega))))))).only ht.only hg))
          refine hK.out _ _ ?_ (fun hHeld => ?_)
          · (try dsimp only)
            (exact hC4.out)
          clear hK K
          (try simp only [Act.put, List.setIfInBounds_toArray, List.set_cons_zero, List.set_cons_succ])
          have hts := bentNames_small t ht.mem
          have hR4 := ht.rd
          have hO4 := (hO3.below (c := w3.drew.alloc (.cells (List.map Value.string bentNames).toArray 9)) (by (repeat (first | with_reducible exact Below.refl _ _ | with_reducible assumption | (with_reducible refine below_drewN ?_ _) | (with_reducible refine Below.drew ?_) | (with_reducible refine Below.setCell ?_ (by first | omega | (simp; done) | (simp; omega)) _) | (with_reducible refine Below.alloc ?_ (by first | omega | (simp; done) | (simp; omega)) _) | refine Below.trans ?_ (Below.mono (by with_reducible assumption) (by first | omega | (simp; done) | (simp; omega))))))).trans ht.only
          have hG4 := (hG.step (w' := w3.drew.alloc (.cells (List.map Value.string bentNames).toArray 9)) (StayX.below (by (repeat (first | with_reducible exact Below.refl _ _ | with_reducible assumption | (with_reducible refine below_drewN ?_ _) | (with_reducible refine Below.drew ?_) | (with_reducible refine Below.setCell ?_ (by first | omega | (simp; done) | (simp; omega)) _) | (with_reducible refine Below.alloc ?_ (by first | omega | (simp; done) | (simp; omega)) _) | refine Below.trans ?_ (Below.mono (by with_reducible assumption) (by first | omega | (simp; done) | (simp; omega)))))))).step (StayX.only ht.only (by omega))
          have hz4 := ht.only.size
          (try simp at hz4)
          clear ht hHeld hG
          obtain ⟨z, hz0⟩ : ∃ z, zs[j * 3]? = some z := ⟨_, List.getElem?_eq_getElem (by have := (hG4).own.1; omega)⟩
          rw [← (hG4).own.cellAt _ (by omega)] at hz0
          have hf0 := (hG4).own.frozenAt (j * 3)
          have hL := Lib.hid ((hG4.l (by omega)).name hjk hts)
          clear hCC b0 b1 b2 b3 b4
          obtain ⟨b0, b1, b2, b3, b4⟩ := id hC4
          refine wpAnyT_done (by kernel_rfl) ?_
          simp only [List.drop_succ_cons, List.drop_zero]
          go_wp2
          exact bodyPost_ret (v := .agg #[.slice (some ⟨rb, 0, none⟩) k cv]) (by simp only [results, Try.results47]; go_simp) rfl ⟨_, k, cv, _, rfl, ((((hL.out).wide (by omega)).step (StayX.set _ (p := ⟨w.heap.size + 1, 0, none⟩) (.inl hX) _)).sig (by omega) (by omega)).weak (by omega), ⟨⟨_, by omega, (hR4.far (by dsimp only; omega) _).far (by dsimp only; omega) _⟩, Only.out (Only.out hO4 (by dsimp only; omega) _) (by dsimp only; omega) _⟩⟩
        have q0' : (r == 0) = false := by simpa using q0
        by_cases q1 : r = 1
        · subst q1
          obtain ⟨Q, hinj, hcQ⟩ := hG.each
          obtain ⟨⟨y0, y1, y2⟩, ⟨y3, y4, y5⟩, cq, y6, y7, y8, y9⟩ := hcQ j hjk
          obtain ⟨m, hm⟩ : ∃ m, (ls.getD j sym0).2.1.length = m := ⟨_, rfl⟩
          rw [hm] at y3 y6 y8
          have y8' := y8
          rw [← hG.own.cellAt _ (by omega)] at y8
          have HQ := Lib.hid (And.intro hinj (And.intro hcQ hm))
          obtain ⟨xs, hxs⟩ : ∃ xs, (ls.getD j sym0).2.1 = xs := ⟨_, rfl⟩
          rw [hxs] at y6
          have HXS := Lib.hid hxs
          obtain ⟨q, hq⟩ : ∃ q, Q j = q := ⟨_, rfl⟩
          have HQJ := Lib.hid hq
          rw [hq] at y0 y1 y2 y6 y8
          have hqrb : q ≠ rb := fun e => y2 (by rw [e]; rfl)
          clear hinj hcQ hm hxs hq y2 y4 y5 y7 y9 y8'
          have hql := (y6.lt q rfl)
          have hgq := hql.1
          have hql2 := hql.2
          have hS0 : w3.cell? ⟨w.heap.size + 1 + 1 + 1, 0, none⟩ = some (.slice (some ⟨rb, 0, none⟩) k cv) ∧ w3.cell? ⟨rb, j * 3 + 1, none⟩ = some (.slice (some ⟨q, 0, none⟩) m cq) := ⟨hCC.out, y8⟩
          go_wp2_with fail
          refine wp_region_T2 14 (fun w' => w'.cell? ⟨w.heap.size + 1 + 1 + 1, 0, none⟩ = some (.slice (some ⟨rb, 0, none⟩) k cv) ∧ w'.cell? ⟨rb, j * 3 + 1, none⟩ = some (.slice (some ⟨q, 0, none⟩) m cq)) (by kernel_rfl) (by kernel_rfl) ?_ (fun hHeld => ?_)
          · exact hS0
          (refine wpAnyT_take (i := 0) (v := ?_) (by simp only [List.getElem?_toArray, List.getElem?_cons_succ, List.getElem?_cons_zero]; rfl) (by kernel_rfl) (by kernel_rfl) (by kernel_rfl) (by kernel_rfl) (by intro _ _ _ h; exact h) (Or.inl ⟨by rfl, ?_⟩) (by assumption) ?_; rotate_left; (focus (intro wS hSw; (try dsimp only at hSw); go_simp; (try with_reducible rfl))); (try simp only [Act.put, List.setIfInBounds_toArray, List.set_cons_zero, List.set_cons_succ]))
          (refine wpAnyT_take (i := 1) (v := ?_) (by simp only [List.getElem?_toArray, List.getElem?_cons_succ, List.getElem?_cons_zero]; rfl) (by kernel_rfl) (by kernel_rfl) (by kernel_rfl) (by kernel_rfl) (by intro _ _ _ h; exact h) (Or.inl ⟨by rfl, ?_⟩) (by assumption) ?_; rotate_left; (focus (intro wS hSw; (try dsimp only at hSw); go_simp; (try with_reducible rfl))); (try simp only [Act.put, List.setIfInBounds_toArray, List.set_cons_zero, List.set_cons_succ]))
          (refine wpAnyT_take (i := 2) (v := ?_) (by simp only [List.getElem?_toArray, List.getElem?_cons_succ, List.getElem?_cons_zero]; rfl) (by kernel_rfl) (by kernel_rfl) (by kernel_rfl) (by kernel_rfl) (by intro _ _ _ h; exact h) (Or.inl ⟨by rfl, ?_⟩) (by assumption) ?_; rotate_left; (focus (intro wS hSw; (try dsimp only at hSw); go_simp; (try with_reducible rfl))); (try simp only [Act.put, List.setIfInBounds_toArray, List.set_cons_zero, List.set_cons_succ]))
          (refine wpAnyT_take (i := 3) (v := ?_) (by simp only [List.getElem?_toArray, List.getElem?_cons_succ, List.getElem?_cons_zero]; rfl) (by kernel_rfl) (by kernel_rfl) (by kernel_rfl) (by kernel_rfl) (by intro _ _ _ h; exact h) (Or.inl ⟨by rfl, ?_⟩) (by assumption) ?_; rotate_left; (focus (intro wS hSw; (try dsimp only at hSw); go_simp; (try with_reducible rfl))); (try simp only [Act.put, List.setIfInBounds_toArray, List.set_cons_zero, List.set_cons_succ]))
          (refine wpAnyT_take (i := 4) (v := ?_) (by simp only [List.getElem?_toArray, List.getElem?_cons_succ, List.getElem?_cons_zero]; rfl) (by kernel_rfl) (by kernel_rfl) (by kernel_rfl) (by kernel_rfl) (by intro _ _ _ h; exact h) (Or.inl ⟨by rfl, ?_⟩) (by assumption) ?_; rotate_left; (focus (intro wS hSw; (try dsimp only at hSw); go_simp; (try with_reducible rfl))); (try simp only [Act.put, List.setIfInBounds_toArray, List.set_cons_zero, List.set_cons_succ]))
          (refine wpAnyT_take (i := 5) (v := ?_) (by simp only [List.getElem?_toArray, List.getElem?_cons_succ, List.getElem?_cons_zero]; rfl) (by kernel_rfl) (by kernel_rfl) (by kernel_rfl) (by kernel_rfl) (by intro _ _ _ h; exact h) (Or.inl ⟨by rfl, ?_⟩) (by assumption) ?_; rotate_left; (focus (intro wS hSw; (try dsimp only at hSw); go_simp; (try with_reducible rfl))); (try simp only [Act.put, List.setIfInBounds_toArray, List.set_cons_zero, List.set_cons_succ]))
          (refine wpAnyT_take (i := 6) (v := ?_) (by simp only [List.getElem?_toArray, List.getElem?_cons_succ, List.getElem?_cons_zero]; rfl) (by kernel_rfl) (by kernel_rfl) (by kernel_rfl) (by kernel_rfl) (by intro _ _ _ h; exact h) (Or.inl ⟨by rfl, ?_⟩) (by assumption) ?_; rotate_left; (focus (intro wS hSw; (try dsimp only at hSw); go_simp; (try with_reducible rfl))); (try simp only [Act.put, List.setIfInBounds_toArray, List.set_cons_zero, List.set_cons_succ]))
          (refine wpAnyT_take (i := 7) (v := ?_) (by simp only [List.getElem?_toArray, List.getElem?_cons_succ, List.getElem?_cons_zero]; rfl) (by kernel_rfl) (by kernel_rfl) (by kernel_rfl) (by kernel_rfl) (by intro _ _ _ h; exact h) (Or.inl ⟨by rfl, ?_⟩) (by assumption) ?_; rotate_left; (focus (intro wS hSw; (try dsimp only at hSw); go_simp; (try with_reducible rfl))); (try simp only [Act.put, List.setIfInBounds_toArray, List.set_cons_zero, List.set_cons_succ]))
          (refine wpAnyT_take (i := 8) (v := ?_) (by simp only [List.getElem?_toArray, List.getElem?_cons_succ, List.getElem?_cons_zero]; rfl) (by kernel_rfl) (by kernel_rfl) (by kernel_rfl) (by kernel_rfl) (by intro _ _ _ h; exact h) (Or.inl ⟨by rfl, ?_⟩) (by assumption) ?_; rotate_left; (focus (intro wS hSw; (try dsimp only at hSw); go_simp; (try with_reducible rfl))); (try simp only [Act.put, List.setIfInBounds_toArray, List.set_cons_zero, List.set_cons_succ]))
          (refine wpAnyT_take (i := 9) (v := ?_) (by simp only [List.getElem?_toArray, List.getElem?_cons_succ, List.getElem?_cons_zero]; rfl) (by kernel_rfl) (by kernel_rfl) (by kernel_rfl) (by kernel_rfl) (by intro _ _ _ h; exact h) (Or.inl ⟨by rfl, ?_⟩) (by assumption) ?_; rotate_left; (focus (intro wS hSw; (try dsimp only at hSw); go_simp; (try with_reducible rfl))); (try simp only [Act.put, List.setIfInBounds_toArray, List.set_cons_zero, List.set_cons_succ]))
          refine wpAnyT_ready (rs := [10]) (by kernel_rfl) (by kernel_rfl) ?_
          refine AllReadyT.cons (by simp only [List.getElem?_toArray, List.getElem?_cons_succ, List.getElem?_cons_zero]; rfl) (fun K hK => ?_) AllReadyT.nil
          go_simp
          refine hK.out _ _ ?_ (fun hHeld => ?_)
          · (try dsimp only)
            (exact ⟨(hCC.later (by (repeat (first | with_reducible exact Below.refl _ _ | with_reducible assumption | (with_reducible refine below_drewN ?_ _) | (with_reducible refine Below.drew ?_) | (with_reducible refine Below.setCell ?_ (by first | omega | (simp; done) | (simp; omega)) _) | (with_reducible refine Below.alloc ?_ (by first | omega | (simp; done) | (simp; omega)) _) | refine Below.trans ?_ (Below.mono (by with_reducible assumption) (by first | omega | (simp; done) | (simp; omega))))))).out, by go_simp⟩)
          clear hK K
          (try simp only [Act.put, List.setIfInBounds_toArray, List.set_cons_zero, List.set_cons_succ])
          refine wpAnyT_ready (rs := [11]) (by kernel_rfl) (by kernel_rfl) ?_
          refine AllReadyT.cons (by simp only [List.getElem?_toArray, List.getElem?_cons_succ, List.getElem?_cons_zero]; rfl) (fun K hK => ?_) AllReadyT.nil
          (go_simp; (refine (num_any [0, 2, -1, 1] w3.heap.size 0 4 4 ((Rd.drew hR3).alloc _) (by omega) rfl (by omega) (by omega) (by omega) (fun i hi => alloc_list w3.drew [0, 2, -1, 1] 3 i hi)).mono ?_); rintro e w4 ⟨t, rfl, ht⟩; have hC4 := ((hCC.later (w' := w3.drew.alloc (.cells #[.int .i64 0, .int .i64 2, .int .i64 (-1), .int .i64 1] 3)) (by (repeat (first | with_reducible exact Below.refl _ _ | with_reducible assumption | (with_reducible refine below_drewN ?_ _) | (with_reducible refine Below.drew ?_) | (with_reducible refine Below.setCell ?_ (by first | omega | (simp; done) | (simp; omega)) _) | (with_reducible refine Below.alloc ?_ (by first | omega | (simp; done) | (simp; omega)) _) | refine Below.trans ?_ (Below.mono (by with_reducible assumption) (by first | omega | (simp; done) | (simp; omega))))))).only ht.only hg); have hy4 : w4.cell? ⟨rb, j * 3 + 1, none⟩ = some (.slice (some ⟨q, 0, none⟩) m cq) := onlyCell (w := w3.drew.alloc (.cells #[.int .i64 0, .int .i64 2, .int .i64 (-1), .int .i64 1] 3)) ht.only (by dsimp only; omega) (by go_simp))
          refine hK.out _ _ ?_ (fun hHeld => ?_)
          · (try dsimp only)
            (exact ⟨hC4.out, hy4⟩)
          clear hK K
          (try simp only [Act.put, List.setIfInBounds_toArray, List.set_cons_zero, List.set_cons_succ])
          have hR4 := ht.rd
          have htm := ht.mem
          have hO4 := (hO3.below (c := w3.drew.alloc (.cells #[.int .i64 0, .int .i64 2, .int .i64 (-1), .int .i64 1] 3)) (by (repeat (first | with_reducible exact Below.refl _ _ | with_reducible assumption | (with_reducible refine below_drewN ?_ _) | (with_reducible refine Below.drew ?_) | (with_reducible refine Below.setCell ?_ (by first | omega | (simp; done) | (simp; omega)) _) | (with_reducible refine Below.alloc ?_ (by first | omega | (simp; done) | (simp; omega)) _) | refine Below.trans ?_ (Below.mono (by with_reducible assumption) (by first | omega | (simp; done) | (simp; omega))))))).trans ht.only
          have hS4 : StayX (w.heap.size + 1 + 1) (w.heap.size + 1 + 1 + 1) w3 w4 := (StayX.below (w' := w3.drew.alloc (.cells #[.int .i64 0, .int .i64 2, .int .i64 (-1), .int .i64 1] 3)) (by (repeat (first | with_reducible exact Below.refl _ _ | with_reducible assumption | (with_reducible refine below_drewN ?_ _) | (with_reducible refine Below.drew ?_) | (with_reducible refine Below.setCell ?_ (by first | omega | (simp; done) | (simp; omega)) _) | (with_reducible refine Below.alloc ?_ (by first | omega | (simp; done) | (simp; omega)) _) | refine Below.trans ?_ (Below.mono (by with_reducible assumption) (by first | omega | (simp; done) | (simp; omega))))))).trans (StayX.only ht.only (by omega))
          have hz4 := ht.only.size
          (try simp at hz4)
          have hrb4 : rb < w4.heap.size := by omega
          have hJt : J64 t := by
            simp at htm
            rcases htm with rfl | rfl | rfl | rfl <;> (unfold J64; omega)
          clear ht htm
          refine wpAnyT_ready (rs := [12]) (by kernel_rfl) (by kernel_rfl) ?_
          refine AllReadyT.cons (by simp only [List.getElem?_toArray, List.getElem?_cons_succ, List.getElem?_cons_zero]; rfl) (fun K hK => ?_) AllReadyT.nil
          go_simp
          refine hK.out _ _ ?_ (fun hHeld => ?_)
          · (try dsimp only)
            (exact ⟨(hC4.later (by (repeat (first | with_reducible exact Below.refl _ _ | with_reducible assumption | (with_reducible refine below_drewN ?_ _) | (with_reducible refine Below.drew ?_) | (with_reducible refine Below.setCell ?_ (by first | omega | (simp; done) | (simp; omega)) _) | (with_reducible refine Below.alloc ?_ (by first | omega | (simp; done) | (simp; omega)) _) | refine Below.trans ?_ (Below.mono (by with_reducible assumption) (by first | omega | (simp; done) | (simp; omega))))))).out, by go_simp⟩)
          clear hK K
          (try simp only [Act.put, List.setIfInBounds_toArray, List.set_cons_zero, List.set_cons_succ])
          have hS5 : StayX (w.heap.size + 1 + 1) (w.heap.size + 1 + 1 + 1) w3 (w4.alloc (.cells #[.int .i64 t] 3)) := hS4.trans (StayX.below (by (repeat (first | with_reducible exact Below.refl _ _ | with_reducible assumption | (with_reducible refine below_drewN ?_ _) | (with_reducible refine Below.drew ?_) | (with_reducible refine Below.setCell ?_ (by first | omega | (simp; done) | (simp; omega)) _) | (with_reducible refine Below.alloc ?_ (by first | omega | (simp; done) | (simp; omega)) _) | refine Below.trans ?_ (Below.mono (by with_reducible assumption) (by first | omega | (simp; done) | (simp; omega)))))))
          have hrow5 := own_step (w' := w4.alloc (.cells #[.int .i64 t] 3)) y6 (fun b' hb' => by
            have e : q = b' := Option.some.inj hb'
            rw [← e]
            exact hS5.block q (y6.lt q rfl).1 y0 (y6.lt q rfl).2)
          refine wpAnyT_ready (rs := [13]) (by kernel_rfl) (by kernel_rfl) ?_
          refine AllReadyT.cons (by simp only [List.getElem?_toArray, List.getElem?_cons_succ, List.getElem?_cons_zero]; rfl) (fun K hK => ?_) AllReadyT.nil
          (refine step_append_lies _ (by rfl) (.tmp 85) (.tmp 89) _ (by rfl) (w.heap.size + 1 + 1) 3 i0 _ 1 8 Try.underlying41 hi zi0 zi1 zi2 rfl (by omega) (.slice (some ⟨q, 0, none⟩) m cq) m (xs.map (Value.int .i64)) (by rfl) hrow5 ⟨w4.heap.size, 0, none⟩ 1 1 [.int .i64 t] (by rfl) (by rfl) (news1i (by first | omega | (simp; done) | (simp; omega))) (by simp [Value.oneCell']) (by omega) (by unfold maxLen; omega) (by omega) (by first | omega | (simp; done) | (simp; omega)) _ rfl ?_; intro g' cap' wq hown3 hgrow hat hlt2; have hCq := (hC4.later (w' := w4.alloc (.cells #[.int .i64 t] 3)) (by (repeat (first | with_reducible exact Below.refl _ _ | with_reducible assumption | (with_reducible refine below_drewN ?_ _) | (with_reducible refine Below.drew ?_) | (with_reducible refine Below.setCell ?_ (by first | omega | (simp; done) | (simp; omega)) _) | (with_reducible refine Below.alloc ?_ (by first | omega | (simp; done) | (simp; omega)) _) | refine Below.trans ?_ (Below.mono (by with_reducible assumption) (by first | omega | (simp; done) | (simp; omega))))))).grown hgrow (fun b' hb' => by (have e : q = b' := Option.some.inj hb'); omega); have hyq : wq.cell? ⟨rb, j * 3 + 1, none⟩ = some (.slice (some ⟨q, 0, none⟩) m cq) := through (wr := w4) (by (repeat (first | with_reducible exact Below.refl _ _ | with_reducible assumption | (with_reducible refine below_drewN ?_ _) | (with_reducible refine Below.drew ?_) | (with_reducible refine Below.setCell ?_ (by first | omega | (simp; done) | (simp; omega)) _) | (with_reducible refine Below.alloc ?_ (by first | omega | (simp; done) | (simp; omega)) _) | refine Below.trans ?_ (Below.mono (by with_reducible assumption) (by first | omega | (simp; done) | (simp; omega)))))) hgrow (fun e => hqrb (Option.some.inj e).symm) hy4)
          refine hK.out _ _ ?_ (fun hHeld => ?_)
          · (try dsimp only)
            (exact ⟨hCq.out, hyq⟩)
          clear hK K
          (try simp only [Act.put, List.setIfInBounds_toArray, List.set_cons_zero, List.set_cons_succ])
          have hfq : wq.frozen? ⟨rb, j * 3 + 1, none⟩ = false := by
            have h1 := hG.own.lt rb rfl
            have h2 := hS5.block rb h1.1 hbx h1.2
            have h3 := hgrow.block rb (Nat.lt_of_lt_of_le h1.2 hS5.size) (fun e => hqrb (Option.some.inj e).symm)
            exact (World.frozen?_of_block (w := w3) (a := ⟨rb, j * 3 + 1, none⟩) (h3.trans h2)).trans (hG.own.frozenAt _)
          have hL := Lib.hid (hG.more (by omega) hjk HQ.out.1 HQ.out.2.1 hS5 (g := g') (cap := cap') hJt HQ.out.2.2 (by rw [HXS.out]; exact hown3) (by rw [HQJ.out]; exact hgrow) (by rw [HQJ.out]; exact hat) rfl)
          have hzq := hgrow.size
          (try simp at hzq)
          have hRq : Rd wq g A cap bs _ := (hR4.alloc (.cells #[.int .i64 t] 3)).aside hgrow (fun b' hb' => by (have e : q = b' := Option.some.inj hb'); omega)
          have hOq : Only g w wq := onlyRow (hO4.below (c := w4.alloc (.cells #[.int .i64 t] 3)) (by (repeat (first | with_reducible exact Below.refl _ _ | with_reducible assumption | (with_reducible refine below_drewN ?_ _) | (with_reducible refine Below.drew ?_) | (with_reducible refine Below.setCell ?_ (by first | omega | (simp; done) | (simp; omega)) _) | (with_reducible refine Below.alloc ?_ (by first | omega | (simp; done) | (simp; omega)) _) | refine Below.trans ?_ (Below.mono (by with_reducible assumption) (by first | omega | (simp; done) | (simp; omega))))))) hgrow (fun b' hb' => by (have e : q = b' := Option.some.inj hb'); omega)
          clear hown3 hgrow hat hlt2 hG hCC hC4 hHeld hrow5 y6 y8 hy4 hS0 b0 b1 b2 b3 b4
          obtain ⟨b0, b1, b2, b3, b4⟩ := id hCq
          refine wpAnyT_done (by kernel_rfl) ?_
          simp only [List.drop_succ_cons, List.drop_zero]
          go_wp2
          exact bodyPost_ret (v := .agg #[.slice (some ⟨rb, 0, none⟩) k cv]) (by simp only [results, Try.results47]; go_simp) rfl ⟨_, k, cv, _, rfl, ((((hL.out).wide (by omega)).step (StayX.set _ (p := ⟨w.heap.size + 1, 0, none⟩) (.inl hX) _)).sig (by omega) (by omega)).weak (by omega), ⟨⟨_, by omega, (hRq.far (by dsimp only; omega) _).far (by dsimp only; omega) _⟩, Only.out (Only.out hOq (by dsimp only; omega) _) (by dsimp only; omega) _⟩⟩
        have q1' : (r == 1) = false := by simpa using q1
        by_cases q2 : r = 2
        · subst q2
          have hS0 := hCC.out
          go_wp2_with fail
          refine wp_region_T2 6 (fun w' => w'.cell? ⟨w.heap.size + 1 + 1 + 1, 0, none⟩ = some (.slice (some ⟨rb, 0, none⟩) k cv)) (by kernel_rfl) (by kernel_rfl) ?_ (fun hHeld => ?_)
          · exact hS0
          (refine wpAnyT_take (i := 0) (v := ?_) (by simp only [List.getElem?_toArray, List.getElem?_cons_succ, List.getElem?_cons_zero]; rfl) (by kernel_rfl) (by kernel_rfl) (by kernel_rfl) (by kernel_rfl) (by intro _ _ _ h; exact h) (Or.inl ⟨by rfl, ?_⟩) (by assumption) ?_; rotate_left; (focus (intro wS hSw; (try dsimp only at hSw); go_simp; (try with_reducible rfl))); (try simp only [Act.put, List.setIfInBounds_toArray, List.set_cons_zero, List.set_cons_succ]))
          (refine wpAnyT_take (i := 1) (v := ?_) (by simp only [List.getElem?_toArray, List.getElem?_cons_succ, List.getElem?_cons_zero]; rfl) (by kernel_rfl) (by kernel_rfl) (by kernel_rfl) (by kernel_rfl) (by intro _ _ _ h; exact h) (Or.inl ⟨by rfl, ?_⟩) (by assumption) ?_; rotate_left; (focus (intro wS hSw; (try dsimp only at hSw); go_simp; (try with_reducible rfl))); (try simp only [Act.put, List.setIfInBounds_toArray, List.set_cons_zero, List.set_cons_succ]))
          (refine wpAnyT_take (i := 2) (v := ?_) (by simp only [List.getElem?_toArray, List.getElem?_cons_succ, List.getElem?_cons_zero]; rfl) (by kernel_rfl) (by kernel_rfl) (by kernel_rfl) (by kernel_rfl) (by intro _ _ _ h; exact h) (Or.inl ⟨by rfl, ?_⟩) (by assumption) ?_; rotate_left; (focus (intro wS hSw; (try dsimp only at hSw); go_simp; (try with_reducible rfl))); (try simp only [Act.put, List.setIfInBounds_toArray, List.set_cons_zero, List.set_cons_succ]))
          (refine wpAnyT_take (i := 3) (v := ?_) (by simp only [List.getElem?_toArray, List.getElem?_cons_succ, List.getElem?_cons_zero]; rfl) (by kernel_rfl) (by kernel_rfl) (by kernel_rfl) (by kernel_rfl) (by intro _ _ _ h; exact h) (Or.inl ⟨by rfl, ?_⟩) (by assumption) ?_; rotate_left; (focus (intro wS hSw; (try dsimp only at hSw); go_simp; (try with_reducible rfl))); (try simp only [Act.put, List.setIfInBounds_toArray, List.set_cons_zero, List.set_cons_succ]))
          refine wpAnyT_ready (rs := [4]) (by kernel_rfl) (by kernel_rfl) ?_
          refine AllReadyT.cons (by simp only [List.getElem?_toArray, List.getElem?_cons_succ, List.getElem?_cons_zero]; rfl) (fun K hK => ?_) AllReadyT.nil
          go_simp
          refine hK.out _ _ ?_ (fun hHeld => ?_)
          · (try dsimp only)
            (exact (hCC.later (by (repeat (first | with_reducible exact Below.refl _ _ | with_reducible assumption | (with_reducible refine below_drewN ?_ _) | (with_reducible refine Below.drew ?_) | (with_reducible refine Below.setCell ?_ (by first | omega | (simp; done) | (simp; omega)) _) | (with_reducible refine Below.alloc ?_ (by first | omega | (simp; done) | (simp; omega)) _) | refine Below.trans ?_ (Below.mono (by with_reducible assumption) (by first | omega | (simp; done) | (simp; omega))))))).out)
          clear hK K
          (try simp only [Act.put, List.setIfInBounds_toArray, List.set_cons_zero, List.set_cons_succ])
          refine wpAnyT_ready (rs := [5]) (by kernel_rfl) (by kernel_rfl) ?_
          refine AllReadyT.cons (by simp only [List.getElem?_toArray, List.getElem?_cons_succ, List.getElem?_cons_zero]; rfl) (fun K hK => ?_) AllReadyT.nil
          (go_simp; (refine (num_any [1, 2, -1, 0] w3.heap.size 0 4 4 ((Rd.drew hR3).alloc _) (by omega) rfl (by omega) (by omega) (by omega) (fun i hi => alloc_list w3.drew [1, 2, -1, 0] 3 i hi)).mono ?_); rintro e w4 ⟨t, rfl, ht⟩; have hC4 := ((hCC.later (w' := w3.drew.alloc (.cells #[.int .i64 1, .int .i64 2, .int .i64 (-1), .int .i64 0] 3)) (by (repeat (first | with_reducible exact Below.refl _ _ | with_reducible assumption | (with_reducible refine below_drewN ?_ _) | (with_reducible refine Below.drew ?_) | (with_reducible refine Below.setCell ?_ (by first | omega | (simp; done) | (simp; omega)) _) | (with_reducible refine Below.alloc ?_ (by first | omega | (simp; done) | (simp; omega)) _) | refine Below.trans ?_ (Below.mono (by with_reducible assumption) (by first | omega | (simp; done) | (simp; omega))))))).only ht.only hg))
          refine hK.out _ _ ?_ (fun hHeld => ?_)
          · (try dsimp only)
            (exact hC4.out)
          clear hK K
          (try simp only [Act.put, List.setIfInBounds_toArray, List.set_cons_zero, List.set_cons_succ])
          have hR4 := ht.rd
          have hO4 := (hO3.below (c := w3.drew.alloc (.cells #[.int .i64 1, .int .i64 2, .int .i64 (-1), .int .i64 0] 3)) (by (repeat (first | with_reducible exact Below.refl _ _ | with_reducible assumption | (with_reducible refine below_drewN ?_ _) | (with_reducible refine Below.drew ?_) | (with_reducible refine Below.setCell ?_ (by first | omega | (simp; done) | (simp; omega)) _) | (with_reducible refine Below.alloc ?_ (by first | omega | (simp; done) | (simp; omega)) _) | refine Below.trans ?_ (Below.mono (by with_reducible assumption) (by first | omega | (simp; done) | (simp; omega))))))).trans ht.only
          have hG4 := (hG.step (w' := w3.drew.alloc (.cells #[.int .i64 1, .int .i64 2, .int .i64 (-1), .int .i64 0] 3)) (StayX.below (by (repeat (first | with_reducible exact Below.refl _ _ | with_reducible assumption | (with_reducible refine below_drewN ?_ _) | (with_reducible refine Below.drew ?_) | (with_reducible refine Below.setCell ?_ (by first | omega | (simp; done) | (simp; omega)) _) | (with_reducible refine Below.alloc ?_ (by first | omega | (simp; done) | (simp; omega)) _) | refine Below.trans ?_ (Below.mono (by with_reducible assumption) (by first | omega | (simp; done) | (simp; omega)))))))).step (StayX.only ht.only (by omega))
          have hz4 := ht.only.size
          (try simp at hz4)
          clear ht hHeld hG
          obtain ⟨z, hz0⟩ : ∃ z, zs[j * 3 + 2]? = some z := ⟨_, List.getElem?_eq_getElem (by have := (hG4).own.1; omega)⟩
          rw [← (hG4).own.cellAt _ (by omega)] at hz0
          have hf0 := (hG4).own.frozenAt (j * 3 + 2)
          have hL := Lib.hid ((hG4.l (by omega)).sort hjk t)
          clear hCC b0 b1 b2 b3 b4
          obtain ⟨b0, b1, b2, b3, b4⟩ := id hC4
          refine wpAnyT_done (by kernel_rfl) ?_
          simp only [List.drop_succ_cons, List.drop_zero]
          go_wp2
          exact bodyPost_ret (v := .agg #[.slice (some ⟨rb, 0, none⟩) k cv]) (by simp only [results, Try.results47]; go_simp) rfl ⟨_, k, cv, _, rfl, ((((hL.out).wide (by omega)).step (StayX.set _ (p := ⟨w.heap.size + 1, 0, none⟩) (.inl hX) _)).sig (by omega) (by omega)).weak (by omega), ⟨⟨_, by omega, (hR4.far (by dsimp only; omega) _).far (by dsimp only; omega) _⟩, Only.out (Only.out hO4 (by dsimp only; omega) _) (by dsimp only; omega) _⟩⟩
        have q2' : (r == 2) = false := by simpa using q2
        by_cases q3 : r = 3
        · subst q3
          have hL := hG.l (by omega)
          obtain ⟨⟨y3, y4⟩, A4, c4, ⟨y5, y6⟩, e0, e1, e2⟩ := hL.each j hjk
          obtain ⟨⟨nm, xs, b⟩, hy⟩ : ∃ y, ls.getD j sym0 = y := ⟨_, rfl⟩
          rw [hy] at e0 e1 e2 y3 y4 y5 y6
          dsimp only at e0 e1 e2 y3 y4 y5 y6
          rw [← hG.own.cellAt _ (by omega)] at e0 e1 e2
          have HL := Lib.hid (And.intro hL (And.intro y5 (And.intro y6 (And.intro y3 y4))))
          clear hL y3 y4 y5 y6 hy
          obtain ⟨m, hm⟩ : ∃ m, xs.length = m := ⟨_, rfl⟩
          rw [hm] at e1
          have HM := Lib.hid hm
          clear hm
          have hS0 := hCC.out
          go_wp2_with fail
          refine wp_region_T2 9 (fun w' => w'.cell? ⟨w.heap.size + 1 + 1 + 1, 0, none⟩ = some (.slice (some ⟨rb, 0, none⟩) k cv)) (by kernel_rfl) (by kernel_rfl) ?_ (fun hHeld => ?_)
          · exact hS0
          (refine wpAnyT_take (i := 0) (v := ?_) (by simp only [List.getElem?_toArray, List.getElem?_cons_succ, List.getElem?_cons_zero]; rfl) (by kernel_rfl) (by kernel_rfl) (by kernel_rfl) (by kernel_rfl) (by intro _ _ _ h; exact h) (Or.inl ⟨by rfl, ?_⟩) (by assumption) ?_; rotate_left; (focus (intro wS hSw; (try dsimp only at hSw); go_simp; (try with_reducible rfl))); (try simp only [Act.put, List.setIfInBounds_toArray, List.set_cons_zero, List.set_cons_succ]))
          (refine wpAnyT_take (i := 1) (v := ?_) (by simp only [List.getElem?_toArray, List.getElem?_cons_succ, List.getElem?_cons_zero]; rfl) (by kernel_rfl) (by kernel_rfl) (by kernel_rfl) (by kernel_rfl) (by intro _ _ _ h; exact h) (Or.inl ⟨by rfl, ?_⟩) (by assumption) ?_; rotate_left; (focus (intro wS hSw; (try dsimp only at hSw); go_simp; (try with_reducible rfl))); (try simp only [Act.put, List.setIfInBounds_toArray, List.set_cons_zero, List.set_cons_succ]))
          (refine wpAnyT_take (i := 2) (v := ?_) (by simp only [List.getElem?_toArray, List.getElem?_cons_succ, List.getElem?_cons_zero]; rfl) (by kernel_rfl) (by kernel_rfl) (by kernel_rfl) (by kernel_rfl) (by intro _ _ _ h; exact h) (Or.inl ⟨by rfl, ?_⟩) (by assumption) ?_; rotate_left; (focus (intro wS hSw; (try dsimp only at hSw); go_simp; (try with_reducible rfl))); (try simp only [Act.put, List.setIfInBounds_toArray, List.set_cons_zero, List.set_cons_succ]))
          (refine wpAnyT_take (i := 3) (v := ?_) (by simp only [List.getElem?_toArray, List.getElem?_cons_succ, List.getElem?_cons_zero]; rfl) (by kernel_rfl) (by kernel_rfl) (by kernel_rfl) (by kernel_rfl) (by intro _ _ _ h; exact h) (Or.inl ⟨by rfl, ?_⟩) (by assumption) ?_; rotate_left; (focus (intro wS hSw; (try dsimp only at hSw); go_simp; (try with_reducible rfl))); (try simp only [Act.put, List.setIfInBounds_toArray, List.set_cons_zero, List.set_cons_succ]))
          (refine wpAnyT_take (i := 4) (v := ?_) (by simp only [List.getElem?_toArray, List.getElem?_cons_succ, List.getElem?_cons_zero]; rfl) (by kernel_rfl) (by kernel_rfl) (by kernel_rfl) (by kernel_rfl) (by intro _ _ _ h; exact h) (Or.inl ⟨by rfl, ?_⟩) (by assumption) ?_; rotate_left; (focus (intro wS hSw; (try dsimp only at hSw); go_simp; (try with_reducible rfl))); (try simp only [Act.put, List.setIfInBounds_toArray, List.set_cons_zero, List.set_cons_succ]))
          (refine wpAnyT_take (i := 5) (v := ?_) (by simp only [List.getElem?_toArray, List.getElem?_cons_succ, List.getElem?_cons_zero]; rfl) (by kernel_rfl) (by kernel_rfl) (by kernel_rfl) (by kernel_rfl) (by intro _ _ _ h; exact h) (Or.inl ⟨by rfl, ?_⟩) (by assumption) ?_; rotate_left; (focus (intro wS hSw; (try dsimp only at hSw); go_simp; (try with_reducible rfl))); (try simp only [Act.put, List.setIfInBounds_toArray, List.set_cons_zero, List.set_cons_succ]))
          refine wpAnyT_ready (rs := [6]) (by kernel_rfl) (by kernel_rfl) ?_
          refine AllReadyT.cons (by simp only [List.getElem?_toArray, List.getElem?_cons_succ, List.getElem?_cons_zero]; rfl) (fun K hK => ?_) AllReadyT.nil
          go_simp
          refine hK.out _ _ ?_ (fun hHeld => ?_)
          · (try dsimp only)
            (exact (hCC.later (by (repeat (first | with_reducible exact Below.refl _ _ | with_reducible assumption | (with_reducible refine below_drewN ?_ _) | (with_reducible refine Below.drew ?_) | (with_reducible refine Below.setCell ?_ (by first | omega | (simp; done) | (simp; omega)) _) | (with_reducible refine Below.alloc ?_ (by first | omega | (simp; done) | (simp; omega)) _) | refine Below.trans ?_ (Below.mono (by with_reducible assumption) (by first | omega | (simp; done) | (simp; omega))))))).out)
          clear hK K
          (try simp only [Act.put, List.setIfInBounds_toArray, List.set_cons_zero, List.set_cons_succ])
          refine wpAnyT_ready (rs := [7]) (by kernel_rfl) (by kernel_rfl) ?_
          refine AllReadyT.cons (by simp only [List.getElem?_toArray, List.getElem?_cons_succ, List.getElem?_cons_zero]; rfl) (fun K hK => ?_) AllReadyT.nil
          go_simp
          refine hK.out _ _ ?_ (fun hHeld => ?_)
          · (try dsimp only)
            (exact (hCC.later (by (repeat (first | with_reducible exact Below.refl _ _ | with_reducible assumption | (with_reducible refine below_drewN ?_ _) | (with_reducible refine Below.drew ?_) | (with_reducible refine Below.setCell ?_ (by first | omega | (simp; done) | (simp; omega)) _) | (with_reducible refine Below.alloc ?_ (by first | omega | (simp; done) | (simp; omega)) _) | refine Below.trans ?_ (Below.mono (by with_reducible assumption) (by first | omega | (simp; done) | (simp; omega))))))).out)
          clear hK K
          (try simp only [Act.put, List.setIfInBounds_toArray, List.set_cons_zero, List.set_cons_succ])
          have hG4 := hG.step (w' := w3.drew.alloc (.cells #[.string nm, .slice A4 m c4, .int .i64 b] 43)) (StayX.below (by (repeat (first | with_reducible exact Below.refl _ _ | with_reducible assumption | (with_reducible refine below_drewN ?_ _) | (with_reducible refine Below.drew ?_) | (with_reducible refine Below.setCell ?_ (by first | omega | (simp; done) | (simp; omega)) _) | (with_reducible refine Below.alloc ?_ (by first | omega | (simp; done) | (simp; omega)) _) | refine Below.trans ?_ (Below.mono (by with_reducible assumption) (by first | omega | (simp; done) | (simp; omega)))))))
          refine wpAnyT_ready (rs := [8]) (by kernel_rfl) (by kernel_rfl) ?_
          refine AllReadyT.cons (by simp only [List.getElem?_toArray, List.getElem?_cons_succ, List.getElem?_cons_zero]; rfl) (fun K hK => ?_) AllReadyT.nil
          (refine step_append_lies _ (by rfl) (.tmp 106) (.tmp 112) _ (by rfl) (w.heap.size + 1 + 1) 43 j0 _ 3 48 Try.underlying34 hj yj0 yj1 yj2 rfl (by omega) (.slice (some ⟨rb, 0, none⟩) k cv) k zs (by rfl) hG4.own ⟨w3.heap.size, 0, none⟩ 1 1 [.string nm, .slice A4 m c4, .int .i64 b] (by rfl) (by rfl) (news3s (by first | omega | (simp; done) | (simp; omega))) (by simp [Value.oneCell']) (by omega) (by unfold maxLen; omega) (by omega) (by first | omega | (simp; done) | (simp; omega)) _ rfl ?_; intro g' cap' wq hown3 hgrow hat hlt2; have hCq := (hCC.later (w' := w3.drew.alloc (.cells #[.string nm, .slice A4 m c4, .int .i64 b] 43)) (by (repeat (first | with_reducible exact Below.refl _ _ | with_reducible assumption | (with_reducible refine below_drewN ?_ _) | (with_reducible refine Below.drew ?_) | (with_reducible refine Below.setCell ?_ (by first | omega | (simp; done) | (simp; omega)) _) | (with_reducible refine Below.alloc ?_ (by first | omega | (simp; done) | (simp; omega)) _) | refine Below.trans ?_ (Below.mono (by with_reducible assumption) (by first | omega | (simp; done) | (simp; omega))))))).grown hgrow (fun b' hb' => by (have e : rb = b' := Option.some.inj hb'); omega))
          refine hK.out _ _ ?_ (fun hHeld => ?_)
          · (try dsimp only)
            (exact hCq.out)
          clear hK K
          (try simp only [Act.put, List.setIfInBounds_toArray, List.set_cons_zero, List.set_cons_succ])
          have hHL := HL.out
          rw [HM.out] at hHL
          have hL := Lib.hid ((hHL.1.step (w' := w3.drew.alloc (.cells #[.string nm, .slice A4 m c4, .int .i64 b] 43)) (StayX.below (by (repeat (first | with_reducible exact Below.refl _ _ | with_reducible assumption | (with_reducible refine below_drewN ?_ _) | (with_reducible refine Below.drew ?_) | (with_reducible refine Below.setCell ?_ (by first | omega | (simp; done) | (simp; omega)) _) | (with_reducible refine Below.alloc ?_ (by first | omega | (simp; done) | (simp; omega)) _) | refine Below.trans ?_ (Below.mono (by with_reducible assumption) (by first | omega | (simp; done) | (simp; omega)))))))).snoc (y := (nm, xs, b)) HM.out hown3 hgrow hat rfl (by simp; omega) (hHL.2.1.later (by (repeat (first | with_reducible exact Below.refl _ _ | with_reducible assumption | (with_reducible refine below_drewN ?_ _) | (with_reducible refine Below.drew ?_) | (with_reducible refine Below.setCell ?_ (by first | omega | (simp; done) | (simp; omega)) _) | (with_reducible refine Below.alloc ?_ (by first | omega | (simp; done) | (simp; omega)) _) | refine Below.trans ?_ (Below.mono (by with_reducible assumption) (by first | omega | (simp; done) | (simp; omega))))))) hHL.2.2.1 hHL.2.2.2)
          have hzq := hgrow.size
          (try simp at hzq)
          have hRq : Rd wq g A cap bs _ := (hR3.drew.alloc (.cells #[.string nm, .slice A4 m c4, .int .i64 b] 43)).aside hgrow (fun b' hb' => by (have e : rb = b' := Option.some.inj hb'); omega)
          have hOq : Only g w wq := onlyRow (hO3.below (c := w3.drew.alloc (.cells #[.string nm, .slice A4 m c4, .int .i64 b] 43)) (by (repeat (first | with_reducible exact Below.refl _ _ | with_reducible assumption | (with_reducible refine below_drewN ?_ _) | (with_reducible refine Below.drew ?_) | (with_reducible refine Below.setCell ?_ (by first | omega | (simp; done) | (simp; omega)) _) | (with_reducible refine Below.alloc ?_ (by first | omega | (simp; done) | (simp; omega)) _) | refine Below.trans ?_ (Below.mono (by with_reducible assumption) (by first | omega | (simp; done) | (simp; omega))))))) hgrow (fun b' hb' => by (have e : rb = b' := Option.some.inj hb'); omega)
          clear hown3 hgrow hat hlt2 hG hCC hHeld hG4 hHL hS0 b0 b1 b2 b3 b4 e0 e1 e2
          have hC9 := Lib.hid (hCq.put (.slice (some ⟨g', 0, none⟩) (k + 1) cap'))
          have hL9 := Lib.hid (hL.out.step (StayX.set wq (p := ⟨w.heap.size + 1 + 1 + 1, 0, none⟩) (.inr rfl) (.slice (some ⟨g', 0, none⟩) (k + 1) cap')))
          obtain ⟨b0, b1, b2, b3, b4⟩ := id hCq
          clear hCq
          refine wpAnyT_done (by kernel_rfl) ?_
          simp only [List.drop_succ_cons, List.drop_zero]
          go_wp2
          exact bodyPost_ret (v := .agg #[.slice (some ⟨g', 0, none⟩) (k + 1) cap']) (by simp only [results, Try.results47]; go_simp) rfl ⟨_, (k + 1), cap', _, rfl, ((((hL9.out).wide (by omega)).step (StayX.set _ (p := ⟨w.heap.size + 1, 0, none⟩) (.inl hX) _)).sig (by omega) (by omega)).weak (by omega), ⟨⟨_, by omega, (hRq.far (by dsimp only; omega) _).far (by dsimp only; omega) _⟩, Only.out (Only.out hOq (by dsimp only; omega) _) (by dsimp only; omega) _⟩⟩
        have q3' : (r == 3) = false := by simpa using q3
        have hL := hG.l (by omega)
        clear hG
        go_wp2_with fail
        go_loopw [] (fun ws => ∃ (k' : Nat) (v : Value) (ls' : List SymV) (zs' : List Value) (pp : Nat), SymL ws (w.heap.size + 1 + 1) (w.heap.size + 1 + 1 + 1) M v k' ls' zs' ∧ BentC w S k c v ws ∧ Rd ws g A cap bs pp ∧ Only g w ws ∧ (k' ≤ N + 8 ∧ pp ≤ p + 3 + k' ∧ pp ≤ p + 11)) (fun ws => 8 - outLen ws (w.heap.size + 1 + 1 + 1))
        case atStart => exact ⟨k, _, _, _, _, hL, hCC, hR3, hO3, by omega, by omega, by omega⟩
        case round =>
          clear hL hCC hR3 hO3 b0 b1 b2 b3 b4
          obtain ⟨k', v, ls', zs', pp, hL, hCC, hR3, hO3, hk8, hpp, hpq⟩ := hrel
          obtain ⟨Z, cz, rfl⟩ := hL.form
          have hzx := hCC.lt
          obtain ⟨b0, b1, b2, b3, b4⟩ := id hCC
          by_cases hlt : k' ≤ 7
          · have hki : (k' : Int) ≤ 7 := by omega
            have hS0 := hCC.out
            have hml : outLen wr (w.heap.size + 1 + 1 + 1) = k' := outLen_at hS0
            have HML := Lib.hid hml
            clear hml
            go_wp2_with fail
            refine wp_region_T2 9 (fun w' => w'.cell? ⟨w.heap.size + 1 + 1 + 1, 0, none⟩ = some (.slice Z k' cz)) (by kernel_rfl) (by kernel_rfl) ?_ (fun hHeld => ?_)
            · exact hS0
            (refine wpAnyT_take (i := 0) (v := ?_) (by simp only [List.getElem?_toArray, List.getElem?_cons_succ, List.getElem?_cons_zero]; rfl) (by kernel_rfl) (by kernel_rfl) (by kernel_rfl) (by kernel_rfl) (by intro _ _ _ h; exact h) (Or.inl ⟨by rfl, ?_⟩) (by assumption) ?_; rotate_left; (focus (intro wS hSw; (try dsimp only at hSw); go_simp; (try with_reducible rfl))); (try simp only [Act.put, List.setIfInBounds_toArray, List.set_cons_zero, List.set_cons_succ]))
            (refine wpAnyT_take (i := 1) (v := ?_) (by simp only [List.getElem?_toArray, List.getElem?_cons_succ, List.getElem?_cons_zero]; rfl) (by kernel_rfl) (by kernel_rfl) (by kernel_rfl) (by kernel_rfl) (by intro _ _ _ h; exact h) (Or.inl ⟨by rfl, ?_⟩) (by assumption) ?_; rotate_left; (focus (intro wS hSw; (try dsimp only at hSw); go_simp; (try with_reducible rfl))); (try simp only [Act.put, List.setIfInBounds_toArray, List.set_cons_zero, List.set_cons_succ]))
            (refine wpAnyT_take (i := 2) (v := ?_) (by simp only [List.getElem?_toArray, List.getElem?_cons_succ, List.getElem?_cons_zero]; rfl) (by kernel_rfl) (by kernel_rfl) (by kernel_rfl) (by kernel_rfl) (by intro _ _ _ h; exact h) (Or.inl ⟨by rfl, ?_⟩) (by assumption) ?_; rotate_left; (focus (intro wS hSw; (try dsimp only at hSw); go_simp; (try with_reducible rfl))); (try simp only [Act.put, List.setIfInBounds_toArray, List.set_cons_zero, List.set_cons_succ]))
            refine wpAnyT_ready (rs := [3]) (by kernel_rfl) (by kernel_rfl) ?_
            refine AllReadyT.cons (by simp only [List.getElem?_toArray, List.getElem?_cons_succ, List.getElem?_cons_zero]; rfl) (fun K hK => ?_) AllReadyT.nil
            go_simp
            refine hK.out _ _ ?_ (fun hHeld => ?_)
            · (try dsimp only)
              (exact (hCC.later (by (repeat (first | with_reducible exact Below.refl _ _ | with_reducible assumption | (with_reducible refine below_drewN ?_ _) | (with_reducible refine Below.drew ?_) | (with_reducible refine Below.setCell ?_ (by first | omega | (simp; done) | (simp; omega)) _) | (with_reducible refine Below.alloc ?_ (by first | omega | (simp; done) | (simp; omega)) _) | refine Below.trans ?_ (Below.mono (by with_reducible assumption) (by first | omega | (simp; done) | (simp; omega))))))).out)
            clear hK K
            (try simp only [Act.put, List.setIfInBounds_toArray, List.set_cons_zero, List.set_cons_succ])
            refine wpAnyT_ready (rs := [4]) (by kernel_rfl) (by kernel_rfl) ?_
            refine AllReadyT.cons (by simp only [List.getElem?_toArray, List.getElem?_cons_succ, List.getElem?_cons_zero]; rfl) (fun K hK => ?_) AllReadyT.nil
            (go_simp; (refine (of_any bentTails wr.heap.size 3 3 ((Rd.drew hR3).alloc _) (by omega) rfl (by omega) (by omega) (by omega) (alloc_vals wr.drew (bentTails.map Value.string) _)).mono ?_); rintro e w4 ⟨t, rfl, ht⟩; have hC4 := ((hCC.later (w' := wr.drew.alloc (.cells (List.map Value.string bentTails).toArray 9)) (by (repeat (first | with_reducible exact Below.refl _ _ | with_reducible assumption | (with_reducible refine below_drewN ?_ _) | (with_reducible refine Below.drew ?_) | (with_reducible refine Below.setCell ?_ (by first | omega | (simp; done) | (simp; omega)) _) | (with_reducible refine Below.alloc ?_ (by first | omega | (simp; done) | (simp; omega)) _) | refine Below.trans ?_ (Below.mono (by with_reducible assumption) (by first | omega | (simp; done) | (simp; omega))))))).only ht.only hg))
            refine hK.out _ _ ?_ (fun hHeld => ?_)
            · (try dsimp only)
              (exact hC4.out)
            clear hK K
            (try simp only [Act.put, List.setIfInBounds_toArray, List.set_cons_zero, List.set_cons_succ])
            have hts := bentTails_small t ht.mem
            have hR4 := ht.rd
            have hO4 := (hO3.below (c := wr.drew.alloc (.cells (List.map Value.string bentTails).toArray 9)) (by (repeat (first | with_reducible exact Below.refl _ _ | with_reducible assumption | (with_reducible refine below_drewN ?_ _) | (with_reducible refine Below.drew ?_) | (with_reducible refine Below.setCell ?_ (by first | omega | (simp; done) | (simp; omega)) _) | (with_reducible refine Below.alloc ?_ (by first | omega | (simp; done) | (simp; omega)) _) | refine Below.trans ?_ (Below.mono (by with_reducible assumption) (by first | omega | (simp; done) | (simp; omega))))))).trans ht.only
            have hL4 := (hL.step (w' := wr.drew.alloc (.cells (List.map Value.string bentTails).toArray 9)) (StayX.below (by (repeat (first | with_reducible exact Below.refl _ _ | with_reducible assumption | (with_reducible refine below_drewN ?_ _) | (with_reducible refine Below.drew ?_) | (with_reducible refine Below.setCell ?_ (by first | omega | (simp; done) | (simp; omega)) _) | (with_reducible refine Below.alloc ?_ (by first | omega | (simp; done) | (simp; omega)) _) | refine Below.trans ?_ (Below.mono (by with_reducible assumption) (by first | omega | (simp; done) | (simp; omega)))))))).step (StayX.only ht.only (by omega))
            have hz4 := ht.only.size
            (try simp at hz4)
            clear ht hL
            have hs3 : ¬ 9223372036854775807 < 1 + t.size := by omega
            obtain ⟨s, hs⟩ : ∃ s, (⟨#[122]⟩ : ByteArray) ++ t = s := ⟨_, rfl⟩
            have hs9 : s.size ≤ 9 := by
              rw [← hs, ByteArray.size_append]
              have : (⟨#[122]⟩ : ByteArray).size = 1 := rfl
              omega
            (refine wpAnyT_take (i := 5) (v := ?_) (by simp only [List.getElem?_toArray, List.getElem?_cons_succ, List.getElem?_cons_zero]; rfl) (by kernel_rfl) (by kernel_rfl) (by kernel_rfl) (by kernel_rfl) (by intro _ _ _ h; exact h) (Or.inl ⟨by rfl, ?_⟩) (by assumption) ?_; rotate_left; (focus (intro wS hSw; (try dsimp only at hSw); go_simp; (try with_reducible rfl))); (try simp only [Act.put, List.setIfInBounds_toArray, List.set_cons_zero, List.set_cons_succ]))
            (refine wpAnyT_take (i := 6) (v := ?_) (by simp only [List.getElem?_toArray, List.getElem?_cons_succ, List.getElem?_cons_zero]; rfl) (by kernel_rfl) (by kernel_rfl) (by kernel_rfl) (by kernel_rfl) (by intro _ _ _ h; exact h) (Or.inl ⟨by rfl, ?_⟩) (by assumption) ?_; rotate_left; (focus (intro wS hSw; (try dsimp only at hSw); go_simp; (try with_reducible rfl))); (try simp only [Act.put, List.setIfInBounds_toArray, List.set_cons_zero, List.set_cons_succ]))
            (try simp only [hs])
            refine wpAnyT_ready (rs := [7]) (by kernel_rfl) (by kernel_rfl) ?_
            refine AllReadyT.cons (by simp only [List.getElem?_toArray, List.getElem?_cons_succ, List.getElem?_cons_zero]; rfl) (fun K hK => ?_) AllReadyT.nil
            go_simp
            refine hK.out _ _ ?_ (fun hHeld => ?_)
            · (try dsimp only)
              (exact (hC4.later (by (repeat (first | with_reducible exact Below.refl _ _ | with_reducible assumption | (with_reducible refine below_drewN ?_ _) | (with_reducible refine Below.drew ?_) | (with_reducible refine Below.setCell ?_ (by first | omega | (simp; done) | (simp; omega)) _) | (with_reducible refine Below.alloc ?_ (by first | omega | (simp; done) | (simp; omega)) _) | refine Below.trans ?_ (Below.mono (by with_reducible assumption) (by first | omega | (simp; done) | (simp; omega))))))).out)
            clear hK K
            (try simp only [Act.put, List.setIfInBounds_toArray, List.set_cons_zero, List.set_cons_succ])
            have hL5 := hL4.step (w' := w4.alloc (.cells #[.string s, .slice none 0 0, .int .i64 0] 43)) (StayX.below (by (repeat (first | with_reducible exact Below.refl _ _ | with_reducible assumption | (with_reducible refine below_drewN ?_ _) | (with_reducible refine Below.drew ?_) | (with_reducible refine Below.setCell ?_ (by first | omega | (simp; done) | (simp; omega)) _) | (with_reducible refine Below.alloc ?_ (by first | omega | (simp; done) | (simp; omega)) _) | refine Below.trans ?_ (Below.mono (by with_reducible assumption) (by first | omega | (simp; done) | (simp; omega)))))))
            refine wpAnyT_ready (rs := [8]) (by kernel_rfl) (by kernel_rfl) ?_
            refine AllReadyT.cons (by simp only [List.getElem?_toArray, List.getElem?_cons_succ, List.getElem?_cons_zero]; rfl) (fun K hK => ?_) AllReadyT.nil
            (refine step_append_lies _ (by rfl) (.tmp 56) (.tmp 62) _ (by rfl) (w.heap.size + 1 + 1) 43 j0 _ 3 48 Try.underlying34 hj yj0 yj1 yj2 rfl (by omega) (.slice Z k' cz) k' zs' (by rfl) hL5.own ⟨w4.heap.size, 0, none⟩ 1 1 [.string s, .slice none 0 0, .int .i64 0] (by rfl) (by rfl) (news3s (by first | omega | (simp; done) | (simp; omega))) (by simp [Value.oneCell']) (by omega) (by unfold maxLen; omega) (by omega) (by first | omega | (simp; done) | (simp; omega)) _ rfl ?_; intro g' cap' wq hown3 hgrow hat hlt2; have hCq := (hC4.later (w' := w4.alloc (.cells #[.string s, .slice none 0 0, .int .i64 0] 43)) (by (repeat (first | with_reducible exact Below.refl _ _ | with_reducible assumption | (with_reducible refine below_drewN ?_ _) | (with_reducible refine Below.drew ?_) | (with_reducible refine Below.setCell ?_ (by first | omega | (simp; done) | (simp; omega)) _) | (with_reducible refine Below.alloc ?_ (by first | omega | (simp; done) | (simp; omega)) _) | refine Below.trans ?_ (Below.mono (by with_reducible assumption) (by first | omega | (simp; done) | (simp; omega))))))).grown hgrow (fun b' hb' => by (have h1 := hL5.own.lt b' hb'); (have h2 : b' ≠ w.heap.size + 1 + 1 + 1 := fun e => hL5.off (by rw [← e]; exact hb')); omega))
            refine hK.out _ _ ?_ (fun hHeld => ?_)
            · (try dsimp only)
              (exact hCq.out)
            clear hK K
            (try simp only [Act.put, List.setIfInBounds_toArray, List.set_cons_zero, List.set_cons_succ])
            have hLq := hL5.snoc (y := (s, [], 0)) (c := 0) (m := 0) (A := none) rfl hown3 hgrow hat rfl (by simp; omega) ⟨rfl, fun h => absurd h (by omega), fun j => by simp [J64], by omega⟩ (fun p h _ => absurd h (by omega)) ⟨by omega, hs9⟩
            have hzq := hgrow.size
            (try simp at hzq)
            have hRq := (hR4.alloc (.cells #[.string s, .slice none 0 0, .int .i64 0] 43)).aside hgrow (fun b' hb' => by (have h1 := hL5.own.lt b' hb'); omega)
            have hOq : Only g w wq := onlyRow (hO4.below (c := w4.alloc (.cells #[.string s, .slice none 0 0, .int .i64 0] 43)) (by (repeat (first | with_reducible exact Below.refl _ _ | with_reducible assumption | (with_reducible refine below_drewN ?_ _) | (with_reducible refine Below.drew ?_) | (with_reducible refine Below.setCell ?_ (by first | omega | (simp; done) | (simp; omega)) _) | (with_reducible refine Below.alloc ?_ (by first | omega | (simp; done) | (simp; omega)) _) | refine Below.trans ?_ (Below.mono (by with_reducible assumption) (by first | omega | (simp; done) | (simp; omega))))))) hgrow (fun b' hb' => by (have h1 := hL5.own.lt b' hb'); omega)
            clear hown3 hgrow hat hlt2 hL4 hL5 hC4 hCC hHeld hS0 b0 b1 b2 b3 b4 hs
            have HC9 := Lib.hid (hCq.put (.slice (some ⟨g', 0, none⟩) (k' + 1) cap'))
            have HL9 := Lib.hid (hLq.step (StayX.set wq (p := ⟨w.heap.size + 1 + 1 + 1, 0, none⟩) (.inr rfl) (.slice (some ⟨g', 0, none⟩) (k' + 1) cap')))
            have HR9 := Lib.hid (hRq.far (q := ⟨w.heap.size + 1 + 1 + 1, 0, none⟩) (by dsimp only; omega) (.slice (some ⟨g', 0, none⟩) (k' + 1) cap'))
            have HO9 := Lib.hid (Only.out hOq (p := ⟨w.heap.size + 1 + 1 + 1, 0, none⟩) (by dsimp only; omega) (.slice (some ⟨g', 0, none⟩) (k' + 1) cap'))
            obtain ⟨b0, b1, b2, b3, b4⟩ := id hCq
            clear hCq hLq hRq hOq
            refine wpAnyT_done (by kernel_rfl) ?_
            simp only [List.drop_succ_cons, List.drop_zero]
            go_wp2
            go_roundw
            case rel => exact ⟨k' + 1, _, _, _, pp + 1, HL9.out, HC9.out, HR9.out, HO9.out, by omega, by omega, by omega⟩
            case measure =>
              rw [outLen_at HC9.out.out, HML.out]
              omega
          · have hki : ¬ (k' : Int) ≤ 7 := by omega
            have HL := Lib.hid hL
            clear hL
            go_wp2
            exact bodyPost_ret (v := .agg #[.slice Z k' cz]) (by simp only [results, Try.results47]; go_simp) rfl ⟨_, k', cz, _, rfl, ((((HL.out).wide (by omega)).step (StayX.set _ (p := ⟨w.heap.size + 1, 0, none⟩) (.inl hX) _)).sig (by omega) (by omega)).weak (by omega), ⟨⟨_, by omega, (hR3).far (by dsimp only; omega) _⟩, Only.out (hO3) (by dsimp only; omega) _⟩⟩
      · have hr1 := hr.lo
        have hri : 0 < r := by omega
        have hL := Lib.hid (hG.l (by omega))
        clear hG
        go_wp2
        exact bodyPost_ret (v := .agg #[.slice Av k cv]) (by simp only [results, Try.results47]; go_simp) rfl ⟨_, k, cv, _, rfl, ((((hL.out).wide (by omega)).step (StayX.set _ (p := ⟨w.heap.size + 1, 0, none⟩) (.inl hX) _)).sig (by omega) (by omega)).weak (by omega), ⟨⟨_, by omega, (hR1).far (by dsimp only; omega) _⟩, Only.out (hO1) (by dsimp only; omega) _⟩⟩
end Go.Proofs.Ytgmeoblapnmpiaa

/- Terms are marked, and the marks are found again. -/
import Derived.Test.YtgmeoblapnmpiaaTn
namespace Go.Proofs.Ytgmeoblapnmpiaa
set_option maxRecDepth 100000
open Go.RowKit Go.ChangeShapes Go.WideShapes Go.ChangeAt
set_option linter.unusedSimpArgs false
set_option linter.unusedVariables false

/-- the text of a mark -/
def markT (k : Nat) : ByteArray := if k < 10 then ⟨#[109, UInt8.ofNat (48 + k)]⟩ else ⟨#[109, UInt8.ofNat (48 + k / 10), UInt8.ofNat (48 + k % 10)]⟩
/-- Only what lies in S, or is new, is different. -/
structure Turned (S : Nat → Prop) (w w' : World) : Prop where
  os : w'.os = w.os
  tape : w'.tape = w.tape
  output : w'.output = w.output
  size : w.heap.size ≤ w'.heap.size
  block : ∀ i, i < w.heap.size → ¬ S i → w'.heap[i]? = w.heap[i]?
theorem Turned.refl (S : Nat → Prop) (w : World) : Turned S w w := ⟨rfl, rfl, rfl, Nat.le_refl _, fun _ _ _ => rfl⟩
theorem Turned.trans {S : Nat → Prop} {a b c : World} (h : Turned S a b) (k : Turned S b c) : Turned S a c :=
  ⟨k.os.trans h.os, k.tape.trans h.tape, k.output.trans h.output, Nat.le_trans h.size k.size, fun i hi hn => (k.block i (Nat.lt_of_lt_of_le hi h.size) hn).trans (h.block i hi hn)⟩
theorem Turned.of_below {S : Nat → Prop} {w w' : World} (h : Below w.heap.size w w') : Turned S w w' := ⟨h.os, h.tape, h.output, h.size, fun i hi _ => h.block i hi⟩
theorem Turned.set {S : Nat → Prop} (w : World) {p : Addr} (hp : S p.block) (v : Value) : Turned S w (w.setCell p v) :=
  ⟨rfl, rfl, rfl, by simp [World.setCell], fun i _ hn => Below.heap_setCell w p v i (fun e => hn (by rw [e]; exact hp))⟩
theorem Turned.wide {S S' : Nat → Prop} {a b : World} (h : Turned S a b) (hs : ∀ x, S x → S' x) : Turned S' a b := ⟨h.os, h.tape, h.output, h.size, fun i hi hn => h.block i hi (fun e => hn (hs i e))⟩
theorem Turned.below {S : Nat → Prop} {B : Nat} {a b : World} (h : Turned S a b) (hB : B ≤ a.heap.size) (hs : ∀ x, S x → B ≤ x) : Below B a b := ⟨h.os, h.tape, h.output, h.size, fun i hi => h.block i (by omega) (fun e => by have := hs i e; omega)⟩
/-- The names are the marks from a up to b. -/
def HeldS (w : World) : Nat → (Nat → Prop) → Option Addr → Nat → Nat → Nat → Prop
  | 0, _, _, n, a, b => n = 0 ∧ b = a
  | d + 1, S, A, n, a, b => n ≤ 1000 ∧ (n = 0 → b = a) ∧ (0 < n → ∃ p, A = some ⟨p, 0, none⟩ ∧ S p ∧ p < w.heap.size ∧
      ∃ (T : Nat → Nat → Prop) (c : Nat → Nat), (∀ j, j < n → ∀ x, T j x → S x) ∧ c 0 = a ∧ c n = b ∧ (∀ j, j < n → c j < c (j + 1)) ∧ ∀ j, j < n →
        ∃ A' m' c', w.cell? ⟨p, j * 2, none⟩ = some (.string (markT (c j))) ∧ w.cell? ⟨p, j * 2 + 1, none⟩ = some (.slice A' m' c') ∧ HeldS w d (T j) A' m' (c j + 1) (c (j + 1)))
theorem HeldS.step : ∀ {d : Nat} {w w' : World} {S : Nat → Prop} {A : Option Addr} {n a b : Nat}, HeldS w d S A n a b → (∀ i, S i → i < w.heap.size → w'.heap[i]? = w.heap[i]?) → w.heap.size ≤ w'.heap.size → HeldS w' d S A n a b
  | 0, _, _, _, _, _, _, _, h, _, _ => h
  | d + 1, w, w', S, A, n, a, b, h, hk, hz => ⟨h.1, h.2.1, fun hn => by
    obtain ⟨p, e, hS, hl, T, c, h1, h2, h3, h4, hc⟩ := h.2.2 hn
    have hb := hk p hS hl
    refine ⟨p, e, hS, Nat.lt_of_lt_of_le hl hz, T, c, h1, h2, h3, h4, fun j hj => ?_⟩
    obtain ⟨A', m', c', h5, h6, h7⟩ := hc j hj
    exact ⟨A', m', c', (World.cell?_of_block (w := w) (a := ⟨p, j * 2, none⟩) hb).trans h5, (World.cell?_of_block (w := w) (a := ⟨p, j * 2 + 1, none⟩) hb).trans h6, h7.step (fun i hi hil => hk i (h1 j hj i hi) hil) hz⟩⟩
theorem HeldS.later {w w' : World} {d : Nat} {S : Nat → Prop} {A : Option Addr} {n a b : Nat} (h : HeldS w d S A n a b) (hb : Below w.heap.size w w') : HeldS w' d S A n a b := h.step (fun i _ hl => hb.block i hl) hb.size
theorem HeldS.few {w : World} {d : Nat} {S : Nat → Prop} {A : Option Addr} {n a b : Nat} (h : HeldS w d S A n a b) : n ≤ 1000 := by
  cases d with
  | zero => obtain ⟨rfl, rfl⟩ := h; omega
  | succ d => exact h.1
theorem HeldS.zero {w : World} {d : Nat} {S : Nat → Prop} {A : Option Addr} {a b : Nat} (h : HeldS w d S A 0 a b) : b = a := by
  cases d with
  | zero => exact h.2
  | succ d => exact h.2.1 rfl
theorem HeldS.nil (w : World) (d : Nat) (S : Nat → Prop) (A : Option Addr) (a : Nat) : HeldS w d S A 0 a a := by
  cases d with
  | zero => exact ⟨rfl, rfl⟩
  | succ d => exact ⟨by omega, fun _ => rfl, fun h => absurd h (by omega)⟩
/-- how many marks -/
def lcnt : Nat → List TermV → Nat
  | 0, _ => 0
  | d + 1, ks => psum (tmany d) ks ks.length
theorem tmany_lcnt (d : Nat) (t : TermV) : tmany d t = 1 + lcnt d t.kids := by cases d <;> rfl
/-- In the midst of marking. -/
structure MidM (w : World) (p n d : Nat) (S : Nat → Prop) (T : Nat → Nat → Prop) (ks : List TermV) (a k : Nat) (wr : World) : Prop where
  tur : Turned S w wr
  fro : ∀ j, wr.frozen? ⟨p, j, none⟩ = false
  lt : p < wr.heap.size
  done : ∀ j, j < k → ∃ A' m' c', wr.cell? ⟨p, j * 2, none⟩ = some (.string (markT (a + psum (tmany d) ks j))) ∧ wr.cell? ⟨p, j * 2 + 1, none⟩ = some (.slice A' m' c') ∧ HeldS wr d (T j) A' m' (a + psum (tmany d) ks j + 1) (a + psum (tmany d) ks (j + 1))
  todo : ∀ j, k ≤ j → j < n → ∃ A' m' c', wr.cell? ⟨p, j * 2, none⟩ = some (.string (ks.getD j tm0).name) ∧ wr.cell? ⟨p, j * 2 + 1, none⟩ = some (.slice A' m' c') ∧ KidS wr d (T j) A' m' (ks.getD j tm0).kids
/-- one more is marked -/
theorem MidM.next {w wr W1 W3 : World} {p n d : Nat} {S : Nat → Prop} {T : Nat → Nat → Prop} {ks : List TermV} {a k : Nat} (h : MidM w p n d S T ks a k wr) (hS : S p) (hT : ∀ j, j < n → ∀ x, T j x → S x ∧ x ≠ p)
    (hD : ∀ i j, i < n → j < n → i ≠ j → ∀ x, T i x → ¬ T j x) (hk : k < n) (hb : Below wr.heap.size wr W1) {A' : Option Addr} {m' c' : Nat}
    (hs : wr.cell? ⟨p, k * 2 + 1, none⟩ = some (.slice A' m' c')) (ht : Turned (T k) (W1.setCell ⟨p, k * 2, none⟩ (.string (markT (a + psum (tmany d) ks k)))) W3) (hH : HeldS W3 d (T k) A' m' (a + psum (tmany d) ks k + 1) (a + psum (tmany d) ks (k + 1))) :
    MidM w p n d S T ks a (k + 1) W3 := by
  obtain ⟨W2, hW2⟩ : ∃ W2, W1.setCell ⟨p, k * 2, none⟩ (.string (markT (a + psum (tmany d) ks k))) = W2 := ⟨_, rfl⟩
  have hlt := h.lt
  have hz1 := hb.size
  have hz2 : W2.heap.size = W1.heap.size := by rw [← hW2]; simp [World.setCell]
  have hfr : ∀ i, i < wr.heap.size → i ≠ p → W2.heap[i]? = wr.heap[i]? := fun i hi hn => by
    rw [← hW2]; exact (Below.heap_setCell W1 _ _ i hn).trans (hb.block i hi)
  rw [hW2] at ht
  have hpk : ¬ T k p := fun e => (hT k hk p e).2 rfl
  have hpb := ht.block p (by omega) hpk
  have hc1 : ∀ o, W1.cell? ⟨p, o, none⟩ = wr.cell? ⟨p, o, none⟩ := fun o => hb.cell hlt
  have hf1 : ∀ o, W1.frozen? ⟨p, o, none⟩ = wr.frozen? ⟨p, o, none⟩ := fun o => World.frozen?_of_block (w := wr) (a := ⟨p, o, none⟩) (hb.block p hlt)
  have hc3 : ∀ o, W3.cell? ⟨p, o, none⟩ = W2.cell? ⟨p, o, none⟩ := fun o => World.cell?_of_block (w := W2) (a := ⟨p, o, none⟩) hpb
  have hf3 : ∀ o, W3.frozen? ⟨p, o, none⟩ = W2.frozen? ⟨p, o, none⟩ := fun o => World.frozen?_of_block (w := W2) (a := ⟨p, o, none⟩) hpb
  have hc2 : ∀ o, o ≠ k * 2 → W2.cell? ⟨p, o, none⟩ = W1.cell? ⟨p, o, none⟩ := fun o ho => by
    rw [← hW2]; exact World.cell?_setCell_other _ _ _ _ (fun e => ho (by injection e with _ e; exact e.symm))
  have hstay : ∀ j, j < n → j ≠ k → (∀ i, T j i → i < wr.heap.size → W3.heap[i]? = wr.heap[i]?) := fun j hj hjk i hi hl =>
    (ht.block i (by omega) (hD j k hj hk hjk i hi)).trans (hfr i hl (hT j hj i hi).2)
  have hzz : wr.heap.size ≤ W3.heap.size := by have := ht.size; omega
  refine ⟨?_, fun j => ?_, by omega, fun j hj => ?_, fun j hj hjn => ?_⟩
  · refine h.tur.trans ⟨?_, ?_, ?_, hzz, fun i hi hn => ?_⟩
    · rw [ht.os, ← hW2]; exact hb.os
    · rw [ht.tape, ← hW2]; exact hb.tape
    · rw [ht.output, ← hW2]; exact hb.output
    · rw [ht.block i (by omega) (fun e => hn (hT k hk i e).1)]
      exact hfr i hi (fun e => hn (by rw [e]; exact hS))
  · rw [hf3, ← hW2, World.frozen?_setCell, hf1]; exact h.fro j
  · by_cases e : j = k
    · subst e
      refine ⟨A', m', c', ?_, ?_, hH⟩
      · obtain ⟨A0, m0, c0, h0, _⟩ := h.todo j (Nat.le_refl _) hk
        rw [hc3, ← hW2]
        exact World.cell?_setCell_same _ _ _ ((hc1 _).trans h0)
      · rw [hc3, hc2 _ (by omega), hc1]; exact hs
    · obtain ⟨A0, m0, c0, h0, h1, h2⟩ := h.done j (by omega)
      refine ⟨A0, m0, c0, ?_, ?_, h2.step (hstay j (by omega) e) hzz⟩
      · rw [hc3, hc2 _ (by omega), hc1]; exact h0
      · rw [hc3, hc2 _ (by omega), hc1]; exact h1
  · obtain ⟨A0, m0, c0, h0, h1, h2⟩ := h.todo j (by omega) hjn
    refine ⟨A0, m0, c0, ?_, ?_, h2.step (hstay j hjn (by omega)) hzz⟩
    · rw [hc3, hc2 _ (by omega), hc1]; exact h0
    · rw [hc3, hc2 _ (by omega), hc1]; exact h1

/-- what markText has written, and what is left -/
def MarkAt (k q : Nat) (s : ByteArray) : Prop := (q = k ∧ s = ⟨#[]⟩) ∨ (q = k / 10 ∧ s = ⟨#[UInt8.ofNat (48 + k % 10)]⟩) ∨ (10 ≤ k ∧ q = 0 ∧ s = ⟨#[UInt8.ofNat (48 + k / 10), UInt8.ofNat (48 + k % 10)]⟩)
theorem strOf_digit (q : Nat) : strOfNums [48 + (q : Int) % 10] = ⟨#[UInt8.ofNat (48 + q % 10)]⟩ := by
  unfold strOfNums
  simp only [List.map_cons, List.map_nil]
  rw [show ((48 : Int) + (q : Int) % 10).toNat = 48 + q % 10 by omega]
theorem MarkAt.next {k q : Nat} {s : ByteArray} (h : MarkAt k q s) (hk : k ≤ 40) (hq : 0 < q) : MarkAt k (q / 10) (strOfNums [48 + (q : Int) % 10] ++ s) := by
  rw [strOf_digit]
  rcases h with ⟨rfl, rfl⟩ | ⟨rfl, rfl⟩ | ⟨h1, h2, h3⟩
  · exact .inr (.inl ⟨rfl, by apply ByteArray.ext; rfl⟩)
  · refine .inr (.inr ⟨by omega, by omega, ?_⟩)
    rw [show k / 10 % 10 = k / 10 by omega]
    apply ByteArray.ext
    rfl
  · omega
theorem MarkAt.done {k : Nat} {s : ByteArray} (h : MarkAt k 0 s) (hk : 1 ≤ k) : (⟨#[109]⟩ : ByteArray) ++ s = markT k := by
  unfold markT
  rcases h with ⟨h1, _⟩ | ⟨h1, rfl⟩ | ⟨h1, h2, rfl⟩
  · omega
  · rw [if_pos (by omega), show k % 10 = k by omega]
    apply ByteArray.ext
    rfl
  · rw [if_neg (by omega)]
    apply ByteArray.ext
    rfl
set_option maxHeartbeats 600000 in
theorem markText_any (k : Nat) (h1 : 1 ≤ k) (h2 : k ≤ 40) (w : World) : Calls Try.prog 84 #[.int .i64 k] w fun e w' => e = .returned (.string (markT k)) ∧ Below w.heap.size w w' := by
  have hp : ¬ ((k : Int) ≤ 0) := by omega
  go_enter Try.func84, Try.ntmps84
  go_wp2_with fail
  go_loopw [0, 3] (fun x out wr => ∃ (q : Nat) (s : ByteArray), x = .int .i64 (q : Int) ∧ out = .string s ∧ (q ≤ 40 ∧ s.size ≤ 2) ∧ MarkAt k q s ∧ Below w.heap.size w wr) (fun x _ _ => (intOf x).toNat)
  case atStart => exact ⟨k, ⟨#[]⟩, rfl, rfl, ⟨h2, by decide⟩, .inl ⟨rfl, rfl⟩, Below.refl _ _⟩
  case round =>
    obtain ⟨q, s, rfl, rfl, ⟨hq, hss⟩, hM, hB⟩ := hrel
    by_cases hlt : 0 < q
    · have hq0 : (0 : Int) < (q : Int) := by omega
      have hcv := run_convert_bytes_arg (P := Try.prog) (wr.alloc (.cells #[.int .u8 (48 + (q : Int) % 10)] 5)) 33 5 Try.underlying33 Try.underlying5 wr.heap.size 0 1 1 [48 + (q : Int) % 10] rfl (fun i hi => by
        obtain rfl : i = 0 := by omega
        rw [World.cell?_alloc_new]; rfl) 9 Try.underlying9
      have HN := Lib.hid (hM.next h2 hlt)
      have hsz : (strOfNums [48 + (q : Int) % 10]).size = 1 := by rw [strOf_digit]; rfl
      have hsz2 : (strOfNums [48 + (q : Int) % 10] ++ s).size ≤ 2 := by
        rw [ByteArray.size_append, hsz]
        rcases hM with ⟨_, h3⟩ | ⟨_, h3⟩ | ⟨_, h3, _⟩
        · rw [h3]; exact (by decide : 1 + 0 ≤ 2)
        · rw [h3]; exact Nat.le_refl 2
        · omega
      have HZ := Lib.hid hsz2
      clear hsz2
      generalize strOfNums [48 + (q : Int) % 10] = d at *
      clear hM
      have hq10 : IntKind.i64.wrap ((q : Int) / 10) = ((q / 10 : Nat) : Int) := by rw [IntWalk.i64_in _ (by omega)]; omega
      have hqt : ((q : Int).tdiv 10) = ((q / 10 : Nat) : Int) := by rw [Int.tdiv_eq_ediv_of_nonneg (by omega)]; omega
      have hzr := hB.size
      have hss2 : ¬ 9223372036854775807 < d.size + s.size := by omega
      go_wp2
      go_roundw
      case rel => exact ⟨q / 10, d ++ s, by go_num, rfl, ⟨by omega, HZ.out⟩, HN.out, by (repeat (first | with_reducible exact Below.refl _ _ | with_reducible assumption | (with_reducible refine below_drewN ?_ _) | (with_reducible refine Below.drew ?_) | (with_reducible refine Below.setCell ?_ (by first | omega | (simp; done) | (simp; omega)) _) | (with_reducible refine Below.alloc ?_ (by first | omega | (simp; done) | (simp; omega)) _) | refine Below.trans ?_ (Below.mono (by with_reducible assumption) (by first | omega | (simp; done) | (simp; omega)))))⟩
      case measure => simp [intOf]; omega
    · obtain rfl : q = 0 := by omega
      have HD := Lib.hid (hM.done h1)
      clear hM
      have hss2 : ¬ 9223372036854775807 < 1 + s.size := by omega
      go_wp2
      go_ret
      exact ⟨by rw [← HD.out]; rfl, hB⟩

def MarkCall (d : Nat) : Prop := ∀ {S : Nat → Prop} {A : Option Addr} {n c : Nat} {ks : List TermV} (a : Nat) {w : World}, KidS w d S A n ks → 1 ≤ a → a + lcnt d ks ≤ 40 →
    Calls Try.prog 68 #[.slice A n c, .int .i64 a] w fun e w' => e = .returned (.int .i64 ((a + lcnt d ks : Nat) : Int)) ∧ HeldS w' d S A n a (a + lcnt d ks) ∧ Turned S w w'
theorem MarkCall.at {d : Nat} (H : MarkCall d) {S : Nat → Prop} {A : Option Addr} {n c : Nat} {ks : List TermV} (a : Nat) {w : World} (h : KidS w d S A n ks) (h1 : 1 ≤ a) (h2 : a + lcnt d ks ≤ 40) :
    Calls Try.prog 68 #[.slice A n c, .int .i64 a] w fun e w' => e = .returned (.int .i64 ((a + lcnt d ks : Nat) : Int)) ∧ HeldS w' d S A n a (a + lcnt d ks) ∧ Turned S w w' := H a h h1 h2
set_option maxHeartbeats 600000 in
theorem markTermS_of {d : Nat} (IH : ∀ d', d = d' + 1 → MarkCall d') : MarkCall d := by
  intro S A n c ks a w h ha hb
  have hlen := h.len
  have hfew := h.few
  by_cases hn : n = 0
  · subst hn
    have hk0 : ks = [] := List.eq_nil_of_length_eq_zero hlen
    subst hk0
    have hl0 : lcnt d [] = 0 := by cases d <;> rfl
    rw [hl0] at hb ⊢
    go_enter Try.func68, Try.ntmps68
    go_wp2_with fail
    go_loopw [1, 5] (fun x i wr => i = .int .i64 0 ∧ x = .int .i64 (a : Int) ∧ wr = w) (fun _ i _ => 0)
    case atStart => exact ⟨rfl, rfl, rfl⟩
    case round =>
      obtain ⟨rfl, rfl, rfl⟩ := hrel
      go_wp2
      go_ret
      exact ⟨rfl, HeldS.nil _ _ _ _ _, Turned.refl _ _⟩
  · cases d with
    | zero => exact absurd h.1 hn
    | succ d =>
      obtain ⟨p, rfl, hSp, hpl, hfr, T, hT, hD, hc⟩ := h.2.2 (by omega)
      have HI : Hid (MarkCall d) := Lib.hid (IH d rfl)
      have HT := Lib.hid hT
      have HDD := Lib.hid hD
      have hM0 : MidM w p n d S T ks a 0 w := ⟨Turned.refl _ _, hfr, hpl, fun j hj => absurd hj (by omega), fun j _ hj => by
        obtain ⟨A', m', c', h0, h1, h2, _⟩ := hc j hj
        exact ⟨A', m', c', h0, h1, h2⟩⟩
      have hlc : lcnt (d + 1) ks = psum (tmany d) ks n := by rw [← hlen]; rfl
      rw [hlc] at hb ⊢
      clear hlc hc hT hD hfr
      go_enter Try.func68, Try.ntmps68
      go_wp2_with fail
      go_loopw [1, 5] (fun x i wr => ∃ (k q : Nat), k ≤ n ∧ i = .int .i64 k ∧ x = .int .i64 (q : Int) ∧ Hid (q = a + psum (tmany d) ks k) ∧ MidM w p n d S T ks a k wr) (fun _ i _ => n - (intOf i).toNat)
      case atStart => exact ⟨0, a, by omega, rfl, rfl, Lib.hid (by simp [psum]), hM0⟩
      case round =>
        clear hM0
        obtain ⟨k, q, hk, rfl, rfl, HQ, hM⟩ := hrel
        by_cases hlt : k < n
        · obtain ⟨A', m', c', hc0, hc1, hKd⟩ := hM.todo k (Nat.le_refl _) hlt
          have hpw := hM.lt
          have hmono := psum_mono (tmany d) ks (show k + 1 ≤ n by omega)
          have hnext : psum (tmany d) ks (k + 1) = psum (tmany d) ks k + (1 + lcnt d (ks.getD k tm0).kids) := by rw [← tmany_lcnt]; rfl
          obtain ⟨qs, hqs⟩ : ∃ qs, (ks.getD k tm0).kids = qs := ⟨_, rfl⟩
          rw [hqs] at hKd hnext
          clear hqs
          obtain ⟨r, hr⟩ : ∃ r, q + 1 + lcnt d qs = r := ⟨_, rfl⟩
          have hq40 : r ≤ 40 := by have := HQ.out; omega
          have HN : Hid (a + psum (tmany d) ks (k + 1) = r) := Lib.hid (by have := HQ.out; omega)
          have HR := Lib.hid hr
          have hqr : q < r := by omega
          clear hr
          have hq1 : 1 ≤ q := by have := HQ.out; omega
          clear hnext hmono
          go_wp2_with fail
          refine (markText_any q hq1 (by omega) _).mono ?_
          rintro e w1 ⟨rfl, hb1⟩
          have hc0' := (hb1.cell (p := ⟨p, k * 2, none⟩) hpw).trans hc0
          have hc1' := (hb1.cell (p := ⟨p, k * 2 + 1, none⟩) hpw).trans hc1
          have hf0' := (World.frozen?_of_block (w := wr) (a := ⟨p, k * 2, none⟩) (hb1.block p hpw)).trans (hM.fro (k * 2))
          have hKd1 : KidS (w1.setCell ⟨p, k * 2, none⟩ (.string (markT q))) d (T k) A' m' qs := (hKd.later hb1).step (fun i hi _ => Below.heap_setCell w1 _ _ i (HT.out k hlt i hi).2) (by simp [World.setCell])
          have HNX := Lib.hid (fun (W3 : World) ht hH => hM.next (W1 := w1) (W3 := W3) hSp HT.out HDD.out hlt hb1 hc1 ht hH)
          have hpw1 : p < w1.heap.size := by have := hb1.size; omega
          clear hb1
          go_wp2_with fail
          refine (MarkCall.at HI.out (q + 1) hKd1 (by omega) (by rw [HR.out]; exact hq40)).mono ?_
          rw [HR.out]
          rintro e w3 ⟨rfl, hH, hTu⟩
          have hM3 := HNX.out w3 (by rw [← HQ.out]; exact hTu) (by rw [← HQ.out, HN.out]; exact hH)
          have HM3 := Lib.hid hM3
          clear hM3 hH hTu hM hKd1
          go_wp2
          go_roundw
          case rel => exact ⟨k + 1, r, by omega, by go_num, rfl, Lib.hid HN.out.symm, HM3.out⟩
          case measure => simp [intOf]; omega
        · obtain rfl : k = n := by omega
          go_wp2
          go_ret
          refine ⟨by rw [HQ.out]; rfl, ?_, hM.tur⟩
          exact ⟨hfew, fun e => absurd e hn, fun _ => ⟨p, rfl, hSp, hM.lt, T, fun j => a + psum (tmany d) ks j, fun j hj x hx => (HT.out j hj x hx).1, by simp [psum], rfl, fun j hj => by
            have e : psum (tmany d) ks (j + 1) = psum (tmany d) ks j + tmany d (ks.getD j tm0) := rfl
            have e2 := tmany_lcnt d (ks.getD j tm0)
            show a + psum (tmany d) ks j < a + psum (tmany d) ks (j + 1)
            omega, hM.done⟩⟩
theorem markTermS_any : ∀ d, MarkCall d
  | 0 => markTermS_of (fun d' e => by omega)
  | d + 1 => markTermS_of (fun d' e => by obtain rfl : d = d' := by omega
                                          exact markTermS_any d)
theorem mono_to {c : Nat → Nat} {n : Nat} (h : ∀ j, j < n → c j < c (j + 1)) : ∀ {k : Nat}, k ≤ n → ∀ {j : Nat}, j ≤ k → c j ≤ c k
  | 0, _, j, hj => by obtain rfl : j = 0 := by omega
                      exact Nat.le_refl _
  | k + 1, hk, j, hj => by
    by_cases e : j = k + 1
    · subst e; exact Nat.le_refl _
    · have h1 := mono_to h (k := k) (by omega) (j := j) (by omega)
      have h2 := h k (by omega)
      omega

def HeldCall (d : Nat) : Prop := ∀ {S : Nat → Prop} {A : Option Addr} {n c : Nat} (a b : Nat) {w : World}, HeldS w d S A n a b → 1 ≤ a → b ≤ 40 →
    Calls Try.prog 69 #[.slice A n c, .int .i64 a] w fun e w' => e = .returned (.int .i64 (b : Int)) ∧ Below w.heap.size w w'
theorem HeldCall.at {d : Nat} (H : HeldCall d) {S : Nat → Prop} {A : Option Addr} {n c : Nat} (a b : Nat) {w : World} (h : HeldS w d S A n a b) (h1 : 1 ≤ a) (h2 : b ≤ 40) :
    Calls Try.prog 69 #[.slice A n c, .int .i64 a] w fun e w' => e = .returned (.int .i64 (b : Int)) ∧ Below w.heap.size w w' := H a b h h1 h2
set_option maxHeartbeats 600000 in
theorem heldTermS_of {d : Nat} (IH : ∀ d', d = d' + 1 → HeldCall d') : HeldCall d := by
  intro S A n c0 a b w h ha hb
  have hfew := h.few
  by_cases hn : n = 0
  · subst hn
    obtain rfl := h.zero
    go_enter Try.func69, Try.ntmps69
    go_wp2_with fail
    go_loopw [1, 5] (fun x i wr => i = .int .i64 0 ∧ x = .int .i64 (b : Int) ∧ wr = w) (fun _ i _ => 0)
    case atStart => exact ⟨rfl, rfl, rfl⟩
    case round =>
      obtain ⟨rfl, rfl, rfl⟩ := hrel
      go_wp2
      go_ret
      exact ⟨rfl, Below.refl _ _⟩
  · cases d with
    | zero => exact absurd h.1 hn
    | succ d =>
      obtain ⟨p, rfl, hSp, hpl, T, c, hT, hc0, hcn, hcm, hc⟩ := h.2.2 (by omega)
      have HI : Hid (HeldCall d) := Lib.hid (IH d rfl)
      have HC := Lib.hid hc
      have HM := Lib.hid (And.intro hcm (And.intro hc0 hcn))
      clear hc hcm hT h
      go_enter Try.func69, Try.ntmps69
      go_wp2_with fail
      go_loopw [1, 5] (fun x i wr => ∃ (k q : Nat), k ≤ n ∧ i = .int .i64 k ∧ x = .int .i64 (q : Int) ∧ Hid (q = c k) ∧ Below w.heap.size w wr) (fun _ i _ => n - (intOf i).toNat)
      case atStart => exact ⟨0, a, by omega, rfl, rfl, Lib.hid hc0.symm, Below.refl _ _⟩
      case round =>
        clear hc0 hcn
        obtain ⟨k, q, hk, rfl, rfl, HQ, hB⟩ := hrel
        by_cases hlt : k < n
        · obtain ⟨A', m', c', h0, h1, hH⟩ := HC.out k hlt
          have hpw : p < wr.heap.size := Nat.lt_of_lt_of_le hpl hB.size
          have g0 := (hB.cell (p := ⟨p, k * 2, none⟩) hpl).trans h0
          have g1 := (hB.cell (p := ⟨p, k * 2 + 1, none⟩) hpl).trans h1
          have hHr := hH.later hB
          rw [← HQ.out] at g0 hHr
          obtain ⟨r, hr⟩ : ∃ r, c (k + 1) = r := ⟨_, rfl⟩
          have hr40 : r ≤ b := by rw [← hr, ← HM.out.2.2]; exact mono_to HM.out.1 (Nat.le_refl n) (by omega)
          have hq1 : a ≤ q := by rw [HQ.out, ← HM.out.2.1]; exact mono_to HM.out.1 hk (by omega)
          have hqr : q < r := by rw [HQ.out, ← hr]; exact HM.out.1 k hlt
          rw [hr] at hHr
          have HR := Lib.hid hr.symm
          clear hr h0 h1 hH
          have HTX := Lib.hid (fun (W : World) => markText_any q (by omega) (by omega) W)
          generalize markT q = s at g0 HTX
          go_wp2_with fail
          refine wp_region_grown (by kernel_rfl) (by kernel_rfl) ?_
          refine quiet_with (a := ⟨p, k * 2, none⟩) (v := .string s) g0 ?_; intro g
          repeat (go_big_quiet_step ((first | (go_at_call 84; (with_reducible exact grown_of (HTX.out _))))))
          refine wpQuiet_nil ?_
          rintro w2 ⟨⟨_, hb1⟩, rfl⟩
          have hB2 : Below w.heap.size w w2 := hB.trans (hb1.mono hB.size)
          have g1' := (hb1.cell (p := ⟨p, k * 2 + 1, none⟩) hpw).trans g1
          have hHr2 := hHr.later hb1
          clear hb1 HTX
          go_wp2_with fail
          refine (HeldCall.at HI.out (q + 1) r hHr2 (by omega) (by omega)).mono ?_
          rintro e w3 ⟨rfl, hb3⟩
          have hB3 : Below w.heap.size w w3 := hB2.trans (hb3.mono hB2.size)
          clear hb3 hHr2
          have hr0 : ¬ ((r : Int) < 0) := by omega
          go_wp2
          go_roundw
          case rel => exact ⟨k + 1, r, by omega, by go_num, rfl, Lib.hid HR.out, hB3⟩
          case measure => simp [intOf]; omega
        · obtain rfl : k = n := by omega
          go_wp2
          go_ret
          exact ⟨by rw [HQ.out, HM.out.2.2]; rfl, hB⟩
theorem heldTermS_any : ∀ d, HeldCall d
  | 0 => heldTermS_of (fun d' e => by omega)
  | d + 1 => heldTermS_of (fun d' e => by obtain rfl : d = d' := by omega
                                          exact heldTermS_any d)

theorem markTerm_any {d : Nat} {S : Nat → Prop} {A : Option Addr} {n c : Nat} {ks : List TermV} (s : ByteArray) (a : Nat) {w : World} (h : KidS w d S A n ks) (h1 : 1 ≤ a) (h2 : a + lcnt d ks ≤ 40) (hS : ∀ x, S x → x < w.heap.size) :
    Calls Try.prog 36 #[.agg #[.string s, .slice A n c], .int .i64 a] w fun e w' => e = .returned (.int .i64 ((a + lcnt d ks : Nat) : Int)) ∧ HeldS w' d S A n a (a + lcnt d ks) ∧ Turned S w w' := by
  go_enter Try.func36, Try.ntmps36
  go_wp2_with fail
  refine (MarkCall.at (markTermS_any d) a (h.later (by (repeat (first | with_reducible exact Below.refl _ _ | with_reducible assumption | (with_reducible refine below_drewN ?_ _) | (with_reducible refine Below.drew ?_) | (with_reducible refine Below.setCell ?_ (by first | omega | (simp; done) | (simp; omega)) _) | (with_reducible refine Below.alloc ?_ (by first | omega | (simp; done) | (simp; omega)) _) | refine Below.trans ?_ (Below.mono (by with_reducible assumption) (by first | omega | (simp; done) | (simp; omega))))))) h1 h2).mono ?_
  rintro e w1 ⟨rfl, hH, hT⟩
  have HH := Lib.hid (And.intro hH ((Turned.of_below (S := S) (show Below w.heap.size w _ by (repeat (first | with_reducible exact Below.refl _ _ | with_reducible assumption | (with_reducible refine below_drewN ?_ _) | (with_reducible refine Below.drew ?_) | (with_reducible refine Below.setCell ?_ (by first | omega | (simp; done) | (simp; omega)) _) | (with_reducible refine Below.alloc ?_ (by first | omega | (simp; done) | (simp; omega)) _) | refine Below.trans ?_ (Below.mono (by with_reducible assumption) (by first | omega | (simp; done) | (simp; omega))))))).trans hT))
  clear hH hT
  go_wp2
  go_ret
  exact ⟨rfl, HH.out⟩
theorem heldTerm_any {d : Nat} {S : Nat → Prop} {A : Option Addr} {n c : Nat} (s : ByteArray) (a b : Nat) {w : World} (h : HeldS w d S A n a b) (h1 : 1 ≤ a) (h2 : b ≤ 40) :
    Calls Try.prog 37 #[.agg #[.string s, .slice A n c], .int .i64 a] w fun e w' => e = .returned (.int .i64 (b : Int)) ∧ Below w.heap.size w w' := by
  go_enter Try.func37, Try.ntmps37
  have hb0 : ¬ ((b : Int) < 0) := by omega
  go_wp2_with fail
  refine (HeldCall.at (heldTermS_any d) a b (h.later (by (repeat (first | with_reducible exact Below.refl _ _ | with_reducible assumption | (with_reducible refine below_drewN ?_ _) | (with_reducible refine Below.drew ?_) | (with_reducible refine Below.setCell ?_ (by first | omega | (simp; done) | (simp; omega)) _) | (with_reducible refine Below.alloc ?_ (by first | omega | (simp; done) | (simp; omega)) _) | refine Below.trans ?_ (Below.mono (by with_reducible assumption) (by first | omega | (simp; done) | (simp; omega))))))) h1 h2).mono ?_
  rintro e w1 ⟨rfl, hb1⟩
  have hz1 := hb1.size; (try simp at hz1); have hB1 : Below w.heap.size w w1 := (by refine Below.trans ?_ (Below.mono hb1 (by first | omega | (simp; done) | (simp; omega))); (repeat (first | with_reducible exact Below.refl _ _ | with_reducible assumption | (with_reducible refine below_drewN ?_ _) | (with_reducible refine Below.drew ?_) | (with_reducible refine Below.setCell ?_ (by first | omega | (simp; done) | (simp; omega)) _) | (with_reducible refine Below.alloc ?_ (by first | omega | (simp; done) | (simp; omega)) _) | refine Below.trans ?_ (Below.mono (by with_reducible assumption) (by first | omega | (simp; done) | (simp; omega))))))
  clear hb1
  go_wp2
  go_ret
  exact ⟨rfl, by (repeat (first | with_reducible exact Below.refl _ _ | with_reducible assumption | (with_reducible refine below_drewN ?_ _) | (with_reducible refine Below.drew ?_) | (with_reducible refine Below.setCell ?_ (by first | omega | (simp; done) | (simp; omega)) _) | (with_reducible refine Below.alloc ?_ (by first | omega | (simp; done) | (simp; omega)) _) | refine Below.trans ?_ (Below.mono (by with_reducible assumption) (by first | omega | (simp; done) | (simp; omega)))))⟩
end Go.Proofs.Ytgmeoblapnmpiaa

/- The reader of a code: its words in memory, and the contracts of l16Open, pick, num. -/
import Derived.Test.YtccjbipmlpnhkaaA
import Derived.Laws.BitsAllLaws
import Derived.Laws.BitsLemmas
import Derived.Laws.OwnMore
import Derived.Deep.AppendLies
import Derived.Deep.Draws
import Derived.Laws.Rows
namespace Go.Proofs.Ytccjbipmlpnhkaa
set_option maxRecDepth 100000
open Go.RowKit
set_option linter.unusedSimpArgs false
set_option linter.unusedVariables false

/-- a number of 64 bits -/
def I64 (x : Int) : Prop := -9223372036854775808 ≤ x ∧ x ≤ 9223372036854775807

/-- The slice value '.slice A n c' holds the cells xs, below block B. -/
def Holds1 (w : World) (B : Nat) (A : Option Addr) (xs : List Value) : Prop :=
  0 < xs.length → ∃ b o, A = some ⟨b, o, none⟩ ∧ b < B ∧ ∀ j u, xs[j]? = some u → w.cell? ⟨b, o + j, none⟩ = some u

section
variable {w w' : World} {B B' : Nat} {A : Option Addr} {xs : List Value}
theorem Holds1.keep (h : Holds1 w B A xs) (hk : ∀ b o, b < B → w'.cell? ⟨b, o, none⟩ = w.cell? ⟨b, o, none⟩) : Holds1 w' B A xs := fun hn => by
  obtain ⟨b, o, e, hb, hc⟩ := h hn
  exact ⟨b, o, e, hb, fun j u hu => (hk _ _ hb).trans (hc j u hu)⟩
theorem Holds1.more (h : Holds1 w B A xs) (hB : B ≤ B') : Holds1 w B' A xs := fun hn => by
  obtain ⟨b, o, e, hb, hc⟩ := h hn
  exact ⟨b, o, e, by omega, hc⟩
theorem Holds1.below (h : Holds1 w B A xs) (hb : Below B w w') : Holds1 w' B A xs := h.keep fun b o hp => hb.cell (p := ⟨b, o, none⟩) hp
end

/-- Block g is a reader of the bytes bs (at most 2000), at place p. 'G': the bytes lie below it. -/
structure Rd (w : World) (g : Nat) (A : Option Addr) (cap : Nat) (bs : List UInt8) (p : Nat) : Prop where
  block : w.heap[g]? = some (.cells #[.slice A bs.length cap, .int .i64 p] 104 (0, 0))
  bytes : Holds1 w g A (bs.map fun c => Value.int .u8 (c.toNat : Int))
  few : bs.length ≤ 2000

theorem Rd.lt {w : World} {g : Nat} {A : Option Addr} {cap : Nat} {bs : List UInt8} {p : Nat} (h : Rd w g A cap bs p) : g < w.heap.size := by
  rcases Nat.lt_or_ge g w.heap.size with hlt | hge
  · exact hlt
  · have := h.block; rw [Array.getElem?_eq_none hge] at this; cases this
theorem Rd.cell0 {w : World} {g : Nat} {A : Option Addr} {cap : Nat} {bs : List UInt8} {p : Nat} (h : Rd w g A cap bs p) : w.cell? ⟨g, 0, none⟩ = some (.slice A bs.length cap) := by
  have := h.block; simp [World.cell?, this]
theorem Rd.cell1 {w : World} {g : Nat} {A : Option Addr} {cap : Nat} {bs : List UInt8} {p : Nat} (h : Rd w g A cap bs p) : w.cell? ⟨g, 1, none⟩ = some (.int .i64 p) := by
  have := h.block; simp [World.cell?, this]
theorem Rd.free {w : World} {g : Nat} {A : Option Addr} {cap : Nat} {bs : List UInt8} {p : Nat} (h : Rd w g A cap bs p) (o : Nat) : w.frozen? ⟨g, o, none⟩ = false := by
  have := h.block; simp [World.frozen?, this]
/-- The reader's own block may have moved on; nothing else. -/
theorem Rd.step {w : World} {g : Nat} {A : Option Addr} {cap : Nat} {bs : List UInt8} {p q : Nat} (h : Rd w g A cap bs p) : Rd (w.setCell ⟨g, 1, none⟩ (.int .i64 q)) g A cap bs q := by
  refine ⟨?_, ?_, h.few⟩
  · have := h.block
    simp [World.setCell, Array.getElem?_modify, this]
  · exact h.bytes.keep fun b o hb => World.cell?_setCell_other w ⟨g, 1, none⟩ ⟨b, o, none⟩ _ (fun e => by injection e with e1; omega)
theorem Rd.grown {w w' : World} {g : Nat} {A : Option Addr} {cap : Nat} {bs : List UInt8} {p : Nat} (h : Rd w g A cap bs p) (hb : Below w.heap.size w w') : Rd w' g A cap bs p := by
  have hl := h.lt
  refine ⟨(hb.block g hl).trans h.block, ?_, h.few⟩
  exact h.bytes.keep fun b o hp => hb.cell (p := ⟨b, o, none⟩) (by show b < _; omega)

/-- Only block g of what was there may have turned. -/
def Only (g : Nat) (w w' : World) : Prop := w.grownBy w' (some g)
theorem Only.refl (g : Nat) (w : World) : Only g w w := ⟨rfl, rfl, rfl, Nat.le_refl _, fun _ _ _ => rfl⟩
theorem Only.trans {g : Nat} {a b c : World} (h : Only g a b) (k : Only g b c) : Only g a c :=
  ⟨k.os.trans h.os, k.tape.trans h.tape, k.output.trans h.output, Nat.le_trans h.size k.size, fun i hi hn => (k.block i (Nat.lt_of_lt_of_le hi h.size) hn).trans (h.block i hi hn)⟩
theorem Only.below {g : Nat} {a b c : World} (h : Only g a b) (k : Below b.heap.size b c) : Only g a c :=
  ⟨k.os.trans h.os, k.tape.trans h.tape, k.output.trans h.output, Nat.le_trans h.size k.size, fun i hi hn => (k.block i (Nat.lt_of_lt_of_le hi h.size)).trans (h.block i hi hn)⟩
theorem Only.of_below {g : Nat} {a b : World} (k : Below a.heap.size a b) : Only g a b := (Only.refl g a).below k
theorem Only.set (g o : Nat) (w : World) (v : Value) : Only g w (w.setCell ⟨g, o, none⟩ v) :=
  ⟨rfl, rfl, rfl, by simp [World.setCell], fun i hi hn => Below.heap_setCell w ⟨g, o, none⟩ v i (fun e => hn (by rw [e]))⟩
theorem Only.drewN {g : Nat} {a b : World} (h : Only g a b) (n : Nat) : Only g a (b.drewN n) := ⟨h.os, h.tape, h.output, h.size, h.block⟩
theorem Only.base {g B : Nat} {a b : World} (h : Only g a b) (hB : B ≤ g) (hs : B ≤ a.heap.size) : Below B a b :=
  ⟨h.os, h.tape, h.output, h.size, fun k hk => h.block k (by omega) (fun e => by injection e with e; omega)⟩

theorem xor_ok (x y : Int) (hx : 0 ≤ x) (hy : 0 ≤ y) (hx' : x ≤ 4000000000000000000) (hy' : y ≤ 4000000000000000000) : 0 ≤ bits .xor .i64 x y ∧ bits .xor .i64 x y ≤ 4611686018427387904 := by
  obtain ⟨a, rfl⟩ := Int.eq_ofNat_of_zero_le hx
  obtain ⟨b, rfl⟩ := Int.eq_ofNat_of_zero_le hy
  have h1 : a ^^^ b < 2 ^ 62 := Nat.xor_lt_two_pow (by omega) (by omega)
  have e : ∀ n : Nat, n < 9223372036854775808 → (BitVec.ofInt 64 (n : Int)).toNat = n := fun n hn => by
    rw [BitVec.ofInt_natCast, BitVec.toNat_ofNat]; exact Nat.mod_eq_of_lt (by omega)
  have e2 : bits .xor .i64 (a : Int) (b : Int) = ((a ^^^ b : Nat) : Int) := by
    show IntKind.i64.wrap ((BitVec.ofInt 64 (a : Int) ^^^ BitVec.ofInt 64 (b : Int)).toNat : Int) = _
    rw [BitVec.toNat_xor, e a (by omega), e b (by omega), IntKind.wrap_i64]
    omega
  rw [e2]
  omega

theorem Rd.alloc {w : World} {g : Nat} {A : Option Addr} {cap : Nat} {bs : List UInt8} {p : Nat} (h : Rd w g A cap bs p) (o : Obj) : Rd (w.alloc o) g A cap bs p :=
  h.grown ((Below.refl _ _).alloc (Nat.le_refl _) o)
theorem Rd.drewN {w : World} {g : Nat} {A : Option Addr} {cap : Nat} {bs : List UInt8} {p : Nat} (h : Rd w g A cap bs p) (n : Nat) : Rd (w.drewN n) g A cap bs p := ⟨h.block, h.bytes, h.few⟩
theorem Rd.drew {w : World} {g : Nat} {A : Option Addr} {cap : Nat} {bs : List UInt8} {p : Nat} (h : Rd w g A cap bs p) : Rd w.drew g A cap bs p := ⟨h.block, h.bytes, h.few⟩
theorem Rd.far {w : World} {g : Nat} {A : Option Addr} {cap : Nat} {bs : List UInt8} {p : Nat} (h : Rd w g A cap bs p) {q : Addr} (hq : g < q.block) (v : Value) : Rd (w.setCell q v) g A cap bs p := by
  refine ⟨(Below.heap_setCell w q v g (by omega)).trans h.block, ?_, h.few⟩
  exact h.bytes.keep fun b o hb => World.cell?_setCell_other w q ⟨b, o, none⟩ _ (fun e => by subst e; simp at hq; omega)

/-- What a pick gives: a number below n (0 where n is below 1); the reader is one place on; nothing else has turned. -/
structure Picked (g : Nat) (A : Option Addr) (cap : Nat) (bs : List UInt8) (p : Nat) (n : Int) (w : World) (r : Int) (w' : World) : Prop where
  lo : 0 ≤ r
  hi : 1 ≤ n → r < n
  rd : Rd w' g A cap bs (p + 1)
  only : Only g w w'

theorem Picked.of {g : Nat} {A : Option Addr} {cap : Nat} {bs : List UInt8} {p : Nat} {n : Int} {w : World} {r : Int} (h : Rd w g A cap bs p) (lo : 0 ≤ r) (hi : 1 ≤ n → r < n) :
    Picked g A cap bs p n w r (w.setCell ⟨g, 1, none⟩ (.int .i64 ((p : Int) + 1))) := by
  have e : ((p : Int) + 1) = ((p + 1 : Nat) : Int) := by omega
  rw [e]
  exact ⟨lo, hi, h.step, Only.set g 1 w _⟩
theorem Picked.drewN {g : Nat} {A : Option Addr} {cap : Nat} {bs : List UInt8} {p : Nat} {n : Int} {w : World} {r : Int} {w' : World} (h : Picked g A cap bs p n w r w') (m : Nat) : Picked g A cap bs p n w r (w'.drewN m) :=
  ⟨h.lo, h.hi, h.rd.drewN m, h.only.drewN m⟩

theorem Rd.byte {w : World} {g : Nat} {A : Option Addr} {cap : Nat} {bs : List UInt8} {p : Nat} (h : Rd w g A cap bs p) (hl : 0 < bs.length) :
    ∃ b o, A = some ⟨b, o, none⟩ ∧ b < g ∧ ∀ j, j < bs.length → ∃ c : Int, 0 ≤ c ∧ c ≤ 255 ∧ w.cell? ⟨b, o + j, none⟩ = some (.int .u8 c) := by
  obtain ⟨b, o, e, hb, hc⟩ := h.bytes (by simpa using hl)
  refine ⟨b, o, e, hb, fun j hj => ⟨(bs[j].toNat : Int), by omega, by have := bs[j].toNat_lt; omega, hc j _ ?_⟩⟩
  rw [List.getElem?_map, List.getElem?_eq_getElem hj]; rfl

set_option maxHeartbeats 1000000 in
theorem pick_any {g : Nat} {A : Option Addr} {cap : Nat} {bs : List UInt8} {p : Nat} (n : Int) {w : World} (h : Rd w g A cap bs p) (hp : p ≤ 1000000) (hn : n ≤ 1000000) (hn0 : -1000000 ≤ n) :
    Calls Try.prog 69 #[.pointer (some ⟨g, 0, none⟩), .int .i64 n] w fun e w' => ∃ r : Int, e = .returned (.int .i64 r) ∧ Picked g A cap bs p n w r w' := by
  have c0 := h.cell0
  have c1 := h.cell1
  have f1 := h.free 1
  have hfew := h.few
  by_cases hn1 : n < 1
  · go_enter Try.func69, Try.ntmps69
    go_wp2
    go_ret
    exact ⟨0, rfl, Picked.of h (by omega) (by omega)⟩
  by_cases hl0 : bs.length = 0
  · have hl1 : ((bs.length : Int) == 0) = true := by simp [hl0]
    go_enter Try.func69, Try.ntmps69
    go_wp2
    go_ret
    exact ⟨0, rfl, Picked.of h (by omega) (by omega)⟩
  · have hl1 : ((bs.length : Int) == 0) = false := by simp; intro e; simp [e] at hl0
    have hlp : 0 < bs.length := by omega
    obtain ⟨b, o, rfl, hbg, hby⟩ := h.byte hlp
    have hne : b ≠ g := by omega
    by_cases hk : p < bs.length
    · obtain ⟨c, hc0, hc1, hc⟩ := hby p hk
      clear hby
      go_enter Try.func69, Try.ntmps69
      go_wp2
      go_ret
      refine ⟨c % n, rfl, Picked.of h (Int.emod_nonneg _ (by omega)) (fun _ => Int.emod_lt_of_pos _ (by omega))⟩
    · obtain ⟨m1, q1⟩ : ∃ m1, p % bs.length = m1 := ⟨_, rfl⟩
      obtain ⟨m2, q2⟩ : ∃ m2, (p * 7 + 3) % bs.length = m2 := ⟨_, rfl⟩
      obtain ⟨m3, q3⟩ : ∃ m3, p / bs.length = m3 := ⟨_, rfl⟩
      have hm1 : m1 < bs.length := by rw [← q1]; exact Nat.mod_lt _ hlp
      have hm2 : m2 < bs.length := by rw [← q2]; exact Nat.mod_lt _ hlp
      have hm3 : m3 ≤ p := by rw [← q3]; exact Nat.div_le_self _ _
      have e1 : (p : Int) % (bs.length : Int) = (m1 : Int) := by rw [← q1]; simp
      have e2 : ((p : Int) * 7 + 3) % (bs.length : Int) = (m2 : Int) := by rw [← q2]; simp
      have e3 : (p : Int) / (bs.length : Int) = (m3 : Int) := by rw [← q3]; simp
      clear q1 q2 q3
      obtain ⟨c, hc0, hc1, hc⟩ := hby _ hm1
      obtain ⟨d, hd0, hd1, hd⟩ := hby _ hm2
      clear hby
      obtain ⟨X, hX⟩ : ∃ X, c * 131 + d * 1117 + (p : Int) * 29 + (m3 : Int) * 53 = X := ⟨_, rfl⟩
      have hX0 : 0 ≤ X := by omega
      have hX1 : X ≤ 1000000000 := by omega
      have hx := xor_ok X (X / 64) hX0 (by omega) (by omega) (by omega)
      obtain ⟨hx0, hx1⟩ := hx
      go_enter Try.func69, Try.ntmps69
      go_wp2
      go_quiet (fail)
      go_wp2
      go_ret
      exact ⟨_, rfl, (Picked.of h (Int.emod_nonneg _ (by omega)) (fun _ => Int.emod_lt_of_pos _ (by omega))).drewN _⟩

/-- What num gives: one of the list. -/
structure Numbered (g : Nat) (A : Option Addr) (cap : Nat) (bs : List UInt8) (p : Nat) (xs : List Int) (w : World) (r : Int) (w' : World) : Prop where
  mem : r ∈ xs
  rd : Rd w' g A cap bs (p + 1)
  only : Only g w w'

set_option maxHeartbeats 400000 in
theorem num_any {g : Nat} {A : Option Addr} {cap : Nat} {bs : List UInt8} {p : Nat} (xs : List Int) (b o m c : Nat) {w : World} (h : Rd w g A cap bs p) (hp : p ≤ 1000000) (hm : m = xs.length) (hm1 : 1 ≤ m) (hm2 : m ≤ 100)
    (hb : b ≠ g) (hx : ∀ j, j < xs.length → w.cell? ⟨b, o + j, none⟩ = some (.int .i64 (xs.getD j 0))) :
    Calls Try.prog 45 #[.pointer (some ⟨g, 0, none⟩), .slice (some ⟨b, o, none⟩) m c] w fun e w' => ∃ r : Int, e = .returned (.int .i64 r) ∧ Numbered g A cap bs p xs w r w' := by
  have HX := Lib.hid hx
  have HM := Lib.hid hm
  clear hx hm
  go_enter Try.func45, Try.ntmps45
  go_wp2_with fail
  refine (pick_any (m : Int) h hp (by omega) (by omega)).mono ?_
  rintro e w1 ⟨r, rfl, hr⟩
  have hr0 := hr.lo
  have hr1 := hr.hi (by omega)
  obtain ⟨k, rfl⟩ := Int.eq_ofNat_of_zero_le hr0
  have hk : k < xs.length := by have := HM.out; omega
  have hc : w1.cell? ⟨b, o + k, none⟩ = some (.int .i64 (xs.getD k 0)) := by
    rw [← HX.out k hk]
    have hlt : b < w.heap.size := World.block_lt_of_cell? _ _ (HX.out k hk)
    exact World.cell?_of_block (w := w) (a := ⟨b, o + k, none⟩) (hr.only.block b hlt (fun e => hb (by injection e)))
  have hmem : xs.getD k 0 ∈ xs := by
    rw [List.getD_eq_getElem?_getD, List.getElem?_eq_getElem hk]; exact List.getElem_mem hk
  have HR := Lib.hid (And.intro hr hmem)
  clear hr hmem
  generalize xs.getD k 0 = v at *
  go_wp2
  go_ret
  exact ⟨v, rfl, HR.out.2, HR.out.1.rd, HR.out.1.only⟩

theorem l16Open_any {A : Option Addr} {cap : Nat} {bs : List UInt8} {w : World} (h : Holds1 w w.heap.size A (bs.map fun c => Value.int .u8 (c.toNat : Int))) (hl : bs.length ≤ 1048576) (hc : bs.length ≤ cap) :
    Calls Try.prog 43 #[.slice A bs.length cap] w fun e w' => ∃ bs', e = .returned (.pointer (some ⟨w.heap.size, 0, none⟩)) ∧ Rd w' w.heap.size A cap bs' 0 ∧ Below w.heap.size w w' := by
  by_cases h2 : bs.length ≤ 2000
  · go_enter Try.func43, Try.ntmps43
    go_wp2
    go_ret
    refine ⟨bs, rfl, ⟨heap_alloc_new w _, ?_, h2⟩, (Below.refl _ _).alloc (Nat.le_refl _) _⟩
    exact h.keep fun b o hb => World.cell?_alloc_lt w _ ⟨b, o, none⟩ hb
  · go_enter Try.func43, Try.ntmps43
    go_wp2
    go_ret
    have hl2 : (bs.take 2000).length = 2000 := by simp; omega
    refine ⟨bs.take 2000, rfl, ⟨?_, ?_, by omega⟩, (Below.refl _ _).alloc (Nat.le_refl _) _⟩
    · rw [hl2]; exact heap_alloc_new w _
    · intro hn
      obtain ⟨b, o, e, hb, hcell⟩ := h (by simp; omega)
      refine ⟨b, o, e, hb, fun j u hu => ?_⟩
      rw [World.cell?_alloc_lt w _ ⟨b, o + j, none⟩ hb]
      refine hcell j u ?_
      rw [List.getElem?_map, List.getElem?_take] at hu
      rw [List.getElem?_map]
      split at hu
      · exact hu
      · simp at hu
end Go.Proofs.Ytccjbipmlpnhkaa

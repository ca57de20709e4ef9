/- A term is drawn. -/
import Derived.Test.YtgmeoblapnmpiaaDc
import Derived.Test.YtgmeoblapnmpiaaDv
namespace Go.Proofs.Ytgmeoblapnmpiaa
set_option maxRecDepth 100000
open Go.RowKit Go.ChangeShapes Go.WideShapes Go.ChangeAt
set_option linter.unusedSimpArgs false
set_option linter.unusedVariables false

theorem throughO {wr W wq : World} {a : Addr} {v : Value} {g : Nat} {row : Option Nat} (hb : Only g wr W) (hg : W.grownBy wq row) (hn : some a.block ≠ row) (hne : a.block ≠ g) (hc : wr.cell? a = some v) : wq.cell? a = some v := by
  have hl := World.block_lt_of_cell? _ _ hc
  exact ((World.cell?_of_block (w := W) (a := a) (hg.block a.block (Nat.lt_of_lt_of_le hl hb.size) hn)).trans (World.cell?_of_block (w := wr) (a := a) (hb.block a.block hl (fun e => hne (by injection e))))).trans hc
theorem throughOF {wr W wq : World} {a : Addr} {g : Nat} {row : Option Nat} (hb : Only g wr W) (hg : W.grownBy wq row) (hn : some a.block ≠ row) (hne : a.block ≠ g) (hl : a.block < wr.heap.size) (hf : wr.frozen? a = false) : wq.frozen? a = false :=
  ((World.frozen?_of_block (w := W) (a := a) (hg.block a.block (Nat.lt_of_lt_of_le hl hb.size) hn)).trans (World.frozen?_of_block (w := wr) (a := a) (hb.block a.block hl (fun e => hne (by injection e))))).trans hf
theorem onlyCell {w w' : World} {a : Addr} {v : Value} {g : Nat} (ho : Only g w w') (hne : a.block ≠ g) (hc : w.cell? a = some v) : w'.cell? a = some v :=
  (World.cell?_of_block (w := w) (a := a) (ho.block a.block (World.block_lt_of_cell? _ _ hc) (fun e => hne (by injection e)))).trans hc
theorem onlyF {w w' : World} {a : Addr} {g : Nat} (ho : Only g w w') (hne : a.block ≠ g) (hl : a.block < w.heap.size) (hf : w.frozen? a = false) : w'.frozen? a = false :=
  (World.frozen?_of_block (w := w) (a := a) (ho.block a.block hl (fun e => hne (by injection e)))).trans hf
theorem onlyRow {w W wq : World} {g : Nat} {row : Option Nat} (h : Only g w W) (hg : W.grownBy wq row) (hr : ∀ j, row = some j → w.heap.size ≤ j) : Only g w wq :=
  Kept.only (Kept.grown (Kept.of_only h (Nat.le_refl _)) hg h.size hr)
theorem narrow.snoc {d : Nat} {us ts : List TermV} {s : ByteArray} (h : narrow (d + 1) us) (hl : us.length ≤ 8) (ht : narrow d ts) : narrow (d + 1) (us ++ [.mk s ts]) :=
  ⟨by simp; omega, fun j hj => by
    by_cases e : j < us.length
    · rw [List.getD_eq_getElem?_getD, List.getElem?_append_left e, ← List.getD_eq_getElem?_getD]; exact h.2 j e
    · have e2 : j = us.length := by simp at hj; omega
      subst e2
      rw [List.getD_eq_getElem?_getD, List.getElem?_append_right (Nat.le_refl _)]
      simp only [Nat.sub_self]
      exact ht⟩
theorem ints_cell {w : World} {q o m k : Nat} {xs : List Int} (h : Ints w (some ⟨q, o, none⟩) m xs) (hk : k < m) : w.cell? ⟨q, o + k, none⟩ = some (.int .i64 (xs.getD k 0)) := by
  obtain ⟨b, o', e, hb, hc⟩ := h.cells (by omega)
  injection e with e
  injection e with e1 e2
  subst e1 e2
  exact hc k hk
theorem sym_info3 : (Try.prog.info? 43).map (fun i => (i.zero, i.size, i.bytes)) = some (some (.agg #[.string ⟨#[]⟩, .slice none 0 0, .int .i64 0]), 3, 48) := by kernel_rfl
theorem news3s {W : World} {E : Nat} {a b c : Value} {t : TypeId} (hE : W.heap.size = E) : ∀ j u, [a, b, c][j]? = some u → (W.alloc (.cells #[a, b, c] t)).cell? ((⟨E, 0, none⟩ : Addr).add j) = some u := by
  subst hE
  exact World.news_of_block (cs := #[a, b, c]) (t := t) (fr := (0, 0)) (heap_alloc_new _ _)
/-- a word of three cells, as a draw may use it -/
def WordZ (w0 : World) (lo f : Nat) (zs : List Value) (j : Nat) : Prop :=
  ∃ (nm : ByteArray) (B : Option Addr) (m c : Nat) (kk : Int) (xs : List Int), m ≤ 3 ∧ nm.size ≤ 9 ∧ (1 < f ∨ m = 0) ∧ (zs[j * 3]? = some (.string nm) ∧ zs[j * 3 + 1]? = some (.slice B m c) ∧ zs[j * 3 + 2]? = some (.int .i64 kk)) ∧ ∀ w', Same lo none w0 w' → Ints w' B m xs
/-- Words that are being chosen. -/
structure WordG (w0 : World) (lo f : Nat) (w : World) (B : Nat) (v : Value) (k : Nat) (zs : List Value) : Prop where
  own : w.ownsRow B 43 3 v k zs
  each : ∀ j, j < k → WordZ w0 lo f zs j
theorem WordG.empty {w0 W : World} {lo f E B : Nat} (hE : W.heap.size = E) (hb : B ≤ E) : WordG w0 lo f (W.alloc (.cells #[] 43)) B (.slice (some ⟨E, 0, none⟩) 0 0) 0 [] := by
  subst hE
  exact ⟨World.ownsRow_lit W #[] 0 hb (by simp) rfl, fun _ h => absurd h (by omega)⟩
theorem WordG.later {w0 w w' : World} {lo f B k : Nat} {v : Value} {zs : List Value} (h : WordG w0 lo f w B v k zs) (hb : Below w.heap.size w w') : WordG w0 lo f w' B v k zs :=
  ⟨h.own.kept (row := none) ⟨hb.os, hb.tape, hb.output, hb.size, fun i hi _ => hb.block i hi⟩ (by cases hv : v.ownBlock <;> simp), h.each⟩
theorem WordG.form {w0 w : World} {lo f B k : Nat} {v : Value} {zs : List Value} (h : WordG w0 lo f w B v k zs) : ∃ A c, v = .slice A k c := by
  rcases h.own.2 with ⟨rfl, rfl⟩ | ⟨g, cap, _, rfl, _⟩
  · exact ⟨none, 0, rfl⟩
  · exact ⟨some ⟨g, 0, none⟩, cap, rfl⟩
theorem WordG.snoc {w0 w w' : World} {lo f B k g cap : Nat} {v : Value} {zs : List Value} {nm : ByteArray} {Bm : Option Addr} {m c : Nat} {kk : Int} {xs : List Int} (h : WordG w0 lo f w B v k zs)
    (ho : w'.ownsRow B 43 3 (.slice (some ⟨g, 0, none⟩) (k + 1) cap) (k + 1) (zs ++ [.string nm, .slice Bm m c, .int .i64 kk])) (hm : m ≤ 3) (hnm : nm.size ≤ 9) (hf : 1 < f ∨ m = 0) (hx : ∀ w', Same lo none w0 w' → Ints w' Bm m xs) :
    WordG w0 lo f w' B (.slice (some ⟨g, 0, none⟩) (k + 1) cap) (k + 1) (zs ++ [.string nm, .slice Bm m c, .int .i64 kk]) := by
  have hl := h.own.1
  refine ⟨ho, fun j hj => ?_⟩
  by_cases e : j = k
  · subst e
    refine ⟨nm, Bm, m, c, kk, xs, hm, hnm, hf, ⟨?_, ?_, ?_⟩, hx⟩
    · rw [List.getElem?_append_right (by omega), hl, Nat.sub_self]; rfl
    · rw [List.getElem?_append_right (by omega), hl, Nat.add_sub_cancel_left]; rfl
    · rw [List.getElem?_append_right (by omega), hl, Nat.add_sub_cancel_left]; rfl
  · obtain ⟨nm', B', m', c', kk', xs', h0, h1, h2, ⟨g0, g1, g2⟩, h4⟩ := h.each j (by omega)
    refine ⟨nm', B', m', c', kk', xs', h0, h1, h2, ⟨?_, ?_, ?_⟩, h4⟩
    · rw [List.getElem?_append_left (by omega)]; exact g0
    · rw [List.getElem?_append_left (by omega)]; exact g1
    · rw [List.getElem?_append_left (by omega)]; exact g2

/-- What drawing a term gives. -/
def TermBack (f : Nat) (g : Nat) (A : Option Addr) (cap : Nat) (bs : List UInt8) (p k : Nat) (w : World) (e : Ending) (w' : World) : Prop :=
  ∃ (s : ByteArray) (v : Value) (m : Nat) (ts : List TermV) (zs : List Value) (B : Nat), e = .returned (.agg #[.string s, v]) ∧ (TermG w' B v m ts zs f ∧ (w.heap.size ≤ B ∧ B ≤ w'.heap.size) ∧ narrow (f + 1) ts ∧ (s.size ≤ 9 ∧ m ≤ 3)) ∧ Moved g A cap bs p k w w'
def AnyCall (f : Nat) : Prop := ∀ {g : Nat} {A : Option Addr} {cap : Nat} {bs : List UInt8} {p : Nat} {S : Option Addr} {n c lo : Nat} (sort x : Int) {w : World}, Rd w g A cap bs p → p + 4 ^ f ≤ 700000 → SigK w lo S n → g < lo → lo ≤ w.heap.size → x = (f : Int) → 1 ≤ f → f ≤ 4 →
    Calls Try.prog 81 #[.pointer (some ⟨g, 0, none⟩), .agg #[.slice S n c], .int .i64 sort, .int .i64 x] w (TermBack f g A cap bs p (4 ^ f) w)
theorem AnyCall.at {f : Nat} (H : AnyCall f) {g : Nat} {A : Option Addr} {cap : Nat} {bs : List UInt8} {p : Nat} {S : Option Addr} {n c lo : Nat} (sort x : Int) {w : World} (hR : Rd w g A cap bs p) (hp : p + 4 ^ f ≤ 700000) (hS : SigK w lo S n) (hg : g < lo) (hl : lo ≤ w.heap.size) (hx : x = (f : Int)) (h1 : 1 ≤ f) (h4 : f ≤ 4) :
    Calls Try.prog 81 #[.pointer (some ⟨g, 0, none⟩), .agg #[.slice S n c], .int .i64 sort, .int .i64 x] w (TermBack f g A cap bs p (4 ^ f) w) := H sort x hR hp hS hg hl hx h1 h4
set_option maxRecDepth 100000 in
set_option maxHeartbeats 8000000 in
theorem l4Any_of {f : Nat} (IH : ∀ f', f = f' + 1 → AnyCall f') : AnyCall f := by
  intro g A cap bs p S n c lo sort x w hR hp hS hglo hlo hx hf1 hf4
  have hg := hR.lt
  have HX := Lib.hid hx
  have hx1 : 1 ≤ x := by omega
  have hx4 : x ≤ 4 := by omega
  clear hx
  obtain ⟨f', rfl⟩ : ∃ f', f = f' + 1 := ⟨f - 1, by omega⟩
  have HI : Hid (AnyCall f') := Lib.hid (IH f' rfl)
  obtain ⟨P, hP⟩ : ∃ P, 4 ^ f' = P := ⟨_, rfl⟩
  have hP1 : 1 ≤ P := by rw [← hP]; exact Nat.pow_pos (by omega)
  have hP4 : 4 ^ (f' + 1) = 4 * P := by rw [Nat.pow_succ, hP]; omega
  have HP := Lib.hid hP
  rw [hP4] at hp ⊢
  clear hP hP4
  have hn9 := hS.few
  obtain ⟨j0, hj0, yj0, yj1, yj2⟩ := info_parts sym_info3
  obtain ⟨i0, hi, zi0, zi1, zi2⟩ := info_parts term_info2
  go_enter Try.func81, Try.ntmps81
  go_wp2_with fail
  go_loopw [9, 10] (fun v0 i wr => ∃ (k j : Nat) (v : Value) (zs : List Value), v = v0 ∧ i = .int .i64 j ∧ j ≤ n ∧ k ≤ j ∧ WordG w lo (f' + 1) wr (w.heap.size + 1 + 1) v k zs ∧ (wr.cell? ⟨w.heap.size, 0, none⟩ = some (.slice S n c) ∧ wr.cell? ⟨w.heap.size + 1, 0, none⟩ = some (.string ⟨#[]⟩) ∧ wr.cell? ⟨w.heap.size + 1, 1, none⟩ = some (.slice none 0 0)) ∧ (wr.frozen? ⟨w.heap.size + 1, 0, none⟩ = false ∧ wr.frozen? ⟨w.heap.size + 1, 1, none⟩ = false) ∧ Below w.heap.size w wr) (fun _ i _ => n - (intOf i).toNat)
  case atStart => exact ⟨0, 0, _, [], rfl, rfl, by omega, by omega, WordG.empty (by simp) (Nat.le_refl _), ⟨by go_simp, by go_simp, by go_simp⟩, ⟨by go_simp, by go_simp⟩, by (repeat (first | with_reducible exact Below.refl _ _ | with_reducible assumption | (with_reducible refine below_drewN ?_ _) | (with_reducible refine Below.drew ?_) | (with_reducible refine Below.setCell ?_ (by first | omega | (simp; done) | (simp; omega)) _) | (with_reducible refine Below.alloc ?_ (by first | omega | (simp; done) | (simp; omega)) _) | refine Below.trans ?_ (Below.mono (by with_reducible assumption) (by first | omega | (simp; done) | (simp; omega)))))⟩
  case round =>
    obtain ⟨k, j, v, zs, rfl, rfl, hjn, hkj, hG, ⟨hq0, hr0, hr1⟩, ⟨f0, f1⟩, hB⟩ := hrel
    have hzr := hB.size
    have hzt := World.block_lt_of_cell? _ _ hr0
    dsimp only at hzt
    obtain ⟨Av, cv, rfl⟩ := hG.form
    by_cases hlt : j < n
    · obtain ⟨bS, oS, rfl, hc⟩ := hS.cells (by omega)
      obtain ⟨nm, Bm, m, cm, kk, xs, hm, hnm, hw⟩ := hc j hlt
      obtain ⟨hbl, c0, c1, c2, hIx⟩ := hw wr (Same.below hB)
      have HIX : Hid (∀ w', Same lo none w w' → Ints w' Bm m xs) := Lib.hid (fun w' hk => (hw w' hk).2.2.2.2)
      clear hc hw hIx
      by_cases hks : kk = sort
      · obtain rfl : sort = kk := hks.symm
        have hke : (sort == sort) = true := by simp
        have hmi : (m : Int) ≤ 3 := by omega
        by_cases hd : 1 < x
        · have hfd : 1 < f' + 1 := by have := HX.out; omega
          go_wp2_with (first | (at_builtin; refine wpList_append_lies _ (by rfl) (.tmp 44) (.tmp 50) _ (by rfl) (w.heap.size + 1 + 1) 43 j0 _ 3 48 Try.underlying34 hj0 yj0 yj1 yj2 rfl (by omega) (.slice Av k cv) k zs (by rfl) (WordG.later hG (by (repeat (first | with_reducible exact Below.refl _ _ | with_reducible assumption | (with_reducible refine below_drewN ?_ _) | (with_reducible refine Below.drew ?_) | (with_reducible refine Below.setCell ?_ (by first | omega | (simp; done) | (simp; omega)) _) | (with_reducible refine Below.alloc ?_ (by first | omega | (simp; done) | (simp; omega)) _) | refine Below.trans ?_ (Below.mono (by with_reducible assumption) (by first | omega | (simp; done) | (simp; omega))))))).own ⟨wr.heap.size, 0, none⟩ 1 1 [.string nm, .slice Bm m cm, .int .i64 sort] (by rfl) (by rfl) (news3s rfl) (by simp [Value.oneCell']) (by omega) (by unfold maxLen; omega) (by omega) (by first | omega | (simp; omega)) _ rfl ?_; intro g' cap' wq hown3 hgrow hat hlt2))
          have hG2 := (WordG.later hG (w' := wr.alloc (.cells #[.string nm, .slice Bm m cm, .int .i64 sort] 43)) (by (repeat (first | with_reducible exact Below.refl _ _ | with_reducible assumption | (with_reducible refine below_drewN ?_ _) | (with_reducible refine Below.drew ?_) | (with_reducible refine Below.setCell ?_ (by first | omega | (simp; done) | (simp; omega)) _) | (with_reducible refine Below.alloc ?_ (by first | omega | (simp; done) | (simp; omega)) _) | refine Below.trans ?_ (Below.mono (by with_reducible assumption) (by first | omega | (simp; done) | (simp; omega))))))).snoc hown3 hm hnm (.inl hfd) HIX.out
          have hrj : ∀ j, (Value.slice Av k cv).ownBlock = some j → w.heap.size + 1 + 1 ≤ j := fun j hj => (hG.own.lt j hj).1
          have hno0 : some w.heap.size ≠ (Value.slice Av k cv).ownBlock := fun e => by have := hrj _ e.symm; omega
          have hno1 : some (w.heap.size + 1) ≠ (Value.slice Av k cv).ownBlock := fun e => by have := hrj _ e.symm; omega
          have hbW : Below wr.heap.size wr (wr.alloc (.cells #[.string nm, .slice Bm m cm, .int .i64 sort] 43)) := by (repeat (first | with_reducible exact Below.refl _ _ | with_reducible assumption | (with_reducible refine below_drewN ?_ _) | (with_reducible refine Below.drew ?_) | (with_reducible refine Below.setCell ?_ (by first | omega | (simp; done) | (simp; omega)) _) | (with_reducible refine Below.alloc ?_ (by first | omega | (simp; done) | (simp; omega)) _) | refine Below.trans ?_ (Below.mono (by with_reducible assumption) (by first | omega | (simp; done) | (simp; omega)))))
          have hs0 := through hbW hgrow hno0 hq0
          have hs1 := through hbW hgrow hno1 hr0
          have hs2 := through hbW hgrow hno1 hr1
          have hs3 := throughF hbW hgrow hno1 (by dsimp only; omega) f0
          have hs4 := throughF hbW hgrow hno1 (by dsimp only; omega) f1
          have hbq : Below w.heap.size w wq := Below.grown (hB.trans (hbW.mono hzr)) hgrow (by first | omega | (simp; done) | (simp; omega)) (fun j hj => by have := hrj j hj; omega)
          clear hown3 hgrow hat hlt2 hrj hno0 hno1 hbW
          go_wp2
          go_roundw
          case rel => exact ⟨k + 1, j + 1, _, _, rfl, by go_num, by omega, by omega, hG2, ⟨hs0, hs1, hs2⟩, ⟨hs3, hs4⟩, hbq⟩
          case measure => simp [intOf]; omega
        · clear hmi
          by_cases hm0 : m = 0
          · have hme : ((m : Int) == 0) = true := by rw [beq_iff_eq]; omega
            have HM0 := Lib.hid hm0
            clear hm0
            go_wp2_with (first | (at_builtin; refine wpList_append_lies _ (by rfl) (.tmp 44) (.tmp 50) _ (by rfl) (w.heap.size + 1 + 1) 43 j0 _ 3 48 Try.underlying34 hj0 yj0 yj1 yj2 rfl (by omega) (.slice Av k cv) k zs (by rfl) (WordG.later hG (by (repeat (first | with_reducible exact Below.refl _ _ | with_reducible assumption | (with_reducible refine below_drewN ?_ _) | (with_reducible refine Below.drew ?_) | (with_reducible refine Below.setCell ?_ (by first | omega | (simp; done) | (simp; omega)) _) | (with_reducible refine Below.alloc ?_ (by first | omega | (simp; done) | (simp; omega)) _) | refine Below.trans ?_ (Below.mono (by with_reducible assumption) (by first | omega | (simp; done) | (simp; omega))))))).own ⟨wr.heap.size, 0, none⟩ 1 1 [.string nm, .slice Bm m cm, .int .i64 sort] (by rfl) (by rfl) (news3s rfl) (by simp [Value.oneCell']) (by omega) (by unfold maxLen; omega) (by omega) (by first | omega | (simp; omega)) _ rfl ?_; intro g' cap' wq hown3 hgrow hat hlt2))
            have hG2 := (WordG.later hG (w' := wr.alloc (.cells #[.string nm, .slice Bm m cm, .int .i64 sort] 43)) (by (repeat (first | with_reducible exact Below.refl _ _ | with_reducible assumption | (with_reducible refine below_drewN ?_ _) | (with_reducible refine Below.drew ?_) | (with_reducible refine Below.setCell ?_ (by first | omega | (simp; done) | (simp; omega)) _) | (with_reducible refine Below.alloc ?_ (by first | omega | (simp; done) | (simp; omega)) _) | refine Below.trans ?_ (Below.mono (by with_reducible assumption) (by first | omega | (simp; done) | (simp; omega))))))).snoc hown3 hm hnm (.inr HM0.out) HIX.out
            have hrj : ∀ j, (Value.slice Av k cv).ownBlock = some j → w.heap.size + 1 + 1 ≤ j := fun j hj => (hG.own.lt j hj).1
            have hno0 : some w.heap.size ≠ (Value.slice Av k cv).ownBlock := fun e => by have := hrj _ e.symm; omega
            have hno1 : some (w.heap.size + 1) ≠ (Value.slice Av k cv).ownBlock := fun e => by have := hrj _ e.symm; omega
            have hbW : Below wr.heap.size wr (wr.alloc (.cells #[.string nm, .slice Bm m cm, .int .i64 sort] 43)) := by (repeat (first | with_reducible exact Below.refl _ _ | with_reducible assumption | (with_reducible refine below_drewN ?_ _) | (with_reducible refine Below.drew ?_) | (with_reducible refine Below.setCell ?_ (by first | omega | (simp; done) | (simp; omega)) _) | (with_reducible refine Below.alloc ?_ (by first | omega | (simp; done) | (simp; omega)) _) | refine Below.trans ?_ (Below.mono (by with_reducible assumption) (by first | omega | (simp; done) | (simp; omega)))))
            have hs0 := through hbW hgrow hno0 hq0
            have hs1 := through hbW hgrow hno1 hr0
            have hs2 := through hbW hgrow hno1 hr1
            have hs3 := throughF hbW hgrow hno1 (by dsimp only; omega) f0
            have hs4 := throughF hbW hgrow hno1 (by dsimp only; omega) f1
            have hbq : Below w.heap.size w wq := Below.grown (hB.trans (hbW.mono hzr)) hgrow (by first | omega | (simp; done) | (simp; omega)) (fun j hj => by have := hrj j hj; omega)
            clear hown3 hgrow hat hlt2 hrj hno0 hno1 hbW
            go_wp2
            go_roundw
            case rel => exact ⟨k + 1, j + 1, _, _, rfl, by go_num, by omega, by omega, hG2, ⟨hs0, hs1, hs2⟩, ⟨hs3, hs4⟩, hbq⟩
            case measure => simp [intOf]; omega
          · have hme : ((m : Int) == 0) = false := by rw [beq_eq_false_iff_ne]; omega
            go_wp2
            go_roundw
            case rel => exact ⟨k, j + 1, _, zs, rfl, by go_num, by omega, by omega, hG, ⟨hq0, hr0, hr1⟩, ⟨f0, f1⟩, hB⟩
            case measure => simp [intOf]; omega
      · have hke : (kk == sort) = false := by simpa using hks
        go_wp2
        go_roundw
        case rel => exact ⟨k, j + 1, _, zs, rfl, by go_num, by omega, by omega, hG, ⟨hq0, hr0, hr1⟩, ⟨f0, f1⟩, hB⟩
        case measure => simp [intOf]; omega
    · obtain rfl : j = n := by omega
      have hRr := hR.grown hB
      by_cases hk0 : k = 0
      · subst hk0
        go_wp2
        refine bodyPost_ret (v := .agg #[.string ⟨#[113]⟩, .slice none 0 0]) (by simp only [results, Try.results81]; go_simp) rfl ⟨_, _, 0, [], [], w.heap.size, rfl, ⟨TermG.nil _ _ _, ⟨by omega, by simp [World.setCell]; omega⟩, narrow.nil _, by decide, by omega⟩, ⟨⟨p, by omega, ?_⟩, ?_⟩⟩
        · (repeat (first | with_reducible exact hRr | refine Rd.far ?_ (by first | omega | (simp; done) | (simp; omega)) _ | refine Rd.alloc ?_ _ | refine Rd.drewN ?_ _ | refine Rd.drew ?_))
        · exact Only.out (Only.out (Only.of_below hB) (by dsimp only; omega) _) (by dsimp only; omega) _
      have hk1 : ((k : Int) == 0) = false := by rw [beq_eq_false_iff_ne]; omega
      obtain ⟨gw, capw, e, _⟩ := hG.own.form (by omega)
      simp only [Value.slice.injEq] at e
      obtain ⟨rfl, _, rfl⟩ := e
      have hgw := hG.own.lt gw rfl
      have hzl := hG.own.1
      go_wp2_with fail
      refine (pick_any (k : Int) hRr (by omega) (by omega) (by omega)).mono ?_
      rintro e w2 ⟨r, rfl, hr⟩
      have hr0' := hr.lo
      have hr1' := hr.hi (by omega)
      obtain ⟨ri, rfl⟩ := Int.eq_ofNat_of_zero_le hr0'
      have hri : ri < k := by omega
      obtain ⟨nm, Bm, m, cm, kk, xs, hm, hnm, hfm, ⟨z0, z1, z2⟩, hIX⟩ := hG.each ri hri
      have HIX := Lib.hid hIX
      have HFM := Lib.hid hfm
      have d0 : w2.cell? ⟨gw, ri * 3, none⟩ = some (.string nm) := onlyCell hr.only (by dsimp only; omega) ((hG.own.cellAt _ (by omega)).trans z0)
      have d1 : w2.cell? ⟨gw, ri * 3 + 1, none⟩ = some (.slice Bm m cm) := onlyCell hr.only (by dsimp only; omega) ((hG.own.cellAt _ (by omega)).trans z1)
      have d2 : w2.cell? ⟨gw, ri * 3 + 2, none⟩ = some (.int .i64 kk) := onlyCell hr.only (by dsimp only; omega) ((hG.own.cellAt _ (by omega)).trans z2)
      have e0 : w2.cell? ⟨w.heap.size, 0, none⟩ = _ := onlyCell hr.only (by dsimp only; omega) hq0
      have e1 : w2.cell? ⟨w.heap.size + 1, 0, none⟩ = _ := onlyCell hr.only (by dsimp only; omega) hr0
      have e2 : w2.cell? ⟨w.heap.size + 1, 1, none⟩ = _ := onlyCell hr.only (by dsimp only; omega) hr1
      have e3 : w2.frozen? ⟨w.heap.size + 1, 0, none⟩ = false := onlyF hr.only (by dsimp only; omega) (by dsimp only; omega) f0
      have e4 : w2.frozen? ⟨w.heap.size + 1, 1, none⟩ = false := onlyF hr.only (by dsimp only; omega) (by dsimp only; omega) f1
      have hO2 : Only g w w2 := (Only.of_below hB).trans hr.only
      have hR2 := hr.rd
      have hz2 := hr.only.size
      have hww : w.heap.size + 1 < w2.heap.size := by omega
      have hgw2 : gw < w2.heap.size := by omega
      have hwa : w.heap.size < w2.heap.size := by omega
      have hwb : w.heap.size ≤ w2.heap.size := by omega
      have hwc : w.heap.size + 1 ≤ w2.heap.size := by omega
      clear hr hG hB z0 z1 z2 hIX hfm hq0 hr0 hr1 f0 f1 hzt hRr hzl hr0' hr1'
      go_wp2_with fail
      go_loopw [13] (fun i wr => ∃ (q : Nat) (v : Value) (us : List TermV) (zs : List Value) (pp : Nat), q ≤ m ∧ i = .int .i64 q ∧ TermG wr (w2.heap.size + 1 + 1) v q us zs (f' + 1) ∧ narrow (f' + 1 + 1) us ∧ (wr.cell? ⟨w.heap.size, 0, none⟩ = some (.slice S j c) ∧ wr.cell? ⟨w.heap.size + 1, 0, none⟩ = some (.string ⟨#[]⟩) ∧ wr.cell? ⟨w.heap.size + 1, 1, none⟩ = some (.slice none 0 0) ∧ wr.cell? ⟨w2.heap.size, 1, none⟩ = some (.slice Bm m cm) ∧ wr.cell? ⟨w2.heap.size + 1, 0, none⟩ = some (.string nm) ∧ wr.cell? ⟨w2.heap.size + 1, 1, none⟩ = some v) ∧ (wr.frozen? ⟨w.heap.size + 1, 0, none⟩ = false ∧ wr.frozen? ⟨w.heap.size + 1, 1, none⟩ = false ∧ wr.frozen? ⟨w2.heap.size + 1, 0, none⟩ = false ∧ wr.frozen? ⟨w2.heap.size + 1, 1, none⟩ = false) ∧ Rd wr g A cap bs pp ∧ pp ≤ p + 1 + q * P ∧ Only g w wr ∧ w2.heap.size + 1 < wr.heap.size) (fun i _ => m - (intOf i).toNat)
      case atStart =>
        refine ⟨0, .slice none 0 0, [], [], p + 1, by omega, rfl, TermG.nil _ _ _, narrow.nil _, ⟨by go_simp, by go_simp, by go_simp, by go_simp, by go_simp, by go_simp⟩, ⟨by go_simp, by go_simp, by go_simp, by go_simp⟩, ?_, by omega, ?_, by simp⟩
        · (repeat (first | with_reducible exact hR2 | refine Rd.far ?_ (by first | omega | (simp; done) | (simp; omega)) _ | refine Rd.alloc ?_ _ | refine Rd.drewN ?_ _ | refine Rd.drew ?_))
        · exact Only.below hO2 (by (repeat (first | with_reducible exact Below.refl _ _ | with_reducible assumption | (with_reducible refine below_drewN ?_ _) | (with_reducible refine Below.drew ?_) | (with_reducible refine Below.setCell ?_ (by first | omega | (simp; done) | (simp; omega)) _) | (with_reducible refine Below.alloc ?_ (by first | omega | (simp; done) | (simp; omega)) _) | refine Below.trans ?_ (Below.mono (by with_reducible assumption) (by first | omega | (simp; done) | (simp; omega))))))
      case round =>
        clear e0 e1 e2 e3 e4 hO2 hR2 d0 d1 d2
        obtain ⟨q, v, us, zs, pp, hqm, rfl, hG, hnar, ⟨hq0, hr0, hr1, hx1c, ht0, ht1⟩, ⟨f0, f1, f2, f3⟩, hRr, hpp, hO, hzw⟩ := hrel
        obtain ⟨Av, cv, rfl⟩ := hG.form
        by_cases hlt : q < m
        · have hf1' : 1 ≤ f' := by rcases HFM.out with h | h <;> omega
          have hI2 := HIX.out wr (Same.only hO hglo)
          obtain ⟨qb, qo, rfl, hqb, _⟩ := hI2.cells (by omega)
          have hqP : (q + 1) * P ≤ 3 * P := Nat.mul_le_mul_right P (by omega)
          have hqP2 : (q + 1) * P = q * P + P := by rw [Nat.add_mul, Nat.one_mul]
          obtain ⟨y, hy⟩ : ∃ y, xs.getD q 0 = y := ⟨_, rfl⟩
          have argc : Hid (∀ w', Same lo none w w' → w'.cell? ⟨qb, qo + q, none⟩ = some (.int .i64 y)) := Lib.hid (fun w' hk => by rw [← hy]; exact ints_cell (HIX.out w' hk) hlt)
          have HXX := Lib.hid (show x - 1 = (f' : Int) by have := HX.out; omega)
          have HSG : Hid (SigK wr.drew lo S j) := Lib.hid (hS.step (Same.only (Only.drew hO) hglo))
          have HN := Lib.hid hnar
          have hul := hG.len
          have hwz : w.heap.size ≤ wr.heap.size := by omega
          have hlz : lo ≤ wr.heap.size := by omega
          clear hy hI2 hnar
          have hC4 : wr.cell? ⟨w2.heap.size + 1, 1, none⟩ = some (.slice Av q cv) ∧ wr.cell? ⟨w.heap.size, 0, none⟩ = some (.slice S j c) ∧ wr.cell? ⟨w2.heap.size, 1, none⟩ = some (.slice (some ⟨qb, qo, none⟩) m cm) ∧ wr.cell? ⟨qb, qo + q, none⟩ = some (.int .i64 y) := ⟨ht1, hq0, hx1c, argc.out wr (Same.only hO hglo)⟩
          go_wp2_with fail
          refine wp_region_T2 14 (fun w' => w'.cell? ⟨w2.heap.size + 1, 1, none⟩ = some (.slice Av q cv) ∧ w'.cell? ⟨w.heap.size, 0, none⟩ = some (.slice S j c) ∧ w'.cell? ⟨w2.heap.size, 1, none⟩ = some (.slice (some ⟨qb, qo, none⟩) m cm) ∧ w'.cell? ⟨qb, qo + q, none⟩ = some (.int .i64 y)) (by kernel_rfl) (by kernel_rfl) ?_ (fun hHeld => ?_)
          · exact hC4
          (refine wpAnyT_take (i := 0) (v := ?_) (by simp only [List.getElem?_toArray, List.getElem?_cons_succ, List.getElem?_cons_zero]; rfl) (by kernel_rfl) (by kernel_rfl) (by kernel_rfl) (by kernel_rfl) (by intro _ _ _ h; exact h) (Or.inl ⟨by rfl, ?_⟩) (by assumption) ?_; rotate_left; (focus (intro wS hSw; (try dsimp only at hSw); go_simp; (try with_reducible rfl))); (try simp only [Act.put, List.setIfInBounds_toArray, List.set_cons_zero, List.set_cons_succ]))
          (refine wpAnyT_take (i := 1) (v := ?_) (by simp only [List.getElem?_toArray, List.getElem?_cons_succ, List.getElem?_cons_zero]; rfl) (by kernel_rfl) (by kernel_rfl) (by kernel_rfl) (by kernel_rfl) (by intro _ _ _ h; exact h) (Or.inl ⟨by rfl, ?_⟩) (by assumption) ?_; rotate_left; (focus (intro wS hSw; (try dsimp only at hSw); go_simp; (try with_reducible rfl))); (try simp only [Act.put, List.setIfInBounds_toArray, List.set_cons_zero, List.set_cons_succ]))
          (refine wpAnyT_take (i := 2) (v := ?_) (by simp only [List.getElem?_toArray, List.getElem?_cons_succ, List.getElem?_cons_zero]; rfl) (by kernel_rfl) (by kernel_rfl) (by kernel_rfl) (by kernel_rfl) (by intro _ _ _ h; exact h) (Or.inl ⟨by rfl, ?_⟩) (by assumption) ?_; rotate_left; (focus (intro wS hSw; (try dsimp only at hSw); go_simp; (try with_reducible rfl))); (try simp only [Act.put, List.setIfInBounds_toArray, List.set_cons_zero, List.set_cons_succ]))
          (refine wpAnyT_take (i := 3) (v := ?_) (by simp only [List.getElem?_toArray, List.getElem?_cons_succ, List.getElem?_cons_zero]; rfl) (by kernel_rfl) (by kernel_rfl) (by kernel_rfl) (by kernel_rfl) (by intro _ _ _ h; exact h) (Or.inl ⟨by rfl, ?_⟩) (by assumption) ?_; rotate_left; (focus (intro wS hSw; (try dsimp only at hSw); go_simp; (try with_reducible rfl))); (try simp only [Act.put, List.setIfInBounds_toArray, List.set_cons_zero, List.set_cons_succ]))
          (refine wpAnyT_take (i := 4) (v := ?_) (by simp only [List.getElem?_toArray, List.getElem?_cons_succ, List.getElem?_cons_zero]; rfl) (by kernel_rfl) (by kernel_rfl) (by kernel_rfl) (by kernel_rfl) (by intro _ _ _ h; exact h) (Or.inl ⟨by rfl, ?_⟩) (by assumption) ?_; rotate_left; (focus (intro wS hSw; (try dsimp only at hSw); go_simp; (try with_reducible rfl))); (try simp only [Act.put, List.setIfInBounds_toArray, List.set_cons_zero, List.set_cons_succ]))
          (refine wpAnyT_take (i := 5) (v := ?_) (by simp only [List.getElem?_toArray, List.getElem?_cons_succ, List.getElem?_cons_zero]; rfl) (by kernel_rfl) (by kernel_rfl) (by kernel_rfl) (by kernel_rfl) (by intro _ _ _ h; exact h) (Or.inl ⟨by rfl, ?_⟩) (by assumption) ?_; rotate_left; (focus (intro wS hSw; (try dsimp only at hSw); go_simp; (try with_reducible rfl))); (try simp only [Act.put, List.setIfInBounds_toArray, List.set_cons_zero, List.set_cons_succ]))
          (refine wpAnyT_take (i := 6) (v := ?_) (by simp only [List.getElem?_toArray, List.getElem?_cons_succ, List.getElem?_cons_zero]; rfl) (by kernel_rfl) (by kernel_rfl) (by kernel_rfl) (by kernel_rfl) (by intro _ _ _ h; exact h) (Or.inl ⟨by rfl, ?_⟩) (by assumption) ?_; rotate_left; (focus (intro wS hSw; (try dsimp only at hSw); go_simp; (try with_reducible rfl))); (try simp only [Act.put, List.setIfInBounds_toArray, List.set_cons_zero, List.set_cons_succ]))
          (refine wpAnyT_take (i := 7) (v := ?_) (by simp only [List.getElem?_toArray, List.getElem?_cons_succ, List.getElem?_cons_zero]; rfl) (by kernel_rfl) (by kernel_rfl) (by kernel_rfl) (by kernel_rfl) (by intro _ _ _ h; exact h) (Or.inl ⟨by rfl, ?_⟩) (by assumption) ?_; rotate_left; (focus (intro wS hSw; (try dsimp only at hSw); go_simp; (try with_reducible rfl))); (try simp only [Act.put, List.setIfInBounds_toArray, List.set_cons_zero, List.set_cons_succ]))
          (refine wpAnyT_take (i := 8) (v := ?_) (by simp only [List.getElem?_toArray, List.getElem?_cons_succ, List.getElem?_cons_zero]; rfl) (by kernel_rfl) (by kernel_rfl) (by kernel_rfl) (by kernel_rfl) (by intro _ _ _ h; exact h) (Or.inl ⟨by rfl, ?_⟩) (by assumption) ?_; rotate_left; (focus (intro wS hSw; (try dsimp only at hSw); go_simp; (try with_reducible rfl))); (try simp only [Act.put, List.setIfInBounds_toArray, List.set_cons_zero, List.set_cons_succ]))
          (refine wpAnyT_take (i := 9) (v := ?_) (by simp only [List.getElem?_toArray, List.getElem?_cons_succ, List.getElem?_cons_zero]; rfl) (by kernel_rfl) (by kernel_rfl) (by kernel_rfl) (by kernel_rfl) (by intro _ _ _ h; exact h) (Or.inl ⟨by rfl, ?_⟩) (by assumption) ?_; rotate_left; (focus (intro wS hSw; (try dsimp only at hSw); go_simp; (try with_reducible rfl))); (try simp only [Act.put, List.setIfInBounds_toArray, List.set_cons_zero, List.set_cons_succ]))
          (refine wpAnyT_take (i := 10) (v := ?_) (by simp only [List.getElem?_toArray, List.getElem?_cons_succ, List.getElem?_cons_zero]; rfl) (by kernel_rfl) (by kernel_rfl) (by kernel_rfl) (by kernel_rfl) (by intro _ _ _ h; exact h) (Or.inl ⟨by rfl, ?_⟩) (by assumption) ?_; rotate_left; (focus (intro wS hSw; (try dsimp only at hSw); go_simp; (try with_reducible rfl))); (try simp only [Act.put, List.setIfInBounds_toArray, List.set_cons_zero, List.set_cons_succ]))
          refine wpAnyT_ready (rs := [11]) (by kernel_rfl) (by kernel_rfl) ?_
          refine AllReadyT.cons (by simp only [List.getElem?_toArray, List.getElem?_cons_succ, List.getElem?_cons_zero]; rfl) (fun K hK => ?_) AllReadyT.nil
          (go_simp; rw [show IntKind.i64.wrap (x - 1) = x - 1 from IntWalk.i64_in _ (by omega)]; (refine (AnyCall.at HI.out (g := g) (A := A) (cap := cap) (bs := bs) (p := pp) (S := S) (n := j) (c := c) (lo := lo) y (x - 1) (by (repeat (first | with_reducible exact hRr | refine Rd.far ?_ (by first | omega | (simp; done) | (simp; omega)) _ | refine Rd.alloc ?_ _ | refine Rd.drewN ?_ _ | refine Rd.drew ?_))) (by have := HP.out; omega) HSG.out hglo (by first | exact hlz | (simp; omega)) HXX.out hf1' (by omega)).mono ?_); rintro e w3 ⟨s1, v1, m1, ts1, zs1, B1, rfl, ⟨hG1, ⟨hB1, _⟩, hnar1, ⟨hs1, _⟩⟩, ⟨⟨p1, hp1, hR3⟩, hO3⟩⟩; obtain ⟨A1, c1, rfl⟩ := hG1.form; (try simp at hB1); have hO3' : Only g wr w3 := (Only.drew (Only.refl g wr)).trans hO3; have hz3 := hO3'.size)
          refine hK.out _ _ ?_ (fun hHeld => ?_)
          · (try dsimp only)
            exact ⟨onlyCell hO3' (by dsimp only; omega) hC4.1, onlyCell hO3' (by dsimp only; omega) hC4.2.1, onlyCell hO3' (by dsimp only; omega) hC4.2.2.1, argc.out w3 (Same.only (hO.trans hO3') hglo)⟩
          clear hK K
          (try simp only [Act.put, List.setIfInBounds_toArray, List.set_cons_zero, List.set_cons_succ])
          have hC43 : w3.cell? ⟨w2.heap.size + 1, 1, none⟩ = some (.slice Av q cv) ∧ w3.cell? ⟨w.heap.size, 0, none⟩ = some (.slice S j c) ∧ w3.cell? ⟨w2.heap.size, 1, none⟩ = some (.slice (some ⟨qb, qo, none⟩) m cm) ∧ w3.cell? ⟨qb, qo + q, none⟩ = some (.int .i64 y) := hHeld
          refine wpAnyT_ready (rs := [12]) (by kernel_rfl) (by kernel_rfl) ?_
          refine AllReadyT.cons (by simp only [List.getElem?_toArray, List.getElem?_cons_succ, List.getElem?_cons_zero]; rfl) (fun K hK => ?_) AllReadyT.nil
          go_simp
          refine hK.out _ _ ?_ (fun hHeld => ?_)
          · (try dsimp only)
            exact keep4 hC43 (by (repeat (first | with_reducible exact Below.refl _ _ | with_reducible assumption | (with_reducible refine below_drewN ?_ _) | (with_reducible refine Below.drew ?_) | (with_reducible refine Below.setCell ?_ (by first | omega | (simp; done) | (simp; omega)) _) | (with_reducible refine Below.alloc ?_ (by first | omega | (simp; done) | (simp; omega)) _) | refine Below.trans ?_ (Below.mono (by with_reducible assumption) (by first | omega | (simp; done) | (simp; omega))))))
          clear hK K
          (try simp only [Act.put, List.setIfInBounds_toArray, List.set_cons_zero, List.set_cons_succ])
          have hG3 : TermG (w3.alloc (.cells #[.string s1, .slice A1 m1 c1] 30)) (w2.heap.size + 1 + 1) (.slice Av q cv) q us zs (f' + 1) := TermG.alloc (hG.only hO3' (by omega)) _
          have hG1k := hG1.kids (by have := hnar1.few; have := hG1.len; omega)
          have hOW : Only g wr (w3.alloc (.cells #[.string s1, .slice A1 m1 c1] 30)) := Only.below hO3' ((Below.refl _ _).alloc (Nat.le_refl _) _)
          have hRW : Rd (w3.alloc (.cells #[.string s1, .slice A1 m1 c1] 30)) g A cap bs p1 := hR3.alloc _
          refine wpAnyT_ready (rs := [13]) (by kernel_rfl) (by kernel_rfl) ?_
          refine AllReadyT.cons (by simp only [List.getElem?_toArray, List.getElem?_cons_succ, List.getElem?_cons_zero]; rfl) (fun K hK => ?_) AllReadyT.nil
          ((refine step_append_lies _ (by rfl) (.tmp 74) (.tmp 85) _ (by rfl) (w2.heap.size + 1 + 1) 30 i0 _ 2 40 Try.underlying28 hi zi0 zi1 zi2 rfl (by omega) (.slice Av q cv) q zs (by rfl) hG3.own ⟨w3.heap.size, 0, none⟩ 1 1 [.string s1, .slice A1 m1 c1] (by rfl) (by rfl) (news2 (by first | rfl | (simp; done))) (by simp [Value.oneCell']) (by omega) (by unfold maxLen; omega) (by omega) (by first | omega | (simp; omega)) _ rfl ?_); intro g' cap' wq hown3 hgrow hat hlt2; have hG4 := hG3.app (us := [.mk s1 ts1]) hown3 hgrow hat rfl rfl (fun j hj => by (obtain rfl : j = 0 := (by omega)); exact ⟨_, _, _, (hG1k.into hG.own (by omega) (by omega)).step (Same.below (by (repeat (first | with_reducible exact Below.refl _ _ | with_reducible assumption | (with_reducible refine below_drewN ?_ _) | (with_reducible refine Below.drew ?_) | (with_reducible refine Below.setCell ?_ (by first | omega | (simp; done) | (simp; omega)) _) | (with_reducible refine Below.alloc ?_ (by first | omega | (simp; done) | (simp; omega)) _) | refine Below.trans ?_ (Below.mono (by with_reducible assumption) (by first | omega | (simp; done) | (simp; omega))))))), (by show s1.size ≤ _; omega), rfl, rfl⟩); have hrj : ∀ j, (Value.slice Av q cv).ownBlock = some j → w2.heap.size + 1 + 1 ≤ j := (fun j hj => (hG.own.lt j hj).1); have hno0 : some w.heap.size ≠ (Value.slice Av q cv).ownBlock := (fun e => by have := hrj _ e.symm; omega); have hno1 : some (w.heap.size + 1) ≠ (Value.slice Av q cv).ownBlock := (fun e => by have := hrj _ e.symm; omega); have hno2 : some w2.heap.size ≠ (Value.slice Av q cv).ownBlock := (fun e => by have := hrj _ e.symm; omega); have hno3 : some (w2.heap.size + 1) ≠ (Value.slice Av q cv).ownBlock := (fun e => by have := hrj _ e.symm; omega); have hOq : Only g w wq := onlyRow (hO.trans hOW) hgrow (fun j hj => by have := hrj j hj; omega); have hRq : Rd wq g A cap bs p1 := Rd.aside hRW hgrow (fun j hj => by have := hrj j hj; omega); have hzq := hgrow.size; (try simp at hzq))
          refine hK.out _ _ ?_ (fun hHeld => ?_)
          · (try dsimp only)
            exact ⟨throughO hOW hgrow hno3 (by dsimp only; omega) hC4.1, throughO hOW hgrow hno0 (by dsimp only; omega) hC4.2.1, throughO hOW hgrow hno2 (by dsimp only; omega) hC4.2.2.1, argc.out wq (Same.only hOq hglo)⟩
          clear hK K
          (try simp only [Act.put, List.setIfInBounds_toArray, List.set_cons_zero, List.set_cons_succ])
          refine wpAnyT_done (by kernel_rfl) ?_
          simp only [List.drop_succ_cons, List.drop_zero]
          have hs0 := throughO hOW hgrow hno0 (by dsimp only; omega) hq0
          have hs1' := throughO hOW hgrow hno1 (by dsimp only; omega) hr0
          have hs2 := throughO hOW hgrow hno1 (by dsimp only; omega) hr1
          have hs3 := throughO hOW hgrow hno2 (by dsimp only; omega) hx1c
          have hs4 := throughO hOW hgrow hno3 (by dsimp only; omega) ht0
          have hs5 := throughO hOW hgrow hno3 (by dsimp only; omega) ht1
          have hs6 := throughOF hOW hgrow hno1 (by dsimp only; omega) (by dsimp only; omega) f0
          have hs7 := throughOF hOW hgrow hno1 (by dsimp only; omega) (by dsimp only; omega) f1
          have hs8 := throughOF hOW hgrow hno3 (by dsimp only; omega) (by dsimp only; omega) f2
          have hs9 := throughOF hOW hgrow hno3 (by dsimp only; omega) (by dsimp only; omega) f3
          have HG5 := Lib.hid (hG4.set (p := ⟨w2.heap.size + 1, 1, none⟩) (by dsimp only; omega) (.slice (some ⟨g', 0, none⟩) (q + 1) cap'))
          have HNN := Lib.hid (HN.out.snoc (s := s1) (by omega) hnar1)
          have HRN := Lib.hid (Rd.far (q := ⟨w2.heap.size + 1, 1, none⟩) hRq (by dsimp only; omega) (.slice (some ⟨g', 0, none⟩) (q + 1) cap'))
          have HON := Lib.hid (Only.out (p := ⟨w2.heap.size + 1, 1, none⟩) hOq (by dsimp only; omega) (.slice (some ⟨g', 0, none⟩) (q + 1) cap'))
          clear hown3 hgrow hat hlt2 hno0 hno1 hno2 hno3 hrj hOW hRW hG3 hG4 hG1k hG1 hC4 hC43 hO3 hO3' hnar1 hRq hOq
          go_wp2
          go_roundw
          case rel => exact ⟨q + 1, _, _, _, p1, by omega, by go_num, HG5.out, HNN.out, ⟨by go_simp, by go_simp, by go_simp, by go_simp, by go_simp, by go_simp⟩, ⟨by go_simp, by go_simp, by go_simp, by go_simp⟩, HRN.out, by have := HP.out; omega, HON.out, by simp [World.setCell]; omega⟩
          case measure => simp [intOf]; omega
        · obtain rfl : q = m := by omega
          have hqP : q * P ≤ 3 * P := Nat.mul_le_mul_right P hm
          go_wp2
          refine bodyPost_ret (v := .agg #[.string nm, .slice Av q cv]) (by simp only [results, Try.results81]; go_simp) rfl ⟨nm, _, q, us, zs, w2.heap.size + 1 + 1, rfl, ⟨?_, ⟨by omega, by simp [World.setCell]; omega⟩, hnar, hnm, hm⟩, ⟨⟨pp, by omega, ?_⟩, ?_⟩⟩
          · exact (hG.set (by dsimp only; omega) _).set (by dsimp only; omega) _
          · (repeat (first | with_reducible exact hRr | refine Rd.far ?_ (by first | omega | (simp; done) | (simp; omega)) _ | refine Rd.alloc ?_ _ | refine Rd.drewN ?_ _ | refine Rd.drew ?_))
          · exact Only.out (Only.out hO (by dsimp only; omega) _) (by dsimp only; omega) _
theorem l4Any_any : ∀ f, AnyCall f
  | 0 => fun _ _ _ _ _ _ _ h => by omega
  | f + 1 => l4Any_of (fun f' e => by obtain rfl : f = f' := by omega
                                      exact l4Any_any f)
end Go.Proofs.Ytgmeoblapnmpiaa

/- Explanations as arguments; explanations compared. -/
import Derived.Test.YtgmeoblapnmpiaaWh
namespace Go.Proofs.Ytgmeoblapnmpiaa
set_option maxRecDepth 100000
open Go.RowKit Go.ChangeShapes Go.WideShapes Go.ChangeAt
set_option linter.unusedSimpArgs false
set_option linter.unusedVariables false


def EqwCall (q d : Nat) : Prop := ∀ {B B' A A' : Option Addr} {m cb cb' n c c' lo lo' : Nat} {tk : List TermV} {ks : List WhyV} (x y : Int) (s : ByteArray) {w : World}, Kids w lo q B m tk → Kids w lo' q B' m tk → Whys w lo q d A n ks → Whys w lo' q d A' n ks →
    Calls Try.prog 30 #[.agg #[.int .i64 x, .int .i64 y, .string s, .slice B m cb, .slice A n c], .agg #[.int .i64 x, .int .i64 y, .string s, .slice B' m cb', .slice A' n c']] w fun e w' => e = .returned (.bool true) ∧ Below w.heap.size w w'
set_option maxHeartbeats 4000000 in
theorem eqWhyS_of {q d : Nat} (IH : ∀ d', d = d' + 1 → EqwCall q d') {A A' : Option Addr} {n c c' lo lo' : Nat} {ks : List WhyV} {w : World} (h : Whys w lo q d A n ks) (h' : Whys w lo' q d A' n ks) :
    Calls Try.prog 58 #[.slice A n c, .slice A' n c'] w fun e w' => e = .returned (.bool true) ∧ Below w.heap.size w w' := by
  have hfew := h.few
  go_enter Try.func58, Try.ntmps58
  go_wp2_with fail
  go_loopw [5] (fun i wr => ∃ k : Nat, k ≤ n ∧ i = .int .i64 k ∧ Below w.heap.size w wr) (fun i _ => n - (intOf i).toNat)
  case atStart => exact ⟨0, by omega, rfl, by (repeat (first | with_reducible exact Below.refl _ _ | with_reducible assumption | (with_reducible refine below_drewN ?_ _) | (with_reducible refine Below.drew ?_) | (with_reducible refine Below.setCell ?_ (by first | omega | (simp; done) | (simp; omega)) _) | (with_reducible refine Below.alloc ?_ (by first | omega | (simp; done) | (simp; omega)) _) | refine Below.trans ?_ (Below.mono (by with_reducible assumption) (by first | omega | (simp; done) | (simp; omega)))))⟩
  case round =>
    obtain ⟨k, hk, rfl, hB⟩ := hrel
    by_cases hlt : k < n
    · obtain ⟨d', p, o, rfl, rfl, hpl, hp, hcs⟩ := (h.later hB).cells (by omega)
      obtain ⟨B, m, cb, E, u, cu, ⟨hc1, hc2, hc3, hc4, hc5⟩, hIk, hWk, hsf⟩ := hcs k hlt
      clear hcs
      obtain ⟨d2, p', o', ed, rfl, hpl', hp', hcs'⟩ := (h'.later hB).cells (by omega)
      obtain rfl : d' = d2 := by omega
      obtain ⟨B', m', cb', E', u', cu', ⟨hc6, hc7, hc8, hc9, hc10⟩, hIk', hWk', hsf'⟩ := hcs' k hlt
      clear hcs'
      have HI : Hid (EqwCall q d') := Lib.hid (IH d' rfl)
      obtain rfl : m = m' := hIk.len.symm.trans hIk'.len
      obtain rfl : u = u' := hWk.len.symm.trans hWk'.len
      generalize (ks.getD k wy0).rule = x at *
      generalize (ks.getD k wy0).num = y at *
      generalize (ks.getD k wy0).tn = s at *
      generalize (ks.getD k wy0).tk = qs at *
      generalize (ks.getD k wy0).kids = us at *
      have c1 := Lib.hid (fun (W : World) (hW : Below wr.heap.size wr W) (st : Grown W) => HI.out (cb := cb) (cb' := cb') (c := cu) (c' := cu') x y s (hIk.later (hW.trans (st.ok.mono hW.size))) (hIk'.later (hW.trans (st.ok.mono hW.size))) (hWk.later (hW.trans (st.ok.mono hW.size))) (hWk'.later (hW.trans (st.ok.mono hW.size))))
      go_wp2_with fail
      refine wp_region_grown (by kernel_rfl) (by kernel_rfl) ?_
      refine quiet_with (a := ⟨p, o + k * 5, none⟩) (v := .int .i64 x) hc1 ?_; intro g
      refine quiet_with (a := ⟨p, o + k * 5 + 1, none⟩) (v := .int .i64 y) hc2 ?_; intro g
      refine quiet_with (a := ⟨p, o + k * 5 + 2, none⟩) (v := .string s) hc3 ?_; intro g
      refine quiet_with (a := ⟨p, o + k * 5 + 3, none⟩) (v := .slice B m cb) hc4 ?_; intro g
      refine quiet_with (a := ⟨p, o + k * 5 + 4, none⟩) (v := .slice E u cu) hc5 ?_; intro g
      refine quiet_with (a := ⟨p', o' + k * 5, none⟩) (v := .int .i64 x) hc6 ?_; intro g
      refine quiet_with (a := ⟨p', o' + k * 5 + 1, none⟩) (v := .int .i64 y) hc7 ?_; intro g
      refine quiet_with (a := ⟨p', o' + k * 5 + 2, none⟩) (v := .string s) hc8 ?_; intro g
      refine quiet_with (a := ⟨p', o' + k * 5 + 3, none⟩) (v := .slice B' m cb') hc9 ?_; intro g
      refine quiet_with (a := ⟨p', o' + k * 5 + 4, none⟩) (v := .slice E' u cu') hc10 ?_; intro g
      repeat (go_big_quiet_step ((first | (go_at_call 30; (with_reducible exact grown_of (c1.out _ (Below.refl _ _) _))))))
      refine wpQuiet_nil ?_
      rintro w2 ⟨⟨_, hb1⟩, rfl⟩
      have hB2 : Below w.heap.size w w2 := hB.trans (hb1.mono hB.size)
      clear hb1 c1
      go_wp2
      go_roundw
      case rel => exact ⟨k + 1, by omega, by go_num, hB2⟩
      case measure => simp [intOf]; omega
    · obtain rfl : k = n := by omega
      go_wp2
      go_ret
      exact ⟨rfl, hB⟩
set_option maxHeartbeats 2000000 in
theorem eqWhy_of {q d : Nat} (IH : ∀ d', d = d' + 1 → EqwCall q d') : EqwCall q d := by
  intro B B' A A' m cb cb' n c c' lo lo' tk ks x y s w hK hK' h h'
  go_enter Try.func30, Try.ntmps30
  go_wp2_with fail
  refine (eqTerm_same q s (Kids.later (by (repeat (first | with_reducible exact Below.refl _ _ | with_reducible assumption | (with_reducible refine below_drewN ?_ _) | (with_reducible refine Below.drew ?_) | (with_reducible refine Below.setCell ?_ (by first | omega | (simp; done) | (simp; omega)) _) | (with_reducible refine Below.alloc ?_ (by first | omega | (simp; done) | (simp; omega)) _) | refine Below.trans ?_ (Below.mono (by with_reducible assumption) (by first | omega | (simp; done) | (simp; omega)))))) hK) (Kids.later (by (repeat (first | with_reducible exact Below.refl _ _ | with_reducible assumption | (with_reducible refine below_drewN ?_ _) | (with_reducible refine Below.drew ?_) | (with_reducible refine Below.setCell ?_ (by first | omega | (simp; done) | (simp; omega)) _) | (with_reducible refine Below.alloc ?_ (by first | omega | (simp; done) | (simp; omega)) _) | refine Below.trans ?_ (Below.mono (by with_reducible assumption) (by first | omega | (simp; done) | (simp; omega)))))) hK')).mono ?_
  rintro e w1 ⟨rfl, hb1⟩
  have hz1 := hb1.size; (try simp at hz1); have hB1 : Below w.heap.size w w1 := (by refine Below.trans ?_ (Below.mono hb1 (by first | omega | (simp; done) | (simp; omega))); (repeat (first | with_reducible exact Below.refl _ _ | with_reducible assumption | (with_reducible refine below_drewN ?_ _) | (with_reducible refine Below.drew ?_) | (with_reducible refine Below.setCell ?_ (by first | omega | (simp; done) | (simp; omega)) _) | (with_reducible refine Below.alloc ?_ (by first | omega | (simp; done) | (simp; omega)) _) | refine Below.trans ?_ (Below.mono (by with_reducible assumption) (by first | omega | (simp; done) | (simp; omega)))))); obtain ⟨kc_, fc_, lc_⟩ := keep_later (a := ⟨w.heap.size, 4, none⟩) (v := .slice A n c) hb1 (by go_simp) (by go_simp); obtain ⟨kc_, fc_, lc_⟩ := keep_later (a := ⟨w.heap.size+1, 4, none⟩) (v := .slice A' n c') hb1 (by go_simp) (by go_simp)
  clear hb1
  go_wp2_with fail
  refine (eqWhyS_of IH (Whys.later (by (repeat (first | with_reducible exact Below.refl _ _ | with_reducible assumption | (with_reducible refine below_drewN ?_ _) | (with_reducible refine Below.drew ?_) | (with_reducible refine Below.setCell ?_ (by first | omega | (simp; done) | (simp; omega)) _) | (with_reducible refine Below.alloc ?_ (by first | omega | (simp; done) | (simp; omega)) _) | refine Below.trans ?_ (Below.mono (by with_reducible assumption) (by first | omega | (simp; done) | (simp; omega)))))) h) (Whys.later (by (repeat (first | with_reducible exact Below.refl _ _ | with_reducible assumption | (with_reducible refine below_drewN ?_ _) | (with_reducible refine Below.drew ?_) | (with_reducible refine Below.setCell ?_ (by first | omega | (simp; done) | (simp; omega)) _) | (with_reducible refine Below.alloc ?_ (by first | omega | (simp; done) | (simp; omega)) _) | refine Below.trans ?_ (Below.mono (by with_reducible assumption) (by first | omega | (simp; done) | (simp; omega)))))) h')).mono ?_
  rintro e w2 ⟨rfl, hb1⟩
  have hz1 := hb1.size; (try simp at hz1); have hB1 : Below w.heap.size w w2 := (by refine Below.trans ?_ (Below.mono hb1 (by first | omega | (simp; done) | (simp; omega))); (repeat (first | with_reducible exact Below.refl _ _ | with_reducible assumption | (with_reducible refine below_drewN ?_ _) | (with_reducible refine Below.drew ?_) | (with_reducible refine Below.setCell ?_ (by first | omega | (simp; done) | (simp; omega)) _) | (with_reducible refine Below.alloc ?_ (by first | omega | (simp; done) | (simp; omega)) _) | refine Below.trans ?_ (Below.mono (by with_reducible assumption) (by first | omega | (simp; done) | (simp; omega))))))
  clear hb1
  go_wp2
  go_ret
  exact ⟨rfl, by (repeat (first | with_reducible exact Below.refl _ _ | with_reducible assumption | (with_reducible refine below_drewN ?_ _) | (with_reducible refine Below.drew ?_) | (with_reducible refine Below.setCell ?_ (by first | omega | (simp; done) | (simp; omega)) _) | (with_reducible refine Below.alloc ?_ (by first | omega | (simp; done) | (simp; omega)) _) | refine Below.trans ?_ (Below.mono (by with_reducible assumption) (by first | omega | (simp; done) | (simp; omega)))))⟩
theorem eqWhy_same (q : Nat) : ∀ d, EqwCall q d
  | 0 => eqWhy_of (fun d' e => by omega)
  | d + 1 => eqWhy_of (fun d' e => by obtain rfl : d = d' := by omega
                                      exact eqWhy_same q d)
/-- two explanations' heads are one -/
def headSame (q : Nat) (x y : Int) (s : ByteArray) (tk : List TermV) (x' y' : Int) (s' : ByteArray) (tk' : List TermV) : Bool := (x == x' && y == y') && (nameSame s s' && sameTerms q tk tk')
def sameWhys (q : Nat) : Nat → List WhyV → List WhyV → Bool
  | 0, ks, ks' => decide (ks.length = ks'.length)
  | d + 1, ks, ks' => decide (ks.length = ks'.length) && decide (∀ j, j < ks.length → (headSame q (ks.getD j wy0).rule (ks.getD j wy0).num (ks.getD j wy0).tn (ks.getD j wy0).tk (ks'.getD j wy0).rule (ks'.getD j wy0).num (ks'.getD j wy0).tn (ks'.getD j wy0).tk && sameWhys q d (ks.getD j wy0).kids (ks'.getD j wy0).kids) = true)
def whyAt (q d : Nat) (ks ks' : List WhyV) (j : Nat) : Bool := headSame q (ks.getD j wy0).rule (ks.getD j wy0).num (ks.getD j wy0).tn (ks.getD j wy0).tk (ks'.getD j wy0).rule (ks'.getD j wy0).num (ks'.getD j wy0).tn (ks'.getD j wy0).tk && sameWhys q d (ks.getD j wy0).kids (ks'.getD j wy0).kids
def WhyTo (q d : Nat) (ks ks' : List WhyV) (k : Nat) : Prop := ∀ d', d = d' + 1 → ∀ j, j < k → whyAt q d' ks ks' j = true
theorem WhyTo.zero (q d : Nat) (ks ks' : List WhyV) : WhyTo q d ks ks' 0 := fun _ _ _ h => absurd h (by omega)
theorem WhyTo.succ {q d : Nat} {ks ks' : List WhyV} {k : Nat} (h : WhyTo q (d + 1) ks ks' k) (h' : whyAt q d ks ks' k = true) : WhyTo q (d + 1) ks ks' (k + 1) := fun d' e j hj => by
  obtain rfl : d = d' := by omega
  by_cases e : j = k
  · rw [e]; exact h'
  · exact h d rfl j (by omega)
theorem sameWhys_no {q d : Nat} {ks ks' : List WhyV} {k : Nat} (hk : k < ks.length) (h : whyAt q d ks ks' k = false) : sameWhys q (d + 1) ks ks' = false := by
  have hh : ¬ ∀ j, j < ks.length → whyAt q d ks ks' j = true := fun hh => by have := hh k hk; rw [h] at this; cases this
  have e : sameWhys q (d + 1) ks ks' = (decide (ks.length = ks'.length) && decide (∀ j, j < ks.length → whyAt q d ks ks' j = true)) := rfl
  rw [e, decide_eq_false hh, Bool.and_false]
theorem sameWhys_len {q d : Nat} {ks ks' : List WhyV} (h : ks.length ≠ ks'.length) : sameWhys q d ks ks' = false := by
  cases d with
  | zero => exact decide_eq_false h
  | succ d => unfold sameWhys; rw [decide_eq_false h, Bool.false_and]
theorem sameWhys_yes {q d : Nat} {ks ks' : List WhyV} (hl : ks.length = ks'.length) (h : WhyTo q d ks ks' ks.length) : sameWhys q d ks ks' = true := by
  cases d with
  | zero => exact decide_eq_true hl
  | succ d =>
    have hh : ∀ j, j < ks.length → whyAt q d ks ks' j = true := h d rfl
    have e : sameWhys q (d + 1) ks ks' = (decide (ks.length = ks'.length) && decide (∀ j, j < ks.length → whyAt q d ks ks' j = true)) := rfl
    rw [e, decide_eq_true hl, decide_eq_true hh]; rfl
theorem whyAt_of {q d : Nat} {ks ks' : List WhyV} {k : Nat} {x y x' y' : Int} {s s' : ByteArray} {qs qs' : List TermV} {us us' : List WhyV} (h1 : (ks.getD k wy0).rule = x) (h2 : (ks.getD k wy0).num = y) (h3 : (ks.getD k wy0).tn = s) (h4 : (ks.getD k wy0).tk = qs) (h5 : (ks.getD k wy0).kids = us) (h6 : (ks'.getD k wy0).rule = x') (h7 : (ks'.getD k wy0).num = y') (h8 : (ks'.getD k wy0).tn = s') (h9 : (ks'.getD k wy0).tk = qs') (h10 : (ks'.getD k wy0).kids = us') :
    whyAt q d ks ks' k = (headSame q x y s qs x' y' s' qs' && sameWhys q d us us') := by
  subst h1 h2 h3 h4 h5 h6 h7 h8 h9 h10; rfl
def WsCall (f : FuncId) (q d : Nat) : Prop := ∀ {B B' A A' : Option Addr} {m m' cb cb' n n' c c' lo lo' : Nat} {tk tk' : List TermV} {ks ks' : List WhyV} (x y x' y' : Int) (s s' : ByteArray) {w : World}, Kids w lo q B m tk → Kids w lo' q B' m' tk' → Whys w lo q d A n ks → Whys w lo' q d A' n' ks' →
    Calls Try.prog f #[.agg #[.int .i64 x, .int .i64 y, .string s, .slice B m cb, .slice A n c], .agg #[.int .i64 x', .int .i64 y', .string s', .slice B' m' cb', .slice A' n' c']] w fun e w' => e = .returned (.bool (headSame q x y s tk x' y' s' tk' && sameWhys q d ks ks')) ∧ Below w.heap.size w w'
theorem WsCall.at {f : FuncId} {q d : Nat} (H : WsCall f q d) {B B' A A' : Option Addr} {m m' cb cb' n n' c c' lo lo' : Nat} {tk tk' : List TermV} {ks ks' : List WhyV} {x y x' y' : Int} {s s' : ByteArray} {w : World} {v : Bool} (hK : Kids w lo q B m tk) (hK' : Kids w lo' q B' m' tk') (h : Whys w lo q d A n ks) (h' : Whys w lo' q d A' n' ks') (hv : (headSame q x y s tk x' y' s' tk' && sameWhys q d ks ks') = v) :
    Calls Try.prog f #[.agg #[.int .i64 x, .int .i64 y, .string s, .slice B m cb, .slice A n c], .agg #[.int .i64 x', .int .i64 y', .string s', .slice B' m' cb', .slice A' n' c']] w fun e w' => e = .returned (.bool v) ∧ Below w.heap.size w w' := by
  subst hv; exact H x y x' y' s s' hK hK' h h'

set_option maxHeartbeats 4000000 in
theorem equalFuncWhy_of {q d : Nat} (IH : ∀ d', d = d' + 1 → WsCall 29 q d') {A A' : Option Addr} {n n' c c' lo lo' : Nat} {ks ks' : List WhyV} {w : World} (h : Whys w lo q d A n ks) (h' : Whys w lo' q d A' n' ks') :
    Calls Try.prog 57 #[.slice A n c, .slice A' n' c', .func (.func 29) #[] #[]] w fun e w' => e = .returned (.bool (sameWhys q d ks ks')) ∧ Below w.heap.size w w' := by
  have hfew := h.few
  have hfew' := h'.few
  by_cases hn : n = n'
  · subst hn
    have hl := Lib.hid (h.len.trans h'.len.symm)
    have hlen0 := h.len
    obtain ⟨f, hf⟩ : ∃ f, sameWhys q d ks ks' = f := ⟨_, rfl⟩
    rw [hf]
    have HF := Lib.hid hf
    clear hf
    go_enter Try.func57, Try.ntmps57
    go_wp2_with fail
    go_loopw [17] (fun i wr => ∃ k : Nat, k ≤ n ∧ i = .int .i64 k ∧ WhyTo q d ks ks' k ∧ Below w.heap.size w wr) (fun i _ => n - (intOf i).toNat)
    case atStart => exact ⟨0, by omega, rfl, WhyTo.zero q d ks ks', by (repeat (first | with_reducible exact Below.refl _ _ | with_reducible assumption | (with_reducible refine below_drewN ?_ _) | (with_reducible refine Below.drew ?_) | (with_reducible refine Below.setCell ?_ (by first | omega | (simp; done) | (simp; omega)) _) | (with_reducible refine Below.alloc ?_ (by first | omega | (simp; done) | (simp; omega)) _) | refine Below.trans ?_ (Below.mono (by with_reducible assumption) (by first | omega | (simp; done) | (simp; omega)))))⟩
    case round =>
      obtain ⟨k, hk, rfl, hok, hB⟩ := hrel
      have hzr := hB.size
      by_cases hlt : k < n
      · obtain ⟨d', p, o, rfl, rfl, hpl, hp, hcs⟩ := (h.later hB).cells (by omega)
        obtain ⟨B, m, cb, E, u, cu, ⟨hc1, hc2, hc3, hc4, hc5⟩, hIk, hWk, hsf⟩ := hcs k hlt
        clear hcs
        obtain ⟨d2, p', o', ed, rfl, hpl', hp', hcs'⟩ := (h'.later hB).cells (by omega)
        obtain rfl : d' = d2 := by omega
        obtain ⟨B', m', cb', E', u', cu', ⟨hc6, hc7, hc8, hc9, hc10⟩, hIk', hWk', hsf'⟩ := hcs' k hlt
        clear hcs'
        have HI : Hid (WsCall 29 q d') := Lib.hid (IH d' rfl)
        have hno := Lib.hid (@sameWhys_no q d' ks ks' k (by omega))
        have hyes := Lib.hid (@WhyTo.succ q d' ks ks' k hok)
        have hat := Lib.hid (@whyAt_of q d' ks ks' k _ _ _ _ _ _ _ _ _ _ rfl rfl rfl rfl rfl rfl rfl rfl rfl rfl)
        generalize (ks.getD k wy0).rule = x at *
        generalize (ks.getD k wy0).num = y at *
        generalize (ks.getD k wy0).tn = s at *
        generalize (ks.getD k wy0).tk = qs at *
        generalize (ks.getD k wy0).kids = us at *
        generalize (ks'.getD k wy0).rule = x' at *
        generalize (ks'.getD k wy0).num = y' at *
        generalize (ks'.getD k wy0).tn = s' at *
        generalize (ks'.getD k wy0).tk = qs' at *
        generalize (ks'.getD k wy0).kids = us' at *
        obtain ⟨v, hv⟩ : ∃ v, (headSame q x y s qs x' y' s' qs' && sameWhys q d' us us') = v := ⟨_, rfl⟩
        have hkv := hat.out.trans hv
        have HV := Lib.hid hv
        clear hv
        go_wp2_with fail
        refine (WsCall.at HI.out (hIk.later (by (repeat (first | with_reducible exact Below.refl _ _ | with_reducible assumption | (with_reducible refine below_drewN ?_ _) | (with_reducible refine Below.drew ?_) | (with_reducible refine Below.setCell ?_ (by first | omega | (simp; done) | (simp; omega)) _) | (with_reducible refine Below.alloc ?_ (by first | omega | (simp; done) | (simp; omega)) _) | refine Below.trans ?_ (Below.mono (by with_reducible assumption) (by first | omega | (simp; done) | (simp; omega))))))) (hIk'.later (by (repeat (first | with_reducible exact Below.refl _ _ | with_reducible assumption | (with_reducible refine below_drewN ?_ _) | (with_reducible refine Below.drew ?_) | (with_reducible refine Below.setCell ?_ (by first | omega | (simp; done) | (simp; omega)) _) | (with_reducible refine Below.alloc ?_ (by first | omega | (simp; done) | (simp; omega)) _) | refine Below.trans ?_ (Below.mono (by with_reducible assumption) (by first | omega | (simp; done) | (simp; omega))))))) (hWk.later (by (repeat (first | with_reducible exact Below.refl _ _ | with_reducible assumption | (with_reducible refine below_drewN ?_ _) | (with_reducible refine Below.drew ?_) | (with_reducible refine Below.setCell ?_ (by first | omega | (simp; done) | (simp; omega)) _) | (with_reducible refine Below.alloc ?_ (by first | omega | (simp; done) | (simp; omega)) _) | refine Below.trans ?_ (Below.mono (by with_reducible assumption) (by first | omega | (simp; done) | (simp; omega))))))) (hWk'.later (by (repeat (first | with_reducible exact Below.refl _ _ | with_reducible assumption | (with_reducible refine below_drewN ?_ _) | (with_reducible refine Below.drew ?_) | (with_reducible refine Below.setCell ?_ (by first | omega | (simp; done) | (simp; omega)) _) | (with_reducible refine Below.alloc ?_ (by first | omega | (simp; done) | (simp; omega)) _) | refine Below.trans ?_ (Below.mono (by with_reducible assumption) (by first | omega | (simp; done) | (simp; omega))))))) HV.out).mono ?_
        rintro e w1 ⟨rfl, hb1⟩
        have hz1 := hb1.size; (try simp at hz1); have hB1 : Below w.heap.size w w1 := (by refine Below.trans ?_ (Below.mono hb1 (by first | omega | (simp; done) | (simp; omega))); (repeat (first | with_reducible exact Below.refl _ _ | with_reducible assumption | (with_reducible refine below_drewN ?_ _) | (with_reducible refine Below.drew ?_) | (with_reducible refine Below.setCell ?_ (by first | omega | (simp; done) | (simp; omega)) _) | (with_reducible refine Below.alloc ?_ (by first | omega | (simp; done) | (simp; omega)) _) | refine Below.trans ?_ (Below.mono (by with_reducible assumption) (by first | omega | (simp; done) | (simp; omega))))))
        clear hb1
        cases v
        · have he := HF.out.symm.trans (hno.out hkv)
          subst he
          go_wp2
          go_ret
          exact ⟨rfl, by (repeat (first | with_reducible exact Below.refl _ _ | with_reducible assumption | (with_reducible refine below_drewN ?_ _) | (with_reducible refine Below.drew ?_) | (with_reducible refine Below.setCell ?_ (by first | omega | (simp; done) | (simp; omega)) _) | (with_reducible refine Below.alloc ?_ (by first | omega | (simp; done) | (simp; omega)) _) | refine Below.trans ?_ (Below.mono (by with_reducible assumption) (by first | omega | (simp; done) | (simp; omega)))))⟩
        · have HY := Lib.hid (hyes.out hkv)
          go_wp2
          go_roundw
          case rel => exact ⟨k + 1, by omega, by go_num, HY.out, by (repeat (first | with_reducible exact Below.refl _ _ | with_reducible assumption | (with_reducible refine below_drewN ?_ _) | (with_reducible refine Below.drew ?_) | (with_reducible refine Below.setCell ?_ (by first | omega | (simp; done) | (simp; omega)) _) | (with_reducible refine Below.alloc ?_ (by first | omega | (simp; done) | (simp; omega)) _) | refine Below.trans ?_ (Below.mono (by with_reducible assumption) (by first | omega | (simp; done) | (simp; omega)))))⟩
          case measure => simp [intOf]; omega
      · obtain rfl : k = n := by omega
        have he := HF.out.symm.trans (sameWhys_yes hl.out (by rw [h.len]; exact hok))
        subst he
        go_wp2
        go_ret
        exact ⟨rfl, hB⟩
  · have hne : ((n : Int) != (n' : Int)) = true := by simp; omega
    have hd : sameWhys q d ks ks' = false := sameWhys_len (by rw [h.len, h'.len]; exact hn)
    rw [hd]
    go_enter Try.func57, Try.ntmps57
    go_wp2
    go_ret
    exact ⟨rfl, Below.refl _ _⟩
set_option maxHeartbeats 4000000 in
theorem iWhySame_of {q d : Nat} (IH : ∀ d', d = d' + 1 → WsCall 29 q d') : WsCall 29 q d := by
  intro B B' A A' m m' cb cb' n n' c c' lo lo' tk tk' ks ks' x y x' y' s s' w hK hK' h h'
  unfold headSame
  by_cases hx : x = x'
  · subst hx
    by_cases hy : y = y'
    · subst hy
      have e0 : (x == x) = true := by simp
      have e1 : (y == y) = true := by simp
      obtain ⟨v, hv⟩ : ∃ v, (nameSame s s' && sameTerms q tk tk') = v := ⟨_, rfl⟩
      rw [hv, e0, e1]
      cases v
      · go_enter Try.func29, Try.ntmps29
        go_wp2_with fail
        refine (SameCall.at (iTermSame_any q) (Kids.later (by (repeat (first | with_reducible exact Below.refl _ _ | with_reducible assumption | (with_reducible refine below_drewN ?_ _) | (with_reducible refine Below.drew ?_) | (with_reducible refine Below.setCell ?_ (by first | omega | (simp; done) | (simp; omega)) _) | (with_reducible refine Below.alloc ?_ (by first | omega | (simp; done) | (simp; omega)) _) | refine Below.trans ?_ (Below.mono (by with_reducible assumption) (by first | omega | (simp; done) | (simp; omega)))))) hK) (Kids.later (by (repeat (first | with_reducible exact Below.refl _ _ | with_reducible assumption | (with_reducible refine below_drewN ?_ _) | (with_reducible refine Below.drew ?_) | (with_reducible refine Below.setCell ?_ (by first | omega | (simp; done) | (simp; omega)) _) | (with_reducible refine Below.alloc ?_ (by first | omega | (simp; done) | (simp; omega)) _) | refine Below.trans ?_ (Below.mono (by with_reducible assumption) (by first | omega | (simp; done) | (simp; omega)))))) hK') hv).mono ?_
        rintro e w1 ⟨rfl, hb1⟩
        have hz1 := hb1.size; (try simp at hz1); have hB1 : Below w.heap.size w w1 := (by refine Below.trans ?_ (Below.mono hb1 (by first | omega | (simp; done) | (simp; omega))); (repeat (first | with_reducible exact Below.refl _ _ | with_reducible assumption | (with_reducible refine below_drewN ?_ _) | (with_reducible refine Below.drew ?_) | (with_reducible refine Below.setCell ?_ (by first | omega | (simp; done) | (simp; omega)) _) | (with_reducible refine Below.alloc ?_ (by first | omega | (simp; done) | (simp; omega)) _) | refine Below.trans ?_ (Below.mono (by with_reducible assumption) (by first | omega | (simp; done) | (simp; omega))))))
        clear hb1
        go_wp2
        go_ret
        exact ⟨by simp, by (repeat (first | with_reducible exact Below.refl _ _ | with_reducible assumption | (with_reducible refine below_drewN ?_ _) | (with_reducible refine Below.drew ?_) | (with_reducible refine Below.setCell ?_ (by first | omega | (simp; done) | (simp; omega)) _) | (with_reducible refine Below.alloc ?_ (by first | omega | (simp; done) | (simp; omega)) _) | refine Below.trans ?_ (Below.mono (by with_reducible assumption) (by first | omega | (simp; done) | (simp; omega)))))⟩
      · go_enter Try.func29, Try.ntmps29
        go_wp2_with fail
        refine (SameCall.at (iTermSame_any q) (Kids.later (by (repeat (first | with_reducible exact Below.refl _ _ | with_reducible assumption | (with_reducible refine below_drewN ?_ _) | (with_reducible refine Below.drew ?_) | (with_reducible refine Below.setCell ?_ (by first | omega | (simp; done) | (simp; omega)) _) | (with_reducible refine Below.alloc ?_ (by first | omega | (simp; done) | (simp; omega)) _) | refine Below.trans ?_ (Below.mono (by with_reducible assumption) (by first | omega | (simp; done) | (simp; omega)))))) hK) (Kids.later (by (repeat (first | with_reducible exact Below.refl _ _ | with_reducible assumption | (with_reducible refine below_drewN ?_ _) | (with_reducible refine Below.drew ?_) | (with_reducible refine Below.setCell ?_ (by first | omega | (simp; done) | (simp; omega)) _) | (with_reducible refine Below.alloc ?_ (by first | omega | (simp; done) | (simp; omega)) _) | refine Below.trans ?_ (Below.mono (by with_reducible assumption) (by first | omega | (simp; done) | (simp; omega)))))) hK') hv).mono ?_
        rintro e w1 ⟨rfl, hb1⟩
        have hz1 := hb1.size; (try simp at hz1); have hB1 : Below w.heap.size w w1 := (by refine Below.trans ?_ (Below.mono hb1 (by first | omega | (simp; done) | (simp; omega))); (repeat (first | with_reducible exact Below.refl _ _ | with_reducible assumption | (with_reducible refine below_drewN ?_ _) | (with_reducible refine Below.drew ?_) | (with_reducible refine Below.setCell ?_ (by first | omega | (simp; done) | (simp; omega)) _) | (with_reducible refine Below.alloc ?_ (by first | omega | (simp; done) | (simp; omega)) _) | refine Below.trans ?_ (Below.mono (by with_reducible assumption) (by first | omega | (simp; done) | (simp; omega)))))); obtain ⟨kc_, fc_, lc_⟩ := keep_later (a := ⟨w.heap.size, 4, none⟩) (v := .slice A n c) hb1 (by go_simp) (by go_simp); obtain ⟨kc_, fc_, lc_⟩ := keep_later (a := ⟨w.heap.size+1, 4, none⟩) (v := .slice A' n' c') hb1 (by go_simp) (by go_simp)
        clear hb1
        go_wp2_with fail
        refine (equalFuncWhy_of IH (Whys.later (by (repeat (first | with_reducible exact Below.refl _ _ | with_reducible assumption | (with_reducible refine below_drewN ?_ _) | (with_reducible refine Below.drew ?_) | (with_reducible refine Below.setCell ?_ (by first | omega | (simp; done) | (simp; omega)) _) | (with_reducible refine Below.alloc ?_ (by first | omega | (simp; done) | (simp; omega)) _) | refine Below.trans ?_ (Below.mono (by with_reducible assumption) (by first | omega | (simp; done) | (simp; omega)))))) h) (Whys.later (by (repeat (first | with_reducible exact Below.refl _ _ | with_reducible assumption | (with_reducible refine below_drewN ?_ _) | (with_reducible refine Below.drew ?_) | (with_reducible refine Below.setCell ?_ (by first | omega | (simp; done) | (simp; omega)) _) | (with_reducible refine Below.alloc ?_ (by first | omega | (simp; done) | (simp; omega)) _) | refine Below.trans ?_ (Below.mono (by with_reducible assumption) (by first | omega | (simp; done) | (simp; omega)))))) h')).mono ?_
        rintro e w2 ⟨rfl, hb1⟩
        have hz1 := hb1.size; (try simp at hz1); have hB1 : Below w.heap.size w w2 := (by refine Below.trans ?_ (Below.mono hb1 (by first | omega | (simp; done) | (simp; omega))); (repeat (first | with_reducible exact Below.refl _ _ | with_reducible assumption | (with_reducible refine below_drewN ?_ _) | (with_reducible refine Below.drew ?_) | (with_reducible refine Below.setCell ?_ (by first | omega | (simp; done) | (simp; omega)) _) | (with_reducible refine Below.alloc ?_ (by first | omega | (simp; done) | (simp; omega)) _) | refine Below.trans ?_ (Below.mono (by with_reducible assumption) (by first | omega | (simp; done) | (simp; omega))))))
        clear hb1
        go_wp2
        go_ret
        exact ⟨by simp, by (repeat (first | with_reducible exact Below.refl _ _ | with_reducible assumption | (with_reducible refine below_drewN ?_ _) | (with_reducible refine Below.drew ?_) | (with_reducible refine Below.setCell ?_ (by first | omega | (simp; done) | (simp; omega)) _) | (with_reducible refine Below.alloc ?_ (by first | omega | (simp; done) | (simp; omega)) _) | refine Below.trans ?_ (Below.mono (by with_reducible assumption) (by first | omega | (simp; done) | (simp; omega)))))⟩
    · have e1 : (y == y') = false := by simpa using hy
      have e0 : (x == x) = true := by simp
      go_enter Try.func29, Try.ntmps29
      go_wp2
      go_ret
      exact ⟨by simp [e1], by (repeat (first | with_reducible exact Below.refl _ _ | with_reducible assumption | (with_reducible refine below_drewN ?_ _) | (with_reducible refine Below.drew ?_) | (with_reducible refine Below.setCell ?_ (by first | omega | (simp; done) | (simp; omega)) _) | (with_reducible refine Below.alloc ?_ (by first | omega | (simp; done) | (simp; omega)) _) | refine Below.trans ?_ (Below.mono (by with_reducible assumption) (by first | omega | (simp; done) | (simp; omega)))))⟩
  · have e0 : (x == x') = false := by simpa using hx
    go_enter Try.func29, Try.ntmps29
    go_wp2
    go_ret
    exact ⟨by simp [e0], by (repeat (first | with_reducible exact Below.refl _ _ | with_reducible assumption | (with_reducible refine below_drewN ?_ _) | (with_reducible refine Below.drew ?_) | (with_reducible refine Below.setCell ?_ (by first | omega | (simp; done) | (simp; omega)) _) | (with_reducible refine Below.alloc ?_ (by first | omega | (simp; done) | (simp; omega)) _) | refine Below.trans ?_ (Below.mono (by with_reducible assumption) (by first | omega | (simp; done) | (simp; omega)))))⟩
theorem iWhySame_any (q : Nat) : ∀ d, WsCall 29 q d
  | 0 => iWhySame_of (fun d' e => by omega)
  | d + 1 => iWhySame_of (fun d' e => by obtain rfl : d = d' := by omega
                                         exact iWhySame_any q d)

set_option maxHeartbeats 8000000 in
theorem sWhySame_of {q d : Nat} (IH : ∀ d', d = d' + 1 → WsCall 27 q d') : WsCall 27 q d := by
  intro B B' A A' m m' cb cb' n n' c c' lo lo' tk tk' ks ks' x y x' y' s s' w hK hK' h h'
  have hfew := h.few
  have hfew' := h'.few
  unfold headSame
  by_cases hx : x = x'
  · subst hx
    have e0 : (x != x) = false := by simp
    have f0 : (x == x) = true := by simp
    by_cases hy : y = y'
    · subst hy
      have e1 : (y != y) = false := by simp
      have f1 : (y == y) = true := by simp
      obtain ⟨v, hv⟩ : ∃ v, (nameSame s s' && sameTerms q tk tk') = v := ⟨_, rfl⟩
      rw [hv, f0, f1]
      cases v
      · go_enter Try.func27, Try.ntmps27
        go_wp2_with fail
        refine (SameCall.at (sTermSame_any q) (Kids.later (by (repeat (first | with_reducible exact Below.refl _ _ | with_reducible assumption | (with_reducible refine below_drewN ?_ _) | (with_reducible refine Below.drew ?_) | (with_reducible refine Below.setCell ?_ (by first | omega | (simp; done) | (simp; omega)) _) | (with_reducible refine Below.alloc ?_ (by first | omega | (simp; done) | (simp; omega)) _) | refine Below.trans ?_ (Below.mono (by with_reducible assumption) (by first | omega | (simp; done) | (simp; omega)))))) hK) (Kids.later (by (repeat (first | with_reducible exact Below.refl _ _ | with_reducible assumption | (with_reducible refine below_drewN ?_ _) | (with_reducible refine Below.drew ?_) | (with_reducible refine Below.setCell ?_ (by first | omega | (simp; done) | (simp; omega)) _) | (with_reducible refine Below.alloc ?_ (by first | omega | (simp; done) | (simp; omega)) _) | refine Below.trans ?_ (Below.mono (by with_reducible assumption) (by first | omega | (simp; done) | (simp; omega)))))) hK') hv).mono ?_
        rintro e w1 ⟨rfl, hb1⟩
        have hz1 := hb1.size; (try simp at hz1); have hB1 : Below w.heap.size w w1 := (by refine Below.trans ?_ (Below.mono hb1 (by first | omega | (simp; done) | (simp; omega))); (repeat (first | with_reducible exact Below.refl _ _ | with_reducible assumption | (with_reducible refine below_drewN ?_ _) | (with_reducible refine Below.drew ?_) | (with_reducible refine Below.setCell ?_ (by first | omega | (simp; done) | (simp; omega)) _) | (with_reducible refine Below.alloc ?_ (by first | omega | (simp; done) | (simp; omega)) _) | refine Below.trans ?_ (Below.mono (by with_reducible assumption) (by first | omega | (simp; done) | (simp; omega))))))
        clear hb1
        go_wp2
        go_ret
        exact ⟨by simp, by (repeat (first | with_reducible exact Below.refl _ _ | with_reducible assumption | (with_reducible refine below_drewN ?_ _) | (with_reducible refine Below.drew ?_) | (with_reducible refine Below.setCell ?_ (by first | omega | (simp; done) | (simp; omega)) _) | (with_reducible refine Below.alloc ?_ (by first | omega | (simp; done) | (simp; omega)) _) | refine Below.trans ?_ (Below.mono (by with_reducible assumption) (by first | omega | (simp; done) | (simp; omega)))))⟩
      by_cases hn : n = n'
      · subst hn
        have hnn : ((n : Int) != (n : Int)) = false := by simp
        have hl := Lib.hid (h.len.trans h'.len.symm)
        have hlen0 := h.len
        obtain ⟨f, hf⟩ : ∃ f, sameWhys q d ks ks' = f := ⟨_, rfl⟩
        rw [hf]
        have HF := Lib.hid hf
        clear hf
        go_enter Try.func27, Try.ntmps27
        go_wp2_with fail
        refine (SameCall.at (sTermSame_any q) (Kids.later (by (repeat (first | with_reducible exact Below.refl _ _ | with_reducible assumption | (with_reducible refine below_drewN ?_ _) | (with_reducible refine Below.drew ?_) | (with_reducible refine Below.setCell ?_ (by first | omega | (simp; done) | (simp; omega)) _) | (with_reducible refine Below.alloc ?_ (by first | omega | (simp; done) | (simp; omega)) _) | refine Below.trans ?_ (Below.mono (by with_reducible assumption) (by first | omega | (simp; done) | (simp; omega)))))) hK) (Kids.later (by (repeat (first | with_reducible exact Below.refl _ _ | with_reducible assumption | (with_reducible refine below_drewN ?_ _) | (with_reducible refine Below.drew ?_) | (with_reducible refine Below.setCell ?_ (by first | omega | (simp; done) | (simp; omega)) _) | (with_reducible refine Below.alloc ?_ (by first | omega | (simp; done) | (simp; omega)) _) | refine Below.trans ?_ (Below.mono (by with_reducible assumption) (by first | omega | (simp; done) | (simp; omega)))))) hK') hv).mono ?_
        rintro e w1 ⟨rfl, hb1⟩
        have hz1 := hb1.size; (try simp at hz1); have hB1 : Below w.heap.size w w1 := (by refine Below.trans ?_ (Below.mono hb1 (by first | omega | (simp; done) | (simp; omega))); (repeat (first | with_reducible exact Below.refl _ _ | with_reducible assumption | (with_reducible refine below_drewN ?_ _) | (with_reducible refine Below.drew ?_) | (with_reducible refine Below.setCell ?_ (by first | omega | (simp; done) | (simp; omega)) _) | (with_reducible refine Below.alloc ?_ (by first | omega | (simp; done) | (simp; omega)) _) | refine Below.trans ?_ (Below.mono (by with_reducible assumption) (by first | omega | (simp; done) | (simp; omega)))))); obtain ⟨kc_, fc_, lc_⟩ := keep_later (a := ⟨w.heap.size, 4, none⟩) (v := .slice A n c) hb1 (by go_simp) (by go_simp); obtain ⟨kc_, fc_, lc_⟩ := keep_later (a := ⟨w.heap.size+1, 4, none⟩) (v := .slice A' n c') hb1 (by go_simp) (by go_simp)
        clear hb1 hv
        go_wp2_with fail
        go_loopw [5] (fun i wr => ∃ k : Nat, k ≤ n ∧ i = .int .i64 k ∧ WhyTo q d ks ks' k ∧ wr.cell? ⟨w.heap.size, 4, none⟩ = some (.slice A n c) ∧ wr.cell? ⟨w.heap.size + 1, 4, none⟩ = some (.slice A' n c') ∧ Below w.heap.size w wr) (fun i _ => n - (intOf i).toNat)
        case atStart => exact ⟨0, by omega, rfl, WhyTo.zero q d ks ks', by go_simp, by go_simp, by (repeat (first | with_reducible exact Below.refl _ _ | with_reducible assumption | (with_reducible refine below_drewN ?_ _) | (with_reducible refine Below.drew ?_) | (with_reducible refine Below.setCell ?_ (by first | omega | (simp; done) | (simp; omega)) _) | (with_reducible refine Below.alloc ?_ (by first | omega | (simp; done) | (simp; omega)) _) | refine Below.trans ?_ (Below.mono (by with_reducible assumption) (by first | omega | (simp; done) | (simp; omega)))))⟩
        case round =>
          obtain ⟨k, hk, rfl, hok, hq1, hq2, hB⟩ := hrel
          have hzr := hB.size
          have hx1 := World.block_lt_of_cell? _ _ hq1
          have hx2 := World.block_lt_of_cell? _ _ hq2
          dsimp only at hx1 hx2
          by_cases hlt : k < n
          · obtain ⟨d', p, o, rfl, rfl, hpl, hp, hcs⟩ := (h.later hB).cells (by omega)
            obtain ⟨B, m, cb, E, u, cu, ⟨hc1, hc2, hc3, hc4, hc5⟩, hIk, hWk, hsf⟩ := hcs k hlt
            clear hcs
            obtain ⟨d2, p', o', ed, rfl, hpl', hp', hcs'⟩ := (h'.later hB).cells (by omega)
            obtain rfl : d' = d2 := by omega
            obtain ⟨B', m', cb', E', u', cu', ⟨hc6, hc7, hc8, hc9, hc10⟩, hIk', hWk', hsf'⟩ := hcs' k hlt
            clear hcs'
            have HI : Hid (WsCall 27 q d') := Lib.hid (IH d' rfl)
            have hno := Lib.hid (@sameWhys_no q d' ks ks' k (by omega))
            have hyes := Lib.hid (@WhyTo.succ q d' ks ks' k hok)
            have hat := Lib.hid (@whyAt_of q d' ks ks' k _ _ _ _ _ _ _ _ _ _ rfl rfl rfl rfl rfl rfl rfl rfl rfl rfl)
            generalize (ks.getD k wy0).rule = x1 at *
            generalize (ks.getD k wy0).num = y1 at *
            generalize (ks.getD k wy0).tn = s1 at *
            generalize (ks.getD k wy0).tk = qs at *
            generalize (ks.getD k wy0).kids = us at *
            generalize (ks'.getD k wy0).rule = x' at *
            generalize (ks'.getD k wy0).num = y' at *
            generalize (ks'.getD k wy0).tn = s2 at *
            generalize (ks'.getD k wy0).tk = qs' at *
            generalize (ks'.getD k wy0).kids = us' at *
            obtain ⟨v, hv⟩ : ∃ v, (headSame q x1 y1 s1 qs x' y' s2 qs' && sameWhys q d' us us') = v := ⟨_, rfl⟩
            have hkv := hat.out.trans hv
            have HV := Lib.hid hv
            clear hv
            have c1 := Lib.hid (fun (W : World) (hW : Below wr.heap.size wr W) (st : Grown W) => WsCall.at HI.out (cb := cb) (cb' := cb') (c := cu) (c' := cu') (hIk.later (hW.trans (st.ok.mono hW.size))) (hIk'.later (hW.trans (st.ok.mono hW.size))) (hWk.later (hW.trans (st.ok.mono hW.size))) (hWk'.later (hW.trans (st.ok.mono hW.size))) HV.out)
            go_wp2_with fail
            refine wp_region_grown (by kernel_rfl) (by kernel_rfl) ?_
            refine quiet_with (a := ⟨p, o + k * 5, none⟩) (v := .int .i64 x1) hc1 ?_; intro g
            refine quiet_with (a := ⟨p, o + k * 5 + 1, none⟩) (v := .int .i64 y1) hc2 ?_; intro g
            refine quiet_with (a := ⟨p, o + k * 5 + 2, none⟩) (v := .string s1) hc3 ?_; intro g
            refine quiet_with (a := ⟨p, o + k * 5 + 3, none⟩) (v := .slice B m cb) hc4 ?_; intro g
            refine quiet_with (a := ⟨p, o + k * 5 + 4, none⟩) (v := .slice E u cu) hc5 ?_; intro g
            refine quiet_with (a := ⟨p', o' + k * 5, none⟩) (v := .int .i64 x') hc6 ?_; intro g
            refine quiet_with (a := ⟨p', o' + k * 5 + 1, none⟩) (v := .int .i64 y') hc7 ?_; intro g
            refine quiet_with (a := ⟨p', o' + k * 5 + 2, none⟩) (v := .string s2) hc8 ?_; intro g
            refine quiet_with (a := ⟨p', o' + k * 5 + 3, none⟩) (v := .slice B' m' cb') hc9 ?_; intro g
            refine quiet_with (a := ⟨p', o' + k * 5 + 4, none⟩) (v := .slice E' u' cu') hc10 ?_; intro g
            refine quiet_with (a := ⟨w.heap.size, 4, none⟩) (v := .slice (some ⟨p, o, none⟩) n c) hq1 ?_; intro g
            refine quiet_with (a := ⟨w.heap.size + 1, 4, none⟩) (v := .slice (some ⟨p', o', none⟩) n c') hq2 ?_; intro g
            repeat (go_big_quiet_step ((first | (go_at_call 27; (with_reducible exact grown_of (c1.out _ (Below.refl _ _) _))))))
            refine wpQuiet_nil ?_
            rintro w2 ⟨⟨_, hb1⟩, rfl⟩
            have hB2 : Below w.heap.size w w2 := hB.trans (hb1.mono hB.size)
            have hq3 := (hb1.cell (World.block_lt_of_cell? _ _ hq1)).trans hq1
            have hq4 := (hb1.cell (World.block_lt_of_cell? _ _ hq2)).trans hq2
            clear hb1 c1
            cases v
            · have he := HF.out.symm.trans (hno.out hkv)
              subst he
              go_wp2
              go_ret
              exact ⟨by simp, by (repeat (first | with_reducible exact Below.refl _ _ | with_reducible assumption | (with_reducible refine below_drewN ?_ _) | (with_reducible refine Below.drew ?_) | (with_reducible refine Below.setCell ?_ (by first | omega | (simp; done) | (simp; omega)) _) | (with_reducible refine Below.alloc ?_ (by first | omega | (simp; done) | (simp; omega)) _) | refine Below.trans ?_ (Below.mono (by with_reducible assumption) (by first | omega | (simp; done) | (simp; omega)))))⟩
            · have HY := Lib.hid (hyes.out hkv)
              go_wp2
              go_roundw
              case rel => exact ⟨k + 1, by omega, by go_num, HY.out, hq3, hq4, by (repeat (first | with_reducible exact Below.refl _ _ | with_reducible assumption | (with_reducible refine below_drewN ?_ _) | (with_reducible refine Below.drew ?_) | (with_reducible refine Below.setCell ?_ (by first | omega | (simp; done) | (simp; omega)) _) | (with_reducible refine Below.alloc ?_ (by first | omega | (simp; done) | (simp; omega)) _) | refine Below.trans ?_ (Below.mono (by with_reducible assumption) (by first | omega | (simp; done) | (simp; omega)))))⟩
              case measure => simp [intOf]; omega
          · obtain rfl : k = n := by omega
            have he := HF.out.symm.trans (sameWhys_yes hl.out (by rw [h.len]; exact hok))
            subst he
            go_wp2
            go_ret
            exact ⟨by simp, hB⟩
      · have hne : ((n : Int) != (n' : Int)) = true := by simp; omega
        have hd : sameWhys q d ks ks' = false := sameWhys_len (by rw [h.len, h'.len]; exact hn)
        rw [hd]
        go_enter Try.func27, Try.ntmps27
        go_wp2_with fail
        refine (SameCall.at (sTermSame_any q) (Kids.later (by (repeat (first | with_reducible exact Below.refl _ _ | with_reducible assumption | (with_reducible refine below_drewN ?_ _) | (with_reducible refine Below.drew ?_) | (with_reducible refine Below.setCell ?_ (by first | omega | (simp; done) | (simp; omega)) _) | (with_reducible refine Below.alloc ?_ (by first | omega | (simp; done) | (simp; omega)) _) | refine Below.trans ?_ (Below.mono (by with_reducible assumption) (by first | omega | (simp; done) | (simp; omega)))))) hK) (Kids.later (by (repeat (first | with_reducible exact Below.refl _ _ | with_reducible assumption | (with_reducible refine below_drewN ?_ _) | (with_reducible refine Below.drew ?_) | (with_reducible refine Below.setCell ?_ (by first | omega | (simp; done) | (simp; omega)) _) | (with_reducible refine Below.alloc ?_ (by first | omega | (simp; done) | (simp; omega)) _) | refine Below.trans ?_ (Below.mono (by with_reducible assumption) (by first | omega | (simp; done) | (simp; omega)))))) hK') hv).mono ?_
        rintro e w1 ⟨rfl, hb1⟩
        have hz1 := hb1.size; (try simp at hz1); have hB1 : Below w.heap.size w w1 := (by refine Below.trans ?_ (Below.mono hb1 (by first | omega | (simp; done) | (simp; omega))); (repeat (first | with_reducible exact Below.refl _ _ | with_reducible assumption | (with_reducible refine below_drewN ?_ _) | (with_reducible refine Below.drew ?_) | (with_reducible refine Below.setCell ?_ (by first | omega | (simp; done) | (simp; omega)) _) | (with_reducible refine Below.alloc ?_ (by first | omega | (simp; done) | (simp; omega)) _) | refine Below.trans ?_ (Below.mono (by with_reducible assumption) (by first | omega | (simp; done) | (simp; omega)))))); obtain ⟨kc_, fc_, lc_⟩ := keep_later (a := ⟨w.heap.size, 4, none⟩) (v := .slice A n c) hb1 (by go_simp) (by go_simp); obtain ⟨kc_, fc_, lc_⟩ := keep_later (a := ⟨w.heap.size+1, 4, none⟩) (v := .slice A' n' c') hb1 (by go_simp) (by go_simp)
        clear hb1
        go_wp2
        go_ret
        exact ⟨by simp, by (repeat (first | with_reducible exact Below.refl _ _ | with_reducible assumption | (with_reducible refine below_drewN ?_ _) | (with_reducible refine Below.drew ?_) | (with_reducible refine Below.setCell ?_ (by first | omega | (simp; done) | (simp; omega)) _) | (with_reducible refine Below.alloc ?_ (by first | omega | (simp; done) | (simp; omega)) _) | refine Below.trans ?_ (Below.mono (by with_reducible assumption) (by first | omega | (simp; done) | (simp; omega)))))⟩
    · have e1 : (y != y') = true := by simpa using hy
      have f1 : (y == y') = false := by simpa using hy
      go_enter Try.func27, Try.ntmps27
      go_wp2
      go_ret
      exact ⟨by simp [f1], by (repeat (first | with_reducible exact Below.refl _ _ | with_reducible assumption | (with_reducible refine below_drewN ?_ _) | (with_reducible refine Below.drew ?_) | (with_reducible refine Below.setCell ?_ (by first | omega | (simp; done) | (simp; omega)) _) | (with_reducible refine Below.alloc ?_ (by first | omega | (simp; done) | (simp; omega)) _) | refine Below.trans ?_ (Below.mono (by with_reducible assumption) (by first | omega | (simp; done) | (simp; omega)))))⟩
  · have e0 : (x != x') = true := by simpa using hx
    have f0 : (x == x') = false := by simpa using hx
    go_enter Try.func27, Try.ntmps27
    go_wp2
    go_ret
    exact ⟨by simp [f0], by (repeat (first | with_reducible exact Below.refl _ _ | with_reducible assumption | (with_reducible refine below_drewN ?_ _) | (with_reducible refine Below.drew ?_) | (with_reducible refine Below.setCell ?_ (by first | omega | (simp; done) | (simp; omega)) _) | (with_reducible refine Below.alloc ?_ (by first | omega | (simp; done) | (simp; omega)) _) | refine Below.trans ?_ (Below.mono (by with_reducible assumption) (by first | omega | (simp; done) | (simp; omega)))))⟩
theorem sWhySame_any (q : Nat) : ∀ d, WsCall 27 q d
  | 0 => sWhySame_of (fun d' e => by omega)
  | d + 1 => sWhySame_of (fun d' e => by obtain rfl : d = d' := by omega
                                         exact sWhySame_any q d)

theorem open_term_cells {H : Type} {enc : TypeId × Value → H} {W : World} {f : Nat} {u v : Value} {x : DataW H × List MemPlace} (h3 : DataW.trod enc Try.prog W 0 (fun _ => true) true f 25 [u, v] = some x) :
    ∃ (s : ByteArray) (A : Option Addr) (n c : Nat) (ks : List TermV), u = .string s ∧ v = .slice A n c ∧ s.size ≤ 9223372036854775807 ∧ Kids W 0 f A n ks := by
  obtain ⟨xs, n2, hn2, _, _, hxl, hfs⟩ := DataW.trod_struct Try.underlying25 h3
  subst hn2
  match xs, hxl with
  | [y0, y1], _ =>
    have q0 := hfs 0 _ rfl
    have q1 := hfs 1 _ rfl
    have t0' : DataW.trod enc Try.prog W 0 (fun _ => true) true n2 9 [u] = some y0 := q0
    have t1' : DataW.trod enc Try.prog W 0 (fun _ => true) true n2 23 [v] = some y1 := q1
    obtain ⟨s, e0, _, ws⟩ := DataW.trod_string Try.underlying9 t0'
    obtain ⟨A', m', c', ks', e1, hK⟩ := open_kids n2 t1'
    simp at e0 e1
    unfold maxLen at ws
    exact ⟨s, A', m', c', ks', e0, e1, ws, hK.deeper⟩
theorem open_whys {H : Type} {enc : TypeId × Value → H} {W : World} : ∀ (f : Nat) {cs : List Value} {x : DataW H × List MemPlace}, DataW.trod enc Try.prog W 0 (fun _ => true) true f 51 cs = some x →
    ∃ (A : Option Addr) (n c : Nat) (ks : List WhyV), cs = [.slice A n c] ∧ Whys W 0 f f A n ks := by
  intro f
  induction f using Nat.strongRecOn with
  | _ f ih =>
  intro cs x hf
  rcases DataW.trod_slice Try.underlying51 hf with ⟨hcs, _⟩ | ⟨a, len, cap, elems, rest, n, hfn, hcs, _, hb, hl, hm, hlen, hel, _, _⟩
  · refine ⟨none, 0, 0, [], hcs, ?_⟩
    cases f with
    | zero => exact ⟨rfl, rfl⟩
    | succ f => exact ⟨rfl, by omega, fun h => absurd h (by omega)⟩
  · subst hfn
    have hC : Try.prog.cellsOf 53 = 5 := by kernel_rfl
    have each : ∀ i, i < len → ∃ t : WhyV, (∃ B m c A' m' c', (W.cell? (a.add (i * 5)) = some (.int .i64 t.rule) ∧ W.cell? (a.add (i * 5 + 1)) = some (.int .i64 t.num) ∧ W.cell? (a.add (i * 5 + 2)) = some (.string t.tn) ∧ W.cell? (a.add (i * 5 + 3)) = some (.slice B m c) ∧ W.cell? (a.add (i * 5 + 4)) = some (.slice A' m' c')) ∧ Kids W 0 (n + 1) B m t.tk ∧ Whys W 0 (n + 1) n A' m' t.kids) ∧ t.tn.size ≤ 9223372036854775807 := fun i hi => by
      have h1 := hel i hi
      rw [List.getElem?_eq_getElem (by omega), hC] at h1
      obtain ⟨cs', h2, h3⟩ := Option.bind_eq_some_iff.1 h1
      obtain ⟨_, hlen2, hcell⟩ := World.cells?_some h2
      obtain ⟨xs, n2, hn2, _, _, hxl, hfs⟩ := DataW.trod_struct Try.underlying53 h3
      subst hn2
      match cs', hlen2 with
      | [u0, u1, u2, u3, u4], _ =>
        match xs, hxl with
        | [y0, y1, y2, y3], _ =>
          have q0 := hfs 0 _ rfl
          have q1 := hfs 1 _ rfl
          have q2 := hfs 2 _ rfl
          have q3 := hfs 3 _ rfl
          have t0' : DataW.trod enc Try.prog W 0 (fun _ => true) true n2 3 [u0] = some y0 := q0
          have t1' : DataW.trod enc Try.prog W 0 (fun _ => true) true n2 3 [u1] = some y1 := q1
          have t2' : DataW.trod enc Try.prog W 0 (fun _ => true) true n2 25 [u2, u3] = some y2 := q2
          have t3' : DataW.trod enc Try.prog W 0 (fun _ => true) true n2 51 [u4] = some y3 := q3
          obtain ⟨r, e0, _, _⟩ := DataW.trod_int Try.underlying3 t0'
          obtain ⟨k, e1, _, _⟩ := DataW.trod_int Try.underlying3 t1'
          obtain ⟨s, B, m, c, tk, e2, e3, ws, hK⟩ := open_term_cells t2'
          obtain ⟨A', m', c', ks', e4, hW⟩ := ih n2 (by omega) t3'
          simp at e0 e1 e4
          subst e0 e1 e2 e3 e4
          have g0 := hcell 0 (by omega)
          have g1 := hcell 1 (by omega)
          have g2 := hcell 2 (by omega)
          have g3 := hcell 3 (by omega)
          have g4 := hcell 4 (by omega)
          rw [Go.Deep.add_add] at g0 g1 g2 g3 g4
          exact ⟨.mk r k s tk ks', ⟨B, m, c, A', m', c', ⟨by simpa [WhyV.rule] using g0, by simpa [WhyV.num] using g1, by simpa [WhyV.tn] using g2, by simpa using g3, by simpa using g4⟩, hK.le (by omega), (hW.wide (by omega)).le (by omega)⟩, ws⟩
    have hex : ∃ F : Nat → WhyV, ∀ i, i < len → (∃ B m c A' m' c', (W.cell? (a.add (i * 5)) = some (.int .i64 (F i).rule) ∧ W.cell? (a.add (i * 5 + 1)) = some (.int .i64 (F i).num) ∧ W.cell? (a.add (i * 5 + 2)) = some (.string (F i).tn) ∧ W.cell? (a.add (i * 5 + 3)) = some (.slice B m c) ∧ W.cell? (a.add (i * 5 + 4)) = some (.slice A' m' c')) ∧ Kids W 0 (n + 1) B m (F i).tk ∧ Whys W 0 (n + 1) n A' m' (F i).kids) ∧ (F i).tn.size ≤ 9223372036854775807 :=
      ⟨fun i => if h : i < len then (each i h).choose else wy0, fun i him => by
        have := (each i him).choose_spec
        simpa [him] using this⟩
    obtain ⟨F, hF⟩ := hex
    have hget : ∀ j, j < len → ((List.range len).map F).getD j wy0 = F j := fun j hj => by
      rw [List.getD_eq_getElem?_getD, List.getElem?_map, List.getElem?_range hj]; rfl
    unfold maxLen at hm
    refine ⟨some a, len, cap, (List.range len).map F, hcs, by simp, by omega, fun hn0 => ?_⟩
    obtain ⟨⟨_, _, _, _, _, _, ⟨h0, _⟩, _⟩, _⟩ := hF 0 (by omega)
    have hblk := World.block_lt_of_cell? _ _ h0
    obtain ⟨ab, ao, asp⟩ := a
    have hsp : asp = none := by
      cases asp with
      | none => rfl
      | some s => exfalso; simp [Addr.add, World.cell?] at h0; split at h0 <;> cases h0
    subst hsp
    have hadd : ∀ q, (⟨ab, ao, none⟩ : Addr).add q = ⟨ab, ao + q, none⟩ := fun q => by unfold Addr.add; split <;> simp_all
    refine ⟨ab, ao, rfl, Nat.zero_le _, by simpa [Addr.add] using hblk, fun j hj => ?_⟩
    obtain ⟨⟨B, m, c, A', m', c', ⟨g0, g1, g2, g3, g4⟩, hK, hW⟩, hs⟩ := hF j (by omega)
    rw [hadd] at g0 g1 g2 g3 g4
    rw [hget j hj]
    exact ⟨B, m, c, A', m', c', ⟨g0, g1, g2, g3, g4⟩, hK, hW, hs⟩
theorem open_why {H : Type} {enc : TypeId × Value → H} {W : World} {base : Nat} {v : Value} {d : DataW H} {p : List MemPlace} (hv : Value.okWide Try.prog W .any base 53 v) (h : DataW.Trod enc Try.prog W 0 (fun _ => true) true 53 v d p) :
    ∃ (x y : Int) (s : ByteArray) (B : Option Addr) (m cb : Nat) (tk : List TermV) (A : Option Addr) (n c : Nat) (ks : List WhyV) (dp : Nat), v = .agg #[.int .i64 x, .int .i64 y, .string s, .slice B m cb, .slice A n c] ∧ s.size ≤ 9223372036854775807 ∧ Kids W 0 dp B m tk ∧ Whys W 0 dp dp A n ks := by
  obtain ⟨cs, rfl, hsz⟩ := okWide_struct Try.underlying53 hv
  have hC : Try.prog.cellsOf 53 = 5 := by kernel_rfl
  rw [hC] at hsz
  obtain ⟨fuel, hf⟩ := h
  obtain ⟨xs, n2, hn2, _, _, hxl, hfs⟩ := DataW.trod_struct Try.underlying53 hf
  match cs, hsz with
  | ⟨[c0, c1, c2, c3, c4]⟩, _ =>
    match xs, hxl with
    | [y0, y1, y2, y3], _ =>
      have q0 := hfs 0 _ rfl
      have q1 := hfs 1 _ rfl
      have q2 := hfs 2 _ rfl
      have q3 := hfs 3 _ rfl
      have e1c : Try.prog.cellsOf 3 = 1 := by kernel_rfl
      have e2c : Try.prog.cellsOf 25 = 2 := by kernel_rfl
      have e3c : Try.prog.cellsOf 51 = 1 := by kernel_rfl
      have t0' : DataW.trod enc Try.prog W 0 (fun _ => true) true n2 3 (List.take (Try.prog.cellsOf 3) (List.drop 0 (Value.cells (.agg #[c0, c1, c2, c3, c4])).toList)) = some y0 := q0
      have t1' : DataW.trod enc Try.prog W 0 (fun _ => true) true n2 3 (List.take (Try.prog.cellsOf 3) (List.drop 1 (Value.cells (.agg #[c0, c1, c2, c3, c4])).toList)) = some y1 := q1
      have t2' : DataW.trod enc Try.prog W 0 (fun _ => true) true n2 25 (List.take (Try.prog.cellsOf 25) (List.drop 2 (Value.cells (.agg #[c0, c1, c2, c3, c4])).toList)) = some y2 := q2
      have t3' : DataW.trod enc Try.prog W 0 (fun _ => true) true n2 51 (List.take (Try.prog.cellsOf 51) (List.drop 4 (Value.cells (.agg #[c0, c1, c2, c3, c4])).toList)) = some y3 := q3
      rw [e1c] at t0' t1'
      rw [e2c] at t2'
      rw [e3c] at t3'
      simp only [Value.cells, List.drop_zero, List.drop_succ_cons, List.take_succ_cons, List.take_zero] at t0' t1' t2' t3'
      obtain ⟨r, e0, _, _⟩ := DataW.trod_int Try.underlying3 t0'
      obtain ⟨k, e1, _, _⟩ := DataW.trod_int Try.underlying3 t1'
      obtain ⟨s, B, m, c, tk, e2, e3, ws, hK⟩ := open_term_cells t2'
      obtain ⟨A', m', c', ks', e4, hW⟩ := open_whys n2 t3'
      simp at e0 e1 e4
      subst e0 e1 e2 e3 e4
      exact ⟨r, k, s, B, m, c, tk, A', m', c', ks', n2, rfl, ws, hK, hW⟩
end Go.Proofs.Ytgmeoblapnmpiaa

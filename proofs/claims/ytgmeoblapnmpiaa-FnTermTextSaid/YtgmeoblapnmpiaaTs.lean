/- Terms as arguments; terms compared. -/
import Derived.Test.YtgmeoblapnmpiaaTm
import Derived.Deep.Strs
import Derived.ChangeMaps5
import Derived.ChangeSame
namespace Go.Proofs.Ytgmeoblapnmpiaa
set_option maxRecDepth 100000
open Go.RowKit Go.ChangeShapes Go.WideShapes Go.ChangeAt
set_option linter.unusedSimpArgs false
set_option linter.unusedVariables false

theorem Kids.deeper {w : World} {lo : Nat} : ∀ {d : Nat} {A : Option Addr} {n : Nat} {ks : List TermV}, Kids w lo d A n ks → Kids w lo (d + 1) A n ks
  | 0, _, _, _, h => by
    obtain ⟨rfl, rfl⟩ := h
    exact ⟨rfl, by omega, fun h => absurd h (by omega)⟩
  | d + 1, A, n, ks, h => ⟨h.1, h.2.1, fun hn => by
    obtain ⟨b, o, e, hlo, hl, hc⟩ := h.2.2 hn
    refine ⟨b, o, e, hlo, hl, fun j hj => ?_⟩
    obtain ⟨A', m', c', h0, h1, h2, h3⟩ := hc j hj
    exact ⟨A', m', c', h0, h1, Kids.deeper h2, h3⟩⟩

theorem open_kids {H : Type} {enc : TypeId × Value → H} {W : World} : ∀ (f : Nat) {cs : List Value} {x : DataW H × List MemPlace}, DataW.trod enc Try.prog W 0 (fun _ => true) true f 23 cs = some x →
    ∃ (A : Option Addr) (n c : Nat) (ks : List TermV), cs = [.slice A n c] ∧ Kids W 0 f A n ks := by
  intro f
  induction f using Nat.strongRecOn with
  | _ f ih =>
  intro cs x hf
  rcases DataW.trod_slice Try.underlying23 hf with ⟨hcs, _⟩ | ⟨a, len, cap, elems, rest, n, hfn, hcs, _, hb, hl, hm, hlen, hel, _, _⟩
  · refine ⟨none, 0, 0, [], hcs, ?_⟩
    cases f with
    | zero => exact ⟨rfl, rfl⟩
    | succ f => exact ⟨rfl, by omega, fun h => absurd h (by omega)⟩
  · subst hfn
    have hC : Try.prog.cellsOf 25 = 2 := by kernel_rfl
    have each : ∀ i, i < len → ∃ t : TermV, (∃ A' m' c', W.cell? (a.add (i * 2)) = some (.string t.name) ∧ W.cell? (a.add (i * 2 + 1)) = some (.slice A' m' c') ∧ Kids W 0 n A' m' t.kids) ∧ t.name.size ≤ 9223372036854775807 := fun i hi => by
      have h1 := hel i hi
      rw [List.getElem?_eq_getElem (by omega), hC] at h1
      obtain ⟨cs', h2, h3⟩ := Option.bind_eq_some_iff.1 h1
      obtain ⟨_, hlen2, hcell⟩ := World.cells?_some h2
      obtain ⟨xs, n2, hn2, _, _, hxl, hfs⟩ := DataW.trod_struct Try.underlying25 h3
      subst hn2
      match cs', hlen2 with
      | [u0, u1], _ =>
        match xs, hxl with
        | [y0, y1], _ =>
          have q0 := hfs 0 _ rfl
          have q1 := hfs 1 _ rfl
          have t0' : DataW.trod enc Try.prog W 0 (fun _ => true) true n2 9 [u0] = some y0 := q0
          have t1' : DataW.trod enc Try.prog W 0 (fun _ => true) true n2 23 [u1] = some y1 := q1
          obtain ⟨s, e0, _, ws⟩ := DataW.trod_string Try.underlying9 t0'
          obtain ⟨A', m', c', ks', e1, hK⟩ := ih n2 (by omega) t1'
          simp at e0 e1
          subst e0 e1
          unfold maxLen at ws
          have g0 := hcell 0 (by omega)
          have g1 := hcell 1 (by omega)
          rw [Go.Deep.add_add] at g0 g1
          exact ⟨.mk s ks', ⟨A', m', c', by simpa [TermV.name] using g0, by simpa using g1, hK.deeper⟩, ws⟩
    have hex : ∃ F : Nat → TermV, ∀ i, i < len → (∃ A' m' c', W.cell? (a.add (i * 2)) = some (.string (F i).name) ∧ W.cell? (a.add (i * 2 + 1)) = some (.slice A' m' c') ∧ Kids W 0 n A' m' (F i).kids) ∧ (F i).name.size ≤ 9223372036854775807 :=
      ⟨fun i => if h : i < len then (each i h).choose else tm0, fun i him => by
        have := (each i him).choose_spec
        simpa [him] using this⟩
    obtain ⟨F, hF⟩ := hex
    have hget : ∀ j, j < len → ((List.range len).map F).getD j tm0 = F j := fun j hj => by
      rw [List.getD_eq_getElem?_getD, List.getElem?_map, List.getElem?_range hj]; rfl
    unfold maxLen at hm
    refine ⟨some a, len, cap, (List.range len).map F, hcs, by simp, by omega, fun hn0 => ?_⟩
    obtain ⟨⟨_, _, _, h0, _⟩, _⟩ := hF 0 (by omega)
    have hblk := World.block_lt_of_cell? _ _ h0
    obtain ⟨ab, ao, asp⟩ := a
    have hsp : asp = none := by
      cases asp with
      | none => rfl
      | some s => exfalso; simp [Addr.add, World.cell?] at h0; split at h0 <;> cases h0
    subst hsp
    have hadd : ∀ q, (⟨ab, ao, none⟩ : Addr).add q = ⟨ab, ao + q, none⟩ := fun q => by unfold Addr.add; split <;> simp_all
    refine ⟨ab, ao, rfl, Nat.zero_le _, by simpa [Addr.add] using hblk, fun j hj => ?_⟩
    obtain ⟨⟨A', m', c', g0, g1, hK⟩, hs⟩ := hF j (by omega)
    rw [hadd] at g0 g1
    rw [hget j hj]
    exact ⟨A', m', c', g0, g1, hK, hs⟩
theorem open_term {H : Type} {enc : TypeId × Value → H} {W : World} {base : Nat} {v : Value} {d : DataW H} {p : List MemPlace} (hv : Value.okWide Try.prog W .any base 25 v) (h : DataW.Trod enc Try.prog W 0 (fun _ => true) true 25 v d p) :
    ∃ (s : ByteArray) (A : Option Addr) (n c : Nat) (ks : List TermV) (dp : Nat), v = .agg #[.string s, .slice A n c] ∧ s.size ≤ 9223372036854775807 ∧ Kids W 0 dp A n ks := by
  obtain ⟨cs, rfl, hsz⟩ := okWide_struct Try.underlying25 hv
  have hC : Try.prog.cellsOf 25 = 2 := by kernel_rfl
  rw [hC] at hsz
  obtain ⟨fuel, hf⟩ := h
  obtain ⟨y0, y1, n, hx, _, q0, q1⟩ := trod_struct2 Try.underlying25 hf
  match cs, hsz with
  | ⟨[c0, c1]⟩, _ =>
    have t0' : DataW.trod enc Try.prog W 0 (fun _ => true) true n 9 (List.take (Try.prog.cellsOf 9) (List.drop 0 (Value.cells (.agg #[c0, c1])).toList)) = some y0 := q0
    have t1' : DataW.trod enc Try.prog W 0 (fun _ => true) true n 23 (List.take (Try.prog.cellsOf 23) (List.drop 1 (Value.cells (.agg #[c0, c1])).toList)) = some y1 := q1
    rw [show Try.prog.cellsOf 9 = 1 by kernel_rfl] at t0'
    rw [show Try.prog.cellsOf 23 = 1 by kernel_rfl] at t1'
    obtain ⟨s, e0, _, ws⟩ := DataW.trod_string Try.underlying9 t0'
    obtain ⟨A, m, c, ks, e1, hK⟩ := open_kids n t1'
    unfold maxLen at ws
    simp [Value.cells] at e0 e1
    refine ⟨s, A, m, c, ks, n, ?_, ws, hK⟩
    simp [e0, e1]
def nameSame (s s' : ByteArray) : Bool := decide (s.toList = s'.toList)
/-- two lists of terms are one -/
def sameTerms : Nat → List TermV → List TermV → Bool
  | 0, ks, ks' => decide (ks.length = ks'.length)
  | d + 1, ks, ks' => decide (ks.length = ks'.length) && decide (∀ j, j < ks.length → (nameSame (ks.getD j tm0).name (ks'.getD j tm0).name && sameTerms d (ks.getD j tm0).kids (ks'.getD j tm0).kids) = true)
def kidSame (d : Nat) (ks ks' : List TermV) (j : Nat) : Bool := nameSame (ks.getD j tm0).name (ks'.getD j tm0).name && sameTerms d (ks.getD j tm0).kids (ks'.getD j tm0).kids
def KidTo (d : Nat) (ks ks' : List TermV) (k : Nat) : Prop := ∀ d', d = d' + 1 → ∀ j, j < k → kidSame d' ks ks' j = true
theorem KidTo.zero (d : Nat) (ks ks' : List TermV) : KidTo d ks ks' 0 := fun _ _ _ h => absurd h (by omega)
theorem KidTo.succ {d : Nat} {ks ks' : List TermV} {k : Nat} (h : KidTo (d + 1) ks ks' k) (h' : kidSame d ks ks' k = true) : KidTo (d + 1) ks ks' (k + 1) := fun d' e j hj => by
  obtain rfl : d = d' := by omega
  by_cases e : j = k
  · rw [e]; exact h'
  · exact h d rfl j (by omega)
theorem sameTerms_no {d : Nat} {ks ks' : List TermV} {k : Nat} (hk : k < ks.length) (h : kidSame d ks ks' k = false) : sameTerms (d + 1) ks ks' = false := by
  unfold sameTerms
  rw [decide_eq_false (p := ∀ j, j < ks.length → (nameSame (ks.getD j tm0).name (ks'.getD j tm0).name && sameTerms d (ks.getD j tm0).kids (ks'.getD j tm0).kids) = true) (fun hh => by have := hh k hk; unfold kidSame at h; rw [h] at this; cases this), Bool.and_false]
theorem sameTerms_len {d : Nat} {ks ks' : List TermV} (h : ks.length ≠ ks'.length) : sameTerms d ks ks' = false := by
  cases d with
  | zero => exact decide_eq_false h
  | succ d => unfold sameTerms; rw [decide_eq_false h, Bool.false_and]
theorem sameTerms_yes {d : Nat} {ks ks' : List TermV} (hl : ks.length = ks'.length) (h : KidTo d ks ks' ks.length) : sameTerms d ks ks' = true := by
  cases d with
  | zero => exact decide_eq_true hl
  | succ d =>
    have hh : ∀ j, j < ks.length → (nameSame (ks.getD j tm0).name (ks'.getD j tm0).name && sameTerms d (ks.getD j tm0).kids (ks'.getD j tm0).kids) = true := h d rfl
    unfold sameTerms
    rw [decide_eq_true hl, decide_eq_true hh]; rfl
theorem kidSame_of {d : Nat} {ks ks' : List TermV} {k : Nat} {s s' : ByteArray} {qs qs' : List TermV} (h1 : (ks.getD k tm0).name = s) (h2 : (ks.getD k tm0).kids = qs) (h3 : (ks'.getD k tm0).name = s') (h4 : (ks'.getD k tm0).kids = qs') : kidSame d ks ks' k = (nameSame s s' && sameTerms d qs qs') := by
  subst h1 h2 h3 h4; rfl
def SameCall (f : FuncId) (d : Nat) : Prop := ∀ {A A' : Option Addr} {n n' c c' lo lo' : Nat} {ks ks' : List TermV} (s s' : ByteArray) {w : World}, Kids w lo d A n ks → Kids w lo' d A' n' ks' →
    Calls Try.prog f #[.agg #[.string s, .slice A n c], .agg #[.string s', .slice A' n' c']] w fun e w' => e = .returned (.bool (nameSame s s' && sameTerms d ks ks')) ∧ Below w.heap.size w w'
theorem SameCall.at {f : FuncId} {d : Nat} (H : SameCall f d) {A A' : Option Addr} {n n' c c' lo lo' : Nat} {ks ks' : List TermV} {s s' : ByteArray} {w : World} {v : Bool} (h : Kids w lo d A n ks) (h' : Kids w lo' d A' n' ks') (hv : (nameSame s s' && sameTerms d ks ks') = v) :
    Calls Try.prog f #[.agg #[.string s, .slice A n c], .agg #[.string s', .slice A' n' c']] w fun e w' => e = .returned (.bool v) ∧ Below w.heap.size w w' := by
  subst hv; exact H s s' h h'

set_option maxHeartbeats 4000000 in
theorem equalFuncTerm_of {d : Nat} (IH : ∀ d', d = d' + 1 → SameCall 17 d') {A A' : Option Addr} {n n' c c' lo lo' : Nat} {ks ks' : List TermV} {w : World} (h : Kids w lo d A n ks) (h' : Kids w lo' d A' n' ks') :
    Calls Try.prog 43 #[.slice A n c, .slice A' n' c', .func (.func 17) #[] #[]] w fun e w' => e = .returned (.bool (sameTerms d ks ks')) ∧ Below w.heap.size w w' := by
  have hfew := h.few
  have hfew' := h'.few
  by_cases hn : n = n'
  · subst hn
    have hl := Lib.hid (h.len.trans h'.len.symm)
    have hlen0 := h.len
    obtain ⟨f, hf⟩ : ∃ f, sameTerms d ks ks' = f := ⟨_, rfl⟩
    rw [hf]
    have HF := Lib.hid hf
    clear hf
    go_enter Try.func43, Try.ntmps43
    go_wp2_with fail
    go_loopw [17] (fun i wr => ∃ k : Nat, k ≤ n ∧ i = .int .i64 k ∧ KidTo d ks ks' k ∧ Below w.heap.size w wr) (fun i _ => n - (intOf i).toNat)
    case atStart => exact ⟨0, by omega, rfl, KidTo.zero d ks ks', by (repeat (first | with_reducible exact Below.refl _ _ | with_reducible assumption | (with_reducible refine below_drewN ?_ _) | (with_reducible refine Below.drew ?_) | (with_reducible refine Below.setCell ?_ (by first | omega | (simp; done) | (simp; omega)) _) | (with_reducible refine Below.alloc ?_ (by first | omega | (simp; done) | (simp; omega)) _) | refine Below.trans ?_ (Below.mono (by with_reducible assumption) (by first | omega | (simp; done) | (simp; omega)))))⟩
    case round =>
      obtain ⟨k, hk, rfl, hok, hB⟩ := hrel
      have hzr := hB.size
      by_cases hlt : k < n
      · obtain ⟨d', p, o, rfl, rfl, hpl, hp, hcs⟩ := (h.later hB).cells (by omega)
        obtain ⟨B, m, cb, hc1, hc2, hIk, hsf⟩ := hcs k hlt
        clear hcs
        obtain ⟨d2, p', o', ed, rfl, hpl', hp', hcs'⟩ := (h'.later hB).cells (by omega)
        obtain rfl : d' = d2 := by omega
        obtain ⟨B', m', cb', hc3, hc4, hIk', hsf'⟩ := hcs' k hlt
        clear hcs'
        have HI : Hid (SameCall 17 d') := Lib.hid (IH d' rfl)
        have hno := Lib.hid (@sameTerms_no d' ks ks' k (by omega))
        have hyes := Lib.hid (@KidTo.succ d' ks ks' k hok)
        have hat := Lib.hid (@kidSame_of d' ks ks' k _ _ _ _ rfl rfl rfl rfl)
        generalize (ks.getD k tm0).name = s at *
        generalize (ks.getD k tm0).kids = qs at *
        generalize (ks'.getD k tm0).name = s' at *
        generalize (ks'.getD k tm0).kids = qs' at *
        obtain ⟨v, hv⟩ : ∃ v, (nameSame s s' && sameTerms d' qs qs') = v := ⟨_, rfl⟩
        have hkv := hat.out.trans hv
        have HV := Lib.hid hv
        clear hv
        go_wp2_with fail
        refine (SameCall.at HI.out (c := cb) (c' := cb') (s := s) (s' := s') (hIk.later (by (repeat (first | with_reducible exact Below.refl _ _ | with_reducible assumption | (with_reducible refine below_drewN ?_ _) | (with_reducible refine Below.drew ?_) | (with_reducible refine Below.setCell ?_ (by first | omega | (simp; done) | (simp; omega)) _) | (with_reducible refine Below.alloc ?_ (by first | omega | (simp; done) | (simp; omega)) _) | refine Below.trans ?_ (Below.mono (by with_reducible assumption) (by first | omega | (simp; done) | (simp; omega))))))) (hIk'.later (by (repeat (first | with_reducible exact Below.refl _ _ | with_reducible assumption | (with_reducible refine below_drewN ?_ _) | (with_reducible refine Below.drew ?_) | (with_reducible refine Below.setCell ?_ (by first | omega | (simp; done) | (simp; omega)) _) | (with_reducible refine Below.alloc ?_ (by first | omega | (simp; done) | (simp; omega)) _) | refine Below.trans ?_ (Below.mono (by with_reducible assumption) (by first | omega | (simp; done) | (simp; omega))))))) HV.out).mono ?_
        rintro e w1 ⟨rfl, hb1⟩
        have hz1 := hb1.size; (try simp at hz1); have hB1 : Below w.heap.size w w1 := (by refine Below.trans ?_ (Below.mono hb1 (by first | omega | (simp; done) | (simp; omega))); (repeat (first | with_reducible exact Below.refl _ _ | with_reducible assumption | (with_reducible refine below_drewN ?_ _) | (with_reducible refine Below.drew ?_) | (with_reducible refine Below.setCell ?_ (by first | omega | (simp; done) | (simp; omega)) _) | (with_reducible refine Below.alloc ?_ (by first | omega | (simp; done) | (simp; omega)) _) | refine Below.trans ?_ (Below.mono (by with_reducible assumption) (by first | omega | (simp; done) | (simp; omega))))))
        clear hb1
        cases v
        · have he := HF.out.symm.trans (hno.out hkv)
          subst he
          go_wp2
          go_ret
          exact ⟨rfl, by (repeat (first | with_reducible exact Below.refl _ _ | with_reducible assumption | (with_reducible refine below_drewN ?_ _) | (with_reducible refine Below.drew ?_) | (with_reducible refine Below.setCell ?_ (by first | omega | (simp; done) | (simp; omega)) _) | (with_reducible refine Below.alloc ?_ (by first | omega | (simp; done) | (simp; omega)) _) | refine Below.trans ?_ (Below.mono (by with_reducible assumption) (by first | omega | (simp; done) | (simp; omega)))))⟩
        · have HY := Lib.hid (hyes.out hkv)
          go_wp2
          go_roundw
          case rel => exact ⟨k + 1, by omega, by go_num, HY.out, by (repeat (first | with_reducible exact Below.refl _ _ | with_reducible assumption | (with_reducible refine below_drewN ?_ _) | (with_reducible refine Below.drew ?_) | (with_reducible refine Below.setCell ?_ (by first | omega | (simp; done) | (simp; omega)) _) | (with_reducible refine Below.alloc ?_ (by first | omega | (simp; done) | (simp; omega)) _) | refine Below.trans ?_ (Below.mono (by with_reducible assumption) (by first | omega | (simp; done) | (simp; omega)))))⟩
          case measure => simp [intOf]; omega
      · obtain rfl : k = n := by omega
        have he := HF.out.symm.trans (sameTerms_yes hl.out (by rw [h.len]; exact hok))
        subst he
        go_wp2
        go_ret
        exact ⟨rfl, hB⟩
  · have hne : ((n : Int) != (n' : Int)) = true := by simp; omega
    have hd : sameTerms d ks ks' = false := sameTerms_len (by rw [h.len, h'.len]; exact hn)
    rw [hd]
    go_enter Try.func43, Try.ntmps43
    go_wp2
    go_ret
    exact ⟨rfl, Below.refl _ _⟩
set_option maxHeartbeats 2000000 in
theorem iTermSame_of {d : Nat} (IH : ∀ d', d = d' + 1 → SameCall 17 d') : SameCall 17 d := by
  intro A A' n n' c c' lo lo' ks ks' s s' w h h'
  unfold nameSame
  by_cases hs : s.toList = s'.toList
  · have hs1 : decide (s.toList = s'.toList) = true := by simpa using hs
    rw [hs1]
    go_enter Try.func17, Try.ntmps17
    go_wp2_with fail
    refine (equalFuncTerm_of IH (h.later (by (repeat (first | with_reducible exact Below.refl _ _ | with_reducible assumption | (with_reducible refine below_drewN ?_ _) | (with_reducible refine Below.drew ?_) | (with_reducible refine Below.setCell ?_ (by first | omega | (simp; done) | (simp; omega)) _) | (with_reducible refine Below.alloc ?_ (by first | omega | (simp; done) | (simp; omega)) _) | refine Below.trans ?_ (Below.mono (by with_reducible assumption) (by first | omega | (simp; done) | (simp; omega))))))) (h'.later (by (repeat (first | with_reducible exact Below.refl _ _ | with_reducible assumption | (with_reducible refine below_drewN ?_ _) | (with_reducible refine Below.drew ?_) | (with_reducible refine Below.setCell ?_ (by first | omega | (simp; done) | (simp; omega)) _) | (with_reducible refine Below.alloc ?_ (by first | omega | (simp; done) | (simp; omega)) _) | refine Below.trans ?_ (Below.mono (by with_reducible assumption) (by first | omega | (simp; done) | (simp; omega)))))))).mono ?_
    rintro e w1 ⟨rfl, hb1⟩
    have hz1 := hb1.size; (try simp at hz1); have hB1 : Below w.heap.size w w1 := (by refine Below.trans ?_ (Below.mono hb1 (by first | omega | (simp; done) | (simp; omega))); (repeat (first | with_reducible exact Below.refl _ _ | with_reducible assumption | (with_reducible refine below_drewN ?_ _) | (with_reducible refine Below.drew ?_) | (with_reducible refine Below.setCell ?_ (by first | omega | (simp; done) | (simp; omega)) _) | (with_reducible refine Below.alloc ?_ (by first | omega | (simp; done) | (simp; omega)) _) | refine Below.trans ?_ (Below.mono (by with_reducible assumption) (by first | omega | (simp; done) | (simp; omega))))))
    clear hb1
    go_wp2
    go_ret
    exact ⟨by simp, by (repeat (first | with_reducible exact Below.refl _ _ | with_reducible assumption | (with_reducible refine below_drewN ?_ _) | (with_reducible refine Below.drew ?_) | (with_reducible refine Below.setCell ?_ (by first | omega | (simp; done) | (simp; omega)) _) | (with_reducible refine Below.alloc ?_ (by first | omega | (simp; done) | (simp; omega)) _) | refine Below.trans ?_ (Below.mono (by with_reducible assumption) (by first | omega | (simp; done) | (simp; omega)))))⟩
  · have hs3 : decide (s.toList = s'.toList) = false := by simpa using hs
    rw [hs3]
    go_enter Try.func17, Try.ntmps17
    go_wp2
    go_ret
    exact ⟨by simp, by (repeat (first | with_reducible exact Below.refl _ _ | with_reducible assumption | (with_reducible refine below_drewN ?_ _) | (with_reducible refine Below.drew ?_) | (with_reducible refine Below.setCell ?_ (by first | omega | (simp; done) | (simp; omega)) _) | (with_reducible refine Below.alloc ?_ (by first | omega | (simp; done) | (simp; omega)) _) | refine Below.trans ?_ (Below.mono (by with_reducible assumption) (by first | omega | (simp; done) | (simp; omega)))))⟩
theorem iTermSame_any : ∀ d, SameCall 17 d
  | 0 => iTermSame_of (fun d' e => by omega)
  | d + 1 => iTermSame_of (fun d' e => by obtain rfl : d = d' := by omega
                                          exact iTermSame_any d)

set_option maxHeartbeats 4000000 in
theorem sTermSame_of {d : Nat} (IH : ∀ d', d = d' + 1 → SameCall 15 d') : SameCall 15 d := by
  intro A A' n n' c c' lo lo' ks ks' s s' w h h'
  have hfew := h.few
  have hfew' := h'.few
  unfold nameSame
  by_cases hs : s.toList = s'.toList
  · have hs1 : decide (s.toList = s'.toList) = true := by simpa using hs
    rw [hs1]
    by_cases hn : n = n'
    · subst hn
      have hl := Lib.hid (h.len.trans h'.len.symm)
      have hlen0 := h.len
      obtain ⟨f, hf⟩ : ∃ f, sameTerms d ks ks' = f := ⟨_, rfl⟩
      rw [hf]
      have HF := Lib.hid hf
      clear hf
      go_enter Try.func15, Try.ntmps15
      go_wp2_with fail
      go_loopw [5] (fun i wr => ∃ k : Nat, k ≤ n ∧ i = .int .i64 k ∧ KidTo d ks ks' k ∧ wr.cell? ⟨w.heap.size, 1, none⟩ = some (.slice A n c) ∧ wr.cell? ⟨w.heap.size + 1, 1, none⟩ = some (.slice A' n c') ∧ Below w.heap.size w wr) (fun i _ => n - (intOf i).toNat)
      case atStart => exact ⟨0, by omega, rfl, KidTo.zero d ks ks', by go_simp, by go_simp, by (repeat (first | with_reducible exact Below.refl _ _ | with_reducible assumption | (with_reducible refine below_drewN ?_ _) | (with_reducible refine Below.drew ?_) | (with_reducible refine Below.setCell ?_ (by first | omega | (simp; done) | (simp; omega)) _) | (with_reducible refine Below.alloc ?_ (by first | omega | (simp; done) | (simp; omega)) _) | refine Below.trans ?_ (Below.mono (by with_reducible assumption) (by first | omega | (simp; done) | (simp; omega)))))⟩
      case round =>
        obtain ⟨k, hk, rfl, hok, hq1, hq2, hB⟩ := hrel
        have hzr := hB.size
        have hx1 := World.block_lt_of_cell? _ _ hq1
        have hx2 := World.block_lt_of_cell? _ _ hq2
        dsimp only at hx1 hx2
        by_cases hlt : k < n
        · obtain ⟨d', p, o, rfl, rfl, hpl, hp, hcs⟩ := (h.later hB).cells (by omega)
          obtain ⟨B, m, cb, hc1, hc2, hIk, hsf⟩ := hcs k hlt
          clear hcs
          obtain ⟨d2, p', o', ed, rfl, hpl', hp', hcs'⟩ := (h'.later hB).cells (by omega)
          obtain rfl : d' = d2 := by omega
          obtain ⟨B', m', cb', hc3, hc4, hIk', hsf'⟩ := hcs' k hlt
          clear hcs'
          have HI : Hid (SameCall 15 d') := Lib.hid (IH d' rfl)
          have hno := Lib.hid (@sameTerms_no d' ks ks' k (by omega))
          have hyes := Lib.hid (@KidTo.succ d' ks ks' k hok)
          have hat := Lib.hid (@kidSame_of d' ks ks' k _ _ _ _ rfl rfl rfl rfl)
          generalize (ks.getD k tm0).name = t at *
          generalize (ks.getD k tm0).kids = qs at *
          generalize (ks'.getD k tm0).name = t' at *
          generalize (ks'.getD k tm0).kids = qs' at *
          obtain ⟨v, hv⟩ : ∃ v, (nameSame t t' && sameTerms d' qs qs') = v := ⟨_, rfl⟩
          have hkv := hat.out.trans hv
          have HV := Lib.hid hv
          clear hv
          have c1 := Lib.hid (fun (W : World) (hW : Below wr.heap.size wr W) (st : Grown W) => SameCall.at HI.out (c := cb) (c' := cb') (s := t) (s' := t') (hIk.later (hW.trans (st.ok.mono hW.size))) (hIk'.later (hW.trans (st.ok.mono hW.size))) HV.out)
          go_wp2_with fail
          refine wp_region_grown (by kernel_rfl) (by kernel_rfl) ?_
          refine quiet_with (a := ⟨p, o + k * 2, none⟩) (v := .string t) hc1 ?_; intro g
          refine quiet_with (a := ⟨p, o + k * 2 + 1, none⟩) (v := .slice B m cb) hc2 ?_; intro g
          refine quiet_with (a := ⟨p', o' + k * 2, none⟩) (v := .string t') hc3 ?_; intro g
          refine quiet_with (a := ⟨p', o' + k * 2 + 1, none⟩) (v := .slice B' m' cb') hc4 ?_; intro g
          refine quiet_with (a := ⟨w.heap.size, 1, none⟩) (v := .slice (some ⟨p, o, none⟩) n c) hq1 ?_; intro g
          refine quiet_with (a := ⟨w.heap.size + 1, 1, none⟩) (v := .slice (some ⟨p', o', none⟩) n c') hq2 ?_; intro g
          repeat (go_big_quiet_step ((first | (go_at_call 15; (with_reducible exact grown_of (c1.out _ (Below.refl _ _) _))))))
          refine wpQuiet_nil ?_
          rintro w2 ⟨⟨_, hb1⟩, rfl⟩
          have hB2 : Below w.heap.size w w2 := hB.trans (hb1.mono hB.size)
          have hq3 := (hb1.cell (World.block_lt_of_cell? _ _ hq1)).trans hq1
          have hq4 := (hb1.cell (World.block_lt_of_cell? _ _ hq2)).trans hq2
          clear hb1 c1
          cases v
          · have he := HF.out.symm.trans (hno.out hkv)
            subst he
            go_wp2
            go_ret
            exact ⟨rfl, by (repeat (first | with_reducible exact Below.refl _ _ | with_reducible assumption | (with_reducible refine below_drewN ?_ _) | (with_reducible refine Below.drew ?_) | (with_reducible refine Below.setCell ?_ (by first | omega | (simp; done) | (simp; omega)) _) | (with_reducible refine Below.alloc ?_ (by first | omega | (simp; done) | (simp; omega)) _) | refine Below.trans ?_ (Below.mono (by with_reducible assumption) (by first | omega | (simp; done) | (simp; omega)))))⟩
          · have HY := Lib.hid (hyes.out hkv)
            go_wp2
            go_roundw
            case rel => exact ⟨k + 1, by omega, by go_num, HY.out, hq3, hq4, by (repeat (first | with_reducible exact Below.refl _ _ | with_reducible assumption | (with_reducible refine below_drewN ?_ _) | (with_reducible refine Below.drew ?_) | (with_reducible refine Below.setCell ?_ (by first | omega | (simp; done) | (simp; omega)) _) | (with_reducible refine Below.alloc ?_ (by first | omega | (simp; done) | (simp; omega)) _) | refine Below.trans ?_ (Below.mono (by with_reducible assumption) (by first | omega | (simp; done) | (simp; omega)))))⟩
            case measure => simp [intOf]; omega
        · obtain rfl : k = n := by omega
          have he := HF.out.symm.trans (sameTerms_yes hl.out (by rw [h.len]; exact hok))
          subst he
          go_wp2
          go_ret
          exact ⟨rfl, hB⟩
    · have hne : ((n : Int) != (n' : Int)) = true := by simp; omega
      have hd : sameTerms d ks ks' = false := sameTerms_len (by rw [h.len, h'.len]; exact hn)
      rw [hd]
      go_enter Try.func15, Try.ntmps15
      go_wp2
      go_ret
      exact ⟨rfl, by (repeat (first | with_reducible exact Below.refl _ _ | with_reducible assumption | (with_reducible refine below_drewN ?_ _) | (with_reducible refine Below.drew ?_) | (with_reducible refine Below.setCell ?_ (by first | omega | (simp; done) | (simp; omega)) _) | (with_reducible refine Below.alloc ?_ (by first | omega | (simp; done) | (simp; omega)) _) | refine Below.trans ?_ (Below.mono (by with_reducible assumption) (by first | omega | (simp; done) | (simp; omega)))))⟩
  · have hs3 : decide (s.toList = s'.toList) = false := by simpa using hs
    rw [hs3]
    go_enter Try.func15, Try.ntmps15
    go_wp2
    go_ret
    exact ⟨by simp, by (repeat (first | with_reducible exact Below.refl _ _ | with_reducible assumption | (with_reducible refine below_drewN ?_ _) | (with_reducible refine Below.drew ?_) | (with_reducible refine Below.setCell ?_ (by first | omega | (simp; done) | (simp; omega)) _) | (with_reducible refine Below.alloc ?_ (by first | omega | (simp; done) | (simp; omega)) _) | refine Below.trans ?_ (Below.mono (by with_reducible assumption) (by first | omega | (simp; done) | (simp; omega)))))⟩
theorem sTermSame_any : ∀ d, SameCall 15 d
  | 0 => sTermSame_of (fun d' e => by omega)
  | d + 1 => sTermSame_of (fun d' e => by obtain rfl : d = d' := by omega
                                          exact sTermSame_any d)

theorem toTerm0 (d : Nat) {A : Option Addr} {n c lo : Nat} {ks : List TermV} (s : ByteArray) {w : World} (h : Kids w lo d A n ks) (hn : n ≤ 1048576) (hm : psum (tcost d) ks n ≤ 1048576) :
    Calls Try.prog 16 #[.agg #[.string s, .slice A n c]] w fun e w' => ∃ g, e = .returned (.agg #[.string s, .slice (some ⟨g, 0, none⟩) n n]) ∧ Kids w' 0 d (some ⟨g, 0, none⟩) n ks ∧ Below w.heap.size w w' :=
  (toTerm_any d s h hn hm).mono fun _ _ ⟨g, h0, h1, h2⟩ => ⟨g, h0, h1.weak (Nat.zero_le _), h2⟩
theorem eqTerm0 (d : Nat) {A A' : Option Addr} {n c c' : Nat} {ks : List TermV} (s : ByteArray) {w : World} (h : Kids w 0 d A n ks) (h' : Kids w 0 d A' n ks) :
    Calls Try.prog 18 #[.agg #[.string s, .slice A n c], .agg #[.string s, .slice A' n c']] w fun e w' => e = .returned (.bool true) ∧ Below w.heap.size w w' := eqTerm_same d s h h'
theorem Kids.le {w : World} {d1 d2 : Nat} {A : Option Addr} {n lo : Nat} {ks : List TermV} (h : Kids w lo d1 A n ks) (hd : d1 ≤ d2) : Kids w lo d2 A n ks := by
  obtain ⟨k, rfl⟩ : ∃ k, d2 = d1 + k := ⟨d2 - d1, by omega⟩
  induction k with
  | zero => exact h
  | succ k ih => exact (ih (by omega)).deeper
end Go.Proofs.Ytgmeoblapnmpiaa

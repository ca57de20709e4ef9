/- Combinations of a list of constraints: contracts. -/
import Derived.Test.YtccjbipmlpnhkaaFm
namespace Go.Proofs.Ytccjbipmlpnhkaa
set_option maxRecDepth 100000
open Go.RowKit Go.ChangeShapes Go.WideShapes Go.ChangeAt
set_option linter.unusedSimpArgs false
set_option linter.unusedVariables false

/-- one constraint more, taken t times -/
def sumStep (a : LinV) (t : Int) (l : LinV) : Option LinV :=
  if linSumOk 1 a.1 a.2.1 t l.1 l.2.1 = true then some (combo 1 a.1 t l.1, 1 * a.2.1 + t * l.2.1, strictOr 1 t a.2.2 l.2.2) else none
/-- the combination of the first k -/
def sumK (ls : List LinV) (ts : List Int) : Nat → Option LinV
  | 0 => some ([0, 0, 0, 0], 0, false)
  | k + 1 => (sumK ls ts k).bind fun a => sumStep a (ts.getD k 0) (ls.getD k lin0)
/-- the combination of all -/
def farSum (ls : List LinV) (ts : List Int) : Option LinV := if (sysOk ls && decide (ts.length = ls.length)) = true then sumK ls ts ls.length else none
def farOk (ls : List LinV) (ts : List Int) : Bool := match farSum ls ts with
  | some (zs, b, s) => linBad zs b s
  | none => false
theorem sumK_none {ls : List LinV} {ts : List Int} {k : Nat} (h : sumK ls ts k = none) : ∀ {m : Nat}, k ≤ m → sumK ls ts m = none
  | 0, hm => by obtain rfl : k = 0 := by omega
                exact h
  | m + 1, hm => by
    by_cases e : k = m + 1
    · subst e; exact h
    · simp only [sumK, sumK_none h (show k ≤ m by omega), Option.bind_none]
theorem sumK_yes {ls : List LinV} {ts : List Int} {k : Nat} {zs : List Int} {b : Int} {s : Bool} (h : sumK ls ts k = some (zs, b, s)) (hk : linSumOk 1 zs b (ts.getD k 0) (ls.getD k lin0).1 (ls.getD k lin0).2.1 = true) :
    sumK ls ts (k + 1) = some (combo 1 zs (ts.getD k 0) (ls.getD k lin0).1, 1 * b + ts.getD k 0 * (ls.getD k lin0).2.1, strictOr 1 (ts.getD k 0) s (ls.getD k lin0).2.2) := by
  simp only [sumK, h, Option.bind_some, sumStep]
  rw [if_pos hk]
theorem sumK_no {ls : List LinV} {ts : List Int} {k : Nat} {zs : List Int} {b : Int} {s : Bool} (h : sumK ls ts k = some (zs, b, s)) (hk : linSumOk 1 zs b (ts.getD k 0) (ls.getD k lin0).1 (ls.getD k lin0).2.1 = false) :
    sumK ls ts (k + 1) = none := by
  simp only [sumK, h, Option.bind_some, sumStep]
  rw [if_neg (by rw [hk]; simp)]
theorem farSum_inv {ls : List LinV} {ts : List Int} (h : (sysOk ls && decide (ts.length = ls.length)) = false) : farSum ls ts = none := by
  unfold farSum; rw [if_neg (by rw [h]; simp)]
theorem farSum_go {ls : List LinV} {ts : List Int} (h : sysOk ls = true) (h' : ts.length = ls.length) : farSum ls ts = sumK ls ts ls.length := by
  unfold farSum; rw [if_pos (by rw [h]; simp [h'])]
/-- What a combination gives. -/
def FarBack (o : Option LinV) (w : World) (e : Ending) (w' : World) : Prop :=
  match o with
  | none => e = .returned (.tuple #[.agg #[.slice none 0 0, .int .i64 0, .bool false], .bool false]) ∧ Below w.heap.size w w'
  | some (zs, b, s) => ∃ g cap, e = .returned (.tuple #[.agg #[.slice (some ⟨g, 0, none⟩) 4 cap, .int .i64 b, .bool s], .bool true]) ∧ (Ints w' (some ⟨g, 0, none⟩) 4 zs ∧ Free w' g) ∧ 4 ≤ cap ∧ w.heap.size ≤ g ∧ Below w.heap.size w w'
theorem farBack_none {o : Option LinV} {w w' : World} {e : Ending} (h : o = none) (he : e = .returned (.tuple #[.agg #[.slice none 0 0, .int .i64 0, .bool false], .bool false]) ∧ Below w.heap.size w w') : FarBack o w e w' := by subst h; exact he
theorem zeros_int (W : World) {k : Nat} (hk : W.heap.size = k) : Ints (W.alloc (.cells #[.int .i64 0, .int .i64 0, .int .i64 0, .int .i64 0] 3)) (some ⟨k, 0, none⟩) 4 [0, 0, 0, 0] := Ints.zeros W hk

theorem make4 (w : World) : (Instr.makeSlice 29 (.int .i64 4) (.int .i64 4)).run Try.prog w = .ok (.slice (some ⟨w.heap.size, 0, none⟩) 4 4) (w.alloc (.cells #[.int .i64 0, .int .i64 0, .int .i64 0, .int .i64 0] 3)) := by kernel_rfl
set_option maxHeartbeats 8000000 in
theorem sFarSum_any {A A' : Option Addr} {n n' c c' : Nat} {ls : List LinV} {ts : List Int} {w : World} (h : Lins w A n ls) (h' : Ints w A' n' ts) :
    Calls Try.prog 27 #[.slice A n c, .slice A' n' c'] w (FarBack (farSum ls ts) w) := by
  have hfew := h.few
  have hfew' := h'.few
  have hmk := make4
  obtain ⟨o, ho⟩ : ∃ o, farSum ls ts = o := ⟨_, rfl⟩
  rw [ho]
  cases hs : sysOk ls
  · have HN : Hid (o = none) := Lib.hid (ho.symm.trans (farSum_inv (by rw [hs]; rfl)))
    clear ho
    go_enter Try.func27, Try.ntmps27
    go_wp2_with fail
    refine (l3Ok_any (h.later (by (repeat (first | with_reducible exact Below.refl _ _ | with_reducible assumption | (with_reducible refine below_drewN ?_ _) | (with_reducible refine Below.drew ?_) | (with_reducible refine Below.setCell ?_ (by first | omega | (simp; done) | (simp; omega)) _) | (with_reducible refine Below.alloc ?_ (by first | omega | (simp; done) | (simp; omega)) _) | refine Below.trans ?_ (Below.mono (by with_reducible assumption) (by first | omega | (simp; done) | (simp; omega)))))))).mono ?_
    rw [hs]
    rintro e w1 ⟨rfl, hb1⟩
    have hz1 := hb1.size; (try simp at hz1); have hB1 : Below w.heap.size w w1 := (by refine Below.trans ?_ (Below.mono hb1 (by first | omega | (simp; done) | (simp; omega))); (repeat (first | with_reducible exact Below.refl _ _ | with_reducible assumption | (with_reducible refine below_drewN ?_ _) | (with_reducible refine Below.drew ?_) | (with_reducible refine Below.setCell ?_ (by first | omega | (simp; done) | (simp; omega)) _) | (with_reducible refine Below.alloc ?_ (by first | omega | (simp; done) | (simp; omega)) _) | refine Below.trans ?_ (Below.mono (by with_reducible assumption) (by first | omega | (simp; done) | (simp; omega)))))); obtain ⟨kc_, fc_, lc_⟩ := keep_later (a := ⟨w.heap.size, 0, none⟩) (v := .slice none 0 0) hb1 (by go_simp) (by go_simp); obtain ⟨kc_, fc_, lc_⟩ := keep_later (a := ⟨w.heap.size, 1, none⟩) (v := .int .i64 0) hb1 (by go_simp) (by go_simp); obtain ⟨kc_, fc_, lc_⟩ := keep_later (a := ⟨w.heap.size, 2, none⟩) (v := .bool false) hb1 (by go_simp) (by go_simp); clear hb1
    go_wp2
    refine bodyPost_ret (v := .tuple #[.agg #[.slice none 0 0, .int .i64 0, .bool false], .bool false]) (by simp only [results, Try.results27]; go_simp) rfl (farBack_none HN.out ⟨rfl, ?_⟩)
    (repeat (first | with_reducible exact Below.refl _ _ | with_reducible assumption | (with_reducible refine below_drewN ?_ _) | (with_reducible refine Below.drew ?_) | (with_reducible refine Below.setCell ?_ (by first | omega | (simp; done) | (simp; omega)) _) | (with_reducible refine Below.alloc ?_ (by first | omega | (simp; done) | (simp; omega)) _) | refine Below.trans ?_ (Below.mono (by with_reducible assumption) (by first | omega | (simp; done) | (simp; omega)))))
  by_cases hnn : n' = n
  · subst hnn
    have hsum : farSum ls ts = sumK ls ts n' := by rw [farSum_go hs (by rw [h.len, h'.len]), h.len]
    have HS := Lib.hid (hsum.symm.trans ho)
    clear hsum ho
    go_enter Try.func27, Try.ntmps27
    go_wp2_with fail
    refine (l3Ok_any (h.later (by (repeat (first | with_reducible exact Below.refl _ _ | with_reducible assumption | (with_reducible refine below_drewN ?_ _) | (with_reducible refine Below.drew ?_) | (with_reducible refine Below.setCell ?_ (by first | omega | (simp; done) | (simp; omega)) _) | (with_reducible refine Below.alloc ?_ (by first | omega | (simp; done) | (simp; omega)) _) | refine Below.trans ?_ (Below.mono (by with_reducible assumption) (by first | omega | (simp; done) | (simp; omega)))))))).mono ?_
    rw [hs]
    clear hs
    rintro e w1 ⟨rfl, hb1⟩
    have hZ : Ints w1 (some ⟨w.heap.size + 1, 0, none⟩) 4 [0, 0, 0, 0] := Ints.later (by first | exact (Ints.zeros (w.alloc (.cells #[.slice none 0 0, .int .i64 0, .bool false] 34)) (by simp)).alloc _) hb1
    have hZF : Free w1 (w.heap.size + 1) := Free.later ⟨by simp, fun j => by simp [go_sem]⟩ hb1
    have hz1 := hb1.size; (try simp at hz1); have hB1 : Below w.heap.size w w1 := (by refine Below.trans ?_ (Below.mono hb1 (by first | omega | (simp; done) | (simp; omega))); (repeat (first | with_reducible exact Below.refl _ _ | with_reducible assumption | (with_reducible refine below_drewN ?_ _) | (with_reducible refine Below.drew ?_) | (with_reducible refine Below.setCell ?_ (by first | omega | (simp; done) | (simp; omega)) _) | (with_reducible refine Below.alloc ?_ (by first | omega | (simp; done) | (simp; omega)) _) | refine Below.trans ?_ (Below.mono (by with_reducible assumption) (by first | omega | (simp; done) | (simp; omega)))))); obtain ⟨kc_, fc_, lc_⟩ := keep_later (a := ⟨w.heap.size, 0, none⟩) (v := .slice none 0 0) hb1 (by go_simp) (by go_simp); obtain ⟨kc_, fc_, lc_⟩ := keep_later (a := ⟨w.heap.size, 1, none⟩) (v := .int .i64 0) hb1 (by go_simp) (by go_simp); obtain ⟨kc_, fc_, lc_⟩ := keep_later (a := ⟨w.heap.size, 2, none⟩) (v := .bool false) hb1 (by go_simp) (by go_simp); obtain ⟨kc_, fc_, lc_⟩ := keep_later (a := ⟨w.heap.size+1+1, 0, none⟩) (v := .slice (some ⟨w.heap.size + 1, 0, none⟩) 4 4) hb1 (by go_simp) (by go_simp); obtain ⟨kc_, fc_, lc_⟩ := keep_later (a := ⟨w.heap.size+1+1, 1, none⟩) (v := .int .i64 0) hb1 (by go_simp) (by go_simp); obtain ⟨kc_, fc_, lc_⟩ := keep_later (a := ⟨w.heap.size+1+1, 2, none⟩) (v := .bool false) hb1 (by go_simp) (by go_simp); clear hb1
    go_wp2_with fail
    go_loopw [7] (fun i wr => ∃ (k : Nat) (zs : List Int) (b : Int) (s : Bool) (g cap : Nat), k ≤ n' ∧ i = .int .i64 k ∧ Hid (sumK ls ts k = some (zs, b, s)) ∧ L3 wr w.heap.size (.slice none 0 0) (.int .i64 0) (.bool false) ∧ L3 wr (w.heap.size + 1 + 1) (.slice (some ⟨g, 0, none⟩) 4 cap) (.int .i64 b) (.bool s) ∧ Ints wr (some ⟨g, 0, none⟩) 4 zs ∧ Free wr g ∧ (w.heap.size < g ∧ g ≠ w.heap.size + 1 + 1 ∧ 4 ≤ cap) ∧ Below w.heap.size w wr) (fun i _ => n' - (intOf i).toNat)
    case atStart => exact ⟨0, [0, 0, 0, 0], 0, false, w.heap.size + 1, 4, by omega, rfl, Lib.hid rfl, ⟨by go_simp, by go_simp, by go_simp, by go_simp, by go_simp, by go_simp⟩, ⟨by go_simp, by go_simp, by go_simp, by go_simp, by go_simp, by go_simp⟩, hZ, hZF, by omega, by (repeat (first | with_reducible exact Below.refl _ _ | with_reducible assumption | (with_reducible refine below_drewN ?_ _) | (with_reducible refine Below.drew ?_) | (with_reducible refine Below.setCell ?_ (by first | omega | (simp; done) | (simp; omega)) _) | (with_reducible refine Below.alloc ?_ (by first | omega | (simp; done) | (simp; omega)) _) | refine Below.trans ?_ (Below.mono (by with_reducible assumption) (by first | omega | (simp; done) | (simp; omega)))))⟩
    case round =>
      clear hZ hZF
      obtain ⟨k, zs, b, s, g, cap, hk, rfl, HK, ⟨r0, r1, r2, r3, r4, r5⟩, ⟨s0, s1, s2, s3, s4, s5⟩, hIg, hFg, ⟨hg1, hg2, hcap⟩, hB⟩ := hrel
      have lr := World.block_lt_of_cell? _ _ r0
      have lsS := World.block_lt_of_cell? _ _ s0
      dsimp only at lr lsS
      have lg := hFg.lt
      have hzr := hB.size
      by_cases hlt : k < n'
      · obtain ⟨p, o1, rfl, hp, hcs⟩ := h.cells (by omega)
        obtain ⟨B, m, cb, hIk, hc1, hc2, hc3⟩ := ((hcs k hlt).later hB hp).ex
        clear hcs
        obtain ⟨p', o', rfl, hp', hct⟩ := h'.cells (by omega)
        have hc4 := (hB.cell (p := ⟨p', o' + k, none⟩) hp').trans (hct k hlt)
        clear hct
        have hpw : p < wr.heap.size := by omega
        have hpw' : p' < wr.heap.size := by omega
        have hps : p ≠ w.heap.size + 1 + 1 := by omega
        have hps' : p' ≠ w.heap.size + 1 + 1 := by omega
        have hyes := Lib.hid (fun hk => sumK_yes HK.out hk)
        have hno := Lib.hid (fun hk => sumK_no HK.out hk)
        generalize (ls.getD k lin0).1 = ys at *
        generalize (ls.getD k lin0).2.1 = b' at *
        generalize (ls.getD k lin0).2.2 = s' at *
        generalize ts.getD k 0 = t at *
        cases hq : linSumOk 1 zs b t ys b'
        · have HQ := Lib.hid hq
          have HN : Hid (o = none) := Lib.hid (HS.out.symm.trans (sumK_none (hno.out hq) (by omega)))
          clear hq hno hyes
          go_wp2_with fail
          obtain ⟨wz, hwz⟩ : ∃ x : World, x = w := ⟨w, rfl⟩
          clear hwz
          refine wp_region_held_drew (S := (fun w' => w'.cell? ⟨p, o1 + k * 3, none⟩ = some (.slice B m cb) ∧ w'.cell? ⟨p, o1 + k * 3 + 1, none⟩ = some (.int .i64 b') ∧ w'.cell? ⟨p, o1 + k * 3 + 2, none⟩ = some (.bool s') ∧ w'.cell? ⟨p', o' + k, none⟩ = some (.int .i64 t))) (by kernel_rfl) ?_ (fun hHeld => ?_)
          · simp [*]
          (refine wpAnyH_take (i := 1) (v := ?_) (by simp only [List.getElem?_toArray, List.getElem?_cons_succ, List.getElem?_cons_zero]; rfl) (by kernel_rfl) (by kernel_rfl) (by kernel_rfl) (by intro _ _ _ h; exact h) (Or.inl ⟨by rfl, ?_⟩) (by assumption) ?_; rotate_left; (focus (intro wS hSw; (try dsimp only at hSw); go_simp; (try with_reducible rfl))); (try simp only [Act.put, List.setIfInBounds_toArray, List.set_cons_zero, List.set_cons_succ]))
          (refine wpAnyH_take (i := 2) (v := ?_) (by simp only [List.getElem?_toArray, List.getElem?_cons_succ, List.getElem?_cons_zero]; rfl) (by kernel_rfl) (by kernel_rfl) (by kernel_rfl) (by intro _ _ _ h; exact h) (Or.inl ⟨by rfl, ?_⟩) (by assumption) ?_; rotate_left; (focus (intro wS hSw; (try dsimp only at hSw); go_simp; (try with_reducible rfl))); (try simp only [Act.put, List.setIfInBounds_toArray, List.set_cons_zero, List.set_cons_succ]))
          (refine wpAnyH_take (i := 3) (v := ?_) (by simp only [List.getElem?_toArray, List.getElem?_cons_succ, List.getElem?_cons_zero]; rfl) (by kernel_rfl) (by kernel_rfl) (by kernel_rfl) (by intro _ _ _ h; exact h) (Or.inl ⟨by rfl, ?_⟩) (by assumption) ?_; rotate_left; (focus (intro wS hSw; (try dsimp only at hSw); go_simp; (try with_reducible rfl))); (try simp only [Act.put, List.setIfInBounds_toArray, List.set_cons_zero, List.set_cons_succ]))
          (refine wpAnyH_take (i := 4) (v := ?_) (by simp only [List.getElem?_toArray, List.getElem?_cons_succ, List.getElem?_cons_zero]; rfl) (by kernel_rfl) (by kernel_rfl) (by kernel_rfl) (by intro _ _ _ h; exact h) (Or.inl ⟨by rfl, ?_⟩) (by assumption) ?_; rotate_left; (focus (intro wS hSw; (try dsimp only at hSw); go_simp; (try with_reducible rfl))); (try simp only [Act.put, List.setIfInBounds_toArray, List.set_cons_zero, List.set_cons_succ]))
          (refine wpAnyH_take (i := 5) (v := ?_) (by simp only [List.getElem?_toArray, List.getElem?_cons_succ, List.getElem?_cons_zero]; rfl) (by kernel_rfl) (by kernel_rfl) (by kernel_rfl) (by intro _ _ _ h; exact h) (Or.inl ⟨by rfl, ?_⟩) (by assumption) ?_; rotate_left; (focus (intro wS hSw; (try dsimp only at hSw); go_simp; (try with_reducible rfl))); (try simp only [Act.put, List.setIfInBounds_toArray, List.set_cons_zero, List.set_cons_succ]))
          (refine wpAnyH_take (i := 6) (v := ?_) (by simp only [List.getElem?_toArray, List.getElem?_cons_succ, List.getElem?_cons_zero]; rfl) (by kernel_rfl) (by kernel_rfl) (by kernel_rfl) (by intro _ _ _ h; exact h) (Or.inl ⟨by rfl, ?_⟩) (by assumption) ?_; rotate_left; (focus (intro wS hSw; (try dsimp only at hSw); go_simp; (try with_reducible rfl))); (try simp only [Act.put, List.setIfInBounds_toArray, List.set_cons_zero, List.set_cons_succ]))
          (refine wpAnyH_take (i := 7) (v := ?_) (by simp only [List.getElem?_toArray, List.getElem?_cons_succ, List.getElem?_cons_zero]; rfl) (by kernel_rfl) (by kernel_rfl) (by kernel_rfl) (by intro _ _ _ h; exact h) (Or.inl ⟨by rfl, ?_⟩) (by assumption) ?_; rotate_left; (focus (intro wS hSw; (try dsimp only at hSw); go_simp; (try with_reducible rfl))); (try simp only [Act.put, List.setIfInBounds_toArray, List.set_cons_zero, List.set_cons_succ]))
          (refine wpAnyH_take (i := 8) (v := ?_) (by simp only [List.getElem?_toArray, List.getElem?_cons_succ, List.getElem?_cons_zero]; rfl) (by kernel_rfl) (by kernel_rfl) (by kernel_rfl) (by intro _ _ _ h; exact h) (Or.inl ⟨by rfl, ?_⟩) (by assumption) ?_; rotate_left; (focus (intro wS hSw; (try dsimp only at hSw); go_simp; (try with_reducible rfl))); (try simp only [Act.put, List.setIfInBounds_toArray, List.set_cons_zero, List.set_cons_succ]))
          refine wpAnyH_ready (rs := [0]) (by kernel_rfl) (by simp) ?_
          refine AllReadyH.cons (by simp only [List.getElem?_toArray, List.getElem?_cons_succ, List.getElem?_cons_zero]; rfl) (fun K hK => ?_) AllReadyH.nil
          go_simp
          refine hK.out _ _ ?_ (fun hHeld => ?_)
          · (try dsimp only)
            simp [go_sem, World.cell?_alloc_past, *]
          clear hK K
          (try simp only [Act.put, List.setIfInBounds_toArray, List.set_cons_zero, List.set_cons_succ])
          refine wpAnyH_ready (rs := [9]) (by kernel_rfl) (by simp) ?_
          refine AllReadyH.cons (by simp only [List.getElem?_toArray, List.getElem?_cons_succ, List.getElem?_cons_zero]; rfl) (fun K hK => ?_) AllReadyH.nil
          (go_simp; go_at_call 66; refine (sLinSum_no (xs := zs) (ys := ys) b b' s s' 1 t (by (repeat (first | with_reducible exact hIg | (with_reducible refine Ints.far ?_ (by first | omega | (simp; done) | (simp; omega)) _) | (with_reducible refine Ints.alloc ?_ _) | (with_reducible refine Ints.drewN ?_ _) | (with_reducible refine Ints.drew ?_)))) (by (repeat (first | with_reducible exact hIk | (with_reducible refine Ints.far ?_ (by first | omega | (simp; done) | (simp; omega)) _) | (with_reducible refine Ints.alloc ?_ _) | (with_reducible refine Ints.drewN ?_ _) | (with_reducible refine Ints.drew ?_)))) HQ.out).mono ?_; rintro e w2 ⟨rfl, hb1⟩; have hz1 := hb1.size; (try simp at hz1); have hB1 : Below w.heap.size w w2 := (by refine Below.trans ?_ (Below.mono hb1 (by first | omega | (simp; done) | (simp; omega))); (repeat (first | with_reducible exact Below.refl _ _ | with_reducible assumption | (with_reducible refine below_drewN ?_ _) | (with_reducible refine Below.drew ?_) | (with_reducible refine Below.setCell ?_ (by first | omega | (simp; done) | (simp; omega)) _) | (with_reducible refine Below.alloc ?_ (by first | omega | (simp; done) | (simp; omega)) _) | refine Below.trans ?_ (Below.mono (by with_reducible assumption) (by first | omega | (simp; done) | (simp; omega)))))); obtain ⟨kc_, fc_, lc_⟩ := keep_later (a := ⟨w.heap.size, 0, none⟩) (v := .slice none 0 0) hb1 (by go_simp) (by go_simp); obtain ⟨kc_, fc_, lc_⟩ := keep_later (a := ⟨w.heap.size, 1, none⟩) (v := .int .i64 0) hb1 (by go_simp) (by go_simp); obtain ⟨kc_, fc_, lc_⟩ := keep_later (a := ⟨w.heap.size, 2, none⟩) (v := .bool false) hb1 (by go_simp) (by go_simp); obtain ⟨kc_, fc_, lc_⟩ := keep_later (a := ⟨w.heap.size+1+1, 0, none⟩) (v := .slice (some ⟨g, 0, none⟩) 4 cap) hb1 (by go_simp) (by go_simp); obtain ⟨kc_, fc_, lc_⟩ := keep_later (a := ⟨w.heap.size+1+1, 1, none⟩) (v := .int .i64 b) hb1 (by go_simp) (by go_simp); obtain ⟨kc_, fc_, lc_⟩ := keep_later (a := ⟨w.heap.size+1+1, 2, none⟩) (v := .bool s) hb1 (by go_simp) (by go_simp); (have q1 := keep_cell (a := ⟨p, o1 + k * 3, none⟩) (v := .slice B m cb) hb1 (by go_simp)); (have q2 := keep_cell (a := ⟨p, o1 + k * 3 + 1, none⟩) (v := .int .i64 b') hb1 (by go_simp)); (have q3 := keep_cell (a := ⟨p, o1 + k * 3 + 2, none⟩) (v := .bool s') hb1 (by go_simp)); (have q4 := keep_cell (a := ⟨p', o' + k, none⟩) (v := .int .i64 t) hb1 (by go_simp)); clear hb1)
          refine hK.out _ _ ?_ (fun hHeld => ?_)
          · (try dsimp only)
            simp [go_sem, World.cell?_alloc_past, *]
          clear hK K
          (try simp only [Act.put, List.setIfInBounds_toArray, List.set_cons_zero, List.set_cons_succ])
          (refine wpAnyH_take (i := 10) (v := ?_) (by simp only [List.getElem?_toArray, List.getElem?_cons_succ, List.getElem?_cons_zero]; rfl) (by kernel_rfl) (by kernel_rfl) (by kernel_rfl) (by intro _ _ _ h; exact h) (Or.inl ⟨by rfl, ?_⟩) (by assumption) ?_; rotate_left; (focus (intro wS hSw; (try dsimp only at hSw); go_simp; (try with_reducible rfl))); (try simp only [Act.put, List.setIfInBounds_toArray, List.set_cons_zero, List.set_cons_succ]))
          (refine wpAnyH_take (i := 11) (v := ?_) (by simp only [List.getElem?_toArray, List.getElem?_cons_succ, List.getElem?_cons_zero]; rfl) (by kernel_rfl) (by kernel_rfl) (by kernel_rfl) (by intro _ _ _ h; exact h) (Or.inl ⟨by rfl, ?_⟩) (by assumption) ?_; rotate_left; (focus (intro wS hSw; (try dsimp only at hSw); go_simp; (try with_reducible rfl))); (try simp only [Act.put, List.setIfInBounds_toArray, List.set_cons_zero, List.set_cons_succ]))
          (refine wpAnyH_take (i := 12) (v := ?_) (by simp only [List.getElem?_toArray, List.getElem?_cons_succ, List.getElem?_cons_zero]; rfl) (by kernel_rfl) (by kernel_rfl) (by kernel_rfl) (by intro _ _ _ h; exact h) (Or.inl ⟨by rfl, ?_⟩) (by assumption) ?_; rotate_left; (focus (intro wS hSw; (try dsimp only at hSw); go_simp; (try with_reducible rfl))); (try simp only [Act.put, List.setIfInBounds_toArray, List.set_cons_zero, List.set_cons_succ]))
          refine wpAnyH_ready (rs := [13]) (by kernel_rfl) (by simp) ?_
          refine AllReadyH.cons (by simp only [List.getElem?_toArray, List.getElem?_cons_succ, List.getElem?_cons_zero]; rfl) (fun K hK => ?_) AllReadyH.nil
          go_simp
          refine hK.out _ _ ?_ (fun hHeld => ?_)
          · (try dsimp only)
            simp [go_sem, World.cell?_alloc_past, *]
          clear hK K
          (try simp only [Act.put, List.setIfInBounds_toArray, List.set_cons_zero, List.set_cons_succ])
          (refine wpAnyH_take (i := 14) (v := ?_) (by simp only [List.getElem?_toArray, List.getElem?_cons_succ, List.getElem?_cons_zero]; rfl) (by kernel_rfl) (by kernel_rfl) (by kernel_rfl) (by intro _ _ _ h; exact h) (Or.inl ⟨by rfl, ?_⟩) (by assumption) ?_; rotate_left; (focus (intro wS hSw; (try dsimp only at hSw); go_simp; (try with_reducible rfl))); (try simp only [Act.put, List.setIfInBounds_toArray, List.set_cons_zero, List.set_cons_succ]))
          refine wpAnyH_done (by kernel_rfl) ?_ _
          all_goals
            go_wp2
            refine bodyPost_ret (v := .tuple #[.agg #[.slice none 0 0, .int .i64 0, .bool false], .bool false]) (by simp only [results, Try.results27]; go_simp) rfl (farBack_none HN.out ⟨rfl, ?_⟩)
            (repeat (first | with_reducible exact Below.refl _ _ | with_reducible assumption | (with_reducible refine below_drewN ?_ _) | (with_reducible refine Below.drew ?_) | (with_reducible refine Below.setCell ?_ (by first | omega | (simp; done) | (simp; omega)) _) | (with_reducible refine Below.alloc ?_ (by first | omega | (simp; done) | (simp; omega)) _) | refine Below.trans ?_ (Below.mono (by with_reducible assumption) (by first | omega | (simp; done) | (simp; omega)))))
        · have HQ := Lib.hid hq
          have HY := Lib.hid (hyes.out hq)
          clear hq hno hyes
          go_wp2_with fail
          obtain ⟨wz, hwz⟩ : ∃ x : World, x = w := ⟨w, rfl⟩
          clear hwz
          refine wp_region_held_drew (S := (fun w' => w'.cell? ⟨p, o1 + k * 3, none⟩ = some (.slice B m cb) ∧ w'.cell? ⟨p, o1 + k * 3 + 1, none⟩ = some (.int .i64 b') ∧ w'.cell? ⟨p, o1 + k * 3 + 2, none⟩ = some (.bool s') ∧ w'.cell? ⟨p', o' + k, none⟩ = some (.int .i64 t))) (by kernel_rfl) ?_ (fun hHeld => ?_)
          · simp [*]
          (refine wpAnyH_take (i := 1) (v := ?_) (by simp only [List.getElem?_toArray, List.getElem?_cons_succ, List.getElem?_cons_zero]; rfl) (by kernel_rfl) (by kernel_rfl) (by kernel_rfl) (by intro _ _ _ h; exact h) (Or.inl ⟨by rfl, ?_⟩) (by assumption) ?_; rotate_left; (focus (intro wS hSw; (try dsimp only at hSw); go_simp; (try with_reducible rfl))); (try simp only [Act.put, List.setIfInBounds_toArray, List.set_cons_zero, List.set_cons_succ]))
          (refine wpAnyH_take (i := 2) (v := ?_) (by simp only [List.getElem?_toArray, List.getElem?_cons_succ, List.getElem?_cons_zero]; rfl) (by kernel_rfl) (by kernel_rfl) (by kernel_rfl) (by intro _ _ _ h; exact h) (Or.inl ⟨by rfl, ?_⟩) (by assumption) ?_; rotate_left; (focus (intro wS hSw; (try dsimp only at hSw); go_simp; (try with_reducible rfl))); (try simp only [Act.put, List.setIfInBounds_toArray, List.set_cons_zero, List.set_cons_succ]))
          (refine wpAnyH_take (i := 3) (v := ?_) (by simp only [List.getElem?_toArray, List.getElem?_cons_succ, List.getElem?_cons_zero]; rfl) (by kernel_rfl) (by kernel_rfl) (by kernel_rfl) (by intro _ _ _ h; exact h) (Or.inl ⟨by rfl, ?_⟩) (by assumption) ?_; rotate_left; (focus (intro wS hSw; (try dsimp only at hSw); go_simp; (try with_reducible rfl))); (try simp only [Act.put, List.setIfInBounds_toArray, List.set_cons_zero, List.set_cons_succ]))
          (refine wpAnyH_take (i := 4) (v := ?_) (by simp only [List.getElem?_toArray, List.getElem?_cons_succ, List.getElem?_cons_zero]; rfl) (by kernel_rfl) (by kernel_rfl) (by kernel_rfl) (by intro _ _ _ h; exact h) (Or.inl ⟨by rfl, ?_⟩) (by assumption) ?_; rotate_left; (focus (intro wS hSw; (try dsimp only at hSw); go_simp; (try with_reducible rfl))); (try simp only [Act.put, List.setIfInBounds_toArray, List.set_cons_zero, List.set_cons_succ]))
          (refine wpAnyH_take (i := 5) (v := ?_) (by simp only [List.getElem?_toArray, List.getElem?_cons_succ, List.getElem?_cons_zero]; rfl) (by kernel_rfl) (by kernel_rfl) (by kernel_rfl) (by intro _ _ _ h; exact h) (Or.inl ⟨by rfl, ?_⟩) (by assumption) ?_; rotate_left; (focus (intro wS hSw; (try dsimp only at hSw); go_simp; (try with_reducible rfl))); (try simp only [Act.put, List.setIfInBounds_toArray, List.set_cons_zero, List.set_cons_succ]))
          (refine wpAnyH_take (i := 6) (v := ?_) (by simp only [List.getElem?_toArray, List.getElem?_cons_succ, List.getElem?_cons_zero]; rfl) (by kernel_rfl) (by kernel_rfl) (by kernel_rfl) (by intro _ _ _ h; exact h) (Or.inl ⟨by rfl, ?_⟩) (by assumption) ?_; rotate_left; (focus (intro wS hSw; (try dsimp only at hSw); go_simp; (try with_reducible rfl))); (try simp only [Act.put, List.setIfInBounds_toArray, List.set_cons_zero, List.set_cons_succ]))
          (refine wpAnyH_take (i := 7) (v := ?_) (by simp only [List.getElem?_toArray, List.getElem?_cons_succ, List.getElem?_cons_zero]; rfl) (by kernel_rfl) (by kernel_rfl) (by kernel_rfl) (by intro _ _ _ h; exact h) (Or.inl ⟨by rfl, ?_⟩) (by assumption) ?_; rotate_left; (focus (intro wS hSw; (try dsimp only at hSw); go_simp; (try with_reducible rfl))); (try simp only [Act.put, List.setIfInBounds_toArray, List.set_cons_zero, List.set_cons_succ]))
          (refine wpAnyH_take (i := 8) (v := ?_) (by simp only [List.getElem?_toArray, List.getElem?_cons_succ, List.getElem?_cons_zero]; rfl) (by kernel_rfl) (by kernel_rfl) (by kernel_rfl) (by intro _ _ _ h; exact h) (Or.inl ⟨by rfl, ?_⟩) (by assumption) ?_; rotate_left; (focus (intro wS hSw; (try dsimp only at hSw); go_simp; (try with_reducible rfl))); (try simp only [Act.put, List.setIfInBounds_toArray, List.set_cons_zero, List.set_cons_succ]))
          refine wpAnyH_ready (rs := [0]) (by kernel_rfl) (by simp) ?_
          refine AllReadyH.cons (by simp only [List.getElem?_toArray, List.getElem?_cons_succ, List.getElem?_cons_zero]; rfl) (fun K hK => ?_) AllReadyH.nil
          go_simp
          refine hK.out _ _ ?_ (fun hHeld => ?_)
          · (try dsimp only)
            simp [go_sem, World.cell?_alloc_past, *]
          clear hK K
          (try simp only [Act.put, List.setIfInBounds_toArray, List.set_cons_zero, List.set_cons_succ])
          refine wpAnyH_ready (rs := [9]) (by kernel_rfl) (by simp) ?_
          refine AllReadyH.cons (by simp only [List.getElem?_toArray, List.getElem?_cons_succ, List.getElem?_cons_zero]; rfl) (fun K hK => ?_) AllReadyH.nil
          (go_simp; go_at_call 66; refine (sLinSum_yes (xs := zs) (ys := ys) b b' s s' 1 t (by (repeat (first | with_reducible exact hIg | (with_reducible refine Ints.far ?_ (by first | omega | (simp; done) | (simp; omega)) _) | (with_reducible refine Ints.alloc ?_ _) | (with_reducible refine Ints.drewN ?_ _) | (with_reducible refine Ints.drew ?_)))) (by (repeat (first | with_reducible exact hIk | (with_reducible refine Ints.far ?_ (by first | omega | (simp; done) | (simp; omega)) _) | (with_reducible refine Ints.alloc ?_ _) | (with_reducible refine Ints.drewN ?_ _) | (with_reducible refine Ints.drew ?_)))) HQ.out).mono ?_; rintro e w2 ⟨g2, cap2, rfl, ⟨hI2, hF2⟩, hcap2, hg3, hb1⟩; have hz1 := hb1.size; (try simp at hz1); have hB1 : Below w.heap.size w w2 := (by refine Below.trans ?_ (Below.mono hb1 (by first | omega | (simp; done) | (simp; omega))); (repeat (first | with_reducible exact Below.refl _ _ | with_reducible assumption | (with_reducible refine below_drewN ?_ _) | (with_reducible refine Below.drew ?_) | (with_reducible refine Below.setCell ?_ (by first | omega | (simp; done) | (simp; omega)) _) | (with_reducible refine Below.alloc ?_ (by first | omega | (simp; done) | (simp; omega)) _) | refine Below.trans ?_ (Below.mono (by with_reducible assumption) (by first | omega | (simp; done) | (simp; omega)))))); obtain ⟨kc_, fc_, lc_⟩ := keep_later (a := ⟨w.heap.size, 0, none⟩) (v := .slice none 0 0) hb1 (by go_simp) (by go_simp); obtain ⟨kc_, fc_, lc_⟩ := keep_later (a := ⟨w.heap.size, 1, none⟩) (v := .int .i64 0) hb1 (by go_simp) (by go_simp); obtain ⟨kc_, fc_, lc_⟩ := keep_later (a := ⟨w.heap.size, 2, none⟩) (v := .bool false) hb1 (by go_simp) (by go_simp); obtain ⟨kc_, fc_, lc_⟩ := keep_later (a := ⟨w.heap.size+1+1, 0, none⟩) (v := .slice (some ⟨g, 0, none⟩) 4 cap) hb1 (by go_simp) (by go_simp); obtain ⟨kc_, fc_, lc_⟩ := keep_later (a := ⟨w.heap.size+1+1, 1, none⟩) (v := .int .i64 b) hb1 (by go_simp) (by go_simp); obtain ⟨kc_, fc_, lc_⟩ := keep_later (a := ⟨w.heap.size+1+1, 2, none⟩) (v := .bool s) hb1 (by go_simp) (by go_simp); (have q1 := keep_cell (a := ⟨p, o1 + k * 3, none⟩) (v := .slice B m cb) hb1 (by go_simp)); (have q2 := keep_cell (a := ⟨p, o1 + k * 3 + 1, none⟩) (v := .int .i64 b') hb1 (by go_simp)); (have q3 := keep_cell (a := ⟨p, o1 + k * 3 + 2, none⟩) (v := .bool s') hb1 (by go_simp)); (have q4 := keep_cell (a := ⟨p', o' + k, none⟩) (v := .int .i64 t) hb1 (by go_simp)); (try simp at hg3); clear hb1)
          refine hK.out _ _ ?_ (fun hHeld => ?_)
          · (try dsimp only)
            simp [go_sem, World.cell?_alloc_past, *]
          clear hK K
          (try simp only [Act.put, List.setIfInBounds_toArray, List.set_cons_zero, List.set_cons_succ])
          (refine wpAnyH_take (i := 10) (v := ?_) (by simp only [List.getElem?_toArray, List.getElem?_cons_succ, List.getElem?_cons_zero]; rfl) (by kernel_rfl) (by kernel_rfl) (by kernel_rfl) (by intro _ _ _ h; exact h) (Or.inl ⟨by rfl, ?_⟩) (by assumption) ?_; rotate_left; (focus (intro wS hSw; (try dsimp only at hSw); go_simp; (try with_reducible rfl))); (try simp only [Act.put, List.setIfInBounds_toArray, List.set_cons_zero, List.set_cons_succ]))
          (refine wpAnyH_take (i := 11) (v := ?_) (by simp only [List.getElem?_toArray, List.getElem?_cons_succ, List.getElem?_cons_zero]; rfl) (by kernel_rfl) (by kernel_rfl) (by kernel_rfl) (by intro _ _ _ h; exact h) (Or.inl ⟨by rfl, ?_⟩) (by assumption) ?_; rotate_left; (focus (intro wS hSw; (try dsimp only at hSw); go_simp; (try with_reducible rfl))); (try simp only [Act.put, List.setIfInBounds_toArray, List.set_cons_zero, List.set_cons_succ]))
          (refine wpAnyH_take (i := 12) (v := ?_) (by simp only [List.getElem?_toArray, List.getElem?_cons_succ, List.getElem?_cons_zero]; rfl) (by kernel_rfl) (by kernel_rfl) (by kernel_rfl) (by intro _ _ _ h; exact h) (Or.inl ⟨by rfl, ?_⟩) (by assumption) ?_; rotate_left; (focus (intro wS hSw; (try dsimp only at hSw); go_simp; (try with_reducible rfl))); (try simp only [Act.put, List.setIfInBounds_toArray, List.set_cons_zero, List.set_cons_succ]))
          refine wpAnyH_ready (rs := [13]) (by kernel_rfl) (by simp) ?_
          refine AllReadyH.cons (by simp only [List.getElem?_toArray, List.getElem?_cons_succ, List.getElem?_cons_zero]; rfl) (fun K hK => ?_) AllReadyH.nil
          go_simp
          refine hK.out _ _ ?_ (fun hHeld => ?_)
          · (try dsimp only)
            simp [go_sem, World.cell?_alloc_past, *]
          clear hK K
          (try simp only [Act.put, List.setIfInBounds_toArray, List.set_cons_zero, List.set_cons_succ])
          (refine wpAnyH_take (i := 14) (v := ?_) (by simp only [List.getElem?_toArray, List.getElem?_cons_succ, List.getElem?_cons_zero]; rfl) (by kernel_rfl) (by kernel_rfl) (by kernel_rfl) (by intro _ _ _ h; exact h) (Or.inl ⟨by rfl, ?_⟩) (by assumption) ?_; rotate_left; (focus (intro wS hSw; (try dsimp only at hSw); go_simp; (try with_reducible rfl))); (try simp only [Act.put, List.setIfInBounds_toArray, List.set_cons_zero, List.set_cons_succ]))
          refine wpAnyH_done (by kernel_rfl) ?_ _
          all_goals
            go_wp2
            go_roundw
            case rel =>
              refine ⟨k + 1, _, _, _, g2, cap2, by omega, by go_num, HY, ⟨by go_simp, by go_simp, by go_simp, by go_simp, by go_simp, by go_simp⟩, ⟨by go_simp, by go_simp, by go_simp, by go_simp, by go_simp, by go_simp⟩, ?_, ?_, by omega, by (repeat (first | with_reducible exact Below.refl _ _ | with_reducible assumption | (with_reducible refine below_drewN ?_ _) | (with_reducible refine Below.drew ?_) | (with_reducible refine Below.setCell ?_ (by first | omega | (simp; done) | (simp; omega)) _) | (with_reducible refine Below.alloc ?_ (by first | omega | (simp; done) | (simp; omega)) _) | refine Below.trans ?_ (Below.mono (by with_reducible assumption) (by first | omega | (simp; done) | (simp; omega)))))⟩
              · (repeat (first | with_reducible exact hI2 | (with_reducible refine Ints.far ?_ (by first | omega | (simp; done) | (simp; omega)) _) | (with_reducible refine Ints.alloc ?_ _) | (with_reducible refine Ints.drewN ?_ _) | (with_reducible refine Ints.drew ?_)))
              · (repeat (first | with_reducible exact hF2 | (with_reducible refine Free.set ?_ _ _) | (with_reducible refine Free.alloc ?_ _) | (with_reducible refine Free.drewN ?_ _) | (with_reducible refine Free.drew ?_)))
            case measure => simp [intOf]; omega
      · obtain rfl : k = n' := by omega
        have he := HS.out.symm.trans HK.out
        subst he
        go_wp2
        refine bodyPost_ret (v := .tuple #[.agg #[.slice (some ⟨g, 0, none⟩) 4 cap, .int .i64 b, .bool s], .bool true]) (by simp only [results, Try.results27]; go_simp) rfl ⟨g, cap, rfl, ⟨?_, ?_⟩, hcap, by omega, ?_⟩
        · (repeat (first | with_reducible exact hIg | (with_reducible refine Ints.far ?_ (by first | omega | (simp; done) | (simp; omega)) _) | (with_reducible refine Ints.alloc ?_ _) | (with_reducible refine Ints.drewN ?_ _) | (with_reducible refine Ints.drew ?_)))
        · (repeat (first | with_reducible exact hFg | (with_reducible refine Free.set ?_ _ _) | (with_reducible refine Free.alloc ?_ _) | (with_reducible refine Free.drewN ?_ _) | (with_reducible refine Free.drew ?_)))
        · (repeat (first | with_reducible exact Below.refl _ _ | with_reducible assumption | (with_reducible refine below_drewN ?_ _) | (with_reducible refine Below.drew ?_) | (with_reducible refine Below.setCell ?_ (by first | omega | (simp; done) | (simp; omega)) _) | (with_reducible refine Below.alloc ?_ (by first | omega | (simp; done) | (simp; omega)) _) | refine Below.trans ?_ (Below.mono (by with_reducible assumption) (by first | omega | (simp; done) | (simp; omega)))))
  · have hne : ((n' : Int) != (n : Int)) = true := by simp; omega
    have HN : Hid (o = none) := Lib.hid (ho.symm.trans (farSum_inv (by rw [hs, h.len, h'.len]; simp [hnn])))
    clear ho
    go_enter Try.func27, Try.ntmps27
    go_wp2_with fail
    refine (l3Ok_any (h.later (by (repeat (first | with_reducible exact Below.refl _ _ | with_reducible assumption | (with_reducible refine below_drewN ?_ _) | (with_reducible refine Below.drew ?_) | (with_reducible refine Below.setCell ?_ (by first | omega | (simp; done) | (simp; omega)) _) | (with_reducible refine Below.alloc ?_ (by first | omega | (simp; done) | (simp; omega)) _) | refine Below.trans ?_ (Below.mono (by with_reducible assumption) (by first | omega | (simp; done) | (simp; omega)))))))).mono ?_
    rw [hs]
    rintro e w1 ⟨rfl, hb1⟩
    have hz1 := hb1.size; (try simp at hz1); have hB1 : Below w.heap.size w w1 := (by refine Below.trans ?_ (Below.mono hb1 (by first | omega | (simp; done) | (simp; omega))); (repeat (first | with_reducible exact Below.refl _ _ | with_reducible assumption | (with_reducible refine below_drewN ?_ _) | (with_reducible refine Below.drew ?_) | (with_reducible refine Below.setCell ?_ (by first | omega | (simp; done) | (simp; omega)) _) | (with_reducible refine Below.alloc ?_ (by first | omega | (simp; done) | (simp; omega)) _) | refine Below.trans ?_ (Below.mono (by with_reducible assumption) (by first | omega | (simp; done) | (simp; omega)))))); obtain ⟨kc_, fc_, lc_⟩ := keep_later (a := ⟨w.heap.size, 0, none⟩) (v := .slice none 0 0) hb1 (by go_simp) (by go_simp); obtain ⟨kc_, fc_, lc_⟩ := keep_later (a := ⟨w.heap.size, 1, none⟩) (v := .int .i64 0) hb1 (by go_simp) (by go_simp); obtain ⟨kc_, fc_, lc_⟩ := keep_later (a := ⟨w.heap.size, 2, none⟩) (v := .bool false) hb1 (by go_simp) (by go_simp); clear hb1
    go_wp2
    refine bodyPost_ret (v := .tuple #[.agg #[.slice none 0 0, .int .i64 0, .bool false], .bool false]) (by simp only [results, Try.results27]; go_simp) rfl (farBack_none HN.out ⟨rfl, ?_⟩)
    (repeat (first | with_reducible exact Below.refl _ _ | with_reducible assumption | (with_reducible refine below_drewN ?_ _) | (with_reducible refine Below.drew ?_) | (with_reducible refine Below.setCell ?_ (by first | omega | (simp; done) | (simp; omega)) _) | (with_reducible refine Below.alloc ?_ (by first | omega | (simp; done) | (simp; omega)) _) | refine Below.trans ?_ (Below.mono (by with_reducible assumption) (by first | omega | (simp; done) | (simp; omega)))))

set_option maxHeartbeats 8000000 in
theorem iFarSum_any {A A' : Option Addr} {n n' c c' : Nat} {ls : List LinV} {ts : List Int} {w : World} (h : Lins w A n ls) (h' : Ints w A' n' ts) :
    Calls Try.prog 23 #[.slice A n c, .slice A' n' c'] w (FarBack (farSum ls ts) w) := by
  have hfew := h.few
  have hfew' := h'.few
  have hmk := make4
  obtain ⟨o, ho⟩ : ∃ o, farSum ls ts = o := ⟨_, rfl⟩
  rw [ho]
  cases hs : sysOk ls
  · have HN : Hid (o = none) := Lib.hid (ho.symm.trans (farSum_inv (by rw [hs]; rfl)))
    clear ho
    go_enter Try.func23, Try.ntmps23
    go_wp2_with fail
    refine (isSystem_any (h.later (by (repeat (first | with_reducible exact Below.refl _ _ | with_reducible assumption | (with_reducible refine below_drewN ?_ _) | (with_reducible refine Below.drew ?_) | (with_reducible refine Below.setCell ?_ (by first | omega | (simp; done) | (simp; omega)) _) | (with_reducible refine Below.alloc ?_ (by first | omega | (simp; done) | (simp; omega)) _) | refine Below.trans ?_ (Below.mono (by with_reducible assumption) (by first | omega | (simp; done) | (simp; omega)))))))).mono ?_
    rw [hs]
    rintro e w1 ⟨rfl, hb1⟩
    have hz1 := hb1.size; (try simp at hz1); have hB1 : Below w.heap.size w w1 := (by refine Below.trans ?_ (Below.mono hb1 (by first | omega | (simp; done) | (simp; omega))); (repeat (first | with_reducible exact Below.refl _ _ | with_reducible assumption | (with_reducible refine below_drewN ?_ _) | (with_reducible refine Below.drew ?_) | (with_reducible refine Below.setCell ?_ (by first | omega | (simp; done) | (simp; omega)) _) | (with_reducible refine Below.alloc ?_ (by first | omega | (simp; done) | (simp; omega)) _) | refine Below.trans ?_ (Below.mono (by with_reducible assumption) (by first | omega | (simp; done) | (simp; omega)))))); obtain ⟨kc_, fc_, lc_⟩ := keep_later (a := ⟨w.heap.size, 0, none⟩) (v := .slice none 0 0) hb1 (by go_simp) (by go_simp); obtain ⟨kc_, fc_, lc_⟩ := keep_later (a := ⟨w.heap.size, 1, none⟩) (v := .int .i64 0) hb1 (by go_simp) (by go_simp); obtain ⟨kc_, fc_, lc_⟩ := keep_later (a := ⟨w.heap.size, 2, none⟩) (v := .bool false) hb1 (by go_simp) (by go_simp); clear hb1
    go_wp2
    refine bodyPost_ret (v := .tuple #[.agg #[.slice none 0 0, .int .i64 0, .bool false], .bool false]) (by simp only [results, Try.results23]; go_simp) rfl (farBack_none HN.out ⟨rfl, ?_⟩)
    (repeat (first | with_reducible exact Below.refl _ _ | with_reducible assumption | (with_reducible refine below_drewN ?_ _) | (with_reducible refine Below.drew ?_) | (with_reducible refine Below.setCell ?_ (by first | omega | (simp; done) | (simp; omega)) _) | (with_reducible refine Below.alloc ?_ (by first | omega | (simp; done) | (simp; omega)) _) | refine Below.trans ?_ (Below.mono (by with_reducible assumption) (by first | omega | (simp; done) | (simp; omega)))))
  by_cases hnn : n' = n
  · subst hnn
    have hsum : farSum ls ts = sumK ls ts n' := by rw [farSum_go hs (by rw [h.len, h'.len]), h.len]
    have HS := Lib.hid (hsum.symm.trans ho)
    clear hsum ho
    go_enter Try.func23, Try.ntmps23
    go_wp2_with fail
    refine (isSystem_any (h.later (by (repeat (first | with_reducible exact Below.refl _ _ | with_reducible assumption | (with_reducible refine below_drewN ?_ _) | (with_reducible refine Below.drew ?_) | (with_reducible refine Below.setCell ?_ (by first | omega | (simp; done) | (simp; omega)) _) | (with_reducible refine Below.alloc ?_ (by first | omega | (simp; done) | (simp; omega)) _) | refine Below.trans ?_ (Below.mono (by with_reducible assumption) (by first | omega | (simp; done) | (simp; omega)))))))).mono ?_
    rw [hs]
    clear hs
    rintro e w1 ⟨rfl, hb1⟩
    have hz1 := hb1.size; (try simp at hz1); have hB1 : Below w.heap.size w w1 := (by refine Below.trans ?_ (Below.mono hb1 (by first | omega | (simp; done) | (simp; omega))); (repeat (first | with_reducible exact Below.refl _ _ | with_reducible assumption | (with_reducible refine below_drewN ?_ _) | (with_reducible refine Below.drew ?_) | (with_reducible refine Below.setCell ?_ (by first | omega | (simp; done) | (simp; omega)) _) | (with_reducible refine Below.alloc ?_ (by first | omega | (simp; done) | (simp; omega)) _) | refine Below.trans ?_ (Below.mono (by with_reducible assumption) (by first | omega | (simp; done) | (simp; omega)))))); obtain ⟨kc_, fc_, lc_⟩ := keep_later (a := ⟨w.heap.size, 0, none⟩) (v := .slice none 0 0) hb1 (by go_simp) (by go_simp); obtain ⟨kc_, fc_, lc_⟩ := keep_later (a := ⟨w.heap.size, 1, none⟩) (v := .int .i64 0) hb1 (by go_simp) (by go_simp); obtain ⟨kc_, fc_, lc_⟩ := keep_later (a := ⟨w.heap.size, 2, none⟩) (v := .bool false) hb1 (by go_simp) (by go_simp); clear hb1
    have hZ : Ints ((w1.alloc (.cells #[.int .i64 0, .int .i64 0, .int .i64 0, .int .i64 0] 3)).alloc (.cells #[.slice (some ⟨w1.heap.size, 0, none⟩) 4 4, .int .i64 0, .bool false] 34)) (some ⟨w1.heap.size, 0, none⟩) 4 [0, 0, 0, 0] := (Ints.zeros w1 rfl).alloc _
    have hZF : Free ((w1.alloc (.cells #[.int .i64 0, .int .i64 0, .int .i64 0, .int .i64 0] 3)).alloc (.cells #[.slice (some ⟨w1.heap.size, 0, none⟩) 4 4, .int .i64 0, .bool false] 34)) w1.heap.size := ⟨by simp; omega, fun j => by simp [go_sem]⟩
    go_wp2_with fail
    go_loopw [26] (fun i wr => ∃ (k : Nat) (zs : List Int) (b : Int) (s : Bool) (g cap : Nat), k ≤ n' ∧ i = .int .i64 k ∧ Hid (sumK ls ts k = some (zs, b, s)) ∧ L3 wr w.heap.size (.slice none 0 0) (.int .i64 0) (.bool false) ∧ L3 wr (w1.heap.size + 1) (.slice (some ⟨g, 0, none⟩) 4 cap) (.int .i64 b) (.bool s) ∧ Ints wr (some ⟨g, 0, none⟩) 4 zs ∧ Free wr g ∧ (w1.heap.size ≤ g ∧ g ≠ w1.heap.size + 1 ∧ 4 ≤ cap) ∧ Below w.heap.size w wr) (fun i _ => n' - (intOf i).toNat)
    case atStart => exact ⟨0, [0, 0, 0, 0], 0, false, w1.heap.size, 4, by omega, rfl, Lib.hid rfl, ⟨by go_simp, by go_simp, by go_simp, by go_simp, by go_simp, by go_simp⟩, ⟨by go_simp, by go_simp, by go_simp, by go_simp, by go_simp, by go_simp⟩, hZ, hZF, by omega, by (repeat (first | with_reducible exact Below.refl _ _ | with_reducible assumption | (with_reducible refine below_drewN ?_ _) | (with_reducible refine Below.drew ?_) | (with_reducible refine Below.setCell ?_ (by first | omega | (simp; done) | (simp; omega)) _) | (with_reducible refine Below.alloc ?_ (by first | omega | (simp; done) | (simp; omega)) _) | refine Below.trans ?_ (Below.mono (by with_reducible assumption) (by first | omega | (simp; done) | (simp; omega)))))⟩
    case round =>
      clear hZ hZF
      obtain ⟨k, zs, b, s, g, cap, hk, rfl, HK, ⟨r0, r1, r2, r3, r4, r5⟩, ⟨s0, s1, s2, s3, s4, s5⟩, hIg, hFg, ⟨hg1, hg2, hcap⟩, hB⟩ := hrel
      have lr := World.block_lt_of_cell? _ _ r0
      have lsS := World.block_lt_of_cell? _ _ s0
      dsimp only at lr lsS
      have lg := hFg.lt
      have hzr := hB.size
      by_cases hlt : k < n'
      · obtain ⟨p, o1, rfl, hp, hcs⟩ := h.cells (by omega)
        obtain ⟨B, m, cb, hIk, hc1, hc2, hc3⟩ := ((hcs k hlt).later hB hp).ex
        clear hcs
        obtain ⟨p', o', rfl, hp', hct⟩ := h'.cells (by omega)
        have hc4 := (hB.cell (p := ⟨p', o' + k, none⟩) hp').trans (hct k hlt)
        clear hct
        have hpw : p < wr.heap.size := by omega
        have hpw' : p' < wr.heap.size := by omega
        have lw1 : w1.heap.size < wr.heap.size := by omega
        have lw2 : w1.heap.size ≠ wr.heap.size := by omega
        have hyes := Lib.hid (fun hk => sumK_yes HK.out hk)
        have hno := Lib.hid (fun hk => sumK_no HK.out hk)
        generalize (ls.getD k lin0).1 = ys at *
        generalize (ls.getD k lin0).2.1 = b' at *
        generalize (ls.getD k lin0).2.2 = s' at *
        generalize ts.getD k 0 = t at *
        cases hq : linSumOk 1 zs b t ys b'
        · have HQ := Lib.hid hq
          have HN : Hid (o = none) := Lib.hid (HS.out.symm.trans (sumK_none (hno.out hq) (by omega)))
          clear hq hno hyes
          go_wp2_with fail
          obtain ⟨wz, hwz⟩ : ∃ x : World, x = w := ⟨w, rfl⟩
          clear hwz
          go_region_held3 (fun w' => w'.cell? ⟨w1.heap.size + 1, 0, none⟩ = some (.slice (some ⟨g, 0, none⟩) 4 cap) ∧ w'.cell? ⟨w1.heap.size + 1, 1, none⟩ = some (.int .i64 b) ∧ w'.cell? ⟨w1.heap.size + 1, 2, none⟩ = some (.bool s) ∧ w'.cell? ⟨wr.heap.size, 0, none⟩ = some (.slice B m cb) ∧ w'.cell? ⟨wr.heap.size, 1, none⟩ = some (.int .i64 b') ∧ w'.cell? ⟨wr.heap.size, 2, none⟩ = some (.bool s') ∧ w'.cell? ⟨p', o' + k, none⟩ = some (.int .i64 t)) (simp [go_sem, World.cell?_alloc_past, *])
            ((first
              | (go_at_call 64; rename World => wp; refine (iLinSum_no (xs := zs) (ys := ys) b b' s s' 1 t (by (repeat (first | with_reducible exact hIg | (with_reducible refine Ints.far ?_ (by first | omega | (simp; done) | (simp; omega)) _) | (with_reducible refine Ints.alloc ?_ _) | (with_reducible refine Ints.drewN ?_ _) | (with_reducible refine Ints.drew ?_)))) (by (repeat (first | with_reducible exact hIk | (with_reducible refine Ints.far ?_ (by first | omega | (simp; done) | (simp; omega)) _) | (with_reducible refine Ints.alloc ?_ _) | (with_reducible refine Ints.drewN ?_ _) | (with_reducible refine Ints.drew ?_)))) HQ.out).mono ?_; rintro e w2 ⟨rfl, hb1⟩; have hz1 := hb1.size; (try simp at hz1); have hB1 : Below w.heap.size w w2 := (by refine Below.trans ?_ (Below.mono hb1 (by first | omega | (simp; done) | (simp; omega))); (repeat (first | with_reducible exact Below.refl _ _ | with_reducible assumption | (with_reducible refine below_drewN ?_ _) | (with_reducible refine Below.drew ?_) | (with_reducible refine Below.setCell ?_ (by first | omega | (simp; done) | (simp; omega)) _) | (with_reducible refine Below.alloc ?_ (by first | omega | (simp; done) | (simp; omega)) _) | refine Below.trans ?_ (Below.mono (by with_reducible assumption) (by first | omega | (simp; done) | (simp; omega)))))); (have lw3 : w1.heap.size < w2.heap.size := (by omega)); obtain ⟨kc_, fc_, lc_⟩ := keep_later (a := ⟨w.heap.size, 0, none⟩) (v := .slice none 0 0) hb1 (by go_simp) (by go_simp); obtain ⟨kc_, fc_, lc_⟩ := keep_later (a := ⟨w.heap.size, 1, none⟩) (v := .int .i64 0) hb1 (by go_simp) (by go_simp); obtain ⟨kc_, fc_, lc_⟩ := keep_later (a := ⟨w.heap.size, 2, none⟩) (v := .bool false) hb1 (by go_simp) (by go_simp); obtain ⟨kc_, fc_, lc_⟩ := keep_later (a := ⟨w1.heap.size+1, 0, none⟩) (v := .slice (some ⟨g, 0, none⟩) 4 cap) hb1 (by go_simp) (by go_simp); obtain ⟨kc_, fc_, lc_⟩ := keep_later (a := ⟨w1.heap.size+1, 1, none⟩) (v := .int .i64 b) hb1 (by go_simp) (by go_simp); obtain ⟨kc_, fc_, lc_⟩ := keep_later (a := ⟨w1.heap.size+1, 2, none⟩) (v := .bool s) hb1 (by go_simp) (by go_simp); obtain ⟨kc_, fc_, lc_⟩ := keep_later (a := ⟨wr.heap.size, 0, none⟩) (v := .slice B m cb) hb1 (by go_simp) (by go_simp); obtain ⟨kc_, fc_, lc_⟩ := keep_later (a := ⟨wr.heap.size, 1, none⟩) (v := .int .i64 b') hb1 (by go_simp) (by go_simp); obtain ⟨kc_, fc_, lc_⟩ := keep_later (a := ⟨wr.heap.size, 2, none⟩) (v := .bool s') hb1 (by go_simp) (by go_simp); (have q4 := keep_cell (a := ⟨p', o' + k, none⟩) (v := .int .i64 t) hb1 (by go_simp)); (have q5 := World.block_lt_of_cell? _ _ q4; (try dsimp only at q5)); (first | (refine with_keep3 hb1 hn3 ?_; clear hn3; intro hn3 ln3) | (refine with_new3 (wp := wp) (v0 := .slice none 0 0) (v1 := .int .i64 0) (v2 := .bool false) (t := 34) hb1 ?_; intro hn3 ln3) | (refine with_newd3 (wp := (wr.alloc (.cells #[.slice B m cb, .int .i64 b', .bool s'] 34))) (v0 := .slice none 0 0) (v1 := .int .i64 0) (v2 := .bool false) (t := 34) hb1 ?_; intro hn3 ln3) | skip); (try (simp only [World.size_alloc] at hn3 ln3)); (try (obtain ⟨n0, n1, n2, n3, n4, n5⟩ := hn3)); clear hb1)))
          all_goals
            go_wp2
            refine bodyPost_ret (v := .tuple #[.agg #[.slice none 0 0, .int .i64 0, .bool false], .bool false]) (by simp only [results, Try.results23]; go_simp) rfl (farBack_none HN.out ⟨rfl, ?_⟩)
            (repeat (first | with_reducible exact Below.refl _ _ | with_reducible assumption | (with_reducible refine below_drewN ?_ _) | (with_reducible refine Below.drew ?_) | (with_reducible refine Below.setCell ?_ (by first | omega | (simp; done) | (simp; omega)) _) | (with_reducible refine Below.alloc ?_ (by first | omega | (simp; done) | (simp; omega)) _) | refine Below.trans ?_ (Below.mono (by with_reducible assumption) (by first | omega | (simp; done) | (simp; omega)))))
        · have HQ := Lib.hid hq
          have HY := Lib.hid (hyes.out hq)
          clear hq hno hyes
          go_wp2_with fail
          obtain ⟨wz, hwz⟩ : ∃ x : World, x = w := ⟨w, rfl⟩
          clear hwz
          go_region_held3 (fun w' => w'.cell? ⟨w1.heap.size + 1, 0, none⟩ = some (.slice (some ⟨g, 0, none⟩) 4 cap) ∧ w'.cell? ⟨w1.heap.size + 1, 1, none⟩ = some (.int .i64 b) ∧ w'.cell? ⟨w1.heap.size + 1, 2, none⟩ = some (.bool s) ∧ w'.cell? ⟨wr.heap.size, 0, none⟩ = some (.slice B m cb) ∧ w'.cell? ⟨wr.heap.size, 1, none⟩ = some (.int .i64 b') ∧ w'.cell? ⟨wr.heap.size, 2, none⟩ = some (.bool s') ∧ w'.cell? ⟨p', o' + k, none⟩ = some (.int .i64 t)) (simp [go_sem, World.cell?_alloc_past, *])
            ((first
              | (go_at_call 64; rename World => wp; refine (iLinSum_y (xs := zs) (ys := ys) b b' s s' 1 t (by (repeat (first | with_reducible exact hIg | (with_reducible refine Ints.far ?_ (by first | omega | (simp; done) | (simp; omega)) _) | (with_reducible refine Ints.alloc ?_ _) | (with_reducible refine Ints.drewN ?_ _) | (with_reducible refine Ints.drew ?_)))) (by (repeat (first | with_reducible exact hIk | (with_reducible refine Ints.far ?_ (by first | omega | (simp; done) | (simp; omega)) _) | (with_reducible refine Ints.alloc ?_ _) | (with_reducible refine Ints.drewN ?_ _) | (with_reducible refine Ints.drew ?_)))) HQ.out).mono ?_; rintro e w2 ⟨g2, cap2, rfl, ⟨hI2, hF2⟩, hcap2, hg3, hb1⟩; have hz1 := hb1.size; (try simp at hz1); have hB1 : Below w.heap.size w w2 := (by refine Below.trans ?_ (Below.mono hb1 (by first | omega | (simp; done) | (simp; omega))); (repeat (first | with_reducible exact Below.refl _ _ | with_reducible assumption | (with_reducible refine below_drewN ?_ _) | (with_reducible refine Below.drew ?_) | (with_reducible refine Below.setCell ?_ (by first | omega | (simp; done) | (simp; omega)) _) | (with_reducible refine Below.alloc ?_ (by first | omega | (simp; done) | (simp; omega)) _) | refine Below.trans ?_ (Below.mono (by with_reducible assumption) (by first | omega | (simp; done) | (simp; omega)))))); (have lw3 : w1.heap.size < w2.heap.size := (by omega)); obtain ⟨kc_, fc_, lc_⟩ := keep_later (a := ⟨w.heap.size, 0, none⟩) (v := .slice none 0 0) hb1 (by go_simp) (by go_simp); obtain ⟨kc_, fc_, lc_⟩ := keep_later (a := ⟨w.heap.size, 1, none⟩) (v := .int .i64 0) hb1 (by go_simp) (by go_simp); obtain ⟨kc_, fc_, lc_⟩ := keep_later (a := ⟨w.heap.size, 2, none⟩) (v := .bool false) hb1 (by go_simp) (by go_simp); obtain ⟨kc_, fc_, lc_⟩ := keep_later (a := ⟨w1.heap.size+1, 0, none⟩) (v := .slice (some ⟨g, 0, none⟩) 4 cap) hb1 (by go_simp) (by go_simp); obtain ⟨kc_, fc_, lc_⟩ := keep_later (a := ⟨w1.heap.size+1, 1, none⟩) (v := .int .i64 b) hb1 (by go_simp) (by go_simp); obtain ⟨kc_, fc_, lc_⟩ := keep_later (a := ⟨w1.heap.size+1, 2, none⟩) (v := .bool s) hb1 (by go_simp) (by go_simp); obtain ⟨kc_, fc_, lc_⟩ := keep_later (a := ⟨wr.heap.size, 0, none⟩) (v := .slice B m cb) hb1 (by go_simp) (by go_simp); obtain ⟨kc_, fc_, lc_⟩ := keep_later (a := ⟨wr.heap.size, 1, none⟩) (v := .int .i64 b') hb1 (by go_simp) (by go_simp); obtain ⟨kc_, fc_, lc_⟩ := keep_later (a := ⟨wr.heap.size, 2, none⟩) (v := .bool s') hb1 (by go_simp) (by go_simp); (have q4 := keep_cell (a := ⟨p', o' + k, none⟩) (v := .int .i64 t) hb1 (by go_simp)); (have q5 := World.block_lt_of_cell? _ _ q4; (try dsimp only at q5)); (first | (refine with_keep3 hb1 hn3 ?_; clear hn3; intro hn3 ln3) | (refine with_new3 (wp := wp) (v0 := .slice none 0 0) (v1 := .int .i64 0) (v2 := .bool false) (t := 34) hb1 ?_; intro hn3 ln3) | (refine with_newd3 (wp := (wr.alloc (.cells #[.slice B m cb, .int .i64 b', .bool s'] 34))) (v0 := .slice none 0 0) (v1 := .int .i64 0) (v2 := .bool false) (t := 34) hb1 ?_; intro hn3 ln3) | skip); (try (simp only [World.size_alloc] at hn3 ln3)); (try (obtain ⟨n0, n1, n2, n3, n4, n5⟩ := hn3)); (try simp at hg3); clear hb1)))
          all_goals
            have lg2 := hF2.lt
            go_wp2
            go_roundw
            case rel =>
              refine ⟨k + 1, _, _, _, g2, cap2, by omega, by go_num, HY, ⟨by go_simp, by go_simp, by go_simp, by go_simp, by go_simp, by go_simp⟩, ⟨by go_simp, by go_simp, by go_simp, by go_simp, by go_simp, by go_simp⟩, ?_, ?_, by omega, by (repeat (first | with_reducible exact Below.refl _ _ | with_reducible assumption | (with_reducible refine below_drewN ?_ _) | (with_reducible refine Below.drew ?_) | (with_reducible refine Below.setCell ?_ (by first | omega | (simp; done) | (simp; omega)) _) | (with_reducible refine Below.alloc ?_ (by first | omega | (simp; done) | (simp; omega)) _) | refine Below.trans ?_ (Below.mono (by with_reducible assumption) (by first | omega | (simp; done) | (simp; omega)))))⟩
              · (repeat (first | with_reducible exact hI2 | (with_reducible refine Ints.far ?_ (by first | omega | (simp; done) | (simp; omega)) _) | (with_reducible refine Ints.alloc ?_ _) | (with_reducible refine Ints.drewN ?_ _) | (with_reducible refine Ints.drew ?_)))
              · (repeat (first | with_reducible exact hF2 | (with_reducible refine Free.set ?_ _ _) | (with_reducible refine Free.alloc ?_ _) | (with_reducible refine Free.drewN ?_ _) | (with_reducible refine Free.drew ?_)))
            case measure => simp [intOf]; omega
      · obtain rfl : k = n' := by omega
        have he := HS.out.symm.trans HK.out
        subst he
        go_wp2
        refine bodyPost_ret (v := .tuple #[.agg #[.slice (some ⟨g, 0, none⟩) 4 cap, .int .i64 b, .bool s], .bool true]) (by simp only [results, Try.results23]; go_simp) rfl ⟨g, cap, rfl, ⟨?_, ?_⟩, hcap, by omega, ?_⟩
        · (repeat (first | with_reducible exact hIg | (with_reducible refine Ints.far ?_ (by first | omega | (simp; done) | (simp; omega)) _) | (with_reducible refine Ints.alloc ?_ _) | (with_reducible refine Ints.drewN ?_ _) | (with_reducible refine Ints.drew ?_)))
        · (repeat (first | with_reducible exact hFg | (with_reducible refine Free.set ?_ _ _) | (with_reducible refine Free.alloc ?_ _) | (with_reducible refine Free.drewN ?_ _) | (with_reducible refine Free.drew ?_)))
        · (repeat (first | with_reducible exact Below.refl _ _ | with_reducible assumption | (with_reducible refine below_drewN ?_ _) | (with_reducible refine Below.drew ?_) | (with_reducible refine Below.setCell ?_ (by first | omega | (simp; done) | (simp; omega)) _) | (with_reducible refine Below.alloc ?_ (by first | omega | (simp; done) | (simp; omega)) _) | refine Below.trans ?_ (Below.mono (by with_reducible assumption) (by first | omega | (simp; done) | (simp; omega)))))
  · have hne : ((n' : Int) != (n : Int)) = true := by simp; omega
    have HN : Hid (o = none) := Lib.hid (ho.symm.trans (farSum_inv (by rw [hs, h.len, h'.len]; simp [hnn])))
    clear ho
    go_enter Try.func23, Try.ntmps23
    go_wp2_with fail
    refine (isSystem_any (h.later (by (repeat (first | with_reducible exact Below.refl _ _ | with_reducible assumption | (with_reducible refine below_drewN ?_ _) | (with_reducible refine Below.drew ?_) | (with_reducible refine Below.setCell ?_ (by first | omega | (simp; done) | (simp; omega)) _) | (with_reducible refine Below.alloc ?_ (by first | omega | (simp; done) | (simp; omega)) _) | refine Below.trans ?_ (Below.mono (by with_reducible assumption) (by first | omega | (simp; done) | (simp; omega)))))))).mono ?_
    rw [hs]
    rintro e w1 ⟨rfl, hb1⟩
    have hz1 := hb1.size; (try simp at hz1); have hB1 : Below w.heap.size w w1 := (by refine Below.trans ?_ (Below.mono hb1 (by first | omega | (simp; done) | (simp; omega))); (repeat (first | with_reducible exact Below.refl _ _ | with_reducible assumption | (with_reducible refine below_drewN ?_ _) | (with_reducible refine Below.drew ?_) | (with_reducible refine Below.setCell ?_ (by first | omega | (simp; done) | (simp; omega)) _) | (with_reducible refine Below.alloc ?_ (by first | omega | (simp; done) | (simp; omega)) _) | refine Below.trans ?_ (Below.mono (by with_reducible assumption) (by first | omega | (simp; done) | (simp; omega)))))); obtain ⟨kc_, fc_, lc_⟩ := keep_later (a := ⟨w.heap.size, 0, none⟩) (v := .slice none 0 0) hb1 (by go_simp) (by go_simp); obtain ⟨kc_, fc_, lc_⟩ := keep_later (a := ⟨w.heap.size, 1, none⟩) (v := .int .i64 0) hb1 (by go_simp) (by go_simp); obtain ⟨kc_, fc_, lc_⟩ := keep_later (a := ⟨w.heap.size, 2, none⟩) (v := .bool false) hb1 (by go_simp) (by go_simp); clear hb1
    go_wp2
    refine bodyPost_ret (v := .tuple #[.agg #[.slice none 0 0, .int .i64 0, .bool false], .bool false]) (by simp only [results, Try.results23]; go_simp) rfl (farBack_none HN.out ⟨rfl, ?_⟩)
    (repeat (first | with_reducible exact Below.refl _ _ | with_reducible assumption | (with_reducible refine below_drewN ?_ _) | (with_reducible refine Below.drew ?_) | (with_reducible refine Below.setCell ?_ (by first | omega | (simp; done) | (simp; omega)) _) | (with_reducible refine Below.alloc ?_ (by first | omega | (simp; done) | (simp; omega)) _) | refine Below.trans ?_ (Below.mono (by with_reducible assumption) (by first | omega | (simp; done) | (simp; omega)))))

set_option maxHeartbeats 4000000 in
theorem sFarOk_any {A A' : Option Addr} {n n' c c' : Nat} {ls : List LinV} {ts : List Int} {w : World} (h : Lins w A n ls) (h' : Ints w A' n' ts) :
    Calls Try.prog 42 #[.slice A n c, .slice A' n' c'] w fun e w' => e = .returned (.bool (farOk ls ts)) ∧ Below w.heap.size w w' := by
  obtain ⟨o, ho⟩ : ∃ o, farSum ls ts = o := ⟨_, rfl⟩
  cases o with
  | none =>
    have hf : farOk ls ts = false := by unfold farOk; rw [ho]
    rw [hf]
    go_enter Try.func42, Try.ntmps42
    go_wp2_with fail
    refine (sFarSum_any h h').mono ?_
    rw [ho]
    rintro e w1 hfb
    simp only [FarBack] at hfb
    obtain ⟨rfl, hb1⟩ := hfb
    have hz1 := hb1.size; (try simp at hz1); have hB1 : Below w.heap.size w w1 := (by refine Below.trans ?_ (Below.mono hb1 (by first | omega | (simp; done) | (simp; omega))); (repeat (first | with_reducible exact Below.refl _ _ | with_reducible assumption | (with_reducible refine below_drewN ?_ _) | (with_reducible refine Below.drew ?_) | (with_reducible refine Below.setCell ?_ (by first | omega | (simp; done) | (simp; omega)) _) | (with_reducible refine Below.alloc ?_ (by first | omega | (simp; done) | (simp; omega)) _) | refine Below.trans ?_ (Below.mono (by with_reducible assumption) (by first | omega | (simp; done) | (simp; omega))))))
    clear hb1
    go_wp2
    go_ret
    exact ⟨rfl, by (repeat (first | with_reducible exact Below.refl _ _ | with_reducible assumption | (with_reducible refine below_drewN ?_ _) | (with_reducible refine Below.drew ?_) | (with_reducible refine Below.setCell ?_ (by first | omega | (simp; done) | (simp; omega)) _) | (with_reducible refine Below.alloc ?_ (by first | omega | (simp; done) | (simp; omega)) _) | refine Below.trans ?_ (Below.mono (by with_reducible assumption) (by first | omega | (simp; done) | (simp; omega)))))⟩
  | some l =>
    obtain ⟨zs, b, s⟩ := l
    have hf : farOk ls ts = linBad zs b s := by unfold farOk; rw [ho]
    rw [hf]
    go_enter Try.func42, Try.ntmps42
    go_wp2_with fail
    refine (sFarSum_any h h').mono ?_
    rw [ho]
    rintro e w1 hfb
    simp only [FarBack] at hfb
    obtain ⟨g, cap, rfl, ⟨hI, hF⟩, hc, hg, hb1⟩ := hfb
    have hz1 := hb1.size; (try simp at hz1); have hB1 : Below w.heap.size w w1 := (by refine Below.trans ?_ (Below.mono hb1 (by first | omega | (simp; done) | (simp; omega))); (repeat (first | with_reducible exact Below.refl _ _ | with_reducible assumption | (with_reducible refine below_drewN ?_ _) | (with_reducible refine Below.drew ?_) | (with_reducible refine Below.setCell ?_ (by first | omega | (simp; done) | (simp; omega)) _) | (with_reducible refine Below.alloc ?_ (by first | omega | (simp; done) | (simp; omega)) _) | refine Below.trans ?_ (Below.mono (by with_reducible assumption) (by first | omega | (simp; done) | (simp; omega))))))
    clear hb1
    go_wp2_with fail
    refine (sLinBad_any b s (hI.alloc _)).mono ?_
    rintro e w2 ⟨rfl, hb1⟩
    have hz1 := hb1.size; (try simp at hz1); have hB1 : Below w.heap.size w w2 := (by refine Below.trans ?_ (Below.mono hb1 (by first | omega | (simp; done) | (simp; omega))); (repeat (first | with_reducible exact Below.refl _ _ | with_reducible assumption | (with_reducible refine below_drewN ?_ _) | (with_reducible refine Below.drew ?_) | (with_reducible refine Below.setCell ?_ (by first | omega | (simp; done) | (simp; omega)) _) | (with_reducible refine Below.alloc ?_ (by first | omega | (simp; done) | (simp; omega)) _) | refine Below.trans ?_ (Below.mono (by with_reducible assumption) (by first | omega | (simp; done) | (simp; omega))))))
    clear hb1
    go_wp2
    go_ret
    exact ⟨rfl, by (repeat (first | with_reducible exact Below.refl _ _ | with_reducible assumption | (with_reducible refine below_drewN ?_ _) | (with_reducible refine Below.drew ?_) | (with_reducible refine Below.setCell ?_ (by first | omega | (simp; done) | (simp; omega)) _) | (with_reducible refine Below.alloc ?_ (by first | omega | (simp; done) | (simp; omega)) _) | refine Below.trans ?_ (Below.mono (by with_reducible assumption) (by first | omega | (simp; done) | (simp; omega)))))⟩

set_option maxHeartbeats 4000000 in
theorem iFarOk_any {A A' : Option Addr} {n n' c c' : Nat} {ls : List LinV} {ts : List Int} {w : World} (h : Lins w A n ls) (h' : Ints w A' n' ts) :
    Calls Try.prog 21 #[.slice A n c, .slice A' n' c'] w fun e w' => e = .returned (.bool (farOk ls ts)) ∧ Below w.heap.size w w' := by
  obtain ⟨o, ho⟩ : ∃ o, farSum ls ts = o := ⟨_, rfl⟩
  cases o with
  | none =>
    have hf : farOk ls ts = false := by unfold farOk; rw [ho]
    rw [hf]
    go_enter Try.func21, Try.ntmps21
    go_wp2_with fail
    refine (iFarSum_any h h').mono ?_
    rw [ho]
    rintro e w1 hfb
    simp only [FarBack] at hfb
    obtain ⟨rfl, hb1⟩ := hfb
    have hz1 := hb1.size; (try simp at hz1); have hB1 : Below w.heap.size w w1 := (by refine Below.trans ?_ (Below.mono hb1 (by first | omega | (simp; done) | (simp; omega))); (repeat (first | with_reducible exact Below.refl _ _ | with_reducible assumption | (with_reducible refine below_drewN ?_ _) | (with_reducible refine Below.drew ?_) | (with_reducible refine Below.setCell ?_ (by first | omega | (simp; done) | (simp; omega)) _) | (with_reducible refine Below.alloc ?_ (by first | omega | (simp; done) | (simp; omega)) _) | refine Below.trans ?_ (Below.mono (by with_reducible assumption) (by first | omega | (simp; done) | (simp; omega))))))
    clear hb1
    go_wp2
    go_ret
    exact ⟨rfl, by (repeat (first | with_reducible exact Below.refl _ _ | with_reducible assumption | (with_reducible refine below_drewN ?_ _) | (with_reducible refine Below.drew ?_) | (with_reducible refine Below.setCell ?_ (by first | omega | (simp; done) | (simp; omega)) _) | (with_reducible refine Below.alloc ?_ (by first | omega | (simp; done) | (simp; omega)) _) | refine Below.trans ?_ (Below.mono (by with_reducible assumption) (by first | omega | (simp; done) | (simp; omega)))))⟩
  | some l =>
    obtain ⟨zs, b, s⟩ := l
    have hf : farOk ls ts = linBad zs b s := by unfold farOk; rw [ho]
    rw [hf]
    go_enter Try.func21, Try.ntmps21
    go_wp2_with fail
    refine (iFarSum_any h h').mono ?_
    rw [ho]
    rintro e w1 hfb
    simp only [FarBack] at hfb
    obtain ⟨g, cap, rfl, ⟨hI, hF⟩, hc, hg, hb1⟩ := hfb
    have hz1 := hb1.size; (try simp at hz1); have hB1 : Below w.heap.size w w1 := (by refine Below.trans ?_ (Below.mono hb1 (by first | omega | (simp; done) | (simp; omega))); (repeat (first | with_reducible exact Below.refl _ _ | with_reducible assumption | (with_reducible refine below_drewN ?_ _) | (with_reducible refine Below.drew ?_) | (with_reducible refine Below.setCell ?_ (by first | omega | (simp; done) | (simp; omega)) _) | (with_reducible refine Below.alloc ?_ (by first | omega | (simp; done) | (simp; omega)) _) | refine Below.trans ?_ (Below.mono (by with_reducible assumption) (by first | omega | (simp; done) | (simp; omega))))))
    clear hb1
    go_wp2_with fail
    refine (iLinBad_any b s (hI.alloc _)).mono ?_
    rintro e w2 ⟨rfl, hb1⟩
    have hz1 := hb1.size; (try simp at hz1); have hB1 : Below w.heap.size w w2 := (by refine Below.trans ?_ (Below.mono hb1 (by first | omega | (simp; done) | (simp; omega))); (repeat (first | with_reducible exact Below.refl _ _ | with_reducible assumption | (with_reducible refine below_drewN ?_ _) | (with_reducible refine Below.drew ?_) | (with_reducible refine Below.setCell ?_ (by first | omega | (simp; done) | (simp; omega)) _) | (with_reducible refine Below.alloc ?_ (by first | omega | (simp; done) | (simp; omega)) _) | refine Below.trans ?_ (Below.mono (by with_reducible assumption) (by first | omega | (simp; done) | (simp; omega))))))
    clear hb1
    go_wp2
    go_ret
    exact ⟨rfl, by (repeat (first | with_reducible exact Below.refl _ _ | with_reducible assumption | (with_reducible refine below_drewN ?_ _) | (with_reducible refine Below.drew ?_) | (with_reducible refine Below.setCell ?_ (by first | omega | (simp; done) | (simp; omega)) _) | (with_reducible refine Below.alloc ?_ (by first | omega | (simp; done) | (simp; omega)) _) | refine Below.trans ?_ (Below.mono (by with_reducible assumption) (by first | omega | (simp; done) | (simp; omega)))))⟩

theorem eqIntS_same {A A' : Option Addr} {n n' c c' : Nat} {xs : List Int} {w : World} (h : Ints w A n xs) (h' : Ints w A' n' xs) :
    Calls Try.prog 34 #[.slice A n c, .slice A' n' c'] w fun e w' => e = .returned (.bool true) ∧ Below w.heap.size w w' := by
  refine (eqIntS_any h h').mono ?_
  rintro e w' ⟨rfl, m, rfl⟩
  exact ⟨by simp, below_drewN (Below.refl _ _) m⟩
theorem open_intlist {H : Type} {enc : TypeId × Value → H} {W : World} {base : Nat} {v : Value} {d : DataW H} {p : List MemPlace} (hv : Value.okWide Try.prog W .any base 29 v) (h : DataW.Trod enc Try.prog W 0 (fun _ => true) true 29 v d p) :
    ∃ (A : Option Addr) (n c : Nat) (xs : List Int), v = .slice A n c ∧ Ints W A n xs := by
  obtain ⟨a0, len0, cap0, rfl⟩ := okWide_slice Try.underlying29 hv
  obtain ⟨fuel, hf⟩ := h
  exact open_ints_at hf
end Go.Proofs.Ytccjbipmlpnhkaa

/- A region whose order is open, whose last operations wait for all others: a condition on the world is kept up to them. -/
import Derived.Test.YtccjbipmlpnhkaaG
import Derived.Deep.RegionHeld3
import Derived.StillTail
namespace Go.Proofs.Ytccjbipmlpnhkaa
set_option maxRecDepth 100000
open Go.RowKit
set_option linter.unusedSimpArgs false
set_option linter.unusedVariables false

/-- The first n operations have come up. -/
def headAll (n : Nat) (listed : Array Bool) : Bool := (List.range n).all fun h => listed.getD h false
theorem headAll_no {n : Nat} {listed : Array Bool} {j : Nat} (hj : j < n) (h : listed.getD j true = false) : headAll n listed = false := by
  unfold headAll
  rw [List.all_eq_false]
  exact ⟨j, by simpa using hj, by rw [getD_both h]; simp⟩
theorem headAll_yes {n : Nat} {listed : Array Bool} {j : Nat} (hj : j < n) (h : headAll n listed = true) : listed.getD j false = true := by
  unfold headAll at h
  rw [List.all_eq_true] at h
  exact h j (by simpa using hj)

section
variable {P : Program} {ops : Array Oper} {Q : Exit → Act → World → Prop} {md : Region.Mode} {S : World → Prop} {n : Nat}

/-- Whatever order is picked among the first n operations, S holding behind each; behind them the rest in the order of the text. -/
def wpAnyT (P : Program) (md : Region.Mode) (ops : Array Oper) (Q : Exit → Act → World → Prop) (S : World → Prop) (n : Nat) : Nat → Array Bool → Act → World → Prop
  | 0, listed, a, w => headAll n listed = true ∧ wpList P ops Q (ops.toList.drop n) a w
  | fuel + 1, listed, a, w => headAll n listed = false ∧
    ∀ i ∈ Region.ready md ops listed, i < n → wpOp P ops Q i (fun a' w' => S w' ∧ wpAnyT P md ops Q S n fuel (listed.setIfInBounds i true) a' w') a w

theorem getD_set_same {listed : Array Bool} {i : Nat} (h : listed.getD i true = false) (d : Bool) : (listed.setIfInBounds i true).getD i d = true := by
  have hi : i < listed.size := by
    rcases Nat.lt_or_ge i listed.size with h' | h'
    · exact h'
    · rw [Array.getD_eq_getD_getElem?, Array.getElem?_eq_none h'] at h; cases h
  rw [Array.getD_eq_getD_getElem?, Array.getElem?_setIfInBounds_self_of_lt hi]; rfl

theorem wpAnyT_first {i : Nat} {oi : Oper} {v : Value} (hi : ops[i]? = some oi) (hin : i < n) (hsel : ∀ (j : Nat) (o : Oper) cs b, ops[j]? = some o → o.op ≠ .select cs b)
    (hQ : ∀ c a w, Q (.panic c) (a.put oi.dst v) w → Q (.panic c) a w) :
    ∀ (fuel : Nat) (listed : Array Bool) (a : Act) (w : World),
      (∀ j oj, ops[j]? = some oj → j ≠ i → listed.getD j true = false → (∀ e ∈ oj.after, Region.binds md e = true → e.on ≠ i) → oi.apart ops oj = true) →
      i ∈ Region.ready md ops listed → YieldsIf P ops S oi v a → S w →
      wpAnyT P md ops Q S n fuel (listed.setIfInBounds i true) (a.put oi.dst v) w → wpAnyT P md ops Q S n (fuel + 1) listed a w := by
  intro fuel
  induction fuel with
  | zero =>
    intro listed a w _ hr hy hS H
    refine ⟨headAll_no hin (mem_ready.1 hr).1, fun j hj hjn => ?_⟩
    by_cases hji : j = i
    · subst hji; exact hy.wpOp hi hS ⟨hS, H⟩
    · have h1 := headAll_yes hjn H.1
      rw [getD_set_ne false (Ne.symm hji), getD_both (mem_ready.1 hj).1] at h1
      cases h1
  | succ fuel ih =>
    intro listed a w hfree hr hy hS H
    refine ⟨headAll_no hin (mem_ready.1 hr).1, fun j hj hjn => ?_⟩
    by_cases hji : j = i
    · subst hji; exact hy.wpOp hi hS ⟨hS, H⟩
    · have h1 := H.2 j (ready_mono hj hji) hjn
      obtain ⟨hjun, oj, hoj, hall⟩ := mem_ready.1 hj
      have hnot : ∀ e ∈ oj.after, Region.binds md e = true → e.on ≠ i := fun e he hb heq => by
        have h1 := hall e he hb
        have h0 := (mem_ready.1 hr).1
        rw [heq, getD_both h0] at h1
        cases h1
      have h2 := wpOp_putIf hoj (hfree j oj hoj hji hjun hnot) (fun cs b => hsel i oi cs b hi) (fun cs b => hsel j oj cs b hoj) hQ hy h1
      have hfree' : ∀ k ok, ops[k]? = some ok → k ≠ i → (listed.setIfInBounds j true).getD k true = false →
          (∀ e ∈ ok.after, Region.binds md e = true → e.on ≠ i) → oi.apart ops ok = true := fun k ok hk hki hun hno => by
        refine hfree k ok hk hki ?_ hno
        by_cases hjk : j = k
        · subst hjk; exact hjun
        · rw [getD_set_ne true hjk] at hun; exact hun
      refine wpOp_mono (fun a' w' h3 => ⟨h3.2.1, ih (listed.setIfInBounds j true) a' w' hfree' (ready_mono hr (Ne.symm hji)) h3.1 h3.2.1 ?_⟩) h2
      rw [Array.setIfInBounds_comm _ _ hji]
      exact h3.2.2

/-- Take number i first. -/
theorem wpAnyT_take {i : Nat} {oi : Oper} {v : Value} {fuel : Nat} {listed : Array Bool} {a : Act} {w : World} (hi : ops[i]? = some oi)
    (hr : (Region.ready md ops listed).contains i = true) (hin : decide (i < n) = true) (hs : Region.noSelect ops = true) (hf : Region.free md ops listed i = true)
    (hQ : ∀ c a w, Q (.panic c) (a.put oi.dst v) w → Q (.panic c) a w) (hy : YieldsIf P ops S oi v a) (hS : S w)
    (h : wpAnyT P md ops Q S n fuel (listed.setIfInBounds i true) (a.put oi.dst v) w) : wpAnyT P md ops Q S n (fuel + 1) listed a w :=
  wpAnyT_first hi (of_decide_eq_true hin) (Region.noSelect_spec hs) hQ fuel listed a w (Region.free_spec hi hf) (by simpa using hr) hy hS h

/-- Each of the operations rs comes up next. -/
def AllReadyT (P : Program) (md : Region.Mode) (ops : Array Oper) (Q : Exit → Act → World → Prop) (S : World → Prop) (n fuel : Nat) (listed : Array Bool) (a : Act) (w : World) (rs : List Nat) : Prop :=
  ∀ i ∈ rs, wpOp P ops Q i (fun a' w' => S w' ∧ wpAnyT P md ops Q S n fuel (listed.setIfInBounds i true) a' w') a w
theorem AllReadyT.nil {fuel : Nat} {listed : Array Bool} {a : Act} {w : World} : AllReadyT P md ops Q S n fuel listed a w [] := fun _ h => by cases h
theorem AllReadyT.cons {fuel : Nat} {listed : Array Bool} {a : Act} {w : World} {i : Nat} {o : Oper} {rs : List Nat} (ho : ops[i]? = some o)
    (h : ∀ K' : Act → World → Prop, Shut (∀ a w, S w → (S w → wpAnyT P md ops Q S n fuel (listed.setIfInBounds i true) a w) → K' a w) → if Region.wanted o (yielded ops a.tmps) = true then Oper.wp P o a w K' Q else K' (a.put o.dst undef) w)
    (hs : AllReadyT P md ops Q S n fuel listed a w rs) : AllReadyT P md ops Q S n fuel listed a w (i :: rs) := fun j hj => by
  rcases List.mem_cons.1 hj with rfl | hj
  · exact wpOp_step ho (fun K' hK => h K' (fun a w hS hW => hK a w ⟨hS, hW hS⟩))
  · exact hs j hj
theorem wpAnyT_ready {rs : List Nat} {fuel : Nat} {listed : Array Bool} {a : Act} {w : World} (hr : (Region.ready md ops listed).filter (fun i => decide (i < n)) = rs) (hne : headAll n listed = false)
    (h : AllReadyT P md ops Q S n fuel listed a w rs) : wpAnyT P md ops Q S n (fuel + 1) listed a w :=
  ⟨hne, fun i hi hin => h i (by rw [← hr, List.mem_filter]; exact ⟨hi, by simpa using hin⟩)⟩
theorem wpAnyT_done {listed : Array Bool} {a : Act} {w : World} (hr : headAll n listed = true) (h : wpList P ops Q (ops.toList.drop n) a w) : wpAnyT P md ops Q S n 0 listed a w := ⟨hr, h⟩

/-- The checks: the edges of the head go back; each of the tail waits for all of the head; the tail is a chain. -/
def headB (md : Region.Mode) (ops : Array Oper) (n : Nat) : Bool :=
  decide (n ≤ ops.size) && ((List.range n).all fun i => ((ops[i]?).map fun o => o.after.toList.all fun e => decide (e.on < i)).getD false) &&
  ((List.range ops.size).all fun t => decide (t < n) || (List.range n).all fun h => Region.waitsFor md ops t h) &&
  Region.seqB md ops (ops.size - n) n (((List.range ops.size).map fun i => decide (i < n)).toArray)

theorem wpAny_of_T (hB : headB md ops n = true) : ∀ (fuel : Nat) (listed : Array Bool) (a : Act) (w : World), listed.size = ops.size → (∀ t, n ≤ t → t < ops.size → listed.getD t false = false) →
    wpAnyT P md ops Q S n fuel listed a w → wpAny P md ops Q (fuel + (ops.size - n)) listed a w := by
  simp only [headB, Bool.and_eq_true, decide_eq_true_eq, List.all_eq_true, List.mem_range] at hB
  obtain ⟨⟨⟨hn, hback⟩, hwait⟩, hseq⟩ := hB
  intro fuel
  induction fuel with
  | zero =>
    intro listed a w hsz htail h
    have hl : listed = ((List.range ops.size).map fun i => decide (i < n)).toArray := by
      refine Array.ext (by simpa using hsz) fun i h1 h2 => ?_
      have hi : i < ops.size := by omega
      by_cases hin : i < n
      · have := headAll_yes hin h.1
        rw [Array.getD_eq_getD_getElem?, Array.getElem?_eq_getElem h1] at this
        simpa [hin] using this
      · have := htail i (by omega) hi
        rw [Array.getD_eq_getD_getElem?, Array.getElem?_eq_getElem h1] at this
        simpa [hin] using this
    have h2 := wpAny_of_seq (P := P) (md := md) (Q' := Q) (ops.toList.drop n) n listed a w (fun j => by simp [List.getElem?_drop]) (by
      have hlen : (ops.toList.drop n).length = ops.size - n := by simp
      rw [hlen, hl]; exact hseq) h.2
    rw [Nat.zero_add]
    have hlen : (ops.toList.drop n).length = ops.size - n := by simp
    rwa [hlen] at h2
  | succ fuel ih =>
    intro listed a w hsz htail h
    rw [Nat.succ_add]
    refine ⟨fun h0 => ?_, fun i hi => ?_⟩
    · exfalso
      have hex : ∃ j, j < n ∧ listed.getD j true = false := by
        have := h.1
        unfold headAll at this
        rw [List.all_eq_false] at this
        obtain ⟨j, hj, hf⟩ := this
        rw [List.mem_range] at hj
        refine ⟨j, hj, ?_⟩
        have hj2 : j < listed.size := by omega
        rw [Array.getD_eq_getD_getElem?, Array.getElem?_eq_getElem hj2] at hf ⊢
        simpa using hf
      have key : ∀ j, j < n → listed.getD j true = false → ∃ k, k ∈ Region.ready md ops listed := by
        intro j
        induction j using Nat.strongRecOn with
        | _ j ihj =>
          intro hj hf
          by_cases hr : j ∈ Region.ready md ops listed
          · exact ⟨j, hr⟩
          · have hjo : ∃ o, ops[j]? = some o := ⟨_, Array.getElem?_eq_getElem (show j < ops.size by omega)⟩
            obtain ⟨o, ho⟩ := hjo
            have hb := hback j hj
            rw [ho] at hb
            simp only [Option.map_some, Option.getD_some, List.all_eq_true, decide_eq_true_eq, Array.mem_toList_iff] at hb
            rw [mem_ready] at hr
            have hr' : ¬ (∀ e ∈ o.after, Region.binds md e = true → listed.getD e.on false = true) := fun hh => hr ⟨hf, o, ho, hh⟩
            rw [Classical.not_forall] at hr'
            obtain ⟨e, hr'⟩ := hr'
            rw [Classical.not_imp, Classical.not_imp] at hr'
            obtain ⟨he, hbd, hl⟩ := hr'
            have hon := hb e he
            exact ihj e.on hon (by omega) (getD_in (by omega) (by simpa using hl))
      obtain ⟨j, hj, hf⟩ := hex
      obtain ⟨k, hk⟩ := key j hj hf
      rw [h0] at hk
      cases hk
    · by_cases hin : i < n
      · refine wpOp_mono (fun a' w' h' => ih _ a' w' (by simpa using hsz) (fun t ht hts => ?_) h'.2) (h.2 i hi hin)
        rw [getD_set_ne false (by omega)]; exact htail t ht hts
      · exfalso
        have hio := mem_ready.1 hi
        obtain ⟨hun, o, ho, hall⟩ := hio
        have hil : i < ops.size := (Array.getElem?_eq_some_iff.1 ho).1
        have hall' : headAll n listed = true := by
          unfold headAll
          rw [List.all_eq_true]
          intro h1 hh1
          rw [List.mem_range] at hh1
          have := hwait i hil
          simp only [Bool.or_eq_true, decide_eq_true_eq, List.all_eq_true, List.mem_range] at this
          obtain ⟨oj, hoj, e, he, hbd, heq⟩ := Region.waitsFor_spec (this.resolve_left hin h1 hh1)
          rw [ho] at hoj
          injection hoj with hoj
          subst hoj
          have := hall e he hbd
          rwa [heq] at this
        rw [h.1] at hall'
        cases hall'

/-- The beginning. -/
theorem wp_region_T {id : Nat} {a : Act} {w : World} {l : List Oper} (n : Nat) (S : World → Prop) (hm : P.follows .mixedOrders = true) (hB : headB .any l.toArray n = true) (hS : S w.drew)
    (h : S w.drew → wpAnyT P .any l.toArray Q S n n (Array.replicate l.toArray.size false) a w.drew) : (Code.region id l.toArray true).wp P Q a w := by
  refine wp_region_any hm ?_
  have hn : n ≤ l.toArray.size := by
    simp only [headB, Bool.and_eq_true, decide_eq_true_eq] at hB
    exact hB.1.1.1
  have h1 := wpAny_of_T hB n _ a w.drew (by simp) (fun t _ _ => getD_replicate_false _ _) (h hS)
  rw [show n + (l.toArray.size - n) = l.toArray.size by omega] at h1
  exact h1
end
#print axioms wp_region_T
end Go.Proofs.Ytccjbipmlpnhkaa

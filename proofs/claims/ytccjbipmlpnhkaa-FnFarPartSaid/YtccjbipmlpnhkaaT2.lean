/- As T, but only the edges that bind have to go back. -/
import Derived.Test.YtccjbipmlpnhkaaT
namespace Go.Proofs.Ytccjbipmlpnhkaa
set_option maxRecDepth 100000
open Go.RowKit
set_option linter.unusedSimpArgs false
set_option linter.unusedVariables false

section
variable {P : Program} {ops : Array Oper} {Q : Exit → Act → World → Prop} {md : Region.Mode} {S : World → Prop} {n : Nat}

/-- The checks: the edges of the head go back; each of the tail waits for all of the head; the tail is a chain. -/
def headB2 (md : Region.Mode) (ops : Array Oper) (n : Nat) : Bool :=
  decide (n ≤ ops.size) && ((List.range n).all fun i => ((ops[i]?).map fun o => o.after.toList.all fun e => !Region.binds md e || decide (e.on < i)).getD false) &&
  ((List.range ops.size).all fun t => decide (t < n) || (List.range n).all fun h => Region.waitsFor md ops t h) &&
  Region.seqB md ops (ops.size - n) n (((List.range ops.size).map fun i => decide (i < n)).toArray)

theorem wpAny_of_T2 (hB : headB2 md ops n = true) : ∀ (fuel : Nat) (listed : Array Bool) (a : Act) (w : World), listed.size = ops.size → (∀ t, n ≤ t → t < ops.size → listed.getD t false = false) →
    wpAnyT P md ops Q S n fuel listed a w → wpAny P md ops Q (fuel + (ops.size - n)) listed a w := by
  simp only [headB2, Bool.and_eq_true, decide_eq_true_eq, List.all_eq_true, List.mem_range] at hB
  obtain ⟨⟨⟨hn, hback⟩, hwait⟩, hseq⟩ := hB
  intro fuel
  induction fuel with
  | zero =>
    intro listed a w hsz htail h
    have hl : listed = ((List.range ops.size).map fun i => decide (i < n)).toArray := by
      refine Array.ext (by simpa using hsz) fun i h1 h2 => ?_
      have hi : i < ops.size := by omega
      by_cases hin : i < n
      · have := headAll_yes hin h.1
        rw [Array.getD_eq_getD_getElem?, Array.getElem?_eq_getElem h1] at this
        simpa [hin] using this
      · have := htail i (by omega) hi
        rw [Array.getD_eq_getD_getElem?, Array.getElem?_eq_getElem h1] at this
        simpa [hin] using this
    have h2 := wpAny_of_seq (P := P) (md := md) (Q' := Q) (ops.toList.drop n) n listed a w (fun j => by simp [List.getElem?_drop]) (by
      have hlen : (ops.toList.drop n).length = ops.size - n := by simp
      rw [hlen, hl]; exact hseq) h.2
    rw [Nat.zero_add]
    have hlen : (ops.toList.drop n).length = ops.size - n := by simp
    rwa [hlen] at h2
  | succ fuel ih =>
    intro listed a w hsz htail h
    rw [Nat.succ_add]
    refine ⟨fun h0 => ?_, fun i hi => ?_⟩
    · exfalso
      have hex : ∃ j, j < n ∧ listed.getD j true = false := by
        have := h.1
        unfold headAll at this
        rw [List.all_eq_false] at this
        obtain ⟨j, hj, hf⟩ := this
        rw [List.mem_range] at hj
        refine ⟨j, hj, ?_⟩
        have hj2 : j < listed.size := by omega
        rw [Array.getD_eq_getD_getElem?, Array.getElem?_eq_getElem hj2] at hf ⊢
        simpa using hf
      have key : ∀ j, j < n → listed.getD j true = false → ∃ k, k ∈ Region.ready md ops listed := by
        intro j
        induction j using Nat.strongRecOn with
        | _ j ihj =>
          intro hj hf
          by_cases hr : j ∈ Region.ready md ops listed
          · exact ⟨j, hr⟩
          · have hjo : ∃ o, ops[j]? = some o := ⟨_, Array.getElem?_eq_getElem (show j < ops.size by omega)⟩
            obtain ⟨o, ho⟩ := hjo
            have hb := hback j hj
            rw [ho] at hb
            simp only [Option.map_some, Option.getD_some, List.all_eq_true, Bool.or_eq_true, Bool.not_eq_true', decide_eq_true_eq, Array.mem_toList_iff] at hb
            rw [mem_ready] at hr
            have hr' : ¬ (∀ e ∈ o.after, Region.binds md e = true → listed.getD e.on false = true) := fun hh => hr ⟨hf, o, ho, hh⟩
            rw [Classical.not_forall] at hr'
            obtain ⟨e, hr'⟩ := hr'
            rw [Classical.not_imp, Classical.not_imp] at hr'
            obtain ⟨he, hbd, hl⟩ := hr'
            have hon := (hb e he).resolve_left (by rw [hbd]; simp)
            exact ihj e.on hon (by omega) (getD_in (by omega) (by simpa using hl))
      obtain ⟨j, hj, hf⟩ := hex
      obtain ⟨k, hk⟩ := key j hj hf
      rw [h0] at hk
      cases hk
    · by_cases hin : i < n
      · refine wpOp_mono (fun a' w' h' => ih _ a' w' (by simpa using hsz) (fun t ht hts => ?_) h'.2) (h.2 i hi hin)
        rw [getD_set_ne false (by omega)]; exact htail t ht hts
      · exfalso
        have hio := mem_ready.1 hi
        obtain ⟨hun, o, ho, hall⟩ := hio
        have hil : i < ops.size := (Array.getElem?_eq_some_iff.1 ho).1
        have hall' : headAll n listed = true := by
          unfold headAll
          rw [List.all_eq_true]
          intro h1 hh1
          rw [List.mem_range] at hh1
          have := hwait i hil
          simp only [Bool.or_eq_true, decide_eq_true_eq, List.all_eq_true, List.mem_range] at this
          obtain ⟨oj, hoj, e, he, hbd, heq⟩ := Region.waitsFor_spec (this.resolve_left hin h1 hh1)
          rw [ho] at hoj
          injection hoj with hoj
          subst hoj
          have := hall e he hbd
          rwa [heq] at this
        rw [h.1] at hall'
        cases hall'

/-- The beginning. -/
theorem wp_region_T2 {id : Nat} {a : Act} {w : World} {l : List Oper} (n : Nat) (S : World → Prop) (hm : P.follows .mixedOrders = true) (hB : headB2 .any l.toArray n = true) (hS : S w.drew)
    (h : S w.drew → wpAnyT P .any l.toArray Q S n n (Array.replicate l.toArray.size false) a w.drew) : (Code.region id l.toArray true).wp P Q a w := by
  refine wp_region_any hm ?_
  have hn : n ≤ l.toArray.size := by
    simp only [headB2, Bool.and_eq_true, decide_eq_true_eq] at hB
    exact hB.1.1.1
  have h1 := wpAny_of_T2 hB n _ a w.drew (by simp) (fun t _ _ => getD_replicate_false _ _) (h hS)
  rw [show n + (l.toArray.size - n) = l.toArray.size by omega] at h1
  exact h1
end
end Go.Proofs.Ytccjbipmlpnhkaa

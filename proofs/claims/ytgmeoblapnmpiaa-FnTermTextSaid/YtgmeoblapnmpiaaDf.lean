/- Terms are drawn, some bent. -/
import Derived.Test.YtgmeoblapnmpiaaDe
namespace Go.Proofs.Ytgmeoblapnmpiaa
set_option maxRecDepth 100000
open Go.RowKit Go.ChangeShapes Go.WideShapes Go.ChangeAt
set_option linter.unusedSimpArgs false
set_option linter.unusedVariables false

theorem news4 {W : World} {E : Nat} {a b c d : Value} {t : TypeId} (hE : W.heap.size = E) : ∀ j u, [a, b, c, d][j]? = some u → (W.alloc (.cells #[a, b, c, d] t)).cell? ((⟨E, 0, none⟩ : Addr).add j) = some u := by
  subst hE
  exact World.news_of_block (cs := #[a, b, c, d]) (t := t) (fr := (0, 0)) (heap_alloc_new _ _)

/-- What drawing a term gives. -/
def SomeBack (g : Nat) (A : Option Addr) (cap : Nat) (bs : List UInt8) (p : Nat) (w : World) (e : Ending) (w' : World) : Prop :=
  ∃ (s : ByteArray) (Z : Option Addr) (m c : Nat) (ts : List TermV) (d : Nat), e = .returned (.agg #[.string s, .slice Z m c]) ∧ (KidX w' w.heap.size none d Z m ts ∧ narrow d ts ∧ s.size ≤ 9) ∧ Moved g A cap bs p 300 w w'
set_option maxRecDepth 100000 in
set_option maxHeartbeats 8000000 in
theorem l4Some_any {g : Nat} {A : Option Addr} {cap : Nat} {bs : List UInt8} {p : Nat} {S : Option Addr} {n c lo : Nat} {w : World} (hR : Rd w g A cap bs p) (hp : p ≤ 600000) (hSg : SigK w lo S n) (hglo : g < lo) (hlo : lo ≤ w.heap.size) :
    Calls Try.prog 63 #[.pointer (some ⟨g, 0, none⟩), .agg #[.slice S n c]] w (SomeBack g A cap bs p w) := by
  have hg := hR.lt
  obtain ⟨i0, hi, zi0, zi1, zi2⟩ := info_parts term_info2
  go_enter Try.func63, Try.ntmps63
  go_upto_region 1 with fail
  go_cut [5] (fun s5 wx => ∃ (b : Nat) (s : ByteArray) (v : Value) (m : Nat) (ts : List TermV) (zs : List Value) (B f pp : Nat), s5 = .pointer (some ⟨b, 0, none⟩) ∧ Drawn w g A cap bs pp b s v m ts zs B f wx ∧ pp ≤ p + 260 ∧ m ≤ 3)
  case first =>
    refine wp_region_T2 9 (fun w' => w'.cell? ⟨w.heap.size, 0, none⟩ = some (.slice S n c)) (by kernel_rfl) (by kernel_rfl) ?_ (fun hHeld => ?_)
    · go_simp
    (refine wpAnyT_take (i := 0) (v := ?_) (by simp only [List.getElem?_toArray, List.getElem?_cons_succ, List.getElem?_cons_zero]; rfl) (by kernel_rfl) (by kernel_rfl) (by kernel_rfl) (by kernel_rfl) (by intro _ _ _ h; exact h) (Or.inl ⟨by rfl, ?_⟩) (by assumption) ?_; rotate_left; (focus (intro wS hSw; (try dsimp only at hSw); go_simp; (try with_reducible rfl))); (try simp only [Act.put, List.setIfInBounds_toArray, List.set_cons_zero, List.set_cons_succ]))
    (refine wpAnyT_take (i := 1) (v := ?_) (by simp only [List.getElem?_toArray, List.getElem?_cons_succ, List.getElem?_cons_zero]; rfl) (by kernel_rfl) (by kernel_rfl) (by kernel_rfl) (by kernel_rfl) (by intro _ _ _ h; exact h) (Or.inl ⟨by rfl, ?_⟩) (by assumption) ?_; rotate_left; (focus (intro wS hSw; (try dsimp only at hSw); go_simp; (try with_reducible rfl))); (try simp only [Act.put, List.setIfInBounds_toArray, List.set_cons_zero, List.set_cons_succ]))
    (refine wpAnyT_take (i := 2) (v := ?_) (by simp only [List.getElem?_toArray, List.getElem?_cons_succ, List.getElem?_cons_zero]; rfl) (by kernel_rfl) (by kernel_rfl) (by kernel_rfl) (by kernel_rfl) (by intro _ _ _ h; exact h) (Or.inl ⟨by rfl, ?_⟩) (by assumption) ?_; rotate_left; (focus (intro wS hSw; (try dsimp only at hSw); go_simp; (try with_reducible rfl))); (try simp only [Act.put, List.setIfInBounds_toArray, List.set_cons_zero, List.set_cons_succ]))
    (refine wpAnyT_take (i := 4) (v := ?_) (by simp only [List.getElem?_toArray, List.getElem?_cons_succ, List.getElem?_cons_zero]; rfl) (by kernel_rfl) (by kernel_rfl) (by kernel_rfl) (by kernel_rfl) (by intro _ _ _ h; exact h) (Or.inl ⟨by rfl, ?_⟩) (by assumption) ?_; rotate_left; (focus (intro wS hSw; (try dsimp only at hSw); go_simp; (try with_reducible rfl))); (try simp only [Act.put, List.setIfInBounds_toArray, List.set_cons_zero, List.set_cons_succ]))
    have hS : St w g A cap bs S n c p none none (((w.alloc (.cells #[.slice S n c] 36)).alloc (.cells #[.string ⟨#[]⟩, .slice none 0 0] 30)).drew) := ⟨by (repeat (first | with_reducible exact hR | refine Rd.far ?_ (by first | omega | (simp; done) | (simp; omega)) _ | refine Rd.alloc ?_ _ | refine Rd.drewN ?_ _ | refine Rd.drew ?_)), Only.of_below (by (repeat (first | with_reducible exact Below.refl _ _ | with_reducible assumption | (with_reducible refine below_drewN ?_ _) | (with_reducible refine Below.drew ?_) | (with_reducible refine Below.setCell ?_ (by first | omega | (simp; done) | (simp; omega)) _) | (with_reducible refine Below.alloc ?_ (by first | omega | (simp; done) | (simp; omega)) _) | refine Below.trans ?_ (Below.mono (by with_reducible assumption) (by first | omega | (simp; done) | (simp; omega)))))), by go_simp, ⟨by go_simp, by go_simp, by go_simp, by go_simp⟩, fun _ h => by (cases h), fun _ h => by (cases h)⟩
    clear hHeld
    refine wpAnyT_ready (rs := [3, 5, 8]) (by kernel_rfl) (by kernel_rfl) ?_
    refine AllReadyT.cons (by simp only [List.getElem?_toArray, List.getElem?_cons_succ, List.getElem?_cons_zero]; rfl) (fun K hK => ?_) (AllReadyT.cons (by simp only [List.getElem?_toArray, List.getElem?_cons_succ, List.getElem?_cons_zero]; rfl) (fun K hK => ?_) (AllReadyT.cons (by simp only [List.getElem?_toArray, List.getElem?_cons_succ, List.getElem?_cons_zero]; rfl) (fun K hK => ?_) AllReadyT.nil))
    · go_simp
      refine (pick_any (p := p) 2 hS.rd (by omega) (by omega) (by omega)).mono ?_
      rintro e W1 ⟨r0, rfl, hr⟩
      have hS := hS.step hg hr.only hr.rd
      have hz1 := hr.only.size
      (try simp at hz1)
      clear hr
      refine hK.out _ _ ?_ (fun hHeld => ?_)
      · exact hS.sig
      clear hK K hHeld
      (try simp only [Act.put, List.setIfInBounds_toArray, List.set_cons_zero, List.set_cons_succ])
      refine wpAnyT_ready (rs := [5, 8]) (by kernel_rfl) (by kernel_rfl) ?_
      refine AllReadyT.cons (by simp only [List.getElem?_toArray, List.getElem?_cons_succ, List.getElem?_cons_zero]; rfl) (fun K hK => ?_) (AllReadyT.cons (by simp only [List.getElem?_toArray, List.getElem?_cons_succ, List.getElem?_cons_zero]; rfl) (fun K hK => ?_) AllReadyT.nil)
      · go_simp
        have hS := hS.allocI (W1.heap.size) (by first | rfl | (simp; done)) hg
        refine hK.out _ _ ?_ (fun hHeld => ?_)
        · exact hS.sig
        clear hK K hHeld
        (try simp only [Act.put, List.setIfInBounds_toArray, List.set_cons_zero, List.set_cons_succ])
        refine wpAnyT_ready (rs := [6, 8]) (by kernel_rfl) (by kernel_rfl) ?_
        refine AllReadyT.cons (by simp only [List.getElem?_toArray, List.getElem?_cons_succ, List.getElem?_cons_zero]; rfl) (fun K hK => ?_) (AllReadyT.cons (by simp only [List.getElem?_toArray, List.getElem?_cons_succ, List.getElem?_cons_zero]; rfl) (fun K hK => ?_) AllReadyT.nil)
        · go_simp
          refine (num_any (p := p + 1) [2, 3, 1, 4] (W1.heap.size) 0 4 4 hS.rd (by omega) rfl (by omega) (by omega) (hS.row _ rfl).1 (hS.row _ rfl).2).mono ?_
          rintro e W2 ⟨r, rfl, hr⟩
          obtain ⟨f, rfl, hf1, hf4⟩ := deep_of hr.mem
          have hS := hS.step hg hr.only hr.rd
          have hz2 := hr.only.size
          (try simp at hz2)
          clear hr
          refine hK.out _ _ ?_ (fun hHeld => ?_)
          · exact hS.sig
          clear hK K hHeld
          (try simp only [Act.put, List.setIfInBounds_toArray, List.set_cons_zero, List.set_cons_succ])
          refine wpAnyT_ready (rs := [7, 8]) (by kernel_rfl) (by kernel_rfl) ?_
          refine AllReadyT.cons (by simp only [List.getElem?_toArray, List.getElem?_cons_succ, List.getElem?_cons_zero]; rfl) (fun K hK => ?_) (AllReadyT.cons (by simp only [List.getElem?_toArray, List.getElem?_cons_succ, List.getElem?_cons_zero]; rfl) (fun K hK => ?_) AllReadyT.nil)
          · go_simp
            refine (AnyCall.at (l4Any_any f) (p := p + 1 + 1) (S := S) (n := n) (c := c) (lo := lo) r0 (f : Int) hS.rd (by have := pow_256 hf4; omega) (hSg.step (Same.only hS.only hglo)) hglo (by have := hS.only.size; omega) rfl hf1 hf4).mono ?_
            rintro e W3 ⟨s, v, m, ts, zs, B, rfl, ⟨hG, ⟨hB, hB2⟩, hnar, ⟨hsz, hm3⟩⟩, ⟨⟨p3, hp3, hR3⟩, hO3⟩⟩
            have hS := hS.step hg hO3 hR3
            have hz3 := hO3.size
            have h256 := pow_256 hf4
            obtain ⟨Z, cz, rfl⟩ := hG.form
            (try simp at hB hz3)
            clear hO3 hR3
            refine hK.out _ _ ?_ (fun hHeld => ?_)
            · exact hS.sig
            clear hK K hHeld
            (try simp only [Act.put, List.setIfInBounds_toArray, List.set_cons_zero, List.set_cons_succ])
            refine wpAnyT_ready (rs := [8]) (by kernel_rfl) (by kernel_rfl) ?_
            refine AllReadyT.cons (by simp only [List.getElem?_toArray, List.getElem?_cons_succ, List.getElem?_cons_zero]; rfl) (fun K hK => ?_) AllReadyT.nil
            have hS0 := hS
            go_simp
            have hS := hS.allocT (W3.heap.size) (by first | rfl | (simp; done)) hg (by omega)
            refine hK.out _ _ ?_ (fun hHeld => ?_)
            · exact hS.sig
            clear hK K hHeld
            (try simp only [Act.put, List.setIfInBounds_toArray, List.set_cons_zero, List.set_cons_succ])
            refine wpAnyT_done (by kernel_rfl) ?_
            simp only [List.drop_succ_cons, List.drop_zero]
            go_wp2_with fail
            go_meet
            exact ⟨_, _, _, _, _, _, _, _, _, rfl, Drawn.new hS0 hg hG hnar ⟨by omega, by omega⟩ hsz, by omega, hm3⟩
          · go_simp
            have hS := hS.allocT (W2.heap.size) (by first | rfl | (simp; done)) hg (by omega)
            refine hK.out _ _ ?_ (fun hHeld => ?_)
            · exact hS.sig
            clear hK K hHeld
            (try simp only [Act.put, List.setIfInBounds_toArray, List.set_cons_zero, List.set_cons_succ])
            refine wpAnyT_ready (rs := [7]) (by kernel_rfl) (by kernel_rfl) ?_
            refine AllReadyT.cons (by simp only [List.getElem?_toArray, List.getElem?_cons_succ, List.getElem?_cons_zero]; rfl) (fun K hK => ?_) AllReadyT.nil
            go_simp
            refine (AnyCall.at (l4Any_any f) (p := p + 1 + 1) (S := S) (n := n) (c := c) (lo := lo) r0 (f : Int) hS.rd (by have := pow_256 hf4; omega) (hSg.step (Same.only hS.only hglo)) hglo (by have := hS.only.size; omega) rfl hf1 hf4).mono ?_
            rintro e W3 ⟨s, v, m, ts, zs, B, rfl, ⟨hG, ⟨hB, hB2⟩, hnar, ⟨hsz, hm3⟩⟩, ⟨⟨p3, hp3, hR3⟩, hO3⟩⟩
            have hS := hS.step hg hO3 hR3
            have hz3 := hO3.size
            have h256 := pow_256 hf4
            obtain ⟨Z, cz, rfl⟩ := hG.form
            (try simp at hB hz3)
            clear hO3 hR3
            refine hK.out _ _ ?_ (fun hHeld => ?_)
            · exact hS.sig
            clear hK K hHeld
            (try simp only [Act.put, List.setIfInBounds_toArray, List.set_cons_zero, List.set_cons_succ])
            refine wpAnyT_done (by kernel_rfl) ?_
            simp only [List.drop_succ_cons, List.drop_zero]
            have hY := hG.y (x := W2.heap.size) (.inl (by omega))
            have hT := (hS.new _ rfl).2
            obtain ⟨t0, t1, t2, t3⟩ := hT
            go_wp2_with fail
            go_meet
            exact ⟨_, _, _, _, _, _, _, _, _, rfl, Drawn.of hS hg hY hnar ⟨by omega, by (try simp); omega⟩ hsz, by omega, hm3⟩
        · go_simp
          have hS := hS.allocT (W1.heap.size + 1) (by first | rfl | (simp; done)) hg (by omega)
          refine hK.out _ _ ?_ (fun hHeld => ?_)
          · exact hS.sig
          clear hK K hHeld
          (try simp only [Act.put, List.setIfInBounds_toArray, List.set_cons_zero, List.set_cons_succ])
          refine wpAnyT_ready (rs := [6]) (by kernel_rfl) (by kernel_rfl) ?_
          refine AllReadyT.cons (by simp only [List.getElem?_toArray, List.getElem?_cons_succ, List.getElem?_cons_zero]; rfl) (fun K hK => ?_) AllReadyT.nil
          go_simp
          refine (num_any (p := p + 1) [2, 3, 1, 4] (W1.heap.size) 0 4 4 hS.rd (by omega) rfl (by omega) (by omega) (hS.row _ rfl).1 (hS.row _ rfl).2).mono ?_
          rintro e W2 ⟨r, rfl, hr⟩
          obtain ⟨f, rfl, hf1, hf4⟩ := deep_of hr.mem
          have hS := hS.step hg hr.only hr.rd
          have hz2 := hr.only.size
          (try simp at hz2)
          clear hr
          refine hK.out _ _ ?_ (fun hHeld => ?_)
          · exact hS.sig
          clear hK K hHeld
          (try simp only [Act.put, List.setIfInBounds_toArray, List.set_cons_zero, List.set_cons_succ])
          refine wpAnyT_ready (rs := [7]) (by kernel_rfl) (by kernel_rfl) ?_
          refine AllReadyT.cons (by simp only [List.getElem?_toArray, List.getElem?_cons_succ, List.getElem?_cons_zero]; rfl) (fun K hK => ?_) AllReadyT.nil
          go_simp
          refine (AnyCall.at (l4Any_any f) (p := p + 1 + 1) (S := S) (n := n) (c := c) (lo := lo) r0 (f : Int) hS.rd (by have := pow_256 hf4; omega) (hSg.step (Same.only hS.only hglo)) hglo (by have := hS.only.size; omega) rfl hf1 hf4).mono ?_
          rintro e W3 ⟨s, v, m, ts, zs, B, rfl, ⟨hG, ⟨hB, hB2⟩, hnar, ⟨hsz, hm3⟩⟩, ⟨⟨p3, hp3, hR3⟩, hO3⟩⟩
          have hS := hS.step hg hO3 hR3
          have hz3 := hO3.size
          have h256 := pow_256 hf4
          obtain ⟨Z, cz, rfl⟩ := hG.form
          (try simp at hB hz3)
          clear hO3 hR3
          refine hK.out _ _ ?_ (fun hHeld => ?_)
          · exact hS.sig
          clear hK K hHeld
          (try simp only [Act.put, List.setIfInBounds_toArray, List.set_cons_zero, List.set_cons_succ])
          refine wpAnyT_done (by kernel_rfl) ?_
          simp only [List.drop_succ_cons, List.drop_zero]
          have hY := hG.y (x := W1.heap.size + 1) (.inl (by omega))
          have hT := (hS.new _ rfl).2
          obtain ⟨t0, t1, t2, t3⟩ := hT
          go_wp2_with fail
          go_meet
          exact ⟨_, _, _, _, _, _, _, _, _, rfl, Drawn.of hS hg hY hnar ⟨by omega, by (try simp); omega⟩ hsz, by omega, hm3⟩
      · go_simp
        have hS := hS.allocT (W1.heap.size) (by first | rfl | (simp; done)) hg (by omega)
        refine hK.out _ _ ?_ (fun hHeld => ?_)
        · exact hS.sig
        clear hK K hHeld
        (try simp only [Act.put, List.setIfInBounds_toArray, List.set_cons_zero, List.set_cons_succ])
        refine wpAnyT_ready (rs := [5]) (by kernel_rfl) (by kernel_rfl) ?_
        refine AllReadyT.cons (by simp only [List.getElem?_toArray, List.getElem?_cons_succ, List.getElem?_cons_zero]; rfl) (fun K hK => ?_) AllReadyT.nil
        go_simp
        have hS := hS.allocI (W1.heap.size + 1) (by first | rfl | (simp; done)) hg
        refine hK.out _ _ ?_ (fun hHeld => ?_)
        · exact hS.sig
        clear hK K hHeld
        (try simp only [Act.put, List.setIfInBounds_toArray, List.set_cons_zero, List.set_cons_succ])
        refine wpAnyT_ready (rs := [6]) (by kernel_rfl) (by kernel_rfl) ?_
        refine AllReadyT.cons (by simp only [List.getElem?_toArray, List.getElem?_cons_succ, List.getElem?_cons_zero]; rfl) (fun K hK => ?_) AllReadyT.nil
        go_simp
        refine (num_any (p := p + 1) [2, 3, 1, 4] (W1.heap.size + 1) 0 4 4 hS.rd (by omega) rfl (by omega) (by omega) (hS.row _ rfl).1 (hS.row _ rfl).2).mono ?_
        rintro e W2 ⟨r, rfl, hr⟩
        obtain ⟨f, rfl, hf1, hf4⟩ := deep_of hr.mem
        have hS := hS.step hg hr.only hr.rd
        have hz2 := hr.only.size
        (try simp at hz2)
        clear hr
        refine hK.out _ _ ?_ (fun hHeld => ?_)
        · exact hS.sig
        clear hK K hHeld
        (try simp only [Act.put, List.setIfInBounds_toArray, List.set_cons_zero, List.set_cons_succ])
        refine wpAnyT_ready (rs := [7]) (by kernel_rfl) (by kernel_rfl) ?_
        refine AllReadyT.cons (by simp only [List.getElem?_toArray, List.getElem?_cons_succ, List.getElem?_cons_zero]; rfl) (fun K hK => ?_) AllReadyT.nil
        go_simp
        refine (AnyCall.at (l4Any_any f) (p := p + 1 + 1) (S := S) (n := n) (c := c) (lo := lo) r0 (f : Int) hS.rd (by have := pow_256 hf4; omega) (hSg.step (Same.only hS.only hglo)) hglo (by have := hS.only.size; omega) rfl hf1 hf4).mono ?_
        rintro e W3 ⟨s, v, m, ts, zs, B, rfl, ⟨hG, ⟨hB, hB2⟩, hnar, ⟨hsz, hm3⟩⟩, ⟨⟨p3, hp3, hR3⟩, hO3⟩⟩
        have hS := hS.step hg hO3 hR3
        have hz3 := hO3.size
        have h256 := pow_256 hf4
        obtain ⟨Z, cz, rfl⟩ := hG.form
        (try simp at hB hz3)
        clear hO3 hR3
        refine hK.out _ _ ?_ (fun hHeld => ?_)
        · exact hS.sig
        clear hK K hHeld
        (try simp only [Act.put, List.setIfInBounds_toArray, List.set_cons_zero, List.set_cons_succ])
        refine wpAnyT_done (by kernel_rfl) ?_
        simp only [List.drop_succ_cons, List.drop_zero]
        have hY := hG.y (x := W1.heap.size) (.inl (by omega))
        have hT := (hS.new _ rfl).2
        obtain ⟨t0, t1, t2, t3⟩ := hT
        go_wp2_with fail
        go_meet
        exact ⟨_, _, _, _, _, _, _, _, _, rfl, Drawn.of hS hg hY hnar ⟨by omega, by (try simp); omega⟩ hsz, by omega, hm3⟩
    · go_simp
      have hS := hS.allocI (w.heap.size + 1 + 1) (by first | rfl | (simp; done)) hg
      refine hK.out _ _ ?_ (fun hHeld => ?_)
      · exact hS.sig
      clear hK K hHeld
      (try simp only [Act.put, List.setIfInBounds_toArray, List.set_cons_zero, List.set_cons_succ])
      refine wpAnyT_ready (rs := [3, 8]) (by kernel_rfl) (by kernel_rfl) ?_
      refine AllReadyT.cons (by simp only [List.getElem?_toArray, List.getElem?_cons_succ, List.getElem?_cons_zero]; rfl) (fun K hK => ?_) (AllReadyT.cons (by simp only [List.getElem?_toArray, List.getElem?_cons_succ, List.getElem?_cons_zero]; rfl) (fun K hK => ?_) AllReadyT.nil)
      · go_simp
        refine (pick_any (p := p) 2 hS.rd (by omega) (by omega) (by omega)).mono ?_
        rintro e W1 ⟨r0, rfl, hr⟩
        have hS := hS.step hg hr.only hr.rd
        have hz1 := hr.only.size
        (try simp at hz1)
        clear hr
        refine hK.out _ _ ?_ (fun hHeld => ?_)
        · exact hS.sig
        clear hK K hHeld
        (try simp only [Act.put, List.setIfInBounds_toArray, List.set_cons_zero, List.set_cons_succ])
        refine wpAnyT_ready (rs := [6, 8]) (by kernel_rfl) (by kernel_rfl) ?_
        refine AllReadyT.cons (by simp only [List.getElem?_toArray, List.getElem?_cons_succ, List.getElem?_cons_zero]; rfl) (fun K hK => ?_) (AllReadyT.cons (by simp only [List.getElem?_toArray, List.getElem?_cons_succ, List.getElem?_cons_zero]; rfl) (fun K hK => ?_) AllReadyT.nil)
        · go_simp
          refine (num_any (p := p + 1) [2, 3, 1, 4] (w.heap.size + 1 + 1) 0 4 4 hS.rd (by omega) rfl (by omega) (by omega) (hS.row _ rfl).1 (hS.row _ rfl).2).mono ?_
          rintro e W2 ⟨r, rfl, hr⟩
          obtain ⟨f, rfl, hf1, hf4⟩ := deep_of hr.mem
          have hS := hS.step hg hr.only hr.rd
          have hz2 := hr.only.size
          (try simp at hz2)
          clear hr
          refine hK.out _ _ ?_ (fun hHeld => ?_)
          · exact hS.sig
          clear hK K hHeld
          (try simp only [Act.put, List.setIfInBounds_toArray, List.set_cons_zero, List.set_cons_succ])
          refine wpAnyT_ready (rs := [7, 8]) (by kernel_rfl) (by kernel_rfl) ?_
          refine AllReadyT.cons (by simp only [List.getElem?_toArray, List.getElem?_cons_succ, List.getElem?_cons_zero]; rfl) (fun K hK => ?_) (AllReadyT.cons (by simp only [List.getElem?_toArray, List.getElem?_cons_succ, List.getElem?_cons_zero]; rfl) (fun K hK => ?_) AllReadyT.nil)
          · go_simp
            refine (AnyCall.at (l4Any_any f) (p := p + 1 + 1) (S := S) (n := n) (c := c) (lo := lo) r0 (f : Int) hS.rd (by have := pow_256 hf4; omega) (hSg.step (Same.only hS.only hglo)) hglo (by have := hS.only.size; omega) rfl hf1 hf4).mono ?_
            rintro e W3 ⟨s, v, m, ts, zs, B, rfl, ⟨hG, ⟨hB, hB2⟩, hnar, ⟨hsz, hm3⟩⟩, ⟨⟨p3, hp3, hR3⟩, hO3⟩⟩
            have hS := hS.step hg hO3 hR3
            have hz3 := hO3.size
            have h256 := pow_256 hf4
            obtain ⟨Z, cz, rfl⟩ := hG.form
            (try simp at hB hz3)
            clear hO3 hR3
            refine hK.out _ _ ?_ (fun hHeld => ?_)
            · exact hS.sig
            clear hK K hHeld
            (try simp only [Act.put, List.setIfInBounds_toArray, List.set_cons_zero, List.set_cons_succ])
            refine wpAnyT_ready (rs := [8]) (by kernel_rfl) (by kernel_rfl) ?_
            refine AllReadyT.cons (by simp only [List.getElem?_toArray, List.getElem?_cons_succ, List.getElem?_cons_zero]; rfl) (fun K hK => ?_) AllReadyT.nil
            have hS0 := hS
            go_simp
            have hS := hS.allocT (W3.heap.size) (by first | rfl | (simp; done)) hg (by omega)
            refine hK.out _ _ ?_ (fun hHeld => ?_)
            · exact hS.sig
            clear hK K hHeld
            (try simp only [Act.put, List.setIfInBounds_toArray, List.set_cons_zero, List.set_cons_succ])
            refine wpAnyT_done (by kernel_rfl) ?_
            simp only [List.drop_succ_cons, List.drop_zero]
            go_wp2_with fail
            go_meet
            exact ⟨_, _, _, _, _, _, _, _, _, rfl, Drawn.new hS0 hg hG hnar ⟨by omega, by omega⟩ hsz, by omega, hm3⟩
          · go_simp
            have hS := hS.allocT (W2.heap.size) (by first | rfl | (simp; done)) hg (by omega)
            refine hK.out _ _ ?_ (fun hHeld => ?_)
            · exact hS.sig
            clear hK K hHeld
            (try simp only [Act.put, List.setIfInBounds_toArray, List.set_cons_zero, List.set_cons_succ])
            refine wpAnyT_ready (rs := [7]) (by kernel_rfl) (by kernel_rfl) ?_
            refine AllReadyT.cons (by simp only [List.getElem?_toArray, List.getElem?_cons_succ, List.getElem?_cons_zero]; rfl) (fun K hK => ?_) AllReadyT.nil
            go_simp
            refine (AnyCall.at (l4Any_any f) (p := p + 1 + 1) (S := S) (n := n) (c := c) (lo := lo) r0 (f : Int) hS.rd (by have := pow_256 hf4; omega) (hSg.step (Same.only hS.only hglo)) hglo (by have := hS.only.size; omega) rfl hf1 hf4).mono ?_
            rintro e W3 ⟨s, v, m, ts, zs, B, rfl, ⟨hG, ⟨hB, hB2⟩, hnar, ⟨hsz, hm3⟩⟩, ⟨⟨p3, hp3, hR3⟩, hO3⟩⟩
            have hS := hS.step hg hO3 hR3
            have hz3 := hO3.size
            have h256 := pow_256 hf4
            obtain ⟨Z, cz, rfl⟩ := hG.form
            (try simp at hB hz3)
            clear hO3 hR3
            refine hK.out _ _ ?_ (fun hHeld => ?_)
            · exact hS.sig
            clear hK K hHeld
            (try simp only [Act.put, List.setIfInBounds_toArray, List.set_cons_zero, List.set_cons_succ])
            refine wpAnyT_done (by kernel_rfl) ?_
            simp only [List.drop_succ_cons, List.drop_zero]
            have hY := hG.y (x := W2.heap.size) (.inl (by omega))
            have hT := (hS.new _ rfl).2
            obtain ⟨t0, t1, t2, t3⟩ := hT
            go_wp2_with fail
            go_meet
            exact ⟨_, _, _, _, _, _, _, _, _, rfl, Drawn.of hS hg hY hnar ⟨by omega, by (try simp); omega⟩ hsz, by omega, hm3⟩
        · go_simp
          have hS := hS.allocT (W1.heap.size) (by first | rfl | (simp; done)) hg (by omega)
          refine hK.out _ _ ?_ (fun hHeld => ?_)
          · exact hS.sig
          clear hK K hHeld
          (try simp only [Act.put, List.setIfInBounds_toArray, List.set_cons_zero, List.set_cons_succ])
          refine wpAnyT_ready (rs := [6]) (by kernel_rfl) (by kernel_rfl) ?_
          refine AllReadyT.cons (by simp only [List.getElem?_toArray, List.getElem?_cons_succ, List.getElem?_cons_zero]; rfl) (fun K hK => ?_) AllReadyT.nil
          go_simp
          refine (num_any (p := p + 1) [2, 3, 1, 4] (w.heap.size + 1 + 1) 0 4 4 hS.rd (by omega) rfl (by omega) (by omega) (hS.row _ rfl).1 (hS.row _ rfl).2).mono ?_
          rintro e W2 ⟨r, rfl, hr⟩
          obtain ⟨f, rfl, hf1, hf4⟩ := deep_of hr.mem
          have hS := hS.step hg hr.only hr.rd
          have hz2 := hr.only.size
          (try simp at hz2)
          clear hr
          refine hK.out _ _ ?_ (fun hHeld => ?_)
          · exact hS.sig
          clear hK K hHeld
          (try simp only [Act.put, List.setIfInBounds_toArray, List.set_cons_zero, List.set_cons_succ])
          refine wpAnyT_ready (rs := [7]) (by kernel_rfl) (by kernel_rfl) ?_
          refine AllReadyT.cons (by simp only [List.getElem?_toArray, List.getElem?_cons_succ, List.getElem?_cons_zero]; rfl) (fun K hK => ?_) AllReadyT.nil
          go_simp
          refine (AnyCall.at (l4Any_any f) (p := p + 1 + 1) (S := S) (n := n) (c := c) (lo := lo) r0 (f : Int) hS.rd (by have := pow_256 hf4; omega) (hSg.step (Same.only hS.only hglo)) hglo (by have := hS.only.size; omega) rfl hf1 hf4).mono ?_
          rintro e W3 ⟨s, v, m, ts, zs, B, rfl, ⟨hG, ⟨hB, hB2⟩, hnar, ⟨hsz, hm3⟩⟩, ⟨⟨p3, hp3, hR3⟩, hO3⟩⟩
          have hS := hS.step hg hO3 hR3
          have hz3 := hO3.size
          have h256 := pow_256 hf4
          obtain ⟨Z, cz, rfl⟩ := hG.form
          (try simp at hB hz3)
          clear hO3 hR3
          refine hK.out _ _ ?_ (fun hHeld => ?_)
          · exact hS.sig
          clear hK K hHeld
          (try simp only [Act.put, List.setIfInBounds_toArray, List.set_cons_zero, List.set_cons_succ])
          refine wpAnyT_done (by kernel_rfl) ?_
          simp only [List.drop_succ_cons, List.drop_zero]
          have hY := hG.y (x := W1.heap.size) (.inl (by omega))
          have hT := (hS.new _ rfl).2
          obtain ⟨t0, t1, t2, t3⟩ := hT
          go_wp2_with fail
          go_meet
          exact ⟨_, _, _, _, _, _, _, _, _, rfl, Drawn.of hS hg hY hnar ⟨by omega, by (try simp); omega⟩ hsz, by omega, hm3⟩
      · go_simp
        have hS := hS.allocT (w.heap.size + 1 + 1 + 1) (by first | rfl | (simp; done)) hg (by omega)
        refine hK.out _ _ ?_ (fun hHeld => ?_)
        · exact hS.sig
        clear hK K hHeld
        (try simp only [Act.put, List.setIfInBounds_toArray, List.set_cons_zero, List.set_cons_succ])
        refine wpAnyT_ready (rs := [3]) (by kernel_rfl) (by kernel_rfl) ?_
        refine AllReadyT.cons (by simp only [List.getElem?_toArray, List.getElem?_cons_succ, List.getElem?_cons_zero]; rfl) (fun K hK => ?_) AllReadyT.nil
        go_simp
        refine (pick_any (p := p) 2 hS.rd (by omega) (by omega) (by omega)).mono ?_
        rintro e W1 ⟨r0, rfl, hr⟩
        have hS := hS.step hg hr.only hr.rd
        have hz1 := hr.only.size
        (try simp at hz1)
        clear hr
        refine hK.out _ _ ?_ (fun hHeld => ?_)
        · exact hS.sig
        clear hK K hHeld
        (try simp only [Act.put, List.setIfInBounds_toArray, List.set_cons_zero, List.set_cons_succ])
        refine wpAnyT_ready (rs := [6]) (by kernel_rfl) (by kernel_rfl) ?_
        refine AllReadyT.cons (by simp only [List.getElem?_toArray, List.getElem?_cons_succ, List.getElem?_cons_zero]; rfl) (fun K hK => ?_) AllReadyT.nil
        go_simp
        refine (num_any (p := p + 1) [2, 3, 1, 4] (w.heap.size + 1 + 1) 0 4 4 hS.rd (by omega) rfl (by omega) (by omega) (hS.row _ rfl).1 (hS.row _ rfl).2).mono ?_
        rintro e W2 ⟨r, rfl, hr⟩
        obtain ⟨f, rfl, hf1, hf4⟩ := deep_of hr.mem
        have hS := hS.step hg hr.only hr.rd
        have hz2 := hr.only.size
        (try simp at hz2)
        clear hr
        refine hK.out _ _ ?_ (fun hHeld => ?_)
        · exact hS.sig
        clear hK K hHeld
        (try simp only [Act.put, List.setIfInBounds_toArray, List.set_cons_zero, List.set_cons_succ])
        refine wpAnyT_ready (rs := [7]) (by kernel_rfl) (by kernel_rfl) ?_
        refine AllReadyT.cons (by simp only [List.getElem?_toArray, List.getElem?_cons_succ, List.getElem?_cons_zero]; rfl) (fun K hK => ?_) AllReadyT.nil
        go_simp
        refine (AnyCall.at (l4Any_any f) (p := p + 1 + 1) (S := S) (n := n) (c := c) (lo := lo) r0 (f : Int) hS.rd (by have := pow_256 hf4; omega) (hSg.step (Same.only hS.only hglo)) hglo (by have := hS.only.size; omega) rfl hf1 hf4).mono ?_
        rintro e W3 ⟨s, v, m, ts, zs, B, rfl, ⟨hG, ⟨hB, hB2⟩, hnar, ⟨hsz, hm3⟩⟩, ⟨⟨p3, hp3, hR3⟩, hO3⟩⟩
        have hS := hS.step hg hO3 hR3
        have hz3 := hO3.size
        have h256 := pow_256 hf4
        obtain ⟨Z, cz, rfl⟩ := hG.form
        (try simp at hB hz3)
        clear hO3 hR3
        refine hK.out _ _ ?_ (fun hHeld => ?_)
        · exact hS.sig
        clear hK K hHeld
        (try simp only [Act.put, List.setIfInBounds_toArray, List.set_cons_zero, List.set_cons_succ])
        refine wpAnyT_done (by kernel_rfl) ?_
        simp only [List.drop_succ_cons, List.drop_zero]
        have hY := hG.y (x := w.heap.size + 1 + 1 + 1) (.inl (by omega))
        have hT := (hS.new _ rfl).2
        obtain ⟨t0, t1, t2, t3⟩ := hT
        go_wp2_with fail
        go_meet
        exact ⟨_, _, _, _, _, _, _, _, _, rfl, Drawn.of hS hg hY hnar ⟨by omega, by (try simp); omega⟩ hsz, by omega, hm3⟩
    · go_simp
      have hS := hS.allocT (w.heap.size + 1 + 1) (by first | rfl | (simp; done)) hg (by omega)
      refine hK.out _ _ ?_ (fun hHeld => ?_)
      · exact hS.sig
      clear hK K hHeld
      (try simp only [Act.put, List.setIfInBounds_toArray, List.set_cons_zero, List.set_cons_succ])
      refine wpAnyT_ready (rs := [3, 5]) (by kernel_rfl) (by kernel_rfl) ?_
      refine AllReadyT.cons (by simp only [List.getElem?_toArray, List.getElem?_cons_succ, List.getElem?_cons_zero]; rfl) (fun K hK => ?_) (AllReadyT.cons (by simp only [List.getElem?_toArray, List.getElem?_cons_succ, List.getElem?_cons_zero]; rfl) (fun K hK => ?_) AllReadyT.nil)
      · go_simp
        refine (pick_any (p := p) 2 hS.rd (by omega) (by omega) (by omega)).mono ?_
        rintro e W1 ⟨r0, rfl, hr⟩
        have hS := hS.step hg hr.only hr.rd
        have hz1 := hr.only.size
        (try simp at hz1)
        clear hr
        refine hK.out _ _ ?_ (fun hHeld => ?_)
        · exact hS.sig
        clear hK K hHeld
        (try simp only [Act.put, List.setIfInBounds_toArray, List.set_cons_zero, List.set_cons_succ])
        refine wpAnyT_ready (rs := [5]) (by kernel_rfl) (by kernel_rfl) ?_
        refine AllReadyT.cons (by simp only [List.getElem?_toArray, List.getElem?_cons_succ, List.getElem?_cons_zero]; rfl) (fun K hK => ?_) AllReadyT.nil
        go_simp
        have hS := hS.allocI (W1.heap.size) (by first | rfl | (simp; done)) hg
        refine hK.out _ _ ?_ (fun hHeld => ?_)
        · exact hS.sig
        clear hK K hHeld
        (try simp only [Act.put, List.setIfInBounds_toArray, List.set_cons_zero, List.set_cons_succ])
        refine wpAnyT_ready (rs := [6]) (by kernel_rfl) (by kernel_rfl) ?_
        refine AllReadyT.cons (by simp only [List.getElem?_toArray, List.getElem?_cons_succ, List.getElem?_cons_zero]; rfl) (fun K hK => ?_) AllReadyT.nil
        go_simp
        refine (num_any (p := p + 1) [2, 3, 1, 4] (W1.heap.size) 0 4 4 hS.rd (by omega) rfl (by omega) (by omega) (hS.row _ rfl).1 (hS.row _ rfl).2).mono ?_
        rintro e W2 ⟨r, rfl, hr⟩
        obtain ⟨f, rfl, hf1, hf4⟩ := deep_of hr.mem
        have hS := hS.step hg hr.only hr.rd
        have hz2 := hr.only.size
        (try simp at hz2)
        clear hr
        refine hK.out _ _ ?_ (fun hHeld => ?_)
        · exact hS.sig
        clear hK K hHeld
        (try simp only [Act.put, List.setIfInBounds_toArray, List.set_cons_zero, List.set_cons_succ])
        refine wpAnyT_ready (rs := [7]) (by kernel_rfl) (by kernel_rfl) ?_
        refine AllReadyT.cons (by simp only [List.getElem?_toArray, List.getElem?_cons_succ, List.getElem?_cons_zero]; rfl) (fun K hK => ?_) AllReadyT.nil
        go_simp
        refine (AnyCall.at (l4Any_any f) (p := p + 1 + 1) (S := S) (n := n) (c := c) (lo := lo) r0 (f : Int) hS.rd (by have := pow_256 hf4; omega) (hSg.step (Same.only hS.only hglo)) hglo (by have := hS.only.size; omega) rfl hf1 hf4).mono ?_
        rintro e W3 ⟨s, v, m, ts, zs, B, rfl, ⟨hG, ⟨hB, hB2⟩, hnar, ⟨hsz, hm3⟩⟩, ⟨⟨p3, hp3, hR3⟩, hO3⟩⟩
        have hS := hS.step hg hO3 hR3
        have hz3 := hO3.size
        have h256 := pow_256 hf4
        obtain ⟨Z, cz, rfl⟩ := hG.form
        (try simp at hB hz3)
        clear hO3 hR3
        refine hK.out _ _ ?_ (fun hHeld => ?_)
        · exact hS.sig
        clear hK K hHeld
        (try simp only [Act.put, List.setIfInBounds_toArray, List.set_cons_zero, List.set_cons_succ])
        refine wpAnyT_done (by kernel_rfl) ?_
        simp only [List.drop_succ_cons, List.drop_zero]
        have hY := hG.y (x := w.heap.size + 1 + 1) (.inl (by omega))
        have hT := (hS.new _ rfl).2
        obtain ⟨t0, t1, t2, t3⟩ := hT
        go_wp2_with fail
        go_meet
        exact ⟨_, _, _, _, _, _, _, _, _, rfl, Drawn.of hS hg hY hnar ⟨by omega, by (try simp); omega⟩ hsz, by omega, hm3⟩
      · go_simp
        have hS := hS.allocI (w.heap.size + 1 + 1 + 1) (by first | rfl | (simp; done)) hg
        refine hK.out _ _ ?_ (fun hHeld => ?_)
        · exact hS.sig
        clear hK K hHeld
        (try simp only [Act.put, List.setIfInBounds_toArray, List.set_cons_zero, List.set_cons_succ])
        refine wpAnyT_ready (rs := [3]) (by kernel_rfl) (by kernel_rfl) ?_
        refine AllReadyT.cons (by simp only [List.getElem?_toArray, List.getElem?_cons_succ, List.getElem?_cons_zero]; rfl) (fun K hK => ?_) AllReadyT.nil
        go_simp
        refine (pick_any (p := p) 2 hS.rd (by omega) (by omega) (by omega)).mono ?_
        rintro e W1 ⟨r0, rfl, hr⟩
        have hS := hS.step hg hr.only hr.rd
        have hz1 := hr.only.size
        (try simp at hz1)
        clear hr
        refine hK.out _ _ ?_ (fun hHeld => ?_)
        · exact hS.sig
        clear hK K hHeld
        (try simp only [Act.put, List.setIfInBounds_toArray, List.set_cons_zero, List.set_cons_succ])
        refine wpAnyT_ready (rs := [6]) (by kernel_rfl) (by kernel_rfl) ?_
        refine AllReadyT.cons (by simp only [List.getElem?_toArray, List.getElem?_cons_succ, List.getElem?_cons_zero]; rfl) (fun K hK => ?_) AllReadyT.nil
        go_simp
        refine (num_any (p := p + 1) [2, 3, 1, 4] (w.heap.size + 1 + 1 + 1) 0 4 4 hS.rd (by omega) rfl (by omega) (by omega) (hS.row _ rfl).1 (hS.row _ rfl).2).mono ?_
        rintro e W2 ⟨r, rfl, hr⟩
        obtain ⟨f, rfl, hf1, hf4⟩ := deep_of hr.mem
        have hS := hS.step hg hr.only hr.rd
        have hz2 := hr.only.size
        (try simp at hz2)
        clear hr
        refine hK.out _ _ ?_ (fun hHeld => ?_)
        · exact hS.sig
        clear hK K hHeld
        (try simp only [Act.put, List.setIfInBounds_toArray, List.set_cons_zero, List.set_cons_succ])
        refine wpAnyT_ready (rs := [7]) (by kernel_rfl) (by kernel_rfl) ?_
        refine AllReadyT.cons (by simp only [List.getElem?_toArray, List.getElem?_cons_succ, List.getElem?_cons_zero]; rfl) (fun K hK => ?_) AllReadyT.nil
        go_simp
        refine (AnyCall.at (l4Any_any f) (p := p + 1 + 1) (S := S) (n := n) (c := c) (lo := lo) r0 (f : Int) hS.rd (by have := pow_256 hf4; omega) (hSg.step (Same.only hS.only hglo)) hglo (by have := hS.only.size; omega) rfl hf1 hf4).mono ?_
        rintro e W3 ⟨s, v, m, ts, zs, B, rfl, ⟨hG, ⟨hB, hB2⟩, hnar, ⟨hsz, hm3⟩⟩, ⟨⟨p3, hp3, hR3⟩, hO3⟩⟩
        have hS := hS.step hg hO3 hR3
        have hz3 := hO3.size
        have h256 := pow_256 hf4
        obtain ⟨Z, cz, rfl⟩ := hG.form
        (try simp at hB hz3)
        clear hO3 hR3
        refine hK.out _ _ ?_ (fun hHeld => ?_)
        · exact hS.sig
        clear hK K hHeld
        (try simp only [Act.put, List.setIfInBounds_toArray, List.set_cons_zero, List.set_cons_succ])
        refine wpAnyT_done (by kernel_rfl) ?_
        simp only [List.drop_succ_cons, List.drop_zero]
        have hY := hG.y (x := w.heap.size + 1 + 1) (.inl (by omega))
        have hT := (hS.new _ rfl).2
        obtain ⟨t0, t1, t2, t3⟩ := hT
        go_wp2_with fail
        go_meet
        exact ⟨_, _, _, _, _, _, _, _, _, rfl, Drawn.of hS hg hY hnar ⟨by omega, by (try simp); omega⟩ hsz, by omega, hm3⟩
  case rest =>
    obtain ⟨b, s, v, m, ts, zs, B, f, pp, rfl, hD, hpp, hm3⟩ := hcut
    rename World => w3
    obtain ⟨Z, cz, rfl⟩ := hD.all.form
    have hbw := hD.lo
    have hbl := hD.term.lt
    have hz3 := hD.only.size
    obtain ⟨a0, a1, a2, a3⟩ := hD.term
    obtain ⟨b0, b1, b2, b3⟩ := hD.res
    go_wp2_with fail
    refine (pick_any (p := pp) 48 hD.rd (by omega) (by omega) (by omega)).mono ?_
    rintro e w4 ⟨r, rfl, hr⟩
    have hD4 := hD.step hg hr.only hr.rd
    have hz4 := hr.only.size
    clear hr a0 a1 a2 a3 b0 b1 b2 b3 hD
    have hfew := hD4.nar.few
    have hlen := hD4.all.len
    by_cases q0 : r = 0
    · subst q0
      go_wp2_with fail
      refine (of_any (p := pp + 1) bents w4.heap.size 4 4 (hD4.rd.alloc _) (by omega) rfl (by omega) (by omega) (by omega) (alloc_vals w4 (bents.map Value.string) 9)).mono ?_
      rintro e w5 ⟨t, rfl, ht⟩
      have hts := bents_small t ht.mem
      have hD5 := hD4.step hg ((Only.below (Only.refl g w4) ((Below.refl _ _).alloc (Nat.le_refl _) _)).trans ht.only) ht.rd
      clear ht hD4
      obtain ⟨a0, a1, a2, a3⟩ := hD5.term
      obtain ⟨b0, b1, b2, b3⟩ := hD5.res
      have hD6 := Lib.hid (hD5.name hg hts)
      clear hD5
      go_wp2
      exact bodyPost_ret (v := .agg #[.string t, .slice Z m cz]) (by simp only [results, Try.results63]; go_simp) rfl ⟨_, _, _, _, _, _, rfl, ⟨((hD6.out).fin hg _ _).1, (hD6.out).nar, (hD6.out).few⟩, ⟨⟨_, by omega, ((hD6.out).fin hg _ _).2.1⟩, ((hD6.out).fin hg _ _).2.2⟩⟩
    have q0' : (r == 0) = false := by simpa using q0
    by_cases q1 : r = 1
    · subst q1
      obtain ⟨a0, a1, a2, a3⟩ := hD4.term
      obtain ⟨b0, b1, b2, b3⟩ := hD4.res
      go_wp2_with fail
      refine (l4Copy_any (f + 1) (c := cz) s ((hD4.all.kids (lo := B) (by omega) (Nat.le_refl _)).here) hD4.nar (by have := hD4.few; omega)).mono ?_
      rintro e w5 ⟨v5, zs5, B5, rfl, ⟨hG5, hB5⟩, hb5⟩
      obtain ⟨Z5, c5, rfl⟩ := hG5.form
      have hD5 := hD4.step hg (Only.of_below hb5) (hD4.rd.grown hb5)
      have hz5 := hb5.size
      clear a0 a1 a2 a3 b0 b1 b2 b3
      obtain ⟨a0, a1, a2, a3⟩ := hD5.term
      obtain ⟨b0, b1, b2, b3⟩ := hD5.res
      have hbl5 := hD5.term.lt
      have hDW := Lib.hid (hD5.step (W' := (w5.alloc (.cells #[.string s, .slice Z5 m c5] 30)).alloc (.cells #[.string s, .slice Z5 m c5] 30)) hg (Only.of_below (by (repeat (first | with_reducible exact Below.refl _ _ | with_reducible assumption | (with_reducible refine below_drewN ?_ _) | (with_reducible refine Below.drew ?_) | (with_reducible refine Below.setCell ?_ (by first | omega | (simp; done) | (simp; omega)) _) | (with_reducible refine Below.alloc ?_ (by first | omega | (simp; done) | (simp; omega)) _) | refine Below.trans ?_ (Below.mono (by with_reducible assumption) (by first | omega | (simp; done) | (simp; omega))))))) (hD5.rd.grown (by (repeat (first | with_reducible exact Below.refl _ _ | with_reducible assumption | (with_reducible refine below_drewN ?_ _) | (with_reducible refine Below.drew ?_) | (with_reducible refine Below.setCell ?_ (by first | omega | (simp; done) | (simp; omega)) _) | (with_reducible refine Below.alloc ?_ (by first | omega | (simp; done) | (simp; omega)) _) | refine Below.trans ?_ (Below.mono (by with_reducible assumption) (by first | omega | (simp; done) | (simp; omega))))))))
      have hYW := Lib.hid (hDW.out.all.le (show f ≤ f + 2 by omega))
      have hG5k := Lib.hid (KidX.intoY (x := b) (hG5.kids (by omega)) hD4.all.own hB5 (by omega) (by omega))
      go_wp2_with (first | (at_builtin; refine wpList_append_lies _ (by rfl) (.tmp 30) (.tmp 32) _ (by rfl) B 30 i0 _ 2 40 Try.underlying28 hi zi0 zi1 zi2 rfl (by omega) (.slice Z m cz) m zs (by rfl) hYW.out.own ⟨w5.heap.size + 1, 0, none⟩ 1 1 [.string s, .slice Z5 m c5] (by rfl) (by rfl) (news2 (by first | omega | (simp; done) | (simp; omega))) (by simp [Value.oneCell']) (by omega) (by unfold maxLen; omega) (by omega) (by first | omega | (simp; done) | (simp; omega)) _ rfl ?_; intro g' cap' wq hown3 hgrow hat hlt2; have hq1 := (hDW.out.term).grown hgrow hDW.out.all.off; have hq2 := (hDW.out.res).grown hgrow (fun e => by have := (hDW.out.all.own.lt _ e).1; omega); clear a0 a1 a2 a3 b0 b1 b2 b3; obtain ⟨a0, a1, a2, a3⟩ := hq1; obtain ⟨b0, b1, b2, b3⟩ := hq2))
      have hY2 := hYW.out.app (us := [.mk s ts]) (by simp; omega) hown3 hgrow hat rfl rfl (fun j hj => by
        obtain rfl : j = 0 := by omega
        exact ⟨_, _, _, hG5k.out.step (SameY.below (by (repeat (first | with_reducible exact Below.refl _ _ | with_reducible assumption | (with_reducible refine below_drewN ?_ _) | (with_reducible refine Below.drew ?_) | (with_reducible refine Below.setCell ?_ (by first | omega | (simp; done) | (simp; omega)) _) | (with_reducible refine Below.alloc ?_ (by first | omega | (simp; done) | (simp; omega)) _) | refine Below.trans ?_ (Below.mono (by with_reducible assumption) (by first | omega | (simp; done) | (simp; omega))))))), (by show s.size ≤ _; have := hD5.few; omega), rfl, rfl⟩)
      have hD6 := Lib.hid (hDW.out.more hg hgrow hY2 (narrow.snoc hD5.nar.up.up (by omega) hD5.nar.up))
      clear hown3 hgrow hat hlt2 hY2 hYW hDW
      go_wp2
      exact bodyPost_ret (v := .agg #[.string s, .slice (some ⟨g', 0, none⟩) (m + 1) cap']) (by simp only [results, Try.results63]; go_simp) rfl ⟨_, _, _, _, _, _, rfl, ⟨((hD6.out).fin hg _ _).1, (hD6.out).nar, (hD6.out).few⟩, ⟨⟨_, by omega, ((hD6.out).fin hg _ _).2.1⟩, ((hD6.out).fin hg _ _).2.2⟩⟩
    have q1' : (r == 1) = false := by simpa using q1
    by_cases q2 : r = 2
    · subst q2
      obtain ⟨a0, a1, a2, a3⟩ := hD4.term
      obtain ⟨b0, b1, b2, b3⟩ := hD4.res
      go_wp2_with fail
      refine (l4Copy_any (f + 1) (c := cz) s ((hD4.all.kids (lo := B) (by omega) (Nat.le_refl _)).here) hD4.nar (by have := hD4.few; omega)).mono ?_
      rintro e w5 ⟨v5, zs5, B5, rfl, ⟨hG5, hB5⟩, hb5⟩
      obtain ⟨Z5, c5, rfl⟩ := hG5.form
      have hD5 := hD4.step hg (Only.of_below hb5) (hD4.rd.grown hb5)
      have hz5 := hb5.size
      clear a0 a1 a2 a3 b0 b1 b2 b3
      obtain ⟨a0, a1, a2, a3⟩ := hD5.term
      obtain ⟨b0, b1, b2, b3⟩ := hD5.res
      have hbl5 := hD5.term.lt
      have hX5 : T2c (w5.alloc (.cells #[.string s, .slice Z5 m c5] 30)) w5.heap.size s (.slice Z5 m c5) := T2c.new _ _ _ _
      have hDV := hD5.step (W' := w5.alloc (.cells #[.string s, .slice Z5 m c5] 30)) hg (Only.of_below (by (repeat (first | with_reducible exact Below.refl _ _ | with_reducible assumption | (with_reducible refine below_drewN ?_ _) | (with_reducible refine Below.drew ?_) | (with_reducible refine Below.setCell ?_ (by first | omega | (simp; done) | (simp; omega)) _) | (with_reducible refine Below.alloc ?_ (by first | omega | (simp; done) | (simp; omega)) _) | refine Below.trans ?_ (Below.mono (by with_reducible assumption) (by first | omega | (simp; done) | (simp; omega))))))) (hD5.rd.grown (by (repeat (first | with_reducible exact Below.refl _ _ | with_reducible assumption | (with_reducible refine below_drewN ?_ _) | (with_reducible refine Below.drew ?_) | (with_reducible refine Below.setCell ?_ (by first | omega | (simp; done) | (simp; omega)) _) | (with_reducible refine Below.alloc ?_ (by first | omega | (simp; done) | (simp; omega)) _) | refine Below.trans ?_ (Below.mono (by with_reducible assumption) (by first | omega | (simp; done) | (simp; omega)))))))
      go_wp2_with fail
      refine (l4Copy_any (f + 1) (c := cz) s ((hDV.all.kids (lo := B) (by omega) (Nat.le_refl _)).here) hDV.nar (by have := hD4.few; omega)).mono ?_
      rintro e w6 ⟨v6, zs6, B6, rfl, ⟨hG6, hB6⟩, hb6⟩
      obtain ⟨Z6, c6, rfl⟩ := hG6.form
      have hD6' := hDV.step hg (Only.of_below hb6) (hDV.rd.grown hb6)
      have hz6 := hb6.size
      (try simp at hz6 hB6)
      have hb56 : Below w5.heap.size w5 w6 := Below.trans ((Below.refl _ _).alloc (Nat.le_refl _) _) (hb6.mono (by simp))
      obtain ⟨x0, x1, x2, x3⟩ := hX5.later hb6
      clear a0 a1 a2 a3 b0 b1 b2 b3
      obtain ⟨a0, a1, a2, a3⟩ := hD6'.term
      obtain ⟨b0, b1, b2, b3⟩ := hD6'.res
      have hbl6 := hD6'.term.lt
      have hwl6 : w5.heap.size < w6.heap.size := by omega
      have hDW := Lib.hid (hD6'.step (W' := (w6.alloc (.cells #[.string s, .slice Z6 m c6] 30)).alloc (.cells #[.string s, .slice Z5 m c5, .string s, .slice Z6 m c6] 30)) hg (Only.of_below (by (repeat (first | with_reducible exact Below.refl _ _ | with_reducible assumption | (with_reducible refine below_drewN ?_ _) | (with_reducible refine Below.drew ?_) | (with_reducible refine Below.setCell ?_ (by first | omega | (simp; done) | (simp; omega)) _) | (with_reducible refine Below.alloc ?_ (by first | omega | (simp; done) | (simp; omega)) _) | refine Below.trans ?_ (Below.mono (by with_reducible assumption) (by first | omega | (simp; done) | (simp; omega))))))) (hD6'.rd.grown (by (repeat (first | with_reducible exact Below.refl _ _ | with_reducible assumption | (with_reducible refine below_drewN ?_ _) | (with_reducible refine Below.drew ?_) | (with_reducible refine Below.setCell ?_ (by first | omega | (simp; done) | (simp; omega)) _) | (with_reducible refine Below.alloc ?_ (by first | omega | (simp; done) | (simp; omega)) _) | refine Below.trans ?_ (Below.mono (by with_reducible assumption) (by first | omega | (simp; done) | (simp; omega))))))))
      have hYW := Lib.hid (hDW.out.all.le (show f ≤ f + 2 by omega))
      have hG5k := Lib.hid (KidX.intoY (x := b) (hG5.kids (by omega)) hD4.all.own hB5 (by omega) (by omega))
      have hG6k := Lib.hid (KidX.intoY (x := b) (hG6.kids (by omega)) hD5.all.own (by omega) (by omega) (by omega))
      clear hb6 hX5
      go_wp2_with (first | (at_builtin; refine wpList_append_lies _ (by rfl) (.tmp 42) (.tmp 45) _ (by rfl) B 30 i0 _ 2 40 Try.underlying28 hi zi0 zi1 zi2 rfl (by omega) (.slice Z m cz) m zs (by rfl) hYW.out.own ⟨w6.heap.size + 1, 0, none⟩ 2 2 [.string s, .slice Z5 m c5, .string s, .slice Z6 m c6] (by rfl) (by rfl) (news4 (by first | omega | (simp; done) | (simp; omega))) (by simp [Value.oneCell']) (by omega) (by unfold maxLen; omega) (by omega) (by first | omega | (simp; done) | (simp; omega)) _ rfl ?_; intro g' cap' wq hown3 hgrow hat hlt2; have hq1 := (hDW.out.term).grown hgrow hDW.out.all.off; have hq2 := (hDW.out.res).grown hgrow (fun e => by have := (hDW.out.all.own.lt _ e).1; omega); clear a0 a1 a2 a3 b0 b1 b2 b3; obtain ⟨a0, a1, a2, a3⟩ := hq1; obtain ⟨b0, b1, b2, b3⟩ := hq2))
      have hY2 := hYW.out.app (us := [.mk s ts, .mk s ts]) (by simp; omega) hown3 hgrow hat rfl rfl (fun j hj => by
        match j, hj with
        | 0, _ => exact ⟨_, _, _, hG5k.out.step (SameY.below (by (repeat (first | with_reducible exact Below.refl _ _ | with_reducible assumption | (with_reducible refine below_drewN ?_ _) | (with_reducible refine Below.drew ?_) | (with_reducible refine Below.setCell ?_ (by first | omega | (simp; done) | (simp; omega)) _) | (with_reducible refine Below.alloc ?_ (by first | omega | (simp; done) | (simp; omega)) _) | refine Below.trans ?_ (Below.mono (by with_reducible assumption) (by first | omega | (simp; done) | (simp; omega))))))), (by show s.size ≤ _; have := hD5.few; omega), rfl, rfl⟩
        | 1, _ => exact ⟨_, _, _, hG6k.out.step (SameY.below (by (repeat (first | with_reducible exact Below.refl _ _ | with_reducible assumption | (with_reducible refine below_drewN ?_ _) | (with_reducible refine Below.drew ?_) | (with_reducible refine Below.setCell ?_ (by first | omega | (simp; done) | (simp; omega)) _) | (with_reducible refine Below.alloc ?_ (by first | omega | (simp; done) | (simp; omega)) _) | refine Below.trans ?_ (Below.mono (by with_reducible assumption) (by first | omega | (simp; done) | (simp; omega))))))), (by show s.size ≤ _; have := hD5.few; omega), rfl, rfl⟩)
      have hD6 := Lib.hid (hDW.out.more hg hgrow hY2 (by
        have h1 := narrow.snoc (s := s) hD5.nar.up.up (by omega) hD5.nar.up
        have h2 := narrow.snoc (s := s) h1 (by simp; omega) hD5.nar.up
        rw [List.append_assoc] at h2
        exact h2))
      clear hown3 hgrow hat hlt2 hY2 hYW hDW
      go_wp2
      exact bodyPost_ret (v := .agg #[.string s, .slice (some ⟨g', 0, none⟩) (m + 2) cap']) (by simp only [results, Try.results63]; go_simp) rfl ⟨_, _, _, _, _, _, rfl, ⟨((hD6.out).fin hg _ _).1, (hD6.out).nar, (hD6.out).few⟩, ⟨⟨_, by omega, ((hD6.out).fin hg _ _).2.1⟩, ((hD6.out).fin hg _ _).2.2⟩⟩
    have q2' : (r == 2) = false := by simpa using q2
    obtain ⟨a0, a1, a2, a3⟩ := hD4.term
    obtain ⟨b0, b1, b2, b3⟩ := hD4.res
    have hD6 := Lib.hid hD4
    clear hD4
    go_wp2
    exact bodyPost_ret (v := .agg #[.string s, .slice Z m cz]) (by simp only [results, Try.results63]; go_simp) rfl ⟨_, _, _, _, _, _, rfl, ⟨((hD6.out).fin hg _ _).1, (hD6.out).nar, (hD6.out).few⟩, ⟨⟨_, by omega, ((hD6.out).fin hg _ _).2.1⟩, ((hD6.out).fin hg _ _).2.2⟩⟩
end Go.Proofs.Ytgmeoblapnmpiaa

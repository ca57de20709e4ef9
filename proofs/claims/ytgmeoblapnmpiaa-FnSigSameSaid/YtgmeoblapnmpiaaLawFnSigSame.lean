/- 'laws.FnSigSame': for every input the call returns true and leaves its arguments as they were. No condition. -/
import Derived.Test.YtgmeoblapnmpiaaDm
import Derived.Test.YtgmeoblapnmpiaaL
namespace Go.Proofs.Ytgmeoblapnmpiaa
set_option maxRecDepth 100000
open Go.ChangeShapes Go.WideShapes Go.ChangeAt Go.RowKit
set_option linter.unusedSimpArgs false
set_option linter.unusedVariables false

theorem symSame_comm (s : ByteArray) (xs : List Int) (k : Int) (s' : ByteArray) (ys : List Int) (k' : Int) : symSame s xs k s' ys k' = symSame s' ys k' s xs k := by
  unfold symSame
  rw [Bool.eq_iff_iff]
  simp only [Bool.and_eq_true, decide_eq_true_eq, beq_iff_eq]
  exact ⟨fun ⟨h1, h2, h3⟩ => ⟨h1.symm, h2.symm, h3.symm⟩, fun ⟨h1, h2, h3⟩ => ⟨h1.symm, h2.symm, h3.symm⟩⟩
theorem symsSame_comm (ls ls' : List SymV) : symsSame ls ls' = symsSame ls' ls := by
  unfold symsSame
  rw [Bool.eq_iff_iff]
  simp only [Bool.and_eq_true, decide_eq_true_eq]
  refine ⟨fun ⟨h1, h2⟩ => ⟨h1.symm, fun j hj => ?_⟩, fun ⟨h1, h2⟩ => ⟨h1.symm, fun j hj => ?_⟩⟩
  · have := h2 j (by omega)
    unfold symAt at this ⊢
    rw [symSame_comm]; exact this
  · have := h2 j (by omega)
    unfold symAt at this ⊢
    rw [symSame_comm]; exact this
theorem symsSame_refl (ls : List SymV) : symsSame ls ls = true := by
  unfold symsSame symAt symSame
  simp
theorem sigAs {A A' : Option Addr} {n n' c c' : Nat} {ls ls' : List SymV} {v : Bool} (hv : symsSame ls ls' = v) {w : World} (h : Syms w A n ls) (h' : Syms w A' n' ls') :
    Calls Try.prog 21 #[.agg #[.slice A n c], .agg #[.slice A' n' c']] w fun e w' => e = .returned (.bool v) ∧ Below w.heap.size w w' := by
  subst hv; exact iSigSame_any h h'
theorem sigAsS {A A' : Option Addr} {n n' c c' : Nat} {ls ls' : List SymV} {v : Bool} (hv : symsSame ls ls' = v) {w : World} (h : Syms w A n ls) (h' : Syms w A' n' ls') :
    Calls Try.prog 22 #[.agg #[.slice A n c], .agg #[.slice A' n' c']] w fun e w' => e = .returned (.bool v) ∧ Below w.heap.size w w' := by
  subst hv; exact sSigSame_any h h'
theorem nameAs {s : ByteArray} {v : Bool} (hv : nameOk s = v) (hs : s.size ≤ 9223372036854775807) (w : World) :
    Calls Try.prog 13 #[.string s] w fun e w' => e = .returned (.bool v) ∧ w = w' := by subst hv; exact iNameOk_any s hs w
theorem nameAsS {s : ByteArray} {v : Bool} (hv : nameOk s = v) (hs : s.size ≤ 9223372036854775807) (w : World) :
    Calls Try.prog 12 #[.string s] w fun e w' => e = .returned (.bool v) ∧ w = w' := by subst hv; exact sNameOk_any s hs w
theorem eqFuncSym_len {A A' : Option Addr} {n n' c c' : Nat} {f : Value} (hn : n ≠ n') (h : n ≤ 9223372036854775807) (h' : n' ≤ 9223372036854775807) (w : World) :
    Calls Try.prog 49 #[.slice A n c, .slice A' n' c', f] w fun e w' => e = .returned (.bool false) ∧ Below w.heap.size w w' := by
  have hne : ((n : Int) != (n' : Int)) = true := by simp; omega
  go_enter Try.func49, Try.ntmps49
  go_wp2
  go_ret
  exact ⟨rfl, Below.refl _ _⟩
theorem sig_len {A A' : Option Addr} {n n' c c' : Nat} (hn : n ≠ n') (h : n ≤ 9223372036854775807) (h' : n' ≤ 9223372036854775807) (w : World) :
    Calls Try.prog 21 #[.agg #[.slice A n c], .agg #[.slice A' n' c']] w fun e w' => e = .returned (.bool false) ∧ Below w.heap.size w w' := by
  go_enter Try.func21, Try.ntmps21
  go_wp2_with fail
  refine (eqFuncSym_len hn h h' _).mono ?_
  rintro e w1 ⟨rfl, hb1⟩
  have hz1 := hb1.size; (try simp at hz1); have hB1 : Below w.heap.size w w1 := (by refine Below.trans ?_ (Below.mono hb1 (by first | omega | (simp; done) | (simp; omega))); (repeat (first | with_reducible exact Below.refl _ _ | with_reducible assumption | (with_reducible refine below_drewN ?_ _) | (with_reducible refine Below.drew ?_) | (with_reducible refine Below.setCell ?_ (by first | omega | (simp; done) | (simp; omega)) _) | (with_reducible refine Below.alloc ?_ (by first | omega | (simp; done) | (simp; omega)) _) | refine Below.trans ?_ (Below.mono (by with_reducible assumption) (by first | omega | (simp; done) | (simp; omega))))))
  clear hb1
  go_wp2
  go_ret
  exact ⟨rfl, by (repeat (first | with_reducible exact Below.refl _ _ | with_reducible assumption | (with_reducible refine below_drewN ?_ _) | (with_reducible refine Below.drew ?_) | (with_reducible refine Below.setCell ?_ (by first | omega | (simp; done) | (simp; omega)) _) | (with_reducible refine Below.alloc ?_ (by first | omega | (simp; done) | (simp; omega)) _) | refine Below.trans ?_ (Below.mono (by with_reducible assumption) (by first | omega | (simp; done) | (simp; omega)))))⟩
/-- words are appended to an empty list of one's own -/
theorem wpList_append_syms {P : Program} {w : World} {ops : Array Oper} {rest : List Oper} {o : Oper} {a : Act} {Q : Exit → Act → World → Prop} (hgd : o.guard = none) (s x : Operand) (t : TypeId)
    (ho : o.op = .call { callee := .builtin .append, args := #[s, x], argTypes := #[t, t] }) (base : Nat) (e : TypeId) (i : TypeInfo) (z : Value) (ht : P.underlying t = some (.slice e)) (hi : P.info? e = some i) (hz : i.zero = some z)
    (hsize : i.size = 3) (hby : i.bytes = 48) (hzs : z.cells.size = 3) (E : Nat) (hs : a.eval s = .slice (some ⟨E, 0, none⟩) 0 0) (hown : w.ownsRow base e 3 (.slice (some ⟨E, 0, none⟩) 0 0) 0 [])
    {A : Option Addr} {m c : Nat} {ls : List SymV} (hx : a.eval x = .slice A m c) (hI : Syms w A m ls) (hm : m ≤ 1000) (hbase : base ≤ w.heap.size) (H : Nat) (hH : w.heap.size = H)
    (h : ∀ q cap w' zs, w'.ownsRow base e 3 (.slice (some ⟨q, 0, none⟩) m cap) m zs → w.grownBy w' (some E) → q < w'.heap.size → wpList P ops Q rest (a.put o.dst (.slice (some ⟨q, 0, none⟩) m cap)) w') : wpList P ops Q (o :: rest) a w := by
  by_cases hm0 : m = 0
  · subst hm0
    refine wpList_plain hgd fun K hK => ?_
    have hrun := run_append_zero (P := P) (w := w) base t o.type e i 3 ht hi _ 0 [] hown A c
    unfold Oper.wp
    simp [execOp, ho, resolve, invoke, builtin, hs, hx, hrun, Result.andThen]
    exact hK _ _ (h E 0 w [] hown ⟨rfl, rfl, rfl, Nat.le_refl _, fun _ _ _ => rfl⟩ (hown.lt E rfl).2)
  · obtain ⟨b, o', rfl, hb, hc⟩ := hI.cells (by omega)
    obtain ⟨vs, hvl, hvs⟩ := list_of (Value.bool false) (P := fun i v => w.cell? ⟨b, o' + i, none⟩ = some v ∧ v.oneCell' = true) (m * 3) (fun i hi => by
      obtain ⟨A', m', c', _, h0, h1, h2⟩ := (hc (i / 3) (by omega)).ex
      have hr : i % 3 = 0 ∨ i % 3 = 1 ∨ i % 3 = 2 := by omega
      rcases hr with e | e | e
      · exact ⟨_, by rw [show o' + i = o' + i / 3 * 3 by omega]; exact h0, rfl⟩
      · exact ⟨_, by rw [show o' + i = o' + i / 3 * 3 + 1 by omega]; exact h1, rfl⟩
      · exact ⟨_, by rw [show o' + i = o' + i / 3 * 3 + 2 by omega]; exact h2, rfl⟩)
    have hget : ∀ j u, vs[j]? = some u → j < m * 3 ∧ vs.getD j (Value.bool false) = u := fun j u hu => by
      have hj : j < vs.length := by
        rcases Nat.lt_or_ge j vs.length with h0 | h0
        · exact h0
        · rw [List.getElem?_eq_none h0] at hu; cases hu
      exact ⟨by omega, by rw [List.getD_eq_getElem?_getD, hu]; rfl⟩
    refine wpList_append_lies w hgd s x t ho base e i z 3 48 ht hi hz hsize hby hzs (by omega) _ 0 [] hs hown ⟨b, o', none⟩ m c vs hx hvl (fun j u hu => ?_) (fun u hu => ?_) (by omega) (by unfold maxLen; omega) (by omega) hbase H hH (fun g cap w' h1 h2 h3 h4 => ?_)
    · obtain ⟨hj, e⟩ := hget j u hu
      rw [show (⟨b, o', none⟩ : Addr).add j = ⟨b, o' + j, none⟩ by unfold Addr.add; split <;> simp_all, (hvs j hj).1, e]
    · obtain ⟨j, hj⟩ := List.mem_iff_getElem?.1 hu
      obtain ⟨hjm, e⟩ := hget j u hj
      rw [← e]; exact (hvs j hjm).2
    · rw [Nat.zero_add, List.nil_append] at h1
      rw [Nat.zero_add]
      exact h g cap w' vs h1 h2 h4
set_option maxRecDepth 100000 in
theorem fnSigSame_long {A : Option Addr} {cap : Nat} {bs : List UInt8} {w : World} (hl : ¬ bs.length ≤ 1048576) :
    Calls Try.prog 5 #[.slice A bs.length cap] w fun e w' => e = .returned (.bool true) ∧ Below w.heap.size w w' := by
  go_enter Try.func5, Try.ntmps5
  go_wp2
  go_ret
  exact ⟨rfl, Below.refl _ _⟩
set_option maxRecDepth 100000 in
set_option maxHeartbeats 8000000 in
theorem fnSigSame_walk {A : Option Addr} {cap : Nat} {bs : List UInt8} {w : World} (h : Code8 w A cap bs) :
    Calls Try.prog 5 #[.slice A bs.length cap] w fun e w' => e = .returned (.bool true) ∧ Below w.heap.size w w' := by
  by_cases hl0 : ¬ bs.length ≤ 1048576
  · exact fnSigSame_long hl0
  have hl : bs.length ≤ 1048576 := by omega
  go_enter Try.func5, Try.ntmps5
  go_wp2_with fail
  obtain ⟨j0, hj, yj0, yj1, yj2⟩ := info_parts sym_info3
  refine (DrawSigSame_any h hl).mono ?_
  rintro e w1 ⟨S, n, c, ls, S', n', c', ls', rfl, ⟨hI, hn⟩, hI', hb1⟩
  have hz1 := hb1.size
  have hB1 : Below w.heap.size w w1 := hb1
  have h1 := h.later hb1
  clear hb1
  obtain ⟨v, hv⟩ : ∃ v, symsSame ls ls' = v := ⟨_, rfl⟩
  have hv' := (symsSame_comm ls' ls).trans hv
  have c1 := Lib.hid (fun (W : World) (hW : Below w1.heap.size w1 W) (st : Grown W) => sigAs (c := c) (c' := c') hv (hI.later (hW.trans (st.ok.mono hW.size))) (hI'.later (hW.trans (st.ok.mono hW.size))))
  have c2 := Lib.hid (fun (W : World) (hW : Below w1.heap.size w1 W) (st : Grown W) => sigAsS (c := c) (c' := c') hv (hI.later (hW.trans (st.ok.mono hW.size))) (hI'.later (hW.trans (st.ok.mono hW.size))))
  have c3 := Lib.hid (fun (W : World) (hW : Below w1.heap.size w1 W) (st : Grown W) => sigAs (c := c') (c' := c) hv' (hI'.later (hW.trans (st.ok.mono hW.size))) (hI.later (hW.trans (st.ok.mono hW.size))))
  have c4 := Lib.hid (fun (W : World) (hW : Below w1.heap.size w1 W) (st : Grown W) => sigAs (c := c) (c' := c) (symsSame_refl ls) (hI.later (hW.trans (st.ok.mono hW.size))) (hI.later (hW.trans (st.ok.mono hW.size))))
  have HI := Lib.hid hI
  clear hv hv' hI hI'
  go_wp2_with fail
  refine (DrawNameOk_any (h1.later (by (repeat (first | with_reducible exact Below.refl _ _ | with_reducible assumption | (with_reducible refine below_drewN ?_ _) | (with_reducible refine Below.drew ?_) | (with_reducible refine Below.setCell ?_ (by first | omega | (simp; done) | (simp; omega)) _) | (with_reducible refine Below.alloc ?_ (by first | omega | (simp; done) | (simp; omega)) _) | refine Below.trans ?_ (Below.mono (by with_reducible assumption) (by first | omega | (simp; done) | (simp; omega))))))) hl).mono ?_
  rintro e w2 ⟨t, rfl, ht, hb1⟩
  have hz1 := hb1.size; (try simp at hz1); have hB1 : Below w.heap.size w w2 := (by refine Below.trans ?_ (Below.mono hb1 (by first | omega | (simp; done) | (simp; omega))); (repeat (first | with_reducible exact Below.refl _ _ | with_reducible assumption | (with_reducible refine below_drewN ?_ _) | (with_reducible refine Below.drew ?_) | (with_reducible refine Below.setCell ?_ (by first | omega | (simp; done) | (simp; omega)) _) | (with_reducible refine Below.alloc ?_ (by first | omega | (simp; done) | (simp; omega)) _) | refine Below.trans ?_ (Below.mono (by with_reducible assumption) (by first | omega | (simp; done) | (simp; omega)))))); obtain ⟨kc_, fc_, lc_⟩ := keep_later (a := ⟨w1.heap.size, 0, none⟩) (v := .slice S n c) hb1 (by go_simp) (by go_simp); obtain ⟨kc_, fc_, lc_⟩ := keep_later (a := ⟨w1.heap.size+1, 0, none⟩) (v := .slice S' n' c') hb1 (by go_simp) (by go_simp)
  have hb12 : Below w1.heap.size w1 w2 := Below.trans (by (repeat (first | with_reducible exact Below.refl _ _ | with_reducible assumption | (with_reducible refine below_drewN ?_ _) | (with_reducible refine Below.drew ?_) | (with_reducible refine Below.setCell ?_ (by first | omega | (simp; done) | (simp; omega)) _) | (with_reducible refine Below.alloc ?_ (by first | omega | (simp; done) | (simp; omega)) _) | refine Below.trans ?_ (Below.mono (by with_reducible assumption) (by first | omega | (simp; done) | (simp; omega)))))) (hb1.mono (by first | omega | (simp; done) | (simp; omega)))
  clear hb1 h1
  obtain ⟨k, hk⟩ : ∃ k, nameOk t = k := ⟨_, rfl⟩
  have c5 := Lib.hid (fun (W : World) => nameAs hk (by omega) W)
  have c6 := Lib.hid (fun (W : World) => nameAsS hk (by omega) W)
  clear hk
  cases v <;> cases k
  · go_wp2_with fail
    refine wp_region_grown (by kernel_rfl) (by kernel_rfl) ?_
    (refine quiet_with (a := ⟨w1.heap.size, 0, none⟩) (v := .slice S n c) (by go_simp) ?_; intro g; refine quiet_with (a := ⟨w1.heap.size + 1, 0, none⟩) (v := .slice S' n' c') (by go_simp) ?_; intro g)
    repeat (go_big_quiet_step ((first | (go_at_call 21; (with_reducible exact grown_of (c1.out _ (by (repeat (first | with_reducible exact Below.refl _ _ | with_reducible assumption | (with_reducible refine below_drewN ?_ _) | (with_reducible refine Below.drew ?_) | (with_reducible refine Below.setCell ?_ (by first | omega | (simp; done) | (simp; omega)) _) | (with_reducible refine Below.alloc ?_ (by first | omega | (simp; done) | (simp; omega)) _) | refine Below.trans ?_ (Below.mono (by with_reducible assumption) (by first | omega | (simp; done) | (simp; omega)))))) _))) | (go_at_call 22; (with_reducible exact grown_of (c2.out _ (by (repeat (first | with_reducible exact Below.refl _ _ | with_reducible assumption | (with_reducible refine below_drewN ?_ _) | (with_reducible refine Below.drew ?_) | (with_reducible refine Below.setCell ?_ (by first | omega | (simp; done) | (simp; omega)) _) | (with_reducible refine Below.alloc ?_ (by first | omega | (simp; done) | (simp; omega)) _) | refine Below.trans ?_ (Below.mono (by with_reducible assumption) (by first | omega | (simp; done) | (simp; omega)))))) _))) | (go_at_call 21; (with_reducible exact grown_of (c3.out _ (by (repeat (first | with_reducible exact Below.refl _ _ | with_reducible assumption | (with_reducible refine below_drewN ?_ _) | (with_reducible refine Below.drew ?_) | (with_reducible refine Below.setCell ?_ (by first | omega | (simp; done) | (simp; omega)) _) | (with_reducible refine Below.alloc ?_ (by first | omega | (simp; done) | (simp; omega)) _) | refine Below.trans ?_ (Below.mono (by with_reducible assumption) (by first | omega | (simp; done) | (simp; omega)))))) _))) | (go_at_call 21; (with_reducible exact grown_of (c4.out _ (by (repeat (first | with_reducible exact Below.refl _ _ | with_reducible assumption | (with_reducible refine below_drewN ?_ _) | (with_reducible refine Below.drew ?_) | (with_reducible refine Below.setCell ?_ (by first | omega | (simp; done) | (simp; omega)) _) | (with_reducible refine Below.alloc ?_ (by first | omega | (simp; done) | (simp; omega)) _) | refine Below.trans ?_ (Below.mono (by with_reducible assumption) (by first | omega | (simp; done) | (simp; omega)))))) _))) | (go_at_call 13; (with_reducible exact grown_same (c5.out _))) | (go_at_call 12; (with_reducible exact grown_same (c6.out _))))))
    refine wpQuiet_nil ?_
    rintro w3 ⟨⟨_, hb1⟩, rfl⟩
    have hz1 := hb1.size; (try simp at hz1); have hB1 : Below w.heap.size w w3 := (by refine Below.trans ?_ (Below.mono hb1 (by first | omega | (simp; done) | (simp; omega))); (repeat (first | with_reducible exact Below.refl _ _ | with_reducible assumption | (with_reducible refine below_drewN ?_ _) | (with_reducible refine Below.drew ?_) | (with_reducible refine Below.setCell ?_ (by first | omega | (simp; done) | (simp; omega)) _) | (with_reducible refine Below.alloc ?_ (by first | omega | (simp; done) | (simp; omega)) _) | refine Below.trans ?_ (Below.mono (by with_reducible assumption) (by first | omega | (simp; done) | (simp; omega)))))); obtain ⟨kc_, fc_, lc_⟩ := keep_later (a := ⟨w1.heap.size, 0, none⟩) (v := .slice S n c) hb1 (by go_simp) (by go_simp)
    have hI3 := HI.out.later (hb12.trans (hb1.mono hb12.size))
    clear hb1 c1 c2 c3 c4 c5 c6
    have hlw : w1.heap.size < w3.heap.size := by omega
    have hE0 : (w3.alloc (.cells #[] 43)).ownsRow w3.heap.size 43 3 (.slice (some ⟨w3.heap.size, 0, none⟩) 0 0) 0 [] := World.ownsRow_lit w3 #[] 0 (Nat.le_refl _) (by simp) rfl
    have HE := Lib.hid (And.intro hE0 hI3)
    clear hE0 hI3
    go_wp2_with (first | (at_builtin; refine wpList_append_syms (by rfl) (.tmp 46) (.tmp 48) _ (by rfl) w3.heap.size 43 j0 _ Try.underlying34 hj yj0 yj1 yj2 rfl w3.heap.size (by rfl) HE.out.1 (by rfl) (HE.out.2.alloc _) (by omega) (by first | omega | (simp; done) | (simp; omega)) _ rfl ?_; intro q cap1 w4 zs hown4 hg4 hlt4; (have hz4 := hg4.size; simp at hz4; have hba : Below w3.heap.size w3 (w3.alloc (.cells #[] 43)) := (by (repeat (first | with_reducible exact Below.refl _ _ | with_reducible assumption | (with_reducible refine below_drewN ?_ _) | (with_reducible refine Below.drew ?_) | (with_reducible refine Below.setCell ?_ (by first | omega | (simp; done) | (simp; omega)) _) | (with_reducible refine Below.alloc ?_ (by first | omega | (simp; done) | (simp; omega)) _) | refine Below.trans ?_ (Below.mono (by with_reducible assumption) (by first | omega | (simp; done) | (simp; omega)))))); have k4 := through (a := ⟨w1.heap.size, 0, none⟩) (v := .slice S n c) hba hg4 (fun e => by (injection e with e); simp at e; omega) (by go_simp); have hB4 : Below w.heap.size w w4 := Below.grown (hB1.trans (hba.mono (by omega))) hg4 (by first | omega | (simp; done) | (simp; omega)) (fun j hj => by (injection hj with hj); omega); have HO := Lib.hid hown4; have hq4 := (hown4.lt q rfl).1; have hlw4 : w1.heap.size < w4.heap.size := (by omega); clear hown4 hg4 hba)) | (at_builtin; refine wpList_append_lies _ (by rfl) (.tmp 49) (.tmp 51) _ (by rfl) w3.heap.size 43 j0 _ 3 48 Try.underlying34 hj yj0 yj1 yj2 rfl (by omega) (.slice (some ⟨q, 0, none⟩) n cap1) n zs (by rfl) (HO.out.alloc _) ⟨w4.heap.size, 0, none⟩ 1 1 [.string ⟨#[]⟩, .slice none 0 0, .int .i64 0] (by rfl) (by rfl) (news3s (by first | omega | (simp; done) | (simp; omega))) (by simp [Value.oneCell']) (by omega) (by unfold maxLen; omega) (by omega) (by first | omega | (simp; done) | (simp; omega)) _ rfl ?_; intro q2 cap2 w5 hown5 hg5 hat5 hlt5; (have hz5 := hg5.size; simp at hz5; have hba : Below w4.heap.size w4 (w4.alloc (.cells #[.string ⟨#[]⟩, .slice none 0 0, .int .i64 0] 43)) := (by (repeat (first | with_reducible exact Below.refl _ _ | with_reducible assumption | (with_reducible refine below_drewN ?_ _) | (with_reducible refine Below.drew ?_) | (with_reducible refine Below.setCell ?_ (by first | omega | (simp; done) | (simp; omega)) _) | (with_reducible refine Below.alloc ?_ (by first | omega | (simp; done) | (simp; omega)) _) | refine Below.trans ?_ (Below.mono (by with_reducible assumption) (by first | omega | (simp; done) | (simp; omega)))))); have k5 := through (a := ⟨w1.heap.size, 0, none⟩) (v := .slice S n c) hba hg5 (fun e => by (have e2 : w1.heap.size = q := Option.some.inj e); omega) k4; have hB5 : Below w.heap.size w w5 := Below.grown (hB4.trans (hba.mono (by omega))) hg5 (by first | omega | (simp; done) | (simp; omega)) (fun j hj => by (have e2 : q = j := Option.some.inj hj); omega); have hlw5 : w1.heap.size < w5.heap.size := (by omega); clear hown5 hg5 hat5 hba)))
    refine (sig_len (show n ≠ n + 1 by omega) (by omega) (by omega) _).mono ?_
    rintro e w6 ⟨rfl, hb1⟩
    have hz1 := hb1.size; (try simp at hz1); have hB1 : Below w.heap.size w w6 := (by refine Below.trans ?_ (Below.mono hb1 (by first | omega | (simp; done) | (simp; omega))); (repeat (first | with_reducible exact Below.refl _ _ | with_reducible assumption | (with_reducible refine below_drewN ?_ _) | (with_reducible refine Below.drew ?_) | (with_reducible refine Below.setCell ?_ (by first | omega | (simp; done) | (simp; omega)) _) | (with_reducible refine Below.alloc ?_ (by first | omega | (simp; done) | (simp; omega)) _) | refine Below.trans ?_ (Below.mono (by with_reducible assumption) (by first | omega | (simp; done) | (simp; omega))))))
    clear hb1
    go_wp2
    go_ret
    exact ⟨rfl, by (repeat (first | with_reducible exact Below.refl _ _ | with_reducible assumption | (with_reducible refine below_drewN ?_ _) | (with_reducible refine Below.drew ?_) | (with_reducible refine Below.setCell ?_ (by first | omega | (simp; done) | (simp; omega)) _) | (with_reducible refine Below.alloc ?_ (by first | omega | (simp; done) | (simp; omega)) _) | refine Below.trans ?_ (Below.mono (by with_reducible assumption) (by first | omega | (simp; done) | (simp; omega)))))⟩
  · go_wp2_with fail
    refine wp_region_grown (by kernel_rfl) (by kernel_rfl) ?_
    (refine quiet_with (a := ⟨w1.heap.size, 0, none⟩) (v := .slice S n c) (by go_simp) ?_; intro g; refine quiet_with (a := ⟨w1.heap.size + 1, 0, none⟩) (v := .slice S' n' c') (by go_simp) ?_; intro g)
    repeat (go_big_quiet_step ((first | (go_at_call 21; (with_reducible exact grown_of (c1.out _ (by (repeat (first | with_reducible exact Below.refl _ _ | with_reducible assumption | (with_reducible refine below_drewN ?_ _) | (with_reducible refine Below.drew ?_) | (with_reducible refine Below.setCell ?_ (by first | omega | (simp; done) | (simp; omega)) _) | (with_reducible refine Below.alloc ?_ (by first | omega | (simp; done) | (simp; omega)) _) | refine Below.trans ?_ (Below.mono (by with_reducible assumption) (by first | omega | (simp; done) | (simp; omega)))))) _))) | (go_at_call 22; (with_reducible exact grown_of (c2.out _ (by (repeat (first | with_reducible exact Below.refl _ _ | with_reducible assumption | (with_reducible refine below_drewN ?_ _) | (with_reducible refine Below.drew ?_) | (with_reducible refine Below.setCell ?_ (by first | omega | (simp; done) | (simp; omega)) _) | (with_reducible refine Below.alloc ?_ (by first | omega | (simp; done) | (simp; omega)) _) | refine Below.trans ?_ (Below.mono (by with_reducible assumption) (by first | omega | (simp; done) | (simp; omega)))))) _))) | (go_at_call 21; (with_reducible exact grown_of (c3.out _ (by (repeat (first | with_reducible exact Below.refl _ _ | with_reducible assumption | (with_reducible refine below_drewN ?_ _) | (with_reducible refine Below.drew ?_) | (with_reducible refine Below.setCell ?_ (by first | omega | (simp; done) | (simp; omega)) _) | (with_reducible refine Below.alloc ?_ (by first | omega | (simp; done) | (simp; omega)) _) | refine Below.trans ?_ (Below.mono (by with_reducible assumption) (by first | omega | (simp; done) | (simp; omega)))))) _))) | (go_at_call 21; (with_reducible exact grown_of (c4.out _ (by (repeat (first | with_reducible exact Below.refl _ _ | with_reducible assumption | (with_reducible refine below_drewN ?_ _) | (with_reducible refine Below.drew ?_) | (with_reducible refine Below.setCell ?_ (by first | omega | (simp; done) | (simp; omega)) _) | (with_reducible refine Below.alloc ?_ (by first | omega | (simp; done) | (simp; omega)) _) | refine Below.trans ?_ (Below.mono (by with_reducible assumption) (by first | omega | (simp; done) | (simp; omega)))))) _))) | (go_at_call 13; (with_reducible exact grown_same (c5.out _))) | (go_at_call 12; (with_reducible exact grown_same (c6.out _))))))
    refine wpQuiet_nil ?_
    rintro w3 ⟨⟨_, hb1⟩, rfl⟩
    have hz1 := hb1.size; (try simp at hz1); have hB1 : Below w.heap.size w w3 := (by refine Below.trans ?_ (Below.mono hb1 (by first | omega | (simp; done) | (simp; omega))); (repeat (first | with_reducible exact Below.refl _ _ | with_reducible assumption | (with_reducible refine below_drewN ?_ _) | (with_reducible refine Below.drew ?_) | (with_reducible refine Below.setCell ?_ (by first | omega | (simp; done) | (simp; omega)) _) | (with_reducible refine Below.alloc ?_ (by first | omega | (simp; done) | (simp; omega)) _) | refine Below.trans ?_ (Below.mono (by with_reducible assumption) (by first | omega | (simp; done) | (simp; omega)))))); obtain ⟨kc_, fc_, lc_⟩ := keep_later (a := ⟨w1.heap.size, 0, none⟩) (v := .slice S n c) hb1 (by go_simp) (by go_simp)
    have hI3 := HI.out.later (hb12.trans (hb1.mono hb12.size))
    clear hb1 c1 c2 c3 c4 c5 c6
    have hlw : w1.heap.size < w3.heap.size := by omega
    have hE0 : (w3.alloc (.cells #[] 43)).ownsRow w3.heap.size 43 3 (.slice (some ⟨w3.heap.size, 0, none⟩) 0 0) 0 [] := World.ownsRow_lit w3 #[] 0 (Nat.le_refl _) (by simp) rfl
    have HE := Lib.hid (And.intro hE0 hI3)
    clear hE0 hI3
    go_wp2_with (first | (at_builtin; refine wpList_append_syms (by rfl) (.tmp 46) (.tmp 48) _ (by rfl) w3.heap.size 43 j0 _ Try.underlying34 hj yj0 yj1 yj2 rfl w3.heap.size (by rfl) HE.out.1 (by rfl) (HE.out.2.alloc _) (by omega) (by first | omega | (simp; done) | (simp; omega)) _ rfl ?_; intro q cap1 w4 zs hown4 hg4 hlt4; (have hz4 := hg4.size; simp at hz4; have hba : Below w3.heap.size w3 (w3.alloc (.cells #[] 43)) := (by (repeat (first | with_reducible exact Below.refl _ _ | with_reducible assumption | (with_reducible refine below_drewN ?_ _) | (with_reducible refine Below.drew ?_) | (with_reducible refine Below.setCell ?_ (by first | omega | (simp; done) | (simp; omega)) _) | (with_reducible refine Below.alloc ?_ (by first | omega | (simp; done) | (simp; omega)) _) | refine Below.trans ?_ (Below.mono (by with_reducible assumption) (by first | omega | (simp; done) | (simp; omega)))))); have k4 := through (a := ⟨w1.heap.size, 0, none⟩) (v := .slice S n c) hba hg4 (fun e => by (injection e with e); simp at e; omega) (by go_simp); have hB4 : Below w.heap.size w w4 := Below.grown (hB1.trans (hba.mono (by omega))) hg4 (by first | omega | (simp; done) | (simp; omega)) (fun j hj => by (injection hj with hj); omega); have HO := Lib.hid hown4; have hq4 := (hown4.lt q rfl).1; have hlw4 : w1.heap.size < w4.heap.size := (by omega); clear hown4 hg4 hba)) | (at_builtin; refine wpList_append_lies _ (by rfl) (.tmp 49) (.tmp 51) _ (by rfl) w3.heap.size 43 j0 _ 3 48 Try.underlying34 hj yj0 yj1 yj2 rfl (by omega) (.slice (some ⟨q, 0, none⟩) n cap1) n zs (by rfl) (HO.out.alloc _) ⟨w4.heap.size, 0, none⟩ 1 1 [.string ⟨#[]⟩, .slice none 0 0, .int .i64 0] (by rfl) (by rfl) (news3s (by first | omega | (simp; done) | (simp; omega))) (by simp [Value.oneCell']) (by omega) (by unfold maxLen; omega) (by omega) (by first | omega | (simp; done) | (simp; omega)) _ rfl ?_; intro q2 cap2 w5 hown5 hg5 hat5 hlt5; (have hz5 := hg5.size; simp at hz5; have hba : Below w4.heap.size w4 (w4.alloc (.cells #[.string ⟨#[]⟩, .slice none 0 0, .int .i64 0] 43)) := (by (repeat (first | with_reducible exact Below.refl _ _ | with_reducible assumption | (with_reducible refine below_drewN ?_ _) | (with_reducible refine Below.drew ?_) | (with_reducible refine Below.setCell ?_ (by first | omega | (simp; done) | (simp; omega)) _) | (with_reducible refine Below.alloc ?_ (by first | omega | (simp; done) | (simp; omega)) _) | refine Below.trans ?_ (Below.mono (by with_reducible assumption) (by first | omega | (simp; done) | (simp; omega)))))); have k5 := through (a := ⟨w1.heap.size, 0, none⟩) (v := .slice S n c) hba hg5 (fun e => by (have e2 : w1.heap.size = q := Option.some.inj e); omega) k4; have hB5 : Below w.heap.size w w5 := Below.grown (hB4.trans (hba.mono (by omega))) hg5 (by first | omega | (simp; done) | (simp; omega)) (fun j hj => by (have e2 : q = j := Option.some.inj hj); omega); have hlw5 : w1.heap.size < w5.heap.size := (by omega); clear hown5 hg5 hat5 hba)))
    refine (sig_len (show n ≠ n + 1 by omega) (by omega) (by omega) _).mono ?_
    rintro e w6 ⟨rfl, hb1⟩
    have hz1 := hb1.size; (try simp at hz1); have hB1 : Below w.heap.size w w6 := (by refine Below.trans ?_ (Below.mono hb1 (by first | omega | (simp; done) | (simp; omega))); (repeat (first | with_reducible exact Below.refl _ _ | with_reducible assumption | (with_reducible refine below_drewN ?_ _) | (with_reducible refine Below.drew ?_) | (with_reducible refine Below.setCell ?_ (by first | omega | (simp; done) | (simp; omega)) _) | (with_reducible refine Below.alloc ?_ (by first | omega | (simp; done) | (simp; omega)) _) | refine Below.trans ?_ (Below.mono (by with_reducible assumption) (by first | omega | (simp; done) | (simp; omega))))))
    clear hb1
    go_wp2
    go_ret
    exact ⟨rfl, by (repeat (first | with_reducible exact Below.refl _ _ | with_reducible assumption | (with_reducible refine below_drewN ?_ _) | (with_reducible refine Below.drew ?_) | (with_reducible refine Below.setCell ?_ (by first | omega | (simp; done) | (simp; omega)) _) | (with_reducible refine Below.alloc ?_ (by first | omega | (simp; done) | (simp; omega)) _) | refine Below.trans ?_ (Below.mono (by with_reducible assumption) (by first | omega | (simp; done) | (simp; omega)))))⟩
  · go_wp2_with fail
    refine wp_region_grown (by kernel_rfl) (by kernel_rfl) ?_
    (refine quiet_with (a := ⟨w1.heap.size, 0, none⟩) (v := .slice S n c) (by go_simp) ?_; intro g; refine quiet_with (a := ⟨w1.heap.size + 1, 0, none⟩) (v := .slice S' n' c') (by go_simp) ?_; intro g)
    repeat (go_big_quiet_step ((first | (go_at_call 21; (with_reducible exact grown_of (c1.out _ (by (repeat (first | with_reducible exact Below.refl _ _ | with_reducible assumption | (with_reducible refine below_drewN ?_ _) | (with_reducible refine Below.drew ?_) | (with_reducible refine Below.setCell ?_ (by first | omega | (simp; done) | (simp; omega)) _) | (with_reducible refine Below.alloc ?_ (by first | omega | (simp; done) | (simp; omega)) _) | refine Below.trans ?_ (Below.mono (by with_reducible assumption) (by first | omega | (simp; done) | (simp; omega)))))) _))) | (go_at_call 22; (with_reducible exact grown_of (c2.out _ (by (repeat (first | with_reducible exact Below.refl _ _ | with_reducible assumption | (with_reducible refine below_drewN ?_ _) | (with_reducible refine Below.drew ?_) | (with_reducible refine Below.setCell ?_ (by first | omega | (simp; done) | (simp; omega)) _) | (with_reducible refine Below.alloc ?_ (by first | omega | (simp; done) | (simp; omega)) _) | refine Below.trans ?_ (Below.mono (by with_reducible assumption) (by first | omega | (simp; done) | (simp; omega)))))) _))) | (go_at_call 21; (with_reducible exact grown_of (c3.out _ (by (repeat (first | with_reducible exact Below.refl _ _ | with_reducible assumption | (with_reducible refine below_drewN ?_ _) | (with_reducible refine Below.drew ?_) | (with_reducible refine Below.setCell ?_ (by first | omega | (simp; done) | (simp; omega)) _) | (with_reducible refine Below.alloc ?_ (by first | omega | (simp; done) | (simp; omega)) _) | refine Below.trans ?_ (Below.mono (by with_reducible assumption) (by first | omega | (simp; done) | (simp; omega)))))) _))) | (go_at_call 21; (with_reducible exact grown_of (c4.out _ (by (repeat (first | with_reducible exact Below.refl _ _ | with_reducible assumption | (with_reducible refine below_drewN ?_ _) | (with_reducible refine Below.drew ?_) | (with_reducible refine Below.setCell ?_ (by first | omega | (simp; done) | (simp; omega)) _) | (with_reducible refine Below.alloc ?_ (by first | omega | (simp; done) | (simp; omega)) _) | refine Below.trans ?_ (Below.mono (by with_reducible assumption) (by first | omega | (simp; done) | (simp; omega)))))) _))) | (go_at_call 13; (with_reducible exact grown_same (c5.out _))) | (go_at_call 12; (with_reducible exact grown_same (c6.out _))))))
    refine wpQuiet_nil ?_
    rintro w3 ⟨⟨_, hb1⟩, rfl⟩
    have hz1 := hb1.size; (try simp at hz1); have hB1 : Below w.heap.size w w3 := (by refine Below.trans ?_ (Below.mono hb1 (by first | omega | (simp; done) | (simp; omega))); (repeat (first | with_reducible exact Below.refl _ _ | with_reducible assumption | (with_reducible refine below_drewN ?_ _) | (with_reducible refine Below.drew ?_) | (with_reducible refine Below.setCell ?_ (by first | omega | (simp; done) | (simp; omega)) _) | (with_reducible refine Below.alloc ?_ (by first | omega | (simp; done) | (simp; omega)) _) | refine Below.trans ?_ (Below.mono (by with_reducible assumption) (by first | omega | (simp; done) | (simp; omega)))))); obtain ⟨kc_, fc_, lc_⟩ := keep_later (a := ⟨w1.heap.size, 0, none⟩) (v := .slice S n c) hb1 (by go_simp) (by go_simp)
    have hI3 := HI.out.later (hb12.trans (hb1.mono hb12.size))
    clear hb1 c1 c2 c3 c4 c5 c6
    have hlw : w1.heap.size < w3.heap.size := by omega
    have hE0 : (w3.alloc (.cells #[] 43)).ownsRow w3.heap.size 43 3 (.slice (some ⟨w3.heap.size, 0, none⟩) 0 0) 0 [] := World.ownsRow_lit w3 #[] 0 (Nat.le_refl _) (by simp) rfl
    have HE := Lib.hid (And.intro hE0 hI3)
    clear hE0 hI3
    go_wp2_with (first | (at_builtin; refine wpList_append_syms (by rfl) (.tmp 46) (.tmp 48) _ (by rfl) w3.heap.size 43 j0 _ Try.underlying34 hj yj0 yj1 yj2 rfl w3.heap.size (by rfl) HE.out.1 (by rfl) (HE.out.2.alloc _) (by omega) (by first | omega | (simp; done) | (simp; omega)) _ rfl ?_; intro q cap1 w4 zs hown4 hg4 hlt4; (have hz4 := hg4.size; simp at hz4; have hba : Below w3.heap.size w3 (w3.alloc (.cells #[] 43)) := (by (repeat (first | with_reducible exact Below.refl _ _ | with_reducible assumption | (with_reducible refine below_drewN ?_ _) | (with_reducible refine Below.drew ?_) | (with_reducible refine Below.setCell ?_ (by first | omega | (simp; done) | (simp; omega)) _) | (with_reducible refine Below.alloc ?_ (by first | omega | (simp; done) | (simp; omega)) _) | refine Below.trans ?_ (Below.mono (by with_reducible assumption) (by first | omega | (simp; done) | (simp; omega)))))); have k4 := through (a := ⟨w1.heap.size, 0, none⟩) (v := .slice S n c) hba hg4 (fun e => by (injection e with e); simp at e; omega) (by go_simp); have hB4 : Below w.heap.size w w4 := Below.grown (hB1.trans (hba.mono (by omega))) hg4 (by first | omega | (simp; done) | (simp; omega)) (fun j hj => by (injection hj with hj); omega); have HO := Lib.hid hown4; have hq4 := (hown4.lt q rfl).1; have hlw4 : w1.heap.size < w4.heap.size := (by omega); clear hown4 hg4 hba)) | (at_builtin; refine wpList_append_lies _ (by rfl) (.tmp 49) (.tmp 51) _ (by rfl) w3.heap.size 43 j0 _ 3 48 Try.underlying34 hj yj0 yj1 yj2 rfl (by omega) (.slice (some ⟨q, 0, none⟩) n cap1) n zs (by rfl) (HO.out.alloc _) ⟨w4.heap.size, 0, none⟩ 1 1 [.string ⟨#[]⟩, .slice none 0 0, .int .i64 0] (by rfl) (by rfl) (news3s (by first | omega | (simp; done) | (simp; omega))) (by simp [Value.oneCell']) (by omega) (by unfold maxLen; omega) (by omega) (by first | omega | (simp; done) | (simp; omega)) _ rfl ?_; intro q2 cap2 w5 hown5 hg5 hat5 hlt5; (have hz5 := hg5.size; simp at hz5; have hba : Below w4.heap.size w4 (w4.alloc (.cells #[.string ⟨#[]⟩, .slice none 0 0, .int .i64 0] 43)) := (by (repeat (first | with_reducible exact Below.refl _ _ | with_reducible assumption | (with_reducible refine below_drewN ?_ _) | (with_reducible refine Below.drew ?_) | (with_reducible refine Below.setCell ?_ (by first | omega | (simp; done) | (simp; omega)) _) | (with_reducible refine Below.alloc ?_ (by first | omega | (simp; done) | (simp; omega)) _) | refine Below.trans ?_ (Below.mono (by with_reducible assumption) (by first | omega | (simp; done) | (simp; omega)))))); have k5 := through (a := ⟨w1.heap.size, 0, none⟩) (v := .slice S n c) hba hg5 (fun e => by (have e2 : w1.heap.size = q := Option.some.inj e); omega) k4; have hB5 : Below w.heap.size w w5 := Below.grown (hB4.trans (hba.mono (by omega))) hg5 (by first | omega | (simp; done) | (simp; omega)) (fun j hj => by (have e2 : q = j := Option.some.inj hj); omega); have hlw5 : w1.heap.size < w5.heap.size := (by omega); clear hown5 hg5 hat5 hba)))
    refine (sig_len (show n ≠ n + 1 by omega) (by omega) (by omega) _).mono ?_
    rintro e w6 ⟨rfl, hb1⟩
    have hz1 := hb1.size; (try simp at hz1); have hB1 : Below w.heap.size w w6 := (by refine Below.trans ?_ (Below.mono hb1 (by first | omega | (simp; done) | (simp; omega))); (repeat (first | with_reducible exact Below.refl _ _ | with_reducible assumption | (with_reducible refine below_drewN ?_ _) | (with_reducible refine Below.drew ?_) | (with_reducible refine Below.setCell ?_ (by first | omega | (simp; done) | (simp; omega)) _) | (with_reducible refine Below.alloc ?_ (by first | omega | (simp; done) | (simp; omega)) _) | refine Below.trans ?_ (Below.mono (by with_reducible assumption) (by first | omega | (simp; done) | (simp; omega))))))
    clear hb1
    go_wp2
    go_ret
    exact ⟨rfl, by (repeat (first | with_reducible exact Below.refl _ _ | with_reducible assumption | (with_reducible refine below_drewN ?_ _) | (with_reducible refine Below.drew ?_) | (with_reducible refine Below.setCell ?_ (by first | omega | (simp; done) | (simp; omega)) _) | (with_reducible refine Below.alloc ?_ (by first | omega | (simp; done) | (simp; omega)) _) | refine Below.trans ?_ (Below.mono (by with_reducible assumption) (by first | omega | (simp; done) | (simp; omega)))))⟩
  · go_wp2_with fail
    refine wp_region_grown (by kernel_rfl) (by kernel_rfl) ?_
    (refine quiet_with (a := ⟨w1.heap.size, 0, none⟩) (v := .slice S n c) (by go_simp) ?_; intro g; refine quiet_with (a := ⟨w1.heap.size + 1, 0, none⟩) (v := .slice S' n' c') (by go_simp) ?_; intro g)
    repeat (go_big_quiet_step ((first | (go_at_call 21; (with_reducible exact grown_of (c1.out _ (by (repeat (first | with_reducible exact Below.refl _ _ | with_reducible assumption | (with_reducible refine below_drewN ?_ _) | (with_reducible refine Below.drew ?_) | (with_reducible refine Below.setCell ?_ (by first | omega | (simp; done) | (simp; omega)) _) | (with_reducible refine Below.alloc ?_ (by first | omega | (simp; done) | (simp; omega)) _) | refine Below.trans ?_ (Below.mono (by with_reducible assumption) (by first | omega | (simp; done) | (simp; omega)))))) _))) | (go_at_call 22; (with_reducible exact grown_of (c2.out _ (by (repeat (first | with_reducible exact Below.refl _ _ | with_reducible assumption | (with_reducible refine below_drewN ?_ _) | (with_reducible refine Below.drew ?_) | (with_reducible refine Below.setCell ?_ (by first | omega | (simp; done) | (simp; omega)) _) | (with_reducible refine Below.alloc ?_ (by first | omega | (simp; done) | (simp; omega)) _) | refine Below.trans ?_ (Below.mono (by with_reducible assumption) (by first | omega | (simp; done) | (simp; omega)))))) _))) | (go_at_call 21; (with_reducible exact grown_of (c3.out _ (by (repeat (first | with_reducible exact Below.refl _ _ | with_reducible assumption | (with_reducible refine below_drewN ?_ _) | (with_reducible refine Below.drew ?_) | (with_reducible refine Below.setCell ?_ (by first | omega | (simp; done) | (simp; omega)) _) | (with_reducible refine Below.alloc ?_ (by first | omega | (simp; done) | (simp; omega)) _) | refine Below.trans ?_ (Below.mono (by with_reducible assumption) (by first | omega | (simp; done) | (simp; omega)))))) _))) | (go_at_call 21; (with_reducible exact grown_of (c4.out _ (by (repeat (first | with_reducible exact Below.refl _ _ | with_reducible assumption | (with_reducible refine below_drewN ?_ _) | (with_reducible refine Below.drew ?_) | (with_reducible refine Below.setCell ?_ (by first | omega | (simp; done) | (simp; omega)) _) | (with_reducible refine Below.alloc ?_ (by first | omega | (simp; done) | (simp; omega)) _) | refine Below.trans ?_ (Below.mono (by with_reducible assumption) (by first | omega | (simp; done) | (simp; omega)))))) _))) | (go_at_call 13; (with_reducible exact grown_same (c5.out _))) | (go_at_call 12; (with_reducible exact grown_same (c6.out _))))))
    refine wpQuiet_nil ?_
    rintro w3 ⟨⟨_, hb1⟩, rfl⟩
    have hz1 := hb1.size; (try simp at hz1); have hB1 : Below w.heap.size w w3 := (by refine Below.trans ?_ (Below.mono hb1 (by first | omega | (simp; done) | (simp; omega))); (repeat (first | with_reducible exact Below.refl _ _ | with_reducible assumption | (with_reducible refine below_drewN ?_ _) | (with_reducible refine Below.drew ?_) | (with_reducible refine Below.setCell ?_ (by first | omega | (simp; done) | (simp; omega)) _) | (with_reducible refine Below.alloc ?_ (by first | omega | (simp; done) | (simp; omega)) _) | refine Below.trans ?_ (Below.mono (by with_reducible assumption) (by first | omega | (simp; done) | (simp; omega)))))); obtain ⟨kc_, fc_, lc_⟩ := keep_later (a := ⟨w1.heap.size, 0, none⟩) (v := .slice S n c) hb1 (by go_simp) (by go_simp)
    have hI3 := HI.out.later (hb12.trans (hb1.mono hb12.size))
    clear hb1 c1 c2 c3 c4 c5 c6
    have hlw : w1.heap.size < w3.heap.size := by omega
    have hE0 : (w3.alloc (.cells #[] 43)).ownsRow w3.heap.size 43 3 (.slice (some ⟨w3.heap.size, 0, none⟩) 0 0) 0 [] := World.ownsRow_lit w3 #[] 0 (Nat.le_refl _) (by simp) rfl
    have HE := Lib.hid (And.intro hE0 hI3)
    clear hE0 hI3
    go_wp2_with (first | (at_builtin; refine wpList_append_syms (by rfl) (.tmp 46) (.tmp 48) _ (by rfl) w3.heap.size 43 j0 _ Try.underlying34 hj yj0 yj1 yj2 rfl w3.heap.size (by rfl) HE.out.1 (by rfl) (HE.out.2.alloc _) (by omega) (by first | omega | (simp; done) | (simp; omega)) _ rfl ?_; intro q cap1 w4 zs hown4 hg4 hlt4; (have hz4 := hg4.size; simp at hz4; have hba : Below w3.heap.size w3 (w3.alloc (.cells #[] 43)) := (by (repeat (first | with_reducible exact Below.refl _ _ | with_reducible assumption | (with_reducible refine below_drewN ?_ _) | (with_reducible refine Below.drew ?_) | (with_reducible refine Below.setCell ?_ (by first | omega | (simp; done) | (simp; omega)) _) | (with_reducible refine Below.alloc ?_ (by first | omega | (simp; done) | (simp; omega)) _) | refine Below.trans ?_ (Below.mono (by with_reducible assumption) (by first | omega | (simp; done) | (simp; omega)))))); have k4 := through (a := ⟨w1.heap.size, 0, none⟩) (v := .slice S n c) hba hg4 (fun e => by (injection e with e); simp at e; omega) (by go_simp); have hB4 : Below w.heap.size w w4 := Below.grown (hB1.trans (hba.mono (by omega))) hg4 (by first | omega | (simp; done) | (simp; omega)) (fun j hj => by (injection hj with hj); omega); have HO := Lib.hid hown4; have hq4 := (hown4.lt q rfl).1; have hlw4 : w1.heap.size < w4.heap.size := (by omega); clear hown4 hg4 hba)) | (at_builtin; refine wpList_append_lies _ (by rfl) (.tmp 49) (.tmp 51) _ (by rfl) w3.heap.size 43 j0 _ 3 48 Try.underlying34 hj yj0 yj1 yj2 rfl (by omega) (.slice (some ⟨q, 0, none⟩) n cap1) n zs (by rfl) (HO.out.alloc _) ⟨w4.heap.size, 0, none⟩ 1 1 [.string ⟨#[]⟩, .slice none 0 0, .int .i64 0] (by rfl) (by rfl) (news3s (by first | omega | (simp; done) | (simp; omega))) (by simp [Value.oneCell']) (by omega) (by unfold maxLen; omega) (by omega) (by first | omega | (simp; done) | (simp; omega)) _ rfl ?_; intro q2 cap2 w5 hown5 hg5 hat5 hlt5; (have hz5 := hg5.size; simp at hz5; have hba : Below w4.heap.size w4 (w4.alloc (.cells #[.string ⟨#[]⟩, .slice none 0 0, .int .i64 0] 43)) := (by (repeat (first | with_reducible exact Below.refl _ _ | with_reducible assumption | (with_reducible refine below_drewN ?_ _) | (with_reducible refine Below.drew ?_) | (with_reducible refine Below.setCell ?_ (by first | omega | (simp; done) | (simp; omega)) _) | (with_reducible refine Below.alloc ?_ (by first | omega | (simp; done) | (simp; omega)) _) | refine Below.trans ?_ (Below.mono (by with_reducible assumption) (by first | omega | (simp; done) | (simp; omega)))))); have k5 := through (a := ⟨w1.heap.size, 0, none⟩) (v := .slice S n c) hba hg5 (fun e => by (have e2 : w1.heap.size = q := Option.some.inj e); omega) k4; have hB5 : Below w.heap.size w w5 := Below.grown (hB4.trans (hba.mono (by omega))) hg5 (by first | omega | (simp; done) | (simp; omega)) (fun j hj => by (have e2 : q = j := Option.some.inj hj); omega); have hlw5 : w1.heap.size < w5.heap.size := (by omega); clear hown5 hg5 hat5 hba)))
    refine (sig_len (show n ≠ n + 1 by omega) (by omega) (by omega) _).mono ?_
    rintro e w6 ⟨rfl, hb1⟩
    have hz1 := hb1.size; (try simp at hz1); have hB1 : Below w.heap.size w w6 := (by refine Below.trans ?_ (Below.mono hb1 (by first | omega | (simp; done) | (simp; omega))); (repeat (first | with_reducible exact Below.refl _ _ | with_reducible assumption | (with_reducible refine below_drewN ?_ _) | (with_reducible refine Below.drew ?_) | (with_reducible refine Below.setCell ?_ (by first | omega | (simp; done) | (simp; omega)) _) | (with_reducible refine Below.alloc ?_ (by first | omega | (simp; done) | (simp; omega)) _) | refine Below.trans ?_ (Below.mono (by with_reducible assumption) (by first | omega | (simp; done) | (simp; omega))))))
    clear hb1
    go_wp2
    go_ret
    exact ⟨rfl, by (repeat (first | with_reducible exact Below.refl _ _ | with_reducible assumption | (with_reducible refine below_drewN ?_ _) | (with_reducible refine Below.drew ?_) | (with_reducible refine Below.setCell ?_ (by first | omega | (simp; done) | (simp; omega)) _) | (with_reducible refine Below.alloc ?_ (by first | omega | (simp; done) | (simp; omega)) _) | refine Below.trans ?_ (Below.mono (by with_reducible assumption) (by first | omega | (simp; done) | (simp; omega)))))⟩


theorem fnSigSame_open {H : Type} {enc : TypeId × Value → H} {W : World} {base : Nat} {args : Array Value} {ds : List (DataW H)} {p : List MemPlace}
    (hval : ∀ (j : Nat) t v, #[33][j]? = some t → args[j]? = some v → Value.okWide Try.prog W .any base t v)
    (hA : DataW.TrodAll enc Try.prog W 0 (fun _ => true) true #[33].toList args.toList ds p) :
    Calls Try.prog 5 args W fun e w' => e = .returned (.bool true) ∧ Below W.heap.size W w' := by
  obtain ⟨v0, d0, rfl, rfl, h0⟩ := trodAll_one hA
  obtain ⟨A, cap, bs, rfl, hc⟩ := open_bytes (hval 0 _ v0 rfl rfl) h0
  exact fnSigSame_walk hc
set_option maxRecDepth 100000 in
theorem fnSigSame_lifted (os : Os) (started : os.Started) (H : Type) (enc : TypeId × Value → H) :
    ReturnsInHanded {} Try.checked os 5 .any (Rows.fnSigSameSpec.pre6 enc Try.prog Try.f5 Rows.fnSigSameRow.domain false) (Rows.fnSigSameSpec.post enc Try.prog Try.f5 false true false false) := by
  refine returnsInHanded_of_change (C := Try.checked) own started (by kernel_rfl) Try.func5
    (ChangeSpec.witness6 (enc := enc) (C := Try.checked) false ⟨#[], #[.slice none 0 0], []⟩ 8 (by kernel_rfl) (by kernel_rfl) (by kernel_rfl) (by kernel_rfl)) ?_
  intro W base args ds gs before hval0 hW hcnd _
  have hval : ∀ (j : Nat) t v, Try.f5.params[j]? = some t → args[j]? = some v → Value.okWide Try.prog W .any base t v := hval0
  refine law_post hW rfl rfl ?_ ?_ ?_
  · have hr : (Try.f5.params.toList.all fun t => Try.prog.readableRec t && decide (t < Try.prog.types.size)) = true := by kernel_rfl
    intro t ht
    have := List.all_eq_true.1 hr t ht
    simpa using this
  · intro ds hl
    match ds, hl with
    | [d], _ => rfl
  · obtain ⟨p, q, hA0, _⟩ := hW
    have hA : DataW.TrodAll enc Try.prog W 0 (fun _ => true) true Try.f5.params.toList args.toList ds p := hA0
    clear hA0 hval0
    rw [Try.params5] at hA hval
    exact fnSigSame_open hval hA

theorem fnSigSame_facts : joinedFacts Try.prog 5 Try.f5 Rows.fnSigSameSpec Rows.fnSigSameRow = true :=
  joined_of _ _ _ _ _ (by kernel_rfl) laidOut mapsRowed_ok (by kernel_rfl) (by kernel_rfl) (by kernel_rfl) stops_eq (by kernel_rfl) stopKnobs_eq (by kernel_rfl) (by kernel_rfl) (by kernel_rfl) (by kernel_rfl) (by kernel_rfl) (by kernel_rfl) (by kernel_rfl) (by kernel_rfl) (by kernel_rfl) (by kernel_rfl) (by kernel_rfl) (by kernel_rfl) (by kernel_rfl) (plainKeys_eq _ rfl) (by kernel_rfl) heard_ok mayEnter_ok (lifted_eq _ rfl) (make_eq _ rfl) (by kernel_rfl) (by kernel_rfl) (by kernel_rfl) (by kernel_rfl)

theorem fnSigSame_holds : Rows.FnSigSameSaid :=
  OpenClaim.holds_of_wide 5 Try.f5 rfl rfl rfl rfl rfl rfl rfl ⟨rfl, rfl, rfl, rfl, rfl⟩ rfl rfl rfl rfl rfl (by kernel_rfl) Try.func5 fnSigSame_facts
    (of_decide_eq_true (by kernel_rfl)) (by unfold Func.isWrapper; first | (rw [if_pos (by decide +kernel)]; kernel_rfl) | (rw [if_neg (by decide +kernel)]; exact ⟨rfl, rfl⟩))
    (fun os started H enc _ => fnSigSame_lifted os started H enc)
#print axioms fnSigSame_holds
end Go.Proofs.Ytgmeoblapnmpiaa

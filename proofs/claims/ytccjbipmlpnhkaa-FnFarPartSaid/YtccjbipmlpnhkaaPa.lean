/- Two lists with one element more, built beside each other in whatever order (the region of FnFarPart). -/
import Derived.Test.YtccjbipmlpnhkaaT3
namespace Go.Proofs.Ytccjbipmlpnhkaa
set_option maxRecDepth 100000
open Go.RowKit
set_option linter.unusedSimpArgs false
set_option linter.unusedVariables false

theorem put_put (a : Act) (i : Nat) (u v : Value) : (a.put (some i) u).put (some i) v = a.put (some i) v := by
  unfold Act.put
  simp
theorem put_sort (a : Act) {i j : Nat} (h : j < i) (u v : Value) : (a.put (some i) u).put (some j) v = (a.put (some j) v).put (some i) u := by
  unfold Act.put
  simp only
  rw [Array.setIfInBounds_comm _ _ (by omega)]
theorem put_size (a : Act) (i : Nat) (u : Value) : (a.put (some i) u).tmps.size = a.tmps.size := by
  unfold Act.put
  simp
theorem eval_ne (a : Act) {i j : Nat} (h : i ≠ j) (u : Value) : (a.put (some i) u).eval (.tmp j) = a.eval (.tmp j) := Act.eval_put (fun d e => by injection e with e; subst e; intro e2; injection e2 with e2; exact h e2.symm)
theorem eval_eq (a : Act) {i : Nat} (h : i < a.tmps.size) (u : Value) : (a.put (some i) u).eval (.tmp i) = u := by
  unfold Act.put Act.eval
  simp [h]
theorem put_same (a : Act) {i : Nat} (h : i < a.tmps.size) : a.put (some i) (a.eval (.tmp i)) = a := by
  unfold Act.put Act.eval
  cases a with
  | mk tmps defers =>
    simp only at h ⊢
    congr 1
    apply Array.ext
    · simp
    · intro j h1 h2
      rw [Array.getElem_setIfInBounds]
      split
      · next e => subst e; simp [h2]
      · rfl
/-- the frame, with the eight values in it -/
def Fr8 (a0 : Act) (x0 x2 x4 x5 y0 y2 y4 y5 : Value) : Act := (((((((a0.put (some 83) x0).put (some 85) x2).put (some 87) x4).put (some 88) x5).put (some 89) y0).put (some 91) y2).put (some 92) y4).put (some 93) y5
theorem fr8_83 (a0 : Act) (x0 x2 x4 x5 y0 y2 y4 y5 v : Value) : (Fr8 a0 x0 x2 x4 x5 y0 y2 y4 y5).put (some 83) v = Fr8 a0 v x2 x4 x5 y0 y2 y4 y5 := by
  unfold Fr8
  rw [put_sort _ (show 83 < 93 by omega), put_sort _ (show 83 < 92 by omega), put_sort _ (show 83 < 91 by omega), put_sort _ (show 83 < 89 by omega), put_sort _ (show 83 < 88 by omega), put_sort _ (show 83 < 87 by omega), put_sort _ (show 83 < 85 by omega), put_put]
theorem fr8_e83 (a0 : Act) (h : 93 < a0.tmps.size) (x0 x2 x4 x5 y0 y2 y4 y5 : Value) : (Fr8 a0 x0 x2 x4 x5 y0 y2 y4 y5).eval (.tmp 83) = x0 := by
  unfold Fr8
  rw [eval_ne _ (show 93 ≠ 83 by omega), eval_ne _ (show 92 ≠ 83 by omega), eval_ne _ (show 91 ≠ 83 by omega), eval_ne _ (show 89 ≠ 83 by omega), eval_ne _ (show 88 ≠ 83 by omega), eval_ne _ (show 87 ≠ 83 by omega), eval_ne _ (show 85 ≠ 83 by omega), eval_eq _ (by (try simp only [put_size]); omega)]
theorem fr8_85 (a0 : Act) (x0 x2 x4 x5 y0 y2 y4 y5 v : Value) : (Fr8 a0 x0 x2 x4 x5 y0 y2 y4 y5).put (some 85) v = Fr8 a0 x0 v x4 x5 y0 y2 y4 y5 := by
  unfold Fr8
  rw [put_sort _ (show 85 < 93 by omega), put_sort _ (show 85 < 92 by omega), put_sort _ (show 85 < 91 by omega), put_sort _ (show 85 < 89 by omega), put_sort _ (show 85 < 88 by omega), put_sort _ (show 85 < 87 by omega), put_put]
theorem fr8_e85 (a0 : Act) (h : 93 < a0.tmps.size) (x0 x2 x4 x5 y0 y2 y4 y5 : Value) : (Fr8 a0 x0 x2 x4 x5 y0 y2 y4 y5).eval (.tmp 85) = x2 := by
  unfold Fr8
  rw [eval_ne _ (show 93 ≠ 85 by omega), eval_ne _ (show 92 ≠ 85 by omega), eval_ne _ (show 91 ≠ 85 by omega), eval_ne _ (show 89 ≠ 85 by omega), eval_ne _ (show 88 ≠ 85 by omega), eval_ne _ (show 87 ≠ 85 by omega), eval_eq _ (by (try simp only [put_size]); omega)]
theorem fr8_87 (a0 : Act) (x0 x2 x4 x5 y0 y2 y4 y5 v : Value) : (Fr8 a0 x0 x2 x4 x5 y0 y2 y4 y5).put (some 87) v = Fr8 a0 x0 x2 v x5 y0 y2 y4 y5 := by
  unfold Fr8
  rw [put_sort _ (show 87 < 93 by omega), put_sort _ (show 87 < 92 by omega), put_sort _ (show 87 < 91 by omega), put_sort _ (show 87 < 89 by omega), put_sort _ (show 87 < 88 by omega), put_put]
theorem fr8_e87 (a0 : Act) (h : 93 < a0.tmps.size) (x0 x2 x4 x5 y0 y2 y4 y5 : Value) : (Fr8 a0 x0 x2 x4 x5 y0 y2 y4 y5).eval (.tmp 87) = x4 := by
  unfold Fr8
  rw [eval_ne _ (show 93 ≠ 87 by omega), eval_ne _ (show 92 ≠ 87 by omega), eval_ne _ (show 91 ≠ 87 by omega), eval_ne _ (show 89 ≠ 87 by omega), eval_ne _ (show 88 ≠ 87 by omega), eval_eq _ (by (try simp only [put_size]); omega)]
theorem fr8_88 (a0 : Act) (x0 x2 x4 x5 y0 y2 y4 y5 v : Value) : (Fr8 a0 x0 x2 x4 x5 y0 y2 y4 y5).put (some 88) v = Fr8 a0 x0 x2 x4 v y0 y2 y4 y5 := by
  unfold Fr8
  rw [put_sort _ (show 88 < 93 by omega), put_sort _ (show 88 < 92 by omega), put_sort _ (show 88 < 91 by omega), put_sort _ (show 88 < 89 by omega), put_put]
theorem fr8_e88 (a0 : Act) (h : 93 < a0.tmps.size) (x0 x2 x4 x5 y0 y2 y4 y5 : Value) : (Fr8 a0 x0 x2 x4 x5 y0 y2 y4 y5).eval (.tmp 88) = x5 := by
  unfold Fr8
  rw [eval_ne _ (show 93 ≠ 88 by omega), eval_ne _ (show 92 ≠ 88 by omega), eval_ne _ (show 91 ≠ 88 by omega), eval_ne _ (show 89 ≠ 88 by omega), eval_eq _ (by (try simp only [put_size]); omega)]
theorem fr8_89 (a0 : Act) (x0 x2 x4 x5 y0 y2 y4 y5 v : Value) : (Fr8 a0 x0 x2 x4 x5 y0 y2 y4 y5).put (some 89) v = Fr8 a0 x0 x2 x4 x5 v y2 y4 y5 := by
  unfold Fr8
  rw [put_sort _ (show 89 < 93 by omega), put_sort _ (show 89 < 92 by omega), put_sort _ (show 89 < 91 by omega), put_put]
theorem fr8_e89 (a0 : Act) (h : 93 < a0.tmps.size) (x0 x2 x4 x5 y0 y2 y4 y5 : Value) : (Fr8 a0 x0 x2 x4 x5 y0 y2 y4 y5).eval (.tmp 89) = y0 := by
  unfold Fr8
  rw [eval_ne _ (show 93 ≠ 89 by omega), eval_ne _ (show 92 ≠ 89 by omega), eval_ne _ (show 91 ≠ 89 by omega), eval_eq _ (by (try simp only [put_size]); omega)]
theorem fr8_91 (a0 : Act) (x0 x2 x4 x5 y0 y2 y4 y5 v : Value) : (Fr8 a0 x0 x2 x4 x5 y0 y2 y4 y5).put (some 91) v = Fr8 a0 x0 x2 x4 x5 y0 v y4 y5 := by
  unfold Fr8
  rw [put_sort _ (show 91 < 93 by omega), put_sort _ (show 91 < 92 by omega), put_put]
theorem fr8_e91 (a0 : Act) (h : 93 < a0.tmps.size) (x0 x2 x4 x5 y0 y2 y4 y5 : Value) : (Fr8 a0 x0 x2 x4 x5 y0 y2 y4 y5).eval (.tmp 91) = y2 := by
  unfold Fr8
  rw [eval_ne _ (show 93 ≠ 91 by omega), eval_ne _ (show 92 ≠ 91 by omega), eval_eq _ (by (try simp only [put_size]); omega)]
theorem fr8_92 (a0 : Act) (x0 x2 x4 x5 y0 y2 y4 y5 v : Value) : (Fr8 a0 x0 x2 x4 x5 y0 y2 y4 y5).put (some 92) v = Fr8 a0 x0 x2 x4 x5 y0 y2 v y5 := by
  unfold Fr8
  rw [put_sort _ (show 92 < 93 by omega), put_put]
theorem fr8_e92 (a0 : Act) (h : 93 < a0.tmps.size) (x0 x2 x4 x5 y0 y2 y4 y5 : Value) : (Fr8 a0 x0 x2 x4 x5 y0 y2 y4 y5).eval (.tmp 92) = y4 := by
  unfold Fr8
  rw [eval_ne _ (show 93 ≠ 92 by omega), eval_eq _ (by (try simp only [put_size]); omega)]
theorem fr8_93 (a0 : Act) (x0 x2 x4 x5 y0 y2 y4 y5 v : Value) : (Fr8 a0 x0 x2 x4 x5 y0 y2 y4 y5).put (some 93) v = Fr8 a0 x0 x2 x4 x5 y0 y2 y4 v := by
  unfold Fr8
  rw [put_put]
theorem fr8_e93 (a0 : Act) (h : 93 < a0.tmps.size) (x0 x2 x4 x5 y0 y2 y4 y5 : Value) : (Fr8 a0 x0 x2 x4 x5 y0 y2 y4 y5).eval (.tmp 93) = y5 := by
  unfold Fr8
  rw [eval_eq _ (by (try simp only [put_size]); omega)]
theorem fr8_e84 (a0 : Act) (x0 x2 x4 x5 y0 y2 y4 y5 : Value) : (Fr8 a0 x0 x2 x4 x5 y0 y2 y4 y5).eval (.tmp 84) = a0.eval (.tmp 84) := by
  unfold Fr8
  rw [eval_ne _ (show 93 ≠ 84 by omega), eval_ne _ (show 92 ≠ 84 by omega), eval_ne _ (show 91 ≠ 84 by omega), eval_ne _ (show 89 ≠ 84 by omega), eval_ne _ (show 88 ≠ 84 by omega), eval_ne _ (show 87 ≠ 84 by omega), eval_ne _ (show 85 ≠ 84 by omega), eval_ne _ (show 83 ≠ 84 by omega)]
theorem fr8_e86 (a0 : Act) (x0 x2 x4 x5 y0 y2 y4 y5 : Value) : (Fr8 a0 x0 x2 x4 x5 y0 y2 y4 y5).eval (.tmp 86) = a0.eval (.tmp 86) := by
  unfold Fr8
  rw [eval_ne _ (show 93 ≠ 86 by omega), eval_ne _ (show 92 ≠ 86 by omega), eval_ne _ (show 91 ≠ 86 by omega), eval_ne _ (show 89 ≠ 86 by omega), eval_ne _ (show 88 ≠ 86 by omega), eval_ne _ (show 87 ≠ 86 by omega), eval_ne _ (show 85 ≠ 86 by omega), eval_ne _ (show 83 ≠ 86 by omega)]
theorem fr8_e90 (a0 : Act) (x0 x2 x4 x5 y0 y2 y4 y5 : Value) : (Fr8 a0 x0 x2 x4 x5 y0 y2 y4 y5).eval (.tmp 90) = a0.eval (.tmp 90) := by
  unfold Fr8
  rw [eval_ne _ (show 93 ≠ 90 by omega), eval_ne _ (show 92 ≠ 90 by omega), eval_ne _ (show 91 ≠ 90 by omega), eval_ne _ (show 89 ≠ 90 by omega), eval_ne _ (show 88 ≠ 90 by omega), eval_ne _ (show 87 ≠ 90 by omega), eval_ne _ (show 85 ≠ 90 by omega), eval_ne _ (show 83 ≠ 90 by omega)]
/-- what has come up -/
def Lst (sA : Nat) (tA : Bool) (sB : Nat) (tB : Bool) : Array Bool := #[decide (1 ≤ sA), true, decide (2 ≤ sA), true, tA, decide (3 ≤ sA), decide (1 ≤ sB), true, decide (2 ≤ sB), tB, decide (3 ≤ sB), false, false, false, false, false, false]
def left8 (sA : Nat) (tA : Bool) (sB : Nat) (tB : Bool) : Nat := (3 - sA) + cond tA 0 1 + (3 - sB) + cond tB 0 1
section
variable {P : Program} {ops : Array Oper} {Q : Exit → Act → World → Prop} {md : Region.Mode} {S : World → Prop} {n : Nat}
theorem step_make {o : Oper} {a : Act} {w : World} {K : Act → World → Prop} {E : Prop} (hgd : o.guard = none) {t : TypeId} {len : Nat} {parts : Array (Nat × Operand)} (ho : o.op = .buildSlice t len parts) {ps : Array (Nat × Value)} (hps : (parts.map fun (i, x) => (i, a.eval x)) = ps) {v : Value} {W : World}
    (hrun : (Instr.buildSlice t len ps).run P w = .ok v W) (h : K (a.put o.dst v) W) : if Region.wanted o (yielded ops a.tmps) = true then Oper.wp P o a w K Q else E := by
  have hw : Region.wanted o (yielded ops a.tmps) = true := by simp [Region.wanted, hgd]
  rw [if_pos hw]
  unfold Oper.wp execOp
  simp only [ho, Sem.run_bind]
  rw [hps, hrun]
  simp only [Result.andThen_ok]
  exact h
/-- operation i -/
def OpIs (ops : Array Oper) (i : Nat) (op : Op) (d : Nat) : Prop := ∃ o, ops[i]? = some o ∧ o.guard = none ∧ o.op = op ∧ o.dst = some d
theorem opIs_mk {ops : Array Oper} {i d : Nat} {op : Op} {o : Oper} (h : ops[i]? = some o) (h1 : o.guard = none) (h2 : o.op = op) (h3 : o.dst = some d) : OpIs ops i op d := ⟨o, h, h1, h2, h3⟩
structure PI (a0 : Act) (w0 : World) (eA eB : TypeId) (szA szB kA kB : Nat) (zsA usA zsB usB : List Value) (sA : Nat) (tA : Bool) (sB : Nat) (tB : Bool) (x0 x2 x4 x5 y0 y2 y4 y5 : Value) (rA qA rB qB : Option Nat) (a : Act) (w : World) : Prop where
  fr : a = Fr8 a0 x0 x2 x4 x5 y0 y2 y4 y5
  le : sA ≤ 3 ∧ sB ≤ 3
  fa : sA = 3 → tA = true
  fb : sB = 3 → tB = true
  ga : GI eA szA kA w0.heap.size zsA usA sA tA x0 x2 x4 x5 rA qA w
  gb : GI eB szB kB w0.heap.size zsB usB sB tB y0 y2 y4 y5 rB qB w
  sep : Sep rA qA rB qB
  low : Below w0.heap.size w0 w
def PartI (a0 : Act) (w0 : World) (eA eB : TypeId) (szA szB kA kB : Nat) (zsA usA zsB usB : List Value) (m : Nat) (listed : Array Bool) (a : Act) (w : World) : Prop :=
  ∃ (sA : Nat) (tA : Bool) (sB : Nat) (tB : Bool) (x0 x2 x4 x5 y0 y2 y4 y5 : Value) (rA qA rB qB : Option Nat), listed = Lst sA tA sB tB ∧ m = left8 sA tA sB tB ∧ PI a0 w0 eA eB szA szB kA kB zsA usA zsB usB sA tA sB tB x0 x2 x4 x5 y0 y2 y4 y5 rA qA rB qB a w
theorem below_row {w0 w w' : World} {r : Option Nat} (h : Below w0.heap.size w0 w) (hg : w.grownBy w' r) (hr : ∀ b, r = some b → w0.heap.size ≤ b) : Below w0.heap.size w0 w' := Below.grown h hg h.size (fun j hj => hr j hj)
theorem below_alloc {w0 w : World} (h : Below w0.heap.size w0 w) (o : Obj) : Below w0.heap.size w0 (w.alloc o) := h.trans (((Below.refl _ _).alloc (Nat.le_refl _) o).mono h.size)
theorem lst_late {sA sB j : Nat} {tA tB : Bool} (h : 11 ≤ j) : (Lst sA tA sB tB).getD j false = false := by
  by_cases h17 : j < 17
  · have : j = 11 ∨ j = 12 ∨ j = 13 ∨ j = 14 ∨ j = 15 ∨ j = 16 := by omega
    rcases this with rfl | rfl | rfl | rfl | rfl | rfl <;> rfl
  · rw [Array.getD_eq_getD_getElem?, Array.getElem?_eq_none (by show 17 ≤ j; omega)]; rfl
theorem headAll_part {sA sB m : Nat} {tA tB : Bool} (hn : 11 ≤ n) (hm : m + 1 = left8 sA tA sB tB) : headAll n (Lst sA tA sB tB) = false := by
  cases hh : headAll n (Lst sA tA sB tB) with
  | false => rfl
  | true =>
    exfalso
    have h4 : tA = true := headAll_yes (j := 4) (by omega) hh
    have h5 : decide (3 ≤ sA) = true := headAll_yes (j := 5) (by omega) hh
    have h9 : tB = true := headAll_yes (j := 9) (by omega) hh
    have h10 : decide (3 ≤ sB) = true := headAll_yes (j := 10) (by omega) hh
    subst h4 h9
    simp at h5 h10
    simp only [left8, cond_true] at hm
    omega
theorem add_blk (a : Addr) (j : Nat) : (a.add j).block = a.block := by unfold Addr.add; split <;> rfl
theorem part_bytes {k b : Nat} (hk : k ≤ 1001) (hb : b ≤ 1000) : k * b ≤ 140737488355328 := by
  have := Nat.mul_le_mul hk hb
  omega
theorem wp_part {a0 : Act} {w0 : World} {tA eA tB eB : TypeId} {szA szB byA byB kA kB : Nat} {iA iB : TypeInfo} {zA zB : Value} {zsA usA zsB usB : List Value} {f : Nat} {opA opB : Operand} {vA vB : Value} {adA adB : Addr} {cA cB : Nat}
    (hsz : 93 < a0.tmps.size) (hn : n ≤ 17) (hn11 : 11 ≤ n) (hS : ∀ w, Below w0.heap.size w0 w → S w)
    (hutA : P.underlying tA = some (.slice eA)) (hiA : P.info? eA = some iA) (hzA : iA.zero = some zA) (hszA : iA.size = szA) (hbyA : iA.bytes = byA) (hzzA : zA.cells.size = szA) (hpA : 0 < szA)
    (hutB : P.underlying tB = some (.slice eB)) (hiB : P.info? eB = some iB) (hzB : iB.zero = some zB) (hszB : iB.size = szB) (hbyB : iB.bytes = byB) (hzzB : zB.cells.size = szB) (hpB : 0 < szB)
    (r0A : ∀ w : World, (Instr.buildSlice tA 0 #[]).run P w = .ok (.slice (some ⟨w.heap.size, 0, none⟩) 0 0) (w.alloc (.cells #[] eA)))
    (r0B : ∀ w : World, (Instr.buildSlice tB 0 #[]).run P w = .ok (.slice (some ⟨w.heap.size, 0, none⟩) 0 0) (w.alloc (.cells #[] eB)))
    (r1A : ∀ w : World, (Instr.buildSlice tA 1 #[(0, vA)]).run P w = .ok (.slice (some ⟨w.heap.size, 0, none⟩) 1 1) (w.alloc (.cells usA.toArray eA)))
    (r1B : ∀ w : World, (Instr.buildSlice tB 1 #[(0, vB)]).run P w = .ok (.slice (some ⟨w.heap.size, 0, none⟩) 1 1) (w.alloc (.cells usB.toArray eB)))
    (evA : ∀ x0 x2 x4 x5 y0 y2 y4 y5, (Fr8 a0 x0 x2 x4 x5 y0 y2 y4 y5).eval opA = vA) (evB : ∀ x0 x2 x4 x5 y0 y2 y4 y5, (Fr8 a0 x0 x2 x4 x5 y0 y2 y4 y5).eval opB = vB)
    (ev84 : a0.eval (.tmp 84) = .slice (some adA) kA cA) (ev90 : a0.eval (.tmp 90) = .slice (some adB) kB cB)
    (zlA : zsA.length = kA * szA) (zlB : zsB.length = kB * szB) (ulA : usA.length = 1 * szA) (ulB : usB.length = 1 * szB)
    (zcA : ∀ j u, zsA[j]? = some u → w0.cell? (adA.add j) = some u) (zcB : ∀ j u, zsB[j]? = some u → w0.cell? (adB.add j) = some u) (adlA : adA.block < w0.heap.size) (adlB : adB.block < w0.heap.size)
    (zoA : ∀ u ∈ zsA, u.oneCell' = true) (zoB : ∀ u ∈ zsB, u.oneCell' = true) (uoA : ∀ u ∈ usA, u.oneCell' = true) (uoB : ∀ u ∈ usB, u.oneCell' = true)
    (kpA : 0 < kA ∧ kA ≤ 1000 ∧ byA ≤ 1000) (kpB : 0 < kB ∧ kB ≤ 1000 ∧ byB ≤ 1000)
    (o0 : OpIs ops 0 (.buildSlice tA 0 #[]) 83) (o2 : OpIs ops 2 (.call { callee := .builtin .append, args := #[.tmp 83, .tmp 84], argTypes := #[tA, tA] }) 85) (o4 : OpIs ops 4 (.buildSlice tA 1 #[(0, opA)]) 87) (o5 : OpIs ops 5 (.call { callee := .builtin .append, args := #[.tmp 85, .tmp 87], argTypes := #[tA, tA] }) 88)
    (o6 : OpIs ops 6 (.buildSlice tB 0 #[]) 89) (o8 : OpIs ops 8 (.call { callee := .builtin .append, args := #[.tmp 89, .tmp 90], argTypes := #[tB, tB] }) 91) (o9 : OpIs ops 9 (.buildSlice tB 1 #[(0, opB)]) 92) (o10 : OpIs ops 10 (.call { callee := .builtin .append, args := #[.tmp 91, .tmp 92], argTypes := #[tB, tB] }) 93)
    (d20 : Region.waitsFor md ops 2 0 = true) (d52 : Region.waitsFor md ops 5 2 = true) (d54 : Region.waitsFor md ops 5 4 = true) (d86 : Region.waitsFor md ops 8 6 = true) (d108 : Region.waitsFor md ops 10 8 = true) (d109 : Region.waitsFor md ops 10 9 = true)
    (hlate : ((List.range 17).all fun i => decide (i < 11) || (Region.waitsFor md ops i 5 && Region.waitsFor md ops i 10) || ((List.range 17).any fun j => decide (11 ≤ j) && Region.waitsFor md ops i j)) = true)
    (hfin : ∀ x0 x2 x4 x5 y0 y2 y4 y5 rA qA rB qB a w, PI a0 w0 eA eB szA szB kA kB zsA usA zsB usB 3 true 3 true x0 x2 x4 x5 y0 y2 y4 y5 rA qA rB qB a w → wpAnyT P md ops Q S n f (Lst 3 true 3 true) a w) :
    wpAnyT P md ops Q S n (8 + f) (Lst 0 false 0 false) a0 w0 := by
  refine wpAnyT_inv (Inv := PartI a0 w0 eA eB szA szB kA kB zsA usA zsB usB) (fun listed a w hSw hI => ?_) (fun m listed a w hSw hI => ?_) 8 _ _ _ (hS _ (Below.refl _ _)) ?_
  · obtain ⟨sA, tA', sB, tB', x0, x2, x4, x5, y0, y2, y4, y5, rA, qA, rB, qB, rfl, hm, h⟩ := hI
    have hle := h.le
    cases tA' with
    | false => exfalso; simp only [left8, cond_false] at hm; omega
    | true =>
      cases tB' with
      | false => exfalso; simp only [left8, cond_false] at hm; omega
      | true =>
        simp only [left8, cond_true] at hm
        obtain rfl : sA = 3 := by omega
        obtain rfl : sB = 3 := by omega
        exact hfin _ _ _ _ _ _ _ _ _ _ _ _ _ _ h
  · obtain ⟨sA, tA', sB, tB', x0, x2, x4, x5, y0, y2, y4, y5, rA, qA, rB, qB, rfl, hm, h⟩ := hI
    refine ⟨headAll_part hn11 hm, fun i hi hin => ?_⟩
    obtain ⟨hun, o, ho, hall⟩ := mem_ready.1 hi
    have dep : ∀ k, Region.waitsFor md ops i k = true → (Lst sA tA' sB tB').getD k false = true := fun k hk => by
      obtain ⟨oj, hoj, e, he, hb, hon⟩ := Region.waitsFor_spec hk
      rw [ho] at hoj
      injection hoj with hoj
      subst hoj
      rw [← hon]
      exact hall e he hb
    have hle := h.le
    have hcase : i = 0 ∨ i = 1 ∨ i = 2 ∨ i = 3 ∨ i = 4 ∨ i = 5 ∨ i = 6 ∨ i = 7 ∨ i = 8 ∨ i = 9 ∨ i = 10 ∨ 11 ≤ i := by omega
    rcases hcase with rfl | rfl | rfl | rfl | rfl | rfl | rfl | rfl | rfl | rfl | rfl | h11
    · have hs : sA = 0 := by have h9 : decide (1 ≤ sA) = false := hun; simpa using h9
      subst hs
      obtain ⟨o', ho', hgd, hop, hdst⟩ := o0
      refine wpOp_step ho' (fun K' hK => step_make hgd hop (ps := #[]) (by simp) (r0A w) (hK _ _ ⟨hS _ (below_alloc h.low _), 1, tA', sB, tB', _, x2, x4, x5, y0, y2, y4, y5, some w.heap.size, qA, rB, qB, rfl, by simp only [left8] at hm ⊢; omega, ⟨?_, by omega, fun e => by omega, h.fb, h.ga.make h.low.size, h.gb.keep (by simp) (fun b hb => ((Below.refl _ _).alloc (Nat.le_refl _) _).block b (h.gb.lt b hb).2), h.sep.row (.inr rfl) (fun b hb => (h.gb.lt b hb).2), below_alloc h.low _⟩⟩))
      rw [hdst, h.fr]
      exact fr8_83 _ _ _ _ _ _ _ _ _ _
    · exact absurd (show true = false from hun) (by simp)
    · have h9 : decide (2 ≤ sA) = false := hun
      have h8 : decide (1 ≤ sA) = true := dep 0 d20
      have hs : sA = 1 := by simp at h8 h9; omega
      subst hs
      obtain ⟨o', ho', hgd, hop, hdst⟩ := o2
      obtain ⟨E, hE, hv1, hrow⟩ := h.ga.r1 rfl
      have hEb := h.ga.lt E (.inl hE)
      refine wpOp_step ho' (fun K' hK => step_append_lies w hgd (.tmp 83) (.tmp 84) tA hop w0.heap.size eA iA zA szA byA hutA hiA hzA hszA hbyA hzzA hpA (.slice (some ⟨E, 0, none⟩) 0 0) 0 [] (by rw [h.fr, fr8_e83 a0 hsz]; exact hv1) (by rw [← hv1]; exact hrow) adA kA cA zsA (by rw [h.fr, fr8_e84]; exact ev84) zlA (fun j u hu => by rw [← zcA j u hu]; exact World.cell?_of_block (w := w0) (h.low.block _ (by rw [add_blk]; exact adlA))) zoA kpA.1 (by unfold maxLen; omega) (part_bytes (by omega) kpA.2.2) h.low.size _ rfl (fun g cap W hown hgrow hat hlt => ?_))
      replace hgrow : w.grownBy W (some E) := hgrow
      replace hat : some E = some g ∨ g = w.heap.size := hat
      have hlow := below_row h.low hgrow (fun b hb => by (injection hb with hb); omega)
      refine hK _ _ ⟨hS _ hlow, 2, tA', sB, tB', x0, _, x4, x5, y0, y2, y4, y5, some g, qA, rB, qB, rfl, by simp only [left8] at hm ⊢; omega, ⟨?_, by omega, fun e => by omega, h.fb, h.ga.fill hE hown hgrow hat rfl, h.gb.keep hgrow.size (fun b hb => hgrow.block b (h.gb.lt b hb).2 (fun e => h.sep E (.inl hE) (by (injection e with e); rw [← e]; exact hb))), h.sep.row (hat.imp (fun e => hE.trans e) (fun e => e)) (fun b hb => (h.gb.lt b hb).2), hlow⟩⟩
      rw [hdst, h.fr]
      exact fr8_85 _ _ _ _ _ _ _ _ _ _
    · exact absurd (show true = false from hun) (by simp)
    · have hs : tA' = false := hun
      subst hs
      obtain ⟨o', ho', hgd, hop, hdst⟩ := o4
      refine wpOp_step ho' (fun K' hK => step_make hgd hop (ps := #[(0, vA)]) (by rw [h.fr]; simp [evA]) (r1A w) (hK _ _ ⟨hS _ (below_alloc h.low _), sA, true, sB, tB', x0, x2, _, x5, y0, y2, y4, y5, rA, some w.heap.size, rB, qB, rfl, by simp only [left8, cond_false, cond_true] at hm ⊢; omega, ⟨?_, h.le, fun _ => rfl, h.fb, h.ga.aux h.low.size, h.gb.keep (by simp) (fun b hb => ((Below.refl _ _).alloc (Nat.le_refl _) _).block b (h.gb.lt b hb).2), h.sep.aux (fun b hb => (h.gb.lt b hb).2), below_alloc h.low _⟩⟩))
      rw [hdst, h.fr]
      exact fr8_87 _ _ _ _ _ _ _ _ _ _
    · have h9 : decide (3 ≤ sA) = false := hun
      have h8 : decide (2 ≤ sA) = true := dep 2 d52
      have h7 : tA' = true := dep 4 d54
      have hs : sA = 2 := by simp at h8 h9; omega
      subst hs h7
      obtain ⟨o', ho', hgd, hop, hdst⟩ := o5
      obtain ⟨E, ce, hE, hv2, hrow⟩ := h.ga.r2 rfl
      obtain ⟨G, hG, hv4, hcells⟩ := h.ga.q1 rfl
      have hEb := h.ga.lt E (.inl hE)
      refine wpOp_step ho' (fun K' hK => step_append_lies w hgd (.tmp 85) (.tmp 87) tA hop w0.heap.size eA iA zA szA byA hutA hiA hzA hszA hbyA hzzA hpA (.slice (some ⟨E, 0, none⟩) kA ce) kA zsA (by rw [h.fr, fr8_e85 a0 hsz]; exact hv2) (by rw [← hv2]; exact hrow) ⟨G, 0, none⟩ 1 1 usA (by rw [h.fr, fr8_e87 a0 hsz]; exact hv4) ulA hcells uoA (by omega) (by unfold maxLen; omega) (part_bytes (by omega) kpA.2.2) h.low.size _ rfl (fun g cap W hown hgrow hat hlt => ?_))
      replace hgrow : w.grownBy W (some E) := hgrow
      replace hat : some E = some g ∨ g = w.heap.size := hat
      have hlow := below_row h.low hgrow (fun b hb => by (injection hb with hb); omega)
      refine hK _ _ ⟨hS _ hlow, 3, true, sB, tB', x0, x2, x4, _, y0, y2, y4, y5, some g, qA, rB, qB, rfl, by simp only [left8, cond_true] at hm ⊢; omega, ⟨?_, by omega, fun _ => rfl, h.fb, h.ga.more hE hown hgrow hat rfl, h.gb.keep hgrow.size (fun b hb => hgrow.block b (h.gb.lt b hb).2 (fun e => h.sep E (.inl hE) (by (injection e with e); rw [← e]; exact hb))), h.sep.row (hat.imp (fun e => hE.trans e) (fun e => e)) (fun b hb => (h.gb.lt b hb).2), hlow⟩⟩
      rw [hdst, h.fr]
      exact fr8_88 _ _ _ _ _ _ _ _ _ _
    · have hs : sB = 0 := by have h9 : decide (1 ≤ sB) = false := hun; simpa using h9
      subst hs
      obtain ⟨o', ho', hgd, hop, hdst⟩ := o6
      refine wpOp_step ho' (fun K' hK => step_make hgd hop (ps := #[]) (by simp) (r0B w) (hK _ _ ⟨hS _ (below_alloc h.low _), sA, tA', 1, tB', x0, x2, x4, x5, _, y2, y4, y5, rA, qA, some w.heap.size, qB, rfl, by simp only [left8] at hm ⊢; omega, ⟨?_, by omega, h.fa, fun e => by omega, h.ga.keep (by simp) (fun b hb => ((Below.refl _ _).alloc (Nat.le_refl _) _).block b (h.ga.lt b hb).2), h.gb.make h.low.size, (h.sep.symm.row (.inr rfl) (fun b hb => (h.ga.lt b hb).2)).symm, below_alloc h.low _⟩⟩))
      rw [hdst, h.fr]
      exact fr8_89 _ _ _ _ _ _ _ _ _ _
    · exact absurd (show true = false from hun) (by simp)
    · have h9 : decide (2 ≤ sB) = false := hun
      have h8 : decide (1 ≤ sB) = true := dep 6 d86
      have hs : sB = 1 := by simp at h8 h9; omega
      subst hs
      obtain ⟨o', ho', hgd, hop, hdst⟩ := o8
      obtain ⟨E, hE, hv1, hrow⟩ := h.gb.r1 rfl
      have hEb := h.gb.lt E (.inl hE)
      refine wpOp_step ho' (fun K' hK => step_append_lies w hgd (.tmp 89) (.tmp 90) tB hop w0.heap.size eB iB zB szB byB hutB hiB hzB hszB hbyB hzzB hpB (.slice (some ⟨E, 0, none⟩) 0 0) 0 [] (by rw [h.fr, fr8_e89 a0 hsz]; exact hv1) (by rw [← hv1]; exact hrow) adB kB cB zsB (by rw [h.fr, fr8_e90]; exact ev90) zlB (fun j u hu => by rw [← zcB j u hu]; exact World.cell?_of_block (w := w0) (h.low.block _ (by rw [add_blk]; exact adlB))) zoB kpB.1 (by unfold maxLen; omega) (part_bytes (by omega) kpB.2.2) h.low.size _ rfl (fun g cap W hown hgrow hat hlt => ?_))
      replace hgrow : w.grownBy W (some E) := hgrow
      replace hat : some E = some g ∨ g = w.heap.size := hat
      have hlow := below_row h.low hgrow (fun b hb => by (injection hb with hb); omega)
      refine hK _ _ ⟨hS _ hlow, sA, tA', 2, tB', x0, x2, x4, x5, y0, _, y4, y5, rA, qA, some g, qB, rfl, by simp only [left8] at hm ⊢; omega, ⟨?_, by omega, h.fa, fun e => by omega, h.ga.keep hgrow.size (fun b hb => hgrow.block b (h.ga.lt b hb).2 (fun e => h.sep b hb (.inl (by rw [hE]; exact e.symm)))), h.gb.fill hE hown hgrow hat rfl, (h.sep.symm.row (hat.imp (fun e => hE.trans e) (fun e => e)) (fun b hb => (h.ga.lt b hb).2)).symm, hlow⟩⟩
      rw [hdst, h.fr]
      exact fr8_91 _ _ _ _ _ _ _ _ _ _
    · have hs : tB' = false := hun
      subst hs
      obtain ⟨o', ho', hgd, hop, hdst⟩ := o9
      refine wpOp_step ho' (fun K' hK => step_make hgd hop (ps := #[(0, vB)]) (by rw [h.fr]; simp [evB]) (r1B w) (hK _ _ ⟨hS _ (below_alloc h.low _), sA, tA', sB, true, x0, x2, x4, x5, y0, y2, _, y5, rA, qA, rB, some w.heap.size, rfl, by simp only [left8, cond_false, cond_true] at hm ⊢; omega, ⟨?_, h.le, h.fa, fun _ => rfl, h.ga.keep (by simp) (fun b hb => ((Below.refl _ _).alloc (Nat.le_refl _) _).block b (h.ga.lt b hb).2), h.gb.aux h.low.size, (h.sep.symm.aux (fun b hb => (h.ga.lt b hb).2)).symm, below_alloc h.low _⟩⟩))
      rw [hdst, h.fr]
      exact fr8_92 _ _ _ _ _ _ _ _ _ _
    · have h9 : decide (3 ≤ sB) = false := hun
      have h8 : decide (2 ≤ sB) = true := dep 8 d108
      have h7 : tB' = true := dep 9 d109
      have hs : sB = 2 := by simp at h8 h9; omega
      subst hs h7
      obtain ⟨o', ho', hgd, hop, hdst⟩ := o10
      obtain ⟨E, ce, hE, hv2, hrow⟩ := h.gb.r2 rfl
      obtain ⟨G, hG, hv4, hcells⟩ := h.gb.q1 rfl
      have hEb := h.gb.lt E (.inl hE)
      refine wpOp_step ho' (fun K' hK => step_append_lies w hgd (.tmp 91) (.tmp 92) tB hop w0.heap.size eB iB zB szB byB hutB hiB hzB hszB hbyB hzzB hpB (.slice (some ⟨E, 0, none⟩) kB ce) kB zsB (by rw [h.fr, fr8_e91 a0 hsz]; exact hv2) (by rw [← hv2]; exact hrow) ⟨G, 0, none⟩ 1 1 usB (by rw [h.fr, fr8_e92 a0 hsz]; exact hv4) ulB hcells uoB (by omega) (by unfold maxLen; omega) (part_bytes (by omega) kpB.2.2) h.low.size _ rfl (fun g cap W hown hgrow hat hlt => ?_))
      replace hgrow : w.grownBy W (some E) := hgrow
      replace hat : some E = some g ∨ g = w.heap.size := hat
      have hlow := below_row h.low hgrow (fun b hb => by (injection hb with hb); omega)
      refine hK _ _ ⟨hS _ hlow, sA, tA', 3, true, x0, x2, x4, x5, y0, y2, y4, _, rA, qA, some g, qB, rfl, by simp only [left8, cond_true] at hm ⊢; omega, ⟨?_, by omega, h.fa, fun _ => rfl, h.ga.keep hgrow.size (fun b hb => hgrow.block b (h.ga.lt b hb).2 (fun e => h.sep b hb (.inl (by rw [hE]; exact e.symm)))), h.gb.more hE hown hgrow hat rfl, (h.sep.symm.row (hat.imp (fun e => hE.trans e) (fun e => e)) (fun b hb => (h.ga.lt b hb).2)).symm, hlow⟩⟩
      rw [hdst, h.fr]
      exact fr8_93 _ _ _ _ _ _ _ _ _ _
    · exfalso
      have hl := List.all_eq_true.1 hlate i (List.mem_range.2 (by omega))
      simp only [Bool.or_eq_true, Bool.and_eq_true, decide_eq_true_eq, List.any_eq_true, List.mem_range] at hl
      rcases hl with (hl | ⟨hl5, hl10⟩) | ⟨j, hj17, hj11, hlj⟩
      · omega
      · have h5 : decide (3 ≤ sA) = true := dep 5 hl5
        have h10 : decide (3 ≤ sB) = true := dep 10 hl10
        have e5 : sA = 3 := by simp at h5; omega
        have e10 : sB = 3 := by simp at h10; omega
        rw [h.fa e5, h.fb e10, e5, e10] at hm
        simp [left8] at hm
      · have hd := dep j hlj
        rw [lst_late hj11] at hd
        cases hd
  · exact ⟨0, false, 0, false, a0.eval (.tmp 83), a0.eval (.tmp 85), a0.eval (.tmp 87), a0.eval (.tmp 88), a0.eval (.tmp 89), a0.eval (.tmp 91), a0.eval (.tmp 92), a0.eval (.tmp 93), none, none, none, none, rfl, rfl, ⟨by unfold Fr8; rw [put_same a0 (by omega), put_same a0 (by omega), put_same a0 (by omega), put_same a0 (by omega), put_same a0 (by omega), put_same a0 (by omega), put_same a0 (by omega), put_same a0 (by omega)], by omega, (fun e => by omega), (fun e => by omega), GI.start _ _ _ _ _ _ _ _ _ _ _, GI.start _ _ _ _ _ _ _ _ _ _ _, (fun b hb => by rcases hb with hb | hb <;> cases hb), Below.refl _ _⟩⟩
end
end Go.Proofs.Ytccjbipmlpnhkaa

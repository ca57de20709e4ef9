/- Numbers are read: contracts. -/
import Derived.Test.YtkbohgabifpceaaDoorRp
import Derived.Lib.ConvBytes
namespace Go.Proofs.YtkbohgabifpceaaDoor
set_option maxRecDepth 100000
open Go.RowKit Go.ChangeShapes Go.WideShapes Go.ChangeAt
set_option linter.unusedSimpArgs false
set_option linter.unusedVariables false

theorem var_later {w w' : World} {name : String} {cs : Array Value} (h : w.var? Tryd.prog name = some cs) (hb : Below w.heap.size w w') : w'.var? Tryd.prog name = some cs := by
  unfold World.var? at *
  cases hg : Tryd.prog.globalNamed name with
  | none => simp [hg] at h
  | some g =>
    simp only [hg, Option.bind_some] at h ⊢
    have hlt : g < w.heap.size := by
      rcases Nat.lt_or_ge g w.heap.size with h1 | h1
      · exact h1
      · rw [Array.getElem?_eq_none h1] at h; cases h
    rw [hb.block g hlt]; exact h
/-- The library's variables hold what the text lays. -/
structure Vars (w : World) : Prop where
  tab : Tab w
  syn : ∃ tp p, w.var? Tryd.prog "strconv.ErrSyntax" = some #[.iface tp p]
  rng : ∃ tp p, w.var? Tryd.prog "strconv.ErrRange" = some #[.iface tp p]
  max : ∃ m, w.cell? ⟨0, 0, none⟩ = some (.int .i64 m)
theorem Vars.later {w w' : World} (h : Vars w) (hb : Below w.heap.size w w') : Vars w' := by
  obtain ⟨tp, p, h1⟩ := h.syn
  obtain ⟨tp', p', h2⟩ := h.rng
  obtain ⟨m, h3⟩ := h.max
  exact ⟨h.tab.later hb, ⟨tp, p, var_later h1 hb⟩, ⟨tp', p', var_later h2 hb⟩, m, (hb.cell (World.block_lt_of_cell? _ _ h3)).trans h3⟩
theorem Vars.alloc {w : World} (h : Vars w) (o : Obj) : Vars (w.alloc o) := h.later ((Below.refl _ _).alloc (Nat.le_refl _) o)
theorem Vars.drew {w : World} (h : Vars w) : Vars w.drew := h.later (Below.drew (Below.refl _ _))
theorem Vars.drewN {w : World} (h : Vars w) (n : Nat) : Vars (w.drewN n) := h.later (below_drewN (Below.refl _ _) n)
theorem bytes_of_text (l : List UInt8) : (strB l).data.toList = l := rfl
theorem strB_of (s : ByteArray) : strB s.data.toList = s := rfl
theorem atoiI (s : ByteArray) (hs : s.size ≤ 1048576) {w : World} (h : Vars w) :
    Calls Tryd.prog 50 #[.string s] w fun e w' => ∃ v, e = .returned (.tuple #[.int .i64 (numI s.data.toList), v]) ∧ Below w.heap.size w w' := by
  obtain ⟨tp, p, h1⟩ := h.syn
  obtain ⟨tp', p', h2⟩ := h.rng
  unfold numI
  rcases ha : Lib.atoiAll s.data.toList with v | _ | _
  · refine (Tryd.strconv_Atoi_ok s (by omega) v ha w).mono ?_
    rintro e w' ⟨rfl, hw⟩
    refine ⟨_, rfl, ?_⟩
    rcases hw with rfl | ⟨t, rfl⟩
    · exact Below.refl _ _
    · exact Lib.bytesWorld_below ..
  · refine (Any.strconv_Atoi_syntax_var Tryd.laysC172 s (by omega) ha tp p w h1).mono ?_
    rintro e w' ⟨N, rfl, _, _, hb⟩
    exact ⟨_, rfl, hb⟩
  · refine (Any.strconv_Atoi_range_var Tryd.laysC172 s (by omega) ha tp' p' w h2).mono ?_
    rintro e w' ⟨N, rfl, _, _, hb⟩
    exact ⟨_, rfl, hb⟩
theorem len_bytes (s : ByteArray) : s.data.toList.length = s.size := Array.length_toList
theorem at_bytes (s : ByteArray) {k : Nat} (hk : k < s.size) : s.data.toList.getD k 0 = s[k] := by
  have h : k < s.data.toList.length := by rw [len_bytes]; exact hk
  rw [List.getD_eq_getElem?_getD, List.getElem?_eq_getElem h]
  rfl

theorem extract_bytes (s : ByteArray) (a b : Nat) : (s.extract a b).data.toList = (s.data.toList.drop a).take (b - a) := by
  rw [ByteArray.data_extract, Array.toList_extract, List.extract_eq_take_drop]
theorem decFrom_bad {l : List UInt8} {k : Nat} (hk : k < l.length) (h : ¬ (48 ≤ (l.getD k 0).toNat ∧ (l.getD k 0).toNat ≤ 57)) : Lib.decFrom 0 l = none := by
  cases hd : Lib.decFrom 0 l with
  | none => rfl
  | some v =>
    obtain ⟨d, hd2⟩ := Lib.digit_of_decFrom l 0 v hd k (l.getD k 0) (by rw [List.getD_eq_getElem?_getD, List.getElem?_eq_getElem hk]; rfl)
    unfold Lib.digitVal at hd2
    rw [if_neg h] at hd2
    cases hd2
theorem decFrom_step {l : List UInt8} {k v : Nat} (hk : k < l.length) (h0 : 48 ≤ (l.getD k 0).toNat) (h1 : (l.getD k 0).toNat ≤ 57) (h : Lib.decFrom 0 (l.take k) = some v) : Lib.decFrom 0 (l.take (k + 1)) = some (v * 10 + ((l.getD k 0).toNat - 48)) :=
  Lib.decFrom_take l k 0 v (l.getD k 0) _ h (by rw [List.getD_eq_getElem?_getD, List.getElem?_eq_getElem hk]; rfl) (by unfold Lib.digitVal; rw [if_pos ⟨h0, h1⟩])
set_option maxRecDepth 100000 in
set_option maxHeartbeats 2000000 in
theorem l16Num_any (s : ByteArray) (hs : s.size ≤ 1048576) (w : World) :
    Calls Tryd.prog 57 #[.string s] w fun e w' => e = .returned (.tuple #[.int .i64 (numS s.data.toList).1, .bool (numS s.data.toList).2]) ∧ w = w' := by
  obtain ⟨r, hr⟩ : ∃ r, numS s.data.toList = r := ⟨_, rfl⟩
  rw [hr]
  by_cases h0 : 0 < s.size
  · obtain ⟨c, t, hct⟩ : ∃ c t, s.data.toList = c :: t := by
      cases hl : s.data.toList with
      | nil => have := len_bytes s; rw [hl] at this; simp at this; omega
      | cons c t => exact ⟨c, t, rfl⟩
    have e00 := at_bytes s h0
    rw [hct] at e00
    have hc : c = s[0] := e00
    by_cases h45 : s[0].toNat = 45
    · have h45i : ((s[0].toNat : Int) == 45) = true := by rw [beq_iff_eq]; omega
      obtain ⟨m, hm⟩ : ∃ m, s.extract 1 s.size = m := ⟨_, rfl⟩
      have hmb : m.data.toList = t := by
        have h1 := len_bytes s
        rw [hct] at h1
        rw [← hm, extract_bytes, hct, ← h1]
        simp
      have HR : Hid (numB true m.data.toList = r) := Lib.hid (by
        rw [hmb, ← hr, hct]
        show _ = (if c.toNat = 45 then _ else _)
        rw [if_pos (by rw [hc]; exact h45)])
      clear hr e00 hmb hct hc
      have hlm := len_bytes m
      by_cases hm0 : m.size = 0
      · have g0 : ((m.size : Int) == 0) = true := by rw [hm0]; rfl
        have HX := Lib.hid (HR.out.symm.trans (numB_no (neg := true) (m := m.data.toList) (.inl (by omega))))
        clear hlm
        go_enter Tryd.func57, Tryd.ntmps57
        go_wp2
        refine bodyPost_ret (v := .tuple #[.int .i64 0, .bool false]) (by simp only [results, Tryd.results57]; go_simp) rfl ?_
        exact ⟨by rw [HX.out], rfl⟩
      have g0 : ((m.size : Int) == 0) = false := by rw [beq_eq_false_iff_ne]; omega
      have hmp : 0 < m.size := by omega
      by_cases h17 : 17 < m.size
      · have g17 : decide ((17 : Int) < (m.size : Int)) = true := by rw [decide_eq_true_eq]; omega
        have HX := Lib.hid (HR.out.symm.trans (numB_no (neg := true) (m := m.data.toList) (.inr (.inl (by omega)))))
        clear hlm
        go_enter Tryd.func57, Tryd.ntmps57
        go_wp2
        refine bodyPost_ret (v := .tuple #[.int .i64 0, .bool false]) (by simp only [results, Tryd.results57]; go_simp) rfl ?_
        exact ⟨by rw [HX.out], rfl⟩
      have g17 : decide ((17 : Int) < (m.size : Int)) = false := by rw [decide_eq_false_iff_not]; omega
      have e0 := at_bytes m hmp
      by_cases hbad : m[0].toNat = 48 ∧ (1 < m.size ∨ true = true)
      · have gz : ((m[0].toNat : Int) == 48) = true := by rw [beq_iff_eq]; omega
        have g1 : (decide ((1 : Int) < (m.size : Int)) || true) = true := by first | rfl | (rcases hbad.2 with h | h <;> simp [h] <;> omega) | (rw [Bool.or_eq_true, decide_eq_true_eq]; rcases hbad.2 with h | h <;> first | exact .inr h | (left; omega))
        (try simp only [Bool.or_false, Bool.or_true] at g1)
        have HX := Lib.hid (HR.out.symm.trans (numB_no (neg := true) (m := m.data.toList) (.inr (.inr (by rw [e0, hlm]; exact hbad)))))
        clear hlm e0 hbad
        go_enter Tryd.func57, Tryd.ntmps57
        go_wp2
        all_goals
          refine bodyPost_ret (v := .tuple #[.int .i64 0, .bool false]) (by simp only [results, Tryd.results57]; go_simp) rfl ?_
          exact ⟨by rw [HX.out], rfl⟩
      have HG : Hid (¬ numBad true m.data.toList) := Lib.hid (by unfold numBad; rw [e0, hlm]; rintro (h | h | h) <;> first | omega | exact hbad h)
      have HL := Lib.hid hlm
      have gg : (((m[0].toNat : Int) == 48) && (decide ((1 : Int) < (m.size : Int)) || true)) = false := by
        cases hq : (((m[0].toNat : Int) == 48) && (decide ((1 : Int) < (m.size : Int)) || true))
        · rfl
        · rw [Bool.and_eq_true, beq_iff_eq, Bool.or_eq_true, decide_eq_true_eq] at hq
          exact absurd ⟨by omega, hq.2.imp_left (by omega)⟩ hbad
      clear hlm e0 hbad
      have hm17 : m.size ≤ 17 := by omega
      cases gz : ((m[0].toNat : Int) == 48)
      all_goals
        rw [gz] at gg
        simp only [Bool.true_and, Bool.false_and, Bool.or_eq_false_iff] at gg
      all_goals (first | (exfalso; revert gg; simp; done) | skip)
      all_goals
        go_enter Tryd.func57, Tryd.ntmps57
        go_wp2_with fail
        go_loop [5, 6] (fun x i => ∃ (k u : Nat), k ≤ m.size ∧ i = .int .i64 k ∧ x = .int .i64 u ∧ Hid (Lib.decFrom 0 (m.data.toList.take k) = some u ∧ u < 10 ^ k)) (fun _ i => m.size - (intOf i).toNat)
        case atStart => exact ⟨0, 0, by omega, rfl, rfl, Lib.hid ⟨rfl, by decide⟩⟩
        case round =>
          obtain ⟨k, u, hk, rfl, rfl, HV⟩ := hrel
          have hu : u < 100000000000000000 := Nat.lt_of_lt_of_le HV.out.2 (Nat.pow_le_pow_right (show 0 < 10 by omega) (show k ≤ 17 by omega))
          by_cases hlt : k < m.size
          · have ek := Lib.hid (at_bytes m hlt)
            by_cases hd : 48 ≤ m[k].toNat ∧ m[k].toNat ≤ 57
            · obtain ⟨hd0, hd1⟩ := hd
              have HN := Lib.hid (decFrom_step (l := m.data.toList) (k := k) (v := u) (by rw [HL.out]; exact hlt) (by rw [ek.out]; exact hd0) (by rw [ek.out]; exact hd1) HV.out.1)
              have HP : Hid (u * 10 + (m[k].toNat - 48) < 10 ^ (k + 1)) := Lib.hid (by have := HV.out.2; rw [Nat.pow_succ]; omega)
              rw [ek.out] at HN
              clear ek
              obtain ⟨z, hz⟩ : ∃ z, m[k].toNat = z := ⟨_, rfl⟩
              rw [hz] at hd0 hd1 HN HP
              have a1 : decide ((z : Int) < 48) = false := by rw [decide_eq_false_iff_not]; omega
              have a2 : decide ((57 : Int) < (z : Int)) = false := by rw [decide_eq_false_iff_not]; omega
              have w1 : IntKind.i64.wrap ((u : Int) * 10) = u * 10 := IntWalk.i64_in _ (by omega)
              have w2 : IntKind.u8.wrap ((z : Int) - 48) = z - 48 := IntWalk.u8_in _ (by omega)
              have w3 : IntKind.i64.wrap ((u : Int) * 10 + ((z : Int) - 48)) = u * 10 + (z - 48) := IntWalk.i64_in _ (by omega)
              go_wp2_with fail
              go_round
              case rel => exact ⟨k + 1, u * 10 + (z - 48), by omega, by go_num, by congr 1; omega, Lib.hid ⟨HN.out, HP.out⟩⟩
              case measure => simp [intOf]; omega
            · have HX := Lib.hid (HR.out.symm.trans (numB_bad HG.out (decFrom_bad (k := k) (by rw [HL.out]; exact hlt) (by rw [ek.out]; exact hd))))
              clear ek HG HL
              obtain ⟨z, hz⟩ : ∃ z, m[k].toNat = z := ⟨_, rfl⟩
              rw [hz] at hd
              by_cases h48 : z < 48
              · have a1 : decide ((z : Int) < 48) = true := by rw [decide_eq_true_eq]; omega
                go_wp2_with fail
                refine bodyPost_ret (v := .tuple #[.int .i64 0, .bool false]) (by simp only [results, Tryd.results57]; go_simp) rfl ?_
                exact ⟨by rw [HX.out], rfl⟩
              · have a1 : decide ((z : Int) < 48) = false := by rw [decide_eq_false_iff_not]; omega
                have a2 : decide ((57 : Int) < (z : Int)) = true := by rw [decide_eq_true_eq]; omega
                go_wp2_with fail
                refine bodyPost_ret (v := .tuple #[.int .i64 0, .bool false]) (by simp only [results, Tryd.results57]; go_simp) rfl ?_
                exact ⟨by rw [HX.out], rfl⟩
          · obtain rfl : k = m.size := by omega
            have HX := Lib.hid (HR.out.symm.trans (numB_go HG.out (v := u) (by have := HV.out.1; rwa [List.take_of_length_le (by rw [HL.out]; exact Nat.le_refl _)] at this)))
            go_wp2_with fail
            refine bodyPost_ret (v := .tuple #[.int .i64 (-(u : Int)), .bool true]) (by simp only [results, Tryd.results57]; go_simp) rfl ?_
            exact ⟨by rw [HX.out]; rfl, rfl⟩
    · have h45i : ((s[0].toNat : Int) == 45) = false := by rw [beq_eq_false_iff_ne]; omega
      have HR : Hid (numB false s.data.toList = r) := Lib.hid (by
        rw [← hr, hct]
        show _ = (if c.toNat = 45 then _ else _)
        rw [if_neg (by rw [hc]; exact h45)])
      clear hr e00 hct hc h45
      obtain ⟨m, hm⟩ : ∃ m, s = m := ⟨_, rfl⟩
      subst hm
      have hs0 := h45i
      have hlm := len_bytes s
      by_cases hm0 : s.size = 0
      · have g0 : ((s.size : Int) == 0) = true := by rw [hm0]; rfl
        have HX := Lib.hid (HR.out.symm.trans (numB_no (neg := false) (m := s.data.toList) (.inl (by omega))))
        clear hlm
        go_enter Tryd.func57, Tryd.ntmps57
        go_wp2
        refine bodyPost_ret (v := .tuple #[.int .i64 0, .bool false]) (by simp only [results, Tryd.results57]; go_simp) rfl ?_
        exact ⟨by rw [HX.out], rfl⟩
      have g0 : ((s.size : Int) == 0) = false := by rw [beq_eq_false_iff_ne]; omega
      have hmp : 0 < s.size := h0
      by_cases h17 : 17 < s.size
      · have g17 : decide ((17 : Int) < (s.size : Int)) = true := by rw [decide_eq_true_eq]; omega
        have HX := Lib.hid (HR.out.symm.trans (numB_no (neg := false) (m := s.data.toList) (.inr (.inl (by omega)))))
        clear hlm
        go_enter Tryd.func57, Tryd.ntmps57
        go_wp2
        refine bodyPost_ret (v := .tuple #[.int .i64 0, .bool false]) (by simp only [results, Tryd.results57]; go_simp) rfl ?_
        exact ⟨by rw [HX.out], rfl⟩
      have g17 : decide ((17 : Int) < (s.size : Int)) = false := by rw [decide_eq_false_iff_not]; omega
      have e0 := at_bytes s hmp
      by_cases hbad : s[0].toNat = 48 ∧ (1 < s.size ∨ false = true)
      · have gz : ((s[0].toNat : Int) == 48) = true := by rw [beq_iff_eq]; omega
        have g1 : (decide ((1 : Int) < (s.size : Int)) || false) = true := by first | rfl | (rcases hbad.2 with h | h <;> simp [h] <;> omega) | (rw [Bool.or_eq_true, decide_eq_true_eq]; rcases hbad.2 with h | h <;> first | exact .inr h | (left; omega))
        (try simp only [Bool.or_false, Bool.or_true] at g1)
        have HX := Lib.hid (HR.out.symm.trans (numB_no (neg := false) (m := s.data.toList) (.inr (.inr (by rw [e0, hlm]; exact hbad)))))
        clear hlm e0 hbad
        go_enter Tryd.func57, Tryd.ntmps57
        go_wp2
        all_goals
          refine bodyPost_ret (v := .tuple #[.int .i64 0, .bool false]) (by simp only [results, Tryd.results57]; go_simp) rfl ?_
          exact ⟨by rw [HX.out], rfl⟩
      have HG : Hid (¬ numBad false s.data.toList) := Lib.hid (by unfold numBad; rw [e0, hlm]; rintro (h | h | h) <;> first | omega | exact hbad h)
      have HL := Lib.hid hlm
      have gg : (((s[0].toNat : Int) == 48) && (decide ((1 : Int) < (s.size : Int)) || false)) = false := by
        cases hq : (((s[0].toNat : Int) == 48) && (decide ((1 : Int) < (s.size : Int)) || false))
        · rfl
        · rw [Bool.and_eq_true, beq_iff_eq, Bool.or_eq_true, decide_eq_true_eq] at hq
          exact absurd ⟨by omega, hq.2.imp_left (by omega)⟩ hbad
      clear hlm e0 hbad
      have hm17 : s.size ≤ 17 := by omega
      cases gz : ((s[0].toNat : Int) == 48)
      all_goals
        rw [gz] at gg
        simp only [Bool.true_and, Bool.false_and, Bool.or_eq_false_iff] at gg
      all_goals (first | (exfalso; revert gg; simp; done) | skip)
      all_goals
        go_enter Tryd.func57, Tryd.ntmps57
        go_wp2_with fail
        go_loop [5, 6] (fun x i => ∃ (k u : Nat), k ≤ s.size ∧ i = .int .i64 k ∧ x = .int .i64 u ∧ Hid (Lib.decFrom 0 (s.data.toList.take k) = some u ∧ u < 10 ^ k)) (fun _ i => s.size - (intOf i).toNat)
        case atStart => exact ⟨0, 0, by omega, rfl, rfl, Lib.hid ⟨rfl, by decide⟩⟩
        case round =>
          obtain ⟨k, u, hk, rfl, rfl, HV⟩ := hrel
          have hu : u < 100000000000000000 := Nat.lt_of_lt_of_le HV.out.2 (Nat.pow_le_pow_right (show 0 < 10 by omega) (show k ≤ 17 by omega))
          by_cases hlt : k < s.size
          · have ek := Lib.hid (at_bytes s hlt)
            by_cases hd : 48 ≤ s[k].toNat ∧ s[k].toNat ≤ 57
            · obtain ⟨hd0, hd1⟩ := hd
              have HN := Lib.hid (decFrom_step (l := s.data.toList) (k := k) (v := u) (by rw [HL.out]; exact hlt) (by rw [ek.out]; exact hd0) (by rw [ek.out]; exact hd1) HV.out.1)
              have HP : Hid (u * 10 + (s[k].toNat - 48) < 10 ^ (k + 1)) := Lib.hid (by have := HV.out.2; rw [Nat.pow_succ]; omega)
              rw [ek.out] at HN
              clear ek
              obtain ⟨z, hz⟩ : ∃ z, s[k].toNat = z := ⟨_, rfl⟩
              rw [hz] at hd0 hd1 HN HP
              have a1 : decide ((z : Int) < 48) = false := by rw [decide_eq_false_iff_not]; omega
              have a2 : decide ((57 : Int) < (z : Int)) = false := by rw [decide_eq_false_iff_not]; omega
              have w1 : IntKind.i64.wrap ((u : Int) * 10) = u * 10 := IntWalk.i64_in _ (by omega)
              have w2 : IntKind.u8.wrap ((z : Int) - 48) = z - 48 := IntWalk.u8_in _ (by omega)
              have w3 : IntKind.i64.wrap ((u : Int) * 10 + ((z : Int) - 48)) = u * 10 + (z - 48) := IntWalk.i64_in _ (by omega)
              go_wp2_with fail
              go_round
              case rel => exact ⟨k + 1, u * 10 + (z - 48), by omega, by go_num, by congr 1; omega, Lib.hid ⟨HN.out, HP.out⟩⟩
              case measure => simp [intOf]; omega
            · have HX := Lib.hid (HR.out.symm.trans (numB_bad HG.out (decFrom_bad (k := k) (by rw [HL.out]; exact hlt) (by rw [ek.out]; exact hd))))
              clear ek HG HL
              obtain ⟨z, hz⟩ : ∃ z, s[k].toNat = z := ⟨_, rfl⟩
              rw [hz] at hd
              by_cases h48 : z < 48
              · have a1 : decide ((z : Int) < 48) = true := by rw [decide_eq_true_eq]; omega
                go_wp2_with fail
                refine bodyPost_ret (v := .tuple #[.int .i64 0, .bool false]) (by simp only [results, Tryd.results57]; go_simp) rfl ?_
                exact ⟨by rw [HX.out], rfl⟩
              · have a1 : decide ((z : Int) < 48) = false := by rw [decide_eq_false_iff_not]; omega
                have a2 : decide ((57 : Int) < (z : Int)) = true := by rw [decide_eq_true_eq]; omega
                go_wp2_with fail
                refine bodyPost_ret (v := .tuple #[.int .i64 0, .bool false]) (by simp only [results, Tryd.results57]; go_simp) rfl ?_
                exact ⟨by rw [HX.out], rfl⟩
          · obtain rfl : k = s.size := by omega
            have HX := Lib.hid (HR.out.symm.trans (numB_go HG.out (v := u) (by have := HV.out.1; rwa [List.take_of_length_le (by rw [HL.out]; exact Nat.le_refl _)] at this)))
            go_wp2_with fail
            refine bodyPost_ret (v := .tuple #[.int .i64 (u : Int), .bool true]) (by simp only [results, Tryd.results57]; go_simp) rfl ?_
            exact ⟨by rw [HX.out]; rfl, rfl⟩
  · have hs0 : s.size = 0 := by omega
    have g0 : ((s.size : Int) == 0) = true := by rw [hs0]; rfl
    have gp : decide ((0 : Int) < (s.size : Int)) = false := by rw [decide_eq_false_iff_not]; omega
    have hl : s.data.toList = [] := by have := len_bytes s; rw [hs0] at this; exact List.length_eq_zero_iff.1 this
    have HX : Hid (r = (0, false)) := Lib.hid (by rw [← hr, hl]; exact numB_no (.inl rfl))
    clear hr hl
    go_enter Tryd.func57, Tryd.ntmps57
    go_wp2
    refine bodyPost_ret (v := .tuple #[.int .i64 0, .bool false]) (by simp only [results, Tryd.results57]; go_simp) rfl ?_
    exact ⟨by rw [HX.out], rfl⟩
end Go.Proofs.YtkbohgabifpceaaDoor

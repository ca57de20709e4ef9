/- Terms are read (the reference's l4Read). -/
import Derived.Test.YtgmeoblapnmpiaaTg
namespace Go.Proofs.Ytgmeoblapnmpiaa
set_option maxRecDepth 100000
open Go.RowKit Go.ChangeShapes Go.WideShapes Go.ChangeAt
set_option linter.unusedSimpArgs false
set_option linter.unusedVariables false

theorem word_at {s : ByteArray} {a b : Nat} (h : WordEnd s a b) : (∀ c ∈ (s.extract a b).data.toList, letter c) ∧ nolet (s.data.toList.drop b) ∧ s.data.toList.drop a = (s.extract a b).data.toList ++ s.data.toList.drop b := by
  have hl : s.data.toList.length = s.size := Array.length_toList
  have h1 := h.lo
  have h2 := h.hi
  refine ⟨?_, ?_, ?_⟩
  · intro c hc
    rw [extract_bytes] at hc
    obtain ⟨j, hj, rfl⟩ := List.mem_iff_getElem.1 hc
    rw [List.length_take, List.length_drop] at hj
    have := h.all (a + j) (by omega) (by omega) (by omega)
    rw [List.getElem_take, List.getElem_drop]
    exact this
  · intro c r e
    have hk : b < s.data.toList.length := by
      rcases Nat.lt_or_ge b s.data.toList.length with h1 | h1
      · exact h1
      · rw [List.drop_eq_nil_of_le h1] at e; cases e
    rw [List.drop_eq_getElem_cons hk] at e
    injection e with e1 _
    have := h.stop (by omega)
    rw [← e1]
    exact this
  · rw [extract_bytes]
    have e := List.take_append_drop (b - a) (s.data.toList.drop a)
    rw [List.drop_drop, show a + (b - a) = b by omega] at e
    exact e.symm
theorem head_at {f : Nat} {s s' : ByteArray} {ks' : List TermV} {X : List UInt8} {a b : Nat} (h : tshape (f + 1) (.mk s' ks') = true) (hX : stops X) (hL : s.data.toList.drop a = termL (f + 1) (.mk s' ks') ++ X) (hW : WordEnd s a b) :
    s' = s.extract a b ∧ (if ks' = [] then X else remL (termL f) X true ks') = s.data.toList.drop b := by
  obtain ⟨h1, h2, _⟩ := tshape_iff.1 h
  obtain ⟨w1, w2, w3⟩ := word_at hW
  by_cases hk : ks' = []
  · subst hk
    rw [if_pos rfl]
    rw [termL_none] at hL
    obtain ⟨p, q⟩ := names_split (l := s'.data.toList) (name_letters h1) w1 hX.nl w2 (by rw [← hL, w3])
    exact ⟨bytes_eq p, q⟩
  · rw [if_neg hk]
    rw [termL_rem (f := f) (s := s') (X := X) hk h2] at hL
    have hn : nolet (remL (termL f) X true ks') := by
      cases ks' with
      | nil => exact absurd rfl hk
      | cons p r => exact nolet_40 _
    obtain ⟨p, q⟩ := names_split (l := s'.data.toList) (name_letters h1) w1 hn w2 (by rw [← hL, w3])
    exact ⟨bytes_eq p, q⟩
theorem drop_head {s : ByteArray} {b : Nat} {c : UInt8} {r : List UInt8} (h : s.data.toList.drop b = c :: r) : ∃ hb : b < s.size, s[b] = c ∧ s.data.toList.drop (b + 1) = r := by
  have hl : s.data.toList.length = s.size := Array.length_toList
  have hk : b < s.data.toList.length := by
    rcases Nat.lt_or_ge b s.data.toList.length with h1 | h1
    · exact h1
    · rw [List.drop_eq_nil_of_le h1] at h; cases h
  rw [List.drop_eq_getElem_cons hk] at h
  injection h with h1 h2
  exact ⟨by omega, h1, h2⟩
/-- What reading from a place on gives. -/
def ReadSB (f : Nat) (s : ByteArray) (a : Nat) (w : World) (e : Ending) (w' : World) : Prop :=
  ∃ (nm : ByteArray) (v : Value) (m : Nat) (ts : List TermV) (zs : List Value) (B : Nat) (nx : Int), e = .returned (.tuple #[.agg #[.string nm, v], .int .i64 nx]) ∧
    (TermG w' B v m ts zs f ∧ (w.heap.size ≤ B ∧ B ≤ w'.heap.size) ∧ m ≤ 3 ∧ nm.size ≤ s.size ∧ (nx = -1 ∨ ((a : Int) < nx ∧ nx ≤ s.size))) ∧
    Hid (∀ (t : TermV) (X : List UInt8), tshape f t = true → stops X → s.data.toList.drop a = termL f t ++ X → 0 ≤ nx ∧ TermV.mk nm ts = t ∧ s.data.toList.drop nx.toNat = X) ∧ Below w.heap.size w w'
def PartS (f : Nat) (s nm : ByteArray) (a : Nat) (us : List TermV) (j : Nat) (b : Bool) : Prop :=
  ∀ (t : TermV) (X : List UInt8), tshape (f + 1) t = true → stops X → s.data.toList.drop a = termL (f + 1) t ++ X → ∃ rs, t = .mk nm (us ++ rs) ∧ s.data.toList.drop j = remL (termL f) X b rs ∧ (b = true → rs ≠ [])
theorem remL_first (T : TermV → List UInt8) (X : List UInt8) (ps : List TermV) : ∃ c r, remL T X false ps = c :: r ∧ (c = 44 ∨ c = 41) := by
  cases ps with
  | nil => exact ⟨41, X, rfl, .inr rfl⟩
  | cons p ps => exact ⟨44, _, rfl, .inl rfl⟩
theorem byte_nat {c : UInt8} {n : Nat} (hn : n < 256) (h : (c.toNat : Int) = (n : Int)) : c = UInt8.ofNat n := by
  apply UInt8.toNat_inj.1
  rw [UInt8.toNat_ofNat']
  omega
def ContS (s : ByteArray) (j q : Nat) : Prop := q ≤ 2 ∧ ∃ h : j < s.size, ¬ (s[j].toNat : Int) = 41
def StopS (s : ByteArray) (j q : Nat) : Prop := q = 3 ∨ j = s.size ∨ ∃ h : j < s.size, (s[j].toNat : Int) = 41
/-- nothing more is there where no right bracket stands -/
theorem PartS.none {f q a j : Nat} {s nm : ByteArray} {us : List TermV} {b : Bool} (h : PartS f s nm a us j b) (hq : us.length = q) (hF : StopS s j q) {t : TermV} {X : List UInt8} (h1 : tshape (f + 1) t = true) (h2 : stops X) (h3 : s.data.toList.drop a = termL (f + 1) t ++ X) :
    t = .mk nm us ∧ s.data.toList.drop j = 41 :: X := by
  obtain ⟨rs, rfl, h5, h6⟩ := h t X h1 h2 h3
  cases rs with
  | nil => exact ⟨by rw [List.append_nil], h5⟩
  | cons p ps =>
    exfalso
    obtain ⟨c, h7, h8⟩ := remL_head (termL f) X b p ps
    rw [h7] at h5
    obtain ⟨hj, h9, _⟩ := drop_head h5
    rcases hF with e | e | ⟨e0, e⟩
    · have := (tshape_iff.1 h1).2.1
      simp [TermV.kids] at this
      omega
    · omega
    · rw [h9] at e
      exact h8 (by apply UInt8.toNat_inj.1; have : (41 : UInt8).toNat = 41 := rfl; omega)
def NoneS (f : Nat) (s : ByteArray) (a : Nat) : Prop := ∀ (t : TermV) (X : List UInt8), tshape (f + 1) t = true → stops X → s.data.toList.drop a = termL (f + 1) t ++ X → False

def ReadSCall (f : Nat) : Prop := ∀ (s : ByteArray) (a : Nat) (x : Int) {w : World}, a ≤ s.size → s.size ≤ 1048576 → f ≤ 4 → x = (f : Int) →
    Calls Try.prog 66 #[.string s, .int .i64 a, .int .i64 x] w (ReadSB f s a w)
theorem ReadSCall.at {f : Nat} (H : ReadSCall f) (s : ByteArray) (a : Nat) (x : Int) {w : World} (h0 : a ≤ s.size) (h1 : s.size ≤ 1048576) (h2 : f ≤ 4) (h3 : x = (f : Int)) :
    Calls Try.prog 66 #[.string s, .int .i64 a, .int .i64 x] w (ReadSB f s a w) := H s a x h0 h1 h2 h3
theorem ReadSCall.at2 {f : Nat} (H : ReadSCall f) (s : ByteArray) (a : Nat) (y x : Int) {w : World} (hy : y = (a : Int)) (h0 : a ≤ s.size) (h1 : s.size ≤ 1048576) (h2 : f ≤ 4) (h3 : x = (f : Int)) :
    Calls Try.prog 66 #[.string s, .int .i64 y, .int .i64 x] w (ReadSB f s a w) := by subst hy; exact H s a x h0 h1 h2 h3
set_option maxRecDepth 100000 in
set_option maxHeartbeats 8000000 in
theorem l4Read_of {f : Nat} (IH : ∀ f', f = f' + 1 → ReadSCall f') : ReadSCall f := by
  intro s a x w ha hs hf hx
  have HXE := Lib.hid hx
  have hx1 : 0 ≤ x := by omega
  have hx5 : x ≤ 4 := by omega
  clear hx
  obtain ⟨i0, hi, zi0, zi1, zi2⟩ := info_parts term_info2
  go_enter Try.func66, Try.ntmps66
  go_wp2_with fail
  refine (l4Word_any s a ha (by omega) _).mono ?_
  rintro e w1 ⟨b, rfl, hW, rfl⟩
  have HW := Lib.hid hW
  have hab := hW.lo
  have hbs := hW.hi
  clear hW
  have hai : (a : Int) ≤ (b : Int) := by omega
  have hbi : (b : Int) ≤ (s.size : Int) := by omega
  obtain ⟨nm, hnm⟩ : ∃ m, s.extract a b = m := ⟨_, rfl⟩
  have HNM := Lib.hid hnm
  have hnz : nm.size ≤ s.size := by rw [← hnm, ByteArray.size_extract]; omega
  have hnz2 : nm.size = b - a := by rw [← hnm, ByteArray.size_extract]; omega
  by_cases hab2 : b = a
  · subst hab2
    have HC : Hid (∀ (t : TermV) (X : List UInt8), tshape f t = true → stops X → s.data.toList.drop b = termL f t ++ X → False) := Lib.hid (fun t X h1 h2 h3 => by
      cases f with
      | zero => cases h1
      | succ f' =>
        obtain ⟨s', ks'⟩ := t
        have h4 := (head_at h1 h2 h3 HW.out).1
        have h5 := (name_len (tshape_iff.1 h1).1).1
        rw [show TermV.name (.mk s' ks') = s' from rfl, h4, HNM.out] at h5
        omega)
    have hem : nm = ByteArray.empty := by rw [← hnm]; simp
    clear hnm
    subst hem
    go_wp2_with fail
    exact bodyPost_ret (v := .tuple #[.agg #[.string ByteArray.empty, .slice none 0 0], .int .i64 (-1)]) (by simp only [results, Try.results66]; go_simp) rfl ⟨_, _, 0, [], [], w.heap.size, _, rfl, ⟨(TermG.nil _ _ _), ⟨by omega, (by first | omega | (simp; done) | (simp; omega))⟩, by omega, hnz, by omega⟩, Lib.hid (fun t X h1 h2 h3 => absurd (HC.out t X h1 h2 h3) (fun h => h)), by (repeat (first | with_reducible exact Below.refl _ _ | with_reducible assumption | (with_reducible refine below_drewN ?_ _) | (with_reducible refine Below.drew ?_) | (with_reducible refine Below.setCell ?_ (by first | omega | (simp; done) | (simp; omega)) _) | (with_reducible refine Below.alloc ?_ (by first | omega | (simp; done) | (simp; omega)) _) | refine Below.trans ?_ (Below.mono (by with_reducible assumption) (by first | omega | (simp; done) | (simp; omega)))))⟩
  have hbe : ((b : Int) == (a : Int)) = false := by rw [beq_eq_false_iff_ne]; omega
  cases f with
  | zero =>
    have hx0 : x < 1 := by have := HXE.out; omega
    go_wp2_with fail
    exact bodyPost_ret (v := .tuple #[.agg #[.string nm, .slice none 0 0], .int .i64 (-1)]) (by simp only [results, Try.results66]; go_simp) rfl ⟨_, _, 0, [], [], w.heap.size, _, rfl, ⟨(TermG.nil _ _ _), ⟨by omega, (by first | omega | (simp; done) | (simp; omega))⟩, by omega, hnz, by omega⟩, Lib.hid (fun t X h1 h2 h3 => by cases h1), by (repeat (first | with_reducible exact Below.refl _ _ | with_reducible assumption | (with_reducible refine below_drewN ?_ _) | (with_reducible refine Below.drew ?_) | (with_reducible refine Below.setCell ?_ (by first | omega | (simp; done) | (simp; omega)) _) | (with_reducible refine Below.alloc ?_ (by first | omega | (simp; done) | (simp; omega)) _) | refine Below.trans ?_ (Below.mono (by with_reducible assumption) (by first | omega | (simp; done) | (simp; omega)))))⟩
  | succ f' =>
    have hx0 : ¬ x < 1 := by have := HXE.out; omega
    have hx2 : 1 ≤ x := by omega
    have hl : s.data.toList.length = s.size := Array.length_toList
    by_cases hb40 : ∃ h : b < s.size, (s[b].toNat : Int) = 40
    · obtain ⟨hbl, h40⟩ := hb40
      have HD : Hid (s.data.toList.drop b = 40 :: s.data.toList.drop (b + 1)) := Lib.hid (by
        rw [List.drop_eq_getElem_cons (by omega)]
        have : s.data.toList[b] = 40 := by apply UInt8.toNat_inj.1; show s[b].toNat = 40; omega
        rw [this])
      have HP0 : Hid (PartS f' s nm a [] b true) := Lib.hid (fun t X h1 h2 h3 => by
        obtain ⟨s', ks'⟩ := t
        obtain ⟨h4, h5⟩ := head_at h1 h2 h3 HW.out
        rw [HNM.out] at h4
        cases ks' with
        | nil =>
          rw [if_pos rfl, HD.out] at h5
          exact absurd rfl (h2 _ _ h5).2
        | cons p ps => exact ⟨p :: ps, by rw [h4]; rfl, by rw [← h5, if_neg (by simp)], fun _ => by simp⟩)
      have hge : decide ((s.size : Int) ≤ (b : Int)) = false := by rw [decide_eq_false_iff_not]; omega
      have hge1 : decide (s.size ≤ b) = false := by rw [decide_eq_false_iff_not]; omega
      have hne : ((s[b].toNat : Int) != 40) = false := by simp [h40]
      clear h40
      go_wp2_with fail
      have hT6 : T2c ((w.alloc (.cells #[.string ⟨#[]⟩, .slice none 0 0] 30)).alloc (.cells #[.string nm, .slice none 0 0] 30)) w.heap.size ⟨#[]⟩ (.slice none 0 0) := ⟨by go_simp, by go_simp, by go_simp, by go_simp⟩
      have hT9 : T2c ((w.alloc (.cells #[.string ⟨#[]⟩, .slice none 0 0] 30)).alloc (.cells #[.string nm, .slice none 0 0] 30)) (w.heap.size + 1) nm (.slice none 0 0) := ⟨by go_simp, by go_simp, by go_simp, by go_simp⟩
      have HI : Hid (ReadSCall f') := Lib.hid (IH f' rfl)
      go_loopw [1] (fun s1 wr => ∃ (j q : Nat) (v : Value) (us : List TermV) (zs : List Value), s1 = .int .i64 j ∧ (j ≤ s.size ∧ b ≤ j) ∧ q ≤ 3 ∧ TermG wr (w.heap.size + 1 + 1) v q us zs (f' + 1) ∧ T2c wr w.heap.size ⟨#[]⟩ (.slice none 0 0) ∧ T2c wr (w.heap.size + 1) nm v ∧ Hid (PartS f' s nm a us j (q == 0)) ∧ Below w.heap.size w wr) (fun s1 _ => s.size - (intOf s1).toNat)
      case atStart => exact ⟨b, 0, _, [], [], rfl, ⟨by omega, by omega⟩, by omega, TermG.nil _ _ _, hT6, hT9, HP0, by (repeat (first | with_reducible exact Below.refl _ _ | with_reducible assumption | (with_reducible refine below_drewN ?_ _) | (with_reducible refine Below.drew ?_) | (with_reducible refine Below.setCell ?_ (by first | omega | (simp; done) | (simp; omega)) _) | (with_reducible refine Below.alloc ?_ (by first | omega | (simp; done) | (simp; omega)) _) | refine Below.trans ?_ (Below.mono (by with_reducible assumption) (by first | omega | (simp; done) | (simp; omega)))))⟩
      case round =>
        clear hT6 hT9 HP0 HD
        obtain ⟨j, q, v, us, zs, rfl, ⟨hjs, hbj⟩, hq3, hG, hT6, hT9, HP, hB⟩ := hrel
        have hzr := hB.size
        obtain ⟨Av, cv, rfl⟩ := hG.form
        have h9l := hT9.lt
        have hul := hG.len
        obtain ⟨a0, a1, a2, a3⟩ := hT6
        obtain ⟨b0, b1, b2, b3⟩ := hT9
        go_upto_region 8 with fail
        go_cut [56] (fun s56 wx => ∃ bb : Bool, s56 = .bool bb ∧ (bb = true → ContS s j q) ∧ (bb = false → StopS s j q) ∧ wx = wr)
        case first =>
          by_cases hq2 : q ≤ 2
          · have hqi : (q : Int) ≤ 2 := by omega
            by_cases hjl : j < s.size
            · have hji : (j : Int) < (s.size : Int) := by omega
              by_cases h41 : (s[j].toNat : Int) = 41
              · have hm1 : ((s[j].toNat : Int) != 41) = false := by simp [h41]
                have HE : Hid (∃ h : j < s.size, (s[j].toNat : Int) = 41) := Lib.hid ⟨hjl, h41⟩
                clear h41
                go_wp2_with fail
                go_meet
                exact ⟨false, rfl, (fun h => by cases h), (fun _ => .inr (.inr HE.out)), rfl⟩
              · have hm1 : ((s[j].toNat : Int) != 41) = true := by simpa using h41
                have HE : Hid (∃ h : j < s.size, ¬ (s[j].toNat : Int) = 41) := Lib.hid ⟨hjl, h41⟩
                go_wp2_with fail
                go_meet
                exact ⟨true, rfl, (fun _ => ⟨hq2, HE.out⟩), (fun h => by cases h), rfl⟩
            · have hji : ¬ (j : Int) < (s.size : Int) := by omega
              have HE : Hid (StopS s j q) := Lib.hid (.inr (.inl (by omega)))
              go_wp2_with fail
              go_meet
              exact ⟨false, rfl, (fun h => by cases h), (fun _ => HE.out), rfl⟩
          · have hqi : ¬ (q : Int) ≤ 2 := by omega
            have HE : Hid (StopS s j q) := Lib.hid (.inl (by omega))
            go_wp2_with fail
            go_meet
            exact ⟨false, rfl, (fun h => by cases h), (fun _ => HE.out), rfl⟩
        case rest =>
          obtain ⟨bb, rfl, hT, hF, rfl⟩ := hcut
          cases bb
          · have HF := Lib.hid (hF rfl)
            clear hT hF
            by_cases h41 : ∃ h : j < s.size, (s[j].toNat : Int) = 41
            · obtain ⟨hjl, h41⟩ := h41
              have hge : ¬ ((s.size : Int) ≤ (j : Int)) := by omega
              have hm1 : ((s[j].toNat : Int) != 41) = false := by simp [h41]
              have HC : Hid (∀ (t : TermV) (X : List UInt8), tshape (f' + 1) t = true → stops X → s.data.toList.drop a = termL (f' + 1) t ++ X → TermV.mk nm us = t ∧ s.data.toList.drop (j + 1) = X) := Lib.hid (fun t X h1 h2 h3 => by
                obtain ⟨h4, h5⟩ := HP.out.none hul HF.out h1 h2 h3
                obtain ⟨_, _, h6⟩ := drop_head h5
                exact ⟨h4.symm, h6⟩)
              clear h41
              go_wp2_with fail
              exact bodyPost_ret (v := .tuple #[.agg #[.string nm, .slice Av q cv], .int .i64 ((j : Int) + 1)]) (by simp only [results, Try.results66]; go_simp) rfl ⟨_, _, q, us, zs, w.heap.size + 1 + 1, _, rfl, ⟨((hG.set (p := ⟨w.heap.size, 0, none⟩) (by dsimp only; omega) _).set (p := ⟨w.heap.size, 1, none⟩) (by dsimp only; omega) _), ⟨by omega, (by first | omega | (simp; done) | (simp; omega))⟩, by omega, hnz, by omega⟩, Lib.hid (fun t X h1 h2 h3 => ⟨by omega, (HC.out t X h1 h2 h3).1, by rw [show ((j : Int) + 1).toNat = j + 1 by omega]; exact (HC.out t X h1 h2 h3).2⟩), by (repeat (first | with_reducible exact Below.refl _ _ | with_reducible assumption | (with_reducible refine below_drewN ?_ _) | (with_reducible refine Below.drew ?_) | (with_reducible refine Below.setCell ?_ (by first | omega | (simp; done) | (simp; omega)) _) | (with_reducible refine Below.alloc ?_ (by first | omega | (simp; done) | (simp; omega)) _) | refine Below.trans ?_ (Below.mono (by with_reducible assumption) (by first | omega | (simp; done) | (simp; omega)))))⟩
            · have HN : Hid (∀ (t : TermV) (X : List UInt8), tshape (f' + 1) t = true → stops X → s.data.toList.drop a = termL (f' + 1) t ++ X → False) := Lib.hid (fun t X h1 h2 h3 => by
                obtain ⟨_, h5⟩ := HP.out.none hul HF.out h1 h2 h3
                obtain ⟨h6, h7, _⟩ := drop_head h5
                exact h41 ⟨h6, by rw [h7]; rfl⟩)
              by_cases hjl : j < s.size
              · have hge2 : ¬ ((s.size : Int) ≤ (j : Int)) := by omega
                have hm1 : ((s[j].toNat : Int) != 41) = true := by
                  have : ¬ (s[j].toNat : Int) = 41 := fun h => h41 ⟨hjl, h⟩
                  simpa using this
                go_wp2_with fail
                exact bodyPost_ret (v := .tuple #[.agg #[.string nm, .slice Av q cv], .int .i64 (-1)]) (by simp only [results, Try.results66]; go_simp) rfl ⟨_, _, q, us, zs, w.heap.size + 1 + 1, _, rfl, ⟨((hG.set (p := ⟨w.heap.size, 0, none⟩) (by dsimp only; omega) _).set (p := ⟨w.heap.size, 1, none⟩) (by dsimp only; omega) _), ⟨by omega, (by first | omega | (simp; done) | (simp; omega))⟩, by omega, hnz, by omega⟩, Lib.hid (fun t X h1 h2 h3 => absurd (HN.out t X h1 h2 h3) (fun h => h)), by (repeat (first | with_reducible exact Below.refl _ _ | with_reducible assumption | (with_reducible refine below_drewN ?_ _) | (with_reducible refine Below.drew ?_) | (with_reducible refine Below.setCell ?_ (by first | omega | (simp; done) | (simp; omega)) _) | (with_reducible refine Below.alloc ?_ (by first | omega | (simp; done) | (simp; omega)) _) | refine Below.trans ?_ (Below.mono (by with_reducible assumption) (by first | omega | (simp; done) | (simp; omega)))))⟩
              · have hge2 : (s.size : Int) ≤ (j : Int) := by omega
                go_wp2_with fail
                exact bodyPost_ret (v := .tuple #[.agg #[.string nm, .slice Av q cv], .int .i64 (-1)]) (by simp only [results, Try.results66]; go_simp) rfl ⟨_, _, q, us, zs, w.heap.size + 1 + 1, _, rfl, ⟨((hG.set (p := ⟨w.heap.size, 0, none⟩) (by dsimp only; omega) _).set (p := ⟨w.heap.size, 1, none⟩) (by dsimp only; omega) _), ⟨by omega, (by first | omega | (simp; done) | (simp; omega))⟩, by omega, hnz, by omega⟩, Lib.hid (fun t X h1 h2 h3 => absurd (HN.out t X h1 h2 h3) (fun h => h)), by (repeat (first | with_reducible exact Below.refl _ _ | with_reducible assumption | (with_reducible refine below_drewN ?_ _) | (with_reducible refine Below.drew ?_) | (with_reducible refine Below.setCell ?_ (by first | omega | (simp; done) | (simp; omega)) _) | (with_reducible refine Below.alloc ?_ (by first | omega | (simp; done) | (simp; omega)) _) | refine Below.trans ?_ (Below.mono (by with_reducible assumption) (by first | omega | (simp; done) | (simp; omega)))))⟩
          · obtain ⟨hq, hjl, h41⟩ := hT rfl
            clear hT hF
            have HSTEP : Hid (∀ (t : TermV) (X : List UInt8), tshape (f' + 1) t = true → stops X → s.data.toList.drop a = termL (f' + 1) t ++ X → ∃ (p : TermV) (ps : List TermV), t = .mk nm (us ++ p :: ps) ∧ tshape f' p = true ∧ s.data.toList.drop (j + 1) = termL f' p ++ remL (termL f') X false ps) := Lib.hid (fun t X h1 h2 h3 => by
              obtain ⟨rs, rfl, h5, h6⟩ := HP.out t X h1 h2 h3
              cases rs with
              | nil =>
                exfalso
                obtain ⟨_, h9, _⟩ := drop_head h5
                exact h41 (by rw [h9]; rfl)
              | cons p ps =>
                obtain ⟨c, h7, _⟩ := remL_head (termL f') X (q == 0) p ps
                rw [h7] at h5
                obtain ⟨_, _, h9⟩ := drop_head h5
                refine ⟨p, ps, rfl, ?_, h9⟩
                have h8 := (tshape_iff.1 h1).2.2 us.length (by simp [TermV.kids])
                rw [show TermV.kids (.mk nm (us ++ p :: ps)) = us ++ p :: ps from rfl, List.getD_eq_getElem?_getD, List.getElem?_append_right (Nat.le_refl _), Nat.sub_self] at h8
                exact h8)
            clear h41
            go_wp2_with fail
            refine (ReadSCall.at2 HI.out s (j + 1) _ (x - 1) (by omega) (by omega) hs (by omega) (by have := HXE.out; omega)).mono ?_
            rintro e w2 ⟨nm1, v1, m1, ts1, zs1, B1, nx, rfl, ⟨hG1, ⟨hB1, hB1'⟩, hm1, hnm1, hnx⟩, HC1, hb1⟩
            obtain ⟨A1, c1, rfl⟩ := hG1.form
            have hz2 := hb1.size
            have hB2 : Below w.heap.size w w2 := hB.trans (hb1.mono hzr)
            obtain ⟨d0, d1, d2, d3⟩ := (T2c.later ⟨a0, a1, a2, a3⟩ hb1 : T2c w2 w.heap.size ⟨#[]⟩ (.slice none 0 0))
            obtain ⟨e0, e1, e2, e3⟩ := (T2c.later ⟨b0, b1, b2, b3⟩ hb1 : T2c w2 (w.heap.size + 1) nm (.slice Av q cv))
            have hG2 := hG.later hb1
            have hzw0 : w.heap.size < w2.heap.size := by omega
            have hzw1 : w.heap.size + 1 < w2.heap.size := by omega
            have HGOOD : Hid (∀ (t : TermV) (X : List UInt8), tshape (f' + 1) t = true → stops X → s.data.toList.drop a = termL (f' + 1) t ++ X → 0 ≤ nx ∧ ∃ h : nx.toNat < s.size, (s[nx.toNat].toNat : Int) = 44 ∨ (s[nx.toNat].toNat : Int) = 41) := Lib.hid (fun t X h1 h2 h3 => by
              obtain ⟨p, ps, _, h5, h6⟩ := HSTEP.out t X h1 h2 h3
              obtain ⟨h7, _, h8⟩ := HC1.out p _ h5 (remL_stops _ X ps) h6
              obtain ⟨c, r, h9, h10⟩ := remL_first (termL f') X ps
              rw [h9] at h8
              obtain ⟨h11, h12, _⟩ := drop_head h8
              refine ⟨h7, h11, ?_⟩
              rw [h12]
              rcases h10 with rfl | rfl
              · exact .inl rfl
              · exact .inr rfl)
            clear a0 a1 a2 a3 b0 b1 b2 b3 hb1
            rcases hnx with rfl | ⟨hn1, hn2⟩
            · have HN : Hid (NoneS f' s a) := Lib.hid (fun t X h1 h2 h3 => by have := (HGOOD.out t X h1 h2 h3).1; omega)
              go_wp2_with fail
              exact bodyPost_ret (v := .tuple #[.agg #[.string nm, .slice Av q cv], .int .i64 (-1)]) (by simp only [results, Try.results66]; go_simp) rfl ⟨_, _, q, us, zs, w.heap.size + 1 + 1, _, rfl, ⟨(TermG.alloc ((hG2.set (p := ⟨w.heap.size, 0, none⟩) (by dsimp only; omega) _).set (p := ⟨w.heap.size, 1, none⟩) (by dsimp only; omega) _) _), ⟨by omega, (by first | omega | (simp; done) | (simp; omega))⟩, by omega, hnz, by omega⟩, Lib.hid (fun t X h1 h2 h3 => absurd (HN.out t X h1 h2 h3) (fun h => h)), by (repeat (first | with_reducible exact Below.refl _ _ | with_reducible assumption | (with_reducible refine below_drewN ?_ _) | (with_reducible refine Below.drew ?_) | (with_reducible refine Below.setCell ?_ (by first | omega | (simp; done) | (simp; omega)) _) | (with_reducible refine Below.alloc ?_ (by first | omega | (simp; done) | (simp; omega)) _) | refine Below.trans ?_ (Below.mono (by with_reducible assumption) (by first | omega | (simp; done) | (simp; omega)))))⟩
            obtain ⟨j2, rfl⟩ := Int.eq_ofNat_of_zero_le (show 0 ≤ nx by omega)
            by_cases hj2 : j2 < s.size
            · have hge2 : decide ((s.size : Int) ≤ (j2 : Int)) = false := by rw [decide_eq_false_iff_not]; omega
              have hneg : ¬ (j2 : Int) < 0 := by omega
              by_cases h44 : (s[j2].toNat : Int) = 44
              · have hm1 : ((s[j2].toNat : Int) != 44) = false := by simp [h44]
                clear h44 HGOOD
                have HPN : Hid (PartS f' s nm a (us ++ [.mk nm1 ts1]) j2 (q + 1 == 0)) := Lib.hid (fun t X h1 h2 h3 => by
                  obtain ⟨p, ps, h4, h5, h6⟩ := HSTEP.out t X h1 h2 h3
                  obtain ⟨_, h7, h8⟩ := HC1.out p _ h5 (remL_stops _ X ps) h6
                  refine ⟨ps, by rw [h4, h7, List.append_assoc]; rfl, ?_, fun h => by simp at h⟩
                  rw [Int.toNat_natCast] at h8
                  rw [h8]
                  have e : (q + 1 == 0) = false := by simp
                  rw [e])
                have hG1k := Lib.hid (hG1.kids (by omega))
                have hbW : Below w2.heap.size w2 ((w2.alloc (.cells #[.string nm1, .slice A1 m1 c1] 30)).alloc (.cells #[.string nm1, .slice A1 m1 c1] 30)) := by (repeat (first | with_reducible exact Below.refl _ _ | with_reducible assumption | (with_reducible refine below_drewN ?_ _) | (with_reducible refine Below.drew ?_) | (with_reducible refine Below.setCell ?_ (by first | omega | (simp; done) | (simp; omega)) _) | (with_reducible refine Below.alloc ?_ (by first | omega | (simp; done) | (simp; omega)) _) | refine Below.trans ?_ (Below.mono (by with_reducible assumption) (by first | omega | (simp; done) | (simp; omega)))))
                have HGW := Lib.hid (hG2.later hbW)
                have HT4 := Lib.hid ((⟨d0, d1, d2, d3⟩ : T2c w2 w.heap.size ⟨#[]⟩ (.slice none 0 0)).later hbW)
                have HT8 := Lib.hid ((⟨e0, e1, e2, e3⟩ : T2c w2 (w.heap.size + 1) nm (.slice Av q cv)).later hbW)
                have HKX := Lib.hid (hG1k.out.into hG.own (by omega) (by omega))
                clear hG1 hG2 HC1 hB1'
                go_wp2_with (first | (at_builtin; refine wpList_append_lies _ (by rfl) (.tmp 88) (.tmp 90) _ (by rfl) (w.heap.size + 1 + 1) 30 i0 _ 2 40 Try.underlying28 hi zi0 zi1 zi2 rfl (by omega) (.slice Av q cv) q zs (by rfl) HGW.out.own ⟨w2.heap.size + 1, 0, none⟩ 1 1 [.string nm1, .slice A1 m1 c1] (by rfl) (by rfl) (news2 (by first | omega | (simp; done) | (simp; omega))) (by simp [Value.oneCell']) (by omega) (by unfold maxLen; omega) (by omega) (by first | omega | (simp; done) | (simp; omega)) _ rfl ?_; intro g' cap' wq hown3 hgrow hat hlt2; have hq1 := HT4.out.grown hgrow (fun e => by have := (HGW.out.own.lt _ e).1; omega); have hq2 := HT8.out.grown hgrow (fun e => by have := (HGW.out.own.lt _ e).1; omega); clear d0 d1 d2 d3 e0 e1 e2 e3; obtain ⟨d0, d1, d2, d3⟩ := hq1; obtain ⟨e0, e1, e2, e3⟩ := hq2))
                have hG3 := HGW.out.app (us := [.mk nm1 ts1]) hown3 hgrow hat rfl rfl (fun j hj => by
                  obtain rfl : j = 0 := by omega
                  exact ⟨_, _, _, HKX.out.step (Same.below hbW), (by show nm1.size ≤ _; omega), rfl, rfl⟩)
                have hbq : Below w.heap.size w wq := Below.grown (hB2.trans (hbW.mono (by omega))) hgrow (by first | omega | (simp; done) | (simp; omega)) (fun j hj => by have := (HGW.out.own.lt j hj).1; omega)
                have hzq := hgrow.size
                (try simp at hzq)
                have HG4 := Lib.hid (hG3.set (p := ⟨w.heap.size + 1, 1, none⟩) (by dsimp only; omega) (.slice (some ⟨g', 0, none⟩) (q + 1) cap'))
                have HT4' := Lib.hid ((⟨d0, d1, d2, d3⟩ : T2c wq w.heap.size ⟨#[]⟩ (.slice none 0 0)).far (p := ⟨w.heap.size + 1, 1, none⟩) (by dsimp only; omega) (.slice (some ⟨g', 0, none⟩) (q + 1) cap'))
                have HT8' := Lib.hid ((⟨e0, e1, e2, e3⟩ : T2c wq (w.heap.size + 1) nm (.slice Av q cv)).put1 (v := .slice (some ⟨g', 0, none⟩) (q + 1) cap'))
                clear hown3 hgrow hat hlt2 hG3 HGW HT4 HT8 HKX hG1k hbW
                go_wp2
                go_roundw
                case rel => exact ⟨j2, q + 1, _, _, _, rfl, ⟨by omega, by omega⟩, by omega, HG4.out, HT4'.out, HT8'.out, HPN, by (repeat (first | with_reducible exact Below.refl _ _ | with_reducible assumption | (with_reducible refine below_drewN ?_ _) | (with_reducible refine Below.drew ?_) | (with_reducible refine Below.setCell ?_ (by first | omega | (simp; done) | (simp; omega)) _) | (with_reducible refine Below.alloc ?_ (by first | omega | (simp; done) | (simp; omega)) _) | refine Below.trans ?_ (Below.mono (by with_reducible assumption) (by first | omega | (simp; done) | (simp; omega)))))⟩
                case measure => simp [intOf]; omega
              · have hm1 : ((s[j2].toNat : Int) != 44) = true := by simpa using h44
                by_cases h41 : (s[j2].toNat : Int) = 41
                · have hm2 : ((s[j2].toNat : Int) != 41) = false := by simp [h41]
                  clear h41 h44 HGOOD
                  have HPN : Hid (PartS f' s nm a (us ++ [.mk nm1 ts1]) j2 (q + 1 == 0)) := Lib.hid (fun t X h1 h2 h3 => by
                    obtain ⟨p, ps, h4, h5, h6⟩ := HSTEP.out t X h1 h2 h3
                    obtain ⟨_, h7, h8⟩ := HC1.out p _ h5 (remL_stops _ X ps) h6
                    refine ⟨ps, by rw [h4, h7, List.append_assoc]; rfl, ?_, fun h => by simp at h⟩
                    rw [Int.toNat_natCast] at h8
                    rw [h8]
                    have e : (q + 1 == 0) = false := by simp
                    rw [e])
                  have hG1k := Lib.hid (hG1.kids (by omega))
                  have hbW : Below w2.heap.size w2 ((w2.alloc (.cells #[.string nm1, .slice A1 m1 c1] 30)).alloc (.cells #[.string nm1, .slice A1 m1 c1] 30)) := by (repeat (first | with_reducible exact Below.refl _ _ | with_reducible assumption | (with_reducible refine below_drewN ?_ _) | (with_reducible refine Below.drew ?_) | (with_reducible refine Below.setCell ?_ (by first | omega | (simp; done) | (simp; omega)) _) | (with_reducible refine Below.alloc ?_ (by first | omega | (simp; done) | (simp; omega)) _) | refine Below.trans ?_ (Below.mono (by with_reducible assumption) (by first | omega | (simp; done) | (simp; omega)))))
                  have HGW := Lib.hid (hG2.later hbW)
                  have HT4 := Lib.hid ((⟨d0, d1, d2, d3⟩ : T2c w2 w.heap.size ⟨#[]⟩ (.slice none 0 0)).later hbW)
                  have HT8 := Lib.hid ((⟨e0, e1, e2, e3⟩ : T2c w2 (w.heap.size + 1) nm (.slice Av q cv)).later hbW)
                  have HKX := Lib.hid (hG1k.out.into hG.own (by omega) (by omega))
                  clear hG1 hG2 HC1 hB1'
                  go_wp2_with (first | (at_builtin; refine wpList_append_lies _ (by rfl) (.tmp 88) (.tmp 90) _ (by rfl) (w.heap.size + 1 + 1) 30 i0 _ 2 40 Try.underlying28 hi zi0 zi1 zi2 rfl (by omega) (.slice Av q cv) q zs (by rfl) HGW.out.own ⟨w2.heap.size + 1, 0, none⟩ 1 1 [.string nm1, .slice A1 m1 c1] (by rfl) (by rfl) (news2 (by first | omega | (simp; done) | (simp; omega))) (by simp [Value.oneCell']) (by omega) (by unfold maxLen; omega) (by omega) (by first | omega | (simp; done) | (simp; omega)) _ rfl ?_; intro g' cap' wq hown3 hgrow hat hlt2; have hq1 := HT4.out.grown hgrow (fun e => by have := (HGW.out.own.lt _ e).1; omega); have hq2 := HT8.out.grown hgrow (fun e => by have := (HGW.out.own.lt _ e).1; omega); clear d0 d1 d2 d3 e0 e1 e2 e3; obtain ⟨d0, d1, d2, d3⟩ := hq1; obtain ⟨e0, e1, e2, e3⟩ := hq2))
                  have hG3 := HGW.out.app (us := [.mk nm1 ts1]) hown3 hgrow hat rfl rfl (fun j hj => by
                    obtain rfl : j = 0 := by omega
                    exact ⟨_, _, _, HKX.out.step (Same.below hbW), (by show nm1.size ≤ _; omega), rfl, rfl⟩)
                  have hbq : Below w.heap.size w wq := Below.grown (hB2.trans (hbW.mono (by omega))) hgrow (by first | omega | (simp; done) | (simp; omega)) (fun j hj => by have := (HGW.out.own.lt j hj).1; omega)
                  have hzq := hgrow.size
                  (try simp at hzq)
                  have HG4 := Lib.hid (hG3.set (p := ⟨w.heap.size + 1, 1, none⟩) (by dsimp only; omega) (.slice (some ⟨g', 0, none⟩) (q + 1) cap'))
                  have HT4' := Lib.hid ((⟨d0, d1, d2, d3⟩ : T2c wq w.heap.size ⟨#[]⟩ (.slice none 0 0)).far (p := ⟨w.heap.size + 1, 1, none⟩) (by dsimp only; omega) (.slice (some ⟨g', 0, none⟩) (q + 1) cap'))
                  have HT8' := Lib.hid ((⟨e0, e1, e2, e3⟩ : T2c wq (w.heap.size + 1) nm (.slice Av q cv)).put1 (v := .slice (some ⟨g', 0, none⟩) (q + 1) cap'))
                  clear hown3 hgrow hat hlt2 hG3 HGW HT4 HT8 HKX hG1k hbW
                  go_wp2
                  go_roundw
                  case rel => exact ⟨j2, q + 1, _, _, _, rfl, ⟨by omega, by omega⟩, by omega, HG4.out, HT4'.out, HT8'.out, HPN, by (repeat (first | with_reducible exact Below.refl _ _ | with_reducible assumption | (with_reducible refine below_drewN ?_ _) | (with_reducible refine Below.drew ?_) | (with_reducible refine Below.setCell ?_ (by first | omega | (simp; done) | (simp; omega)) _) | (with_reducible refine Below.alloc ?_ (by first | omega | (simp; done) | (simp; omega)) _) | refine Below.trans ?_ (Below.mono (by with_reducible assumption) (by first | omega | (simp; done) | (simp; omega)))))⟩
                  case measure => simp [intOf]; omega
                · have hm2 : ((s[j2].toNat : Int) != 41) = true := by simpa using h41
                  have HN : Hid (NoneS f' s a) := Lib.hid (fun t X h1 h2 h3 => by
                    obtain ⟨_, _, h⟩ := HGOOD.out t X h1 h2 h3
                    rcases h with h | h
                    · exact h44 h
                    · exact h41 h)
                  go_wp2_with fail
                  exact bodyPost_ret (v := .tuple #[.agg #[.string nm, .slice Av q cv], .int .i64 (-1)]) (by simp only [results, Try.results66]; go_simp) rfl ⟨_, _, q, us, zs, w.heap.size + 1 + 1, _, rfl, ⟨(TermG.alloc ((hG2.set (p := ⟨w.heap.size, 0, none⟩) (by dsimp only; omega) _).set (p := ⟨w.heap.size, 1, none⟩) (by dsimp only; omega) _) _), ⟨by omega, (by first | omega | (simp; done) | (simp; omega))⟩, by omega, hnz, by omega⟩, Lib.hid (fun t X h1 h2 h3 => absurd (HN.out t X h1 h2 h3) (fun h => h)), by (repeat (first | with_reducible exact Below.refl _ _ | with_reducible assumption | (with_reducible refine below_drewN ?_ _) | (with_reducible refine Below.drew ?_) | (with_reducible refine Below.setCell ?_ (by first | omega | (simp; done) | (simp; omega)) _) | (with_reducible refine Below.alloc ?_ (by first | omega | (simp; done) | (simp; omega)) _) | refine Below.trans ?_ (Below.mono (by with_reducible assumption) (by first | omega | (simp; done) | (simp; omega)))))⟩
            · have hge2 : (s.size : Int) ≤ (j2 : Int) := by omega
              have hneg : ¬ (j2 : Int) < 0 := by omega
              have HN : Hid (NoneS f' s a) := Lib.hid (fun t X h1 h2 h3 => by
                obtain ⟨_, h, _⟩ := HGOOD.out t X h1 h2 h3
                rw [Int.toNat_natCast] at h
                omega)
              go_wp2_with fail
              exact bodyPost_ret (v := .tuple #[.agg #[.string nm, .slice Av q cv], .int .i64 (-1)]) (by simp only [results, Try.results66]; go_simp) rfl ⟨_, _, q, us, zs, w.heap.size + 1 + 1, _, rfl, ⟨(TermG.alloc ((hG2.set (p := ⟨w.heap.size, 0, none⟩) (by dsimp only; omega) _).set (p := ⟨w.heap.size, 1, none⟩) (by dsimp only; omega) _) _), ⟨by omega, (by first | omega | (simp; done) | (simp; omega))⟩, by omega, hnz, by omega⟩, Lib.hid (fun t X h1 h2 h3 => absurd (HN.out t X h1 h2 h3) (fun h => h)), by (repeat (first | with_reducible exact Below.refl _ _ | with_reducible assumption | (with_reducible refine below_drewN ?_ _) | (with_reducible refine Below.drew ?_) | (with_reducible refine Below.setCell ?_ (by first | omega | (simp; done) | (simp; omega)) _) | (with_reducible refine Below.alloc ?_ (by first | omega | (simp; done) | (simp; omega)) _) | refine Below.trans ?_ (Below.mono (by with_reducible assumption) (by first | omega | (simp; done) | (simp; omega)))))⟩
    · have HC : Hid (∀ (t : TermV) (X : List UInt8), tshape (f' + 1) t = true → stops X → s.data.toList.drop a = termL (f' + 1) t ++ X → TermV.mk nm [] = t ∧ s.data.toList.drop b = X) := Lib.hid (fun t X h1 h2 h3 => by
        obtain ⟨s', ks'⟩ := t
        obtain ⟨h4, h5⟩ := head_at h1 h2 h3 HW.out
        rw [HNM.out] at h4
        cases ks' with
        | nil => exact ⟨by rw [h4], by rw [← h5, if_pos rfl]⟩
        | cons p ps =>
          exfalso
          rw [if_neg (by simp)] at h5
          obtain ⟨h6, h7, _⟩ := drop_head (show s.data.toList.drop b = 40 :: _ from h5.symm)
          exact hb40 ⟨h6, by rw [h7]; rfl⟩)
      by_cases hbl : b < s.size
      · have hge : ¬ ((s.size : Int) ≤ (b : Int)) := by omega
        have hne : ((s[b].toNat : Int) != 40) = true := by
          have : ¬ (s[b].toNat : Int) = 40 := fun h => hb40 ⟨hbl, h⟩
          simpa using this
        go_wp2_with fail
        exact bodyPost_ret (v := .tuple #[.agg #[.string nm, .slice none 0 0], .int .i64 ((b : Int))]) (by simp only [results, Try.results66]; go_simp) rfl ⟨_, _, 0, [], [], w.heap.size, _, rfl, ⟨(TermG.nil _ _ _), ⟨by omega, (by first | omega | (simp; done) | (simp; omega))⟩, by omega, hnz, by omega⟩, Lib.hid (fun t X h1 h2 h3 => ⟨by omega, (HC.out t X h1 h2 h3).1, by rw [Int.toNat_natCast]; exact (HC.out t X h1 h2 h3).2⟩), by (repeat (first | with_reducible exact Below.refl _ _ | with_reducible assumption | (with_reducible refine below_drewN ?_ _) | (with_reducible refine Below.drew ?_) | (with_reducible refine Below.setCell ?_ (by first | omega | (simp; done) | (simp; omega)) _) | (with_reducible refine Below.alloc ?_ (by first | omega | (simp; done) | (simp; omega)) _) | refine Below.trans ?_ (Below.mono (by with_reducible assumption) (by first | omega | (simp; done) | (simp; omega)))))⟩
      · have hge : (s.size : Int) ≤ (b : Int) := by omega
        go_wp2_with fail
        exact bodyPost_ret (v := .tuple #[.agg #[.string nm, .slice none 0 0], .int .i64 ((b : Int))]) (by simp only [results, Try.results66]; go_simp) rfl ⟨_, _, 0, [], [], w.heap.size, _, rfl, ⟨(TermG.nil _ _ _), ⟨by omega, (by first | omega | (simp; done) | (simp; omega))⟩, by omega, hnz, by omega⟩, Lib.hid (fun t X h1 h2 h3 => ⟨by omega, (HC.out t X h1 h2 h3).1, by rw [Int.toNat_natCast]; exact (HC.out t X h1 h2 h3).2⟩), by (repeat (first | with_reducible exact Below.refl _ _ | with_reducible assumption | (with_reducible refine below_drewN ?_ _) | (with_reducible refine Below.drew ?_) | (with_reducible refine Below.setCell ?_ (by first | omega | (simp; done) | (simp; omega)) _) | (with_reducible refine Below.alloc ?_ (by first | omega | (simp; done) | (simp; omega)) _) | refine Below.trans ?_ (Below.mono (by with_reducible assumption) (by first | omega | (simp; done) | (simp; omega)))))⟩
theorem l4Read_any : ∀ f, ReadSCall f
  | 0 => l4Read_of (fun f' e => by omega)
  | f + 1 => l4Read_of (fun f' e => by obtain rfl : f = f' := by omega
                                       exact l4Read_any f)
end Go.Proofs.Ytgmeoblapnmpiaa

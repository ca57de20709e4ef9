/- Terms are read (the program's readTerm). -/
import Derived.Test.YtgmeoblapnmpiaaTw
import Derived.Test.YtgmeoblapnmpiaaTn
namespace Go.Proofs.Ytgmeoblapnmpiaa
set_option maxRecDepth 100000
open Go.RowKit Go.ChangeShapes Go.WideShapes Go.ChangeAt
set_option linter.unusedSimpArgs false
set_option linter.unusedVariables false

theorem extract_bytes (s : ByteArray) (a b : Nat) : (s.extract a b).data.toList = (s.data.toList.drop a).take (b - a) := by
  rw [ByteArray.data_extract, Array.toList_extract, List.extract_eq_take_drop]
theorem take_bytes (s : ByteArray) (k : Nat) : (s.extract 0 k).data.toList = s.data.toList.take k := by
  rw [extract_bytes, List.drop_zero, Nat.sub_zero]
theorem drop_bytes (s : ByteArray) (k : Nat) : (s.extract k s.size).data.toList = s.data.toList.drop k := by
  rw [extract_bytes, List.take_of_length_le]
  rw [List.length_drop, Array.length_toList]
  exact Nat.le_refl _
/-- What reading gives: where a right term stands in front, it is read. -/
def ReadBack (f : Nat) (s : ByteArray) (w : World) (e : Ending) (w' : World) : Prop :=
  ∃ (nm : ByteArray) (v : Value) (m : Nat) (ts : List TermV) (zs : List Value) (B : Nat) (r : ByteArray) (ok : Bool), e = .returned (.tuple #[.agg #[.string nm, v], .string r, .bool ok]) ∧
    (TermR w' B w'.heap.size v m ts zs f ∧ (w.heap.size ≤ B ∧ B ≤ w'.heap.size) ∧ m ≤ 2 ∧ nm.size ≤ s.size ∧ r.size ≤ s.size) ∧
    Hid (∀ (t : TermV) (X : List UInt8), tshape f t = true → stops X → s.data.toList = termL f t ++ X → ok = true ∧ TermV.mk nm ts = t ∧ r.data.toList = X) ∧ Below w.heap.size w w'
def strLen : Value → Nat
  | .string r => r.size
  | _ => 0
/-- in front stands the name, behind it what is left -/
theorem head_name {f : Nat} {s s' : ByteArray} {ks' : List TermV} {X : List UInt8} {k : Nat} (h : tshape (f + 1) (.mk s' ks') = true) (hX : stops X) (hL : s.data.toList = termL (f + 1) (.mk s' ks') ++ X) (hW : WordEnd s 0 k) :
    s'.data.toList = s.data.toList.take k ∧ (if ks' = [] then X else remL (termL f) X true ks') = s.data.toList.drop k := by
  obtain ⟨h1, h2, _⟩ := tshape_iff.1 h
  have hw := word_name hW
  have e : s.data.toList.take k ++ s.data.toList.drop k = s.data.toList := List.take_append_drop _ _
  by_cases hk : ks' = []
  · subst hk
    rw [if_pos rfl]
    rw [termL_none] at hL
    obtain ⟨a, b⟩ := names_split (l := s'.data.toList) (name_letters h1) hw.1 hX.nl hw.2 (by rw [← hL, e])
    exact ⟨a, b⟩
  · rw [if_neg hk]
    have h3 := termL_rem (f := f) (s := s') (X := X) hk h2
    rw [h3] at hL
    have hn : nolet (remL (termL f) X true ks') := by
      cases ks' with
      | nil => exact absurd rfl hk
      | cons p r => exact nolet_40 _
    obtain ⟨a, b⟩ := names_split (l := s'.data.toList) (name_letters h1) hw.1 hn hw.2 (by rw [← hL, e])
    exact ⟨a, b⟩
/-- What is read so far of whatever right term stands in front. -/
def PartR (f : Nat) (s nm : ByteArray) (us : List TermV) (r : ByteArray) (b : Bool) : Prop :=
  ∀ (t : TermV) (X : List UInt8), tshape (f + 1) t = true → stops X → s.data.toList = termL (f + 1) t ++ X → ∃ rs, t = .mk nm (us ++ rs) ∧ r.data.toList = remL (termL f) X b rs ∧ (b = true → rs ≠ [])
/-- nothing more is there where no right bracket stands -/
theorem PartR.none {f q : Nat} {s nm r : ByteArray} {us : List TermV} {b : Bool} (h : PartR f s nm us r b) (hq : us.length = q) (hF : q = 2 ∨ r.size = 0 ∨ ∃ h : 0 < r.size, (r[0].toNat : Int) = 41) {t : TermV} {X : List UInt8} (h1 : tshape (f + 1) t = true) (h2 : stops X) (h3 : s.data.toList = termL (f + 1) t ++ X) :
    t = .mk nm us ∧ r.data.toList = 41 :: X := by
  obtain ⟨rs, rfl, h5, h6⟩ := h t X h1 h2 h3
  have hl : r.data.toList.length = r.size := Array.length_toList
  cases rs with
  | nil => exact ⟨by rw [List.append_nil], h5⟩
  | cons p ps =>
    exfalso
    obtain ⟨c, h7, h8⟩ := remL_head (termL f) X b p ps
    rw [h7] at h5
    rcases hF with e | e | ⟨e0, e⟩
    · have := (tshape_iff.1 h1).2.1
      simp [TermV.kids] at this
      omega
    · rw [h5] at hl; simp at hl; omega
    · have h9 : r.data.toList[0]? = some c := by rw [h5]; rfl
      have h10 : r.data.toList[0]? = some r[0] := by rw [List.getElem?_eq_getElem (by omega)]; rfl
      rw [h10] at h9
      injection h9 with h9
      rw [h9] at e
      exact h8 (by apply UInt8.toNat_inj.1; have : (41 : UInt8).toNat = 41 := rfl; omega)

def ReadCall (f : Nat) : Prop := ∀ (s : ByteArray) (x : Int) {w : World}, s.size ≤ 1048576 → f ≤ 4 → x = 5 - (f : Int) →
    Calls Try.prog 67 #[.string s, .int .i64 x] w (ReadBack f s w)
theorem ReadCall.at {f : Nat} (H : ReadCall f) (s : ByteArray) (x : Int) {w : World} (h1 : s.size ≤ 1048576) (h2 : f ≤ 4) (h3 : x = 5 - (f : Int)) :
    Calls Try.prog 67 #[.string s, .int .i64 x] w (ReadBack f s w) := H s x h1 h2 h3
set_option maxRecDepth 100000 in
set_option maxHeartbeats 8000000 in
theorem readTerm_of {f : Nat} (IH : ∀ f', f = f' + 1 → ReadCall f') : ReadCall f := by
  intro s x w hs hf hx
  have HXE := Lib.hid hx
  have hx1 : 1 ≤ x := by omega
  have hx5 : x ≤ 5 := by omega
  clear hx
  obtain ⟨i0, hi, zi0, zi1, zi2⟩ := info_parts term_info2
  go_enter Try.func67, Try.ntmps67
  go_wp2_with fail
  go_loop [7] (fun i => ∃ k : Nat, k ≤ s.size ∧ i = .int .i64 k ∧ LetTo s 0 k) (fun i => s.size - (intOf i).toNat)
  case atStart => exact ⟨0, by omega, rfl, LetTo.self s 0⟩
  case round =>
    obtain ⟨k, hks, rfl, hok⟩ := hrel
    have HO := Lib.hid hok
    clear hok
    go_upto_region 2 with fail
    go_cut [28] (fun s28 wx => ∃ b : Bool, s28 = .bool b ∧ (b = true → LetTo s 0 (k + 1) ∧ k < s.size) ∧ (b = false → WordEnd s 0 k) ∧ wx = w.alloc (.cells #[.string ⟨#[]⟩, .slice none 0 0] 30))
    case first =>
      by_cases hlt : k < s.size
      · by_cases h97 : (s[k].toNat : Int) < 97
        · have HE : Hid (WordEnd s 0 k) := Lib.hid ⟨by omega, hks, HO.out, fun _ hh => by omega⟩
          go_wp2_with fail
          go_meet
          exact ⟨false, rfl, (fun h => by cases h), (fun _ => HE.out), rfl⟩
        · by_cases h122 : 122 < (s[k].toNat : Int)
          · have hx2 : decide ((s[k].toNat : Int) ≤ 122) = false := by rw [decide_eq_false_iff_not]; omega
            have HE : Hid (WordEnd s 0 k) := Lib.hid ⟨by omega, hks, HO.out, fun _ hh => by omega⟩
            go_wp2_with fail
            go_meet
            exact ⟨false, rfl, (fun h => by cases h), (fun _ => HE.out), rfl⟩
          · have HY := Lib.hid (HO.out.succ hlt ⟨by omega, by omega⟩)
            have h1 : 97 ≤ (s[k].toNat : Int) := by omega
            have h2 : (s[k].toNat : Int) ≤ 122 := by omega
            have hx2 : decide ((s[k].toNat : Int) ≤ 122) = true := by rw [decide_eq_true_eq]; omega
            go_wp2_with fail
            go_meet
            exact ⟨true, rfl, (fun _ => ⟨HY.out, hlt⟩), (fun h => by cases h), rfl⟩
      · have HE : Hid (WordEnd s 0 k) := Lib.hid ⟨by omega, hks, HO.out, fun h => absurd h hlt⟩
        go_wp2_with fail
        go_meet
        exact ⟨false, rfl, (fun h => by cases h), (fun _ => HE.out), rfl⟩
    case rest =>
      obtain ⟨b, rfl, hT, hF, rfl⟩ := hcut
      cases b
      · have HW := Lib.hid (hF rfl)
        clear hT hF
        have hki : (k : Int) ≤ (s.size : Int) := by have := HW.out.hi; omega
        have hkn : k ≤ s.size := HW.out.hi
        obtain ⟨nm, hnm⟩ : ∃ m, s.extract 0 k = m := ⟨_, rfl⟩
        obtain ⟨r0, hr0⟩ : ∃ m, s.extract k s.size = m := ⟨_, rfl⟩
        have HNM : Hid (nm.data.toList = s.data.toList.take k) := Lib.hid (by rw [← hnm]; exact take_bytes s k)
        have HR0 : Hid (r0.data.toList = s.data.toList.drop k) := Lib.hid (by rw [← hr0]; exact drop_bytes s k)
        have hnz : nm.size ≤ s.size := by rw [← hnm, ByteArray.size_extract]; omega
        have hrz : r0.size ≤ s.size := by rw [← hr0, ByteArray.size_extract]; omega
        go_wp2_with fail
        refine wp_region_T2 9 (fun w' => True) (by kernel_rfl) (by kernel_rfl) ?_ (fun hHeld => ?_)
        · trivial
        (refine wpAnyT_take (i := 0) (v := ?_) (by simp only [List.getElem?_toArray, List.getElem?_cons_succ, List.getElem?_cons_zero]; rfl) (by kernel_rfl) (by kernel_rfl) (by kernel_rfl) (by kernel_rfl) (by intro _ _ _ h; exact h) (Or.inl ⟨by rfl, ?_⟩) (by assumption) ?_; rotate_left; (focus (intro wS hSw; (try dsimp only at hSw); go_simp; (try with_reducible rfl))); (try simp only [Act.put, List.setIfInBounds_toArray, List.set_cons_zero, List.set_cons_succ]))
        (refine wpAnyT_take (i := 1) (v := ?_) (by simp only [List.getElem?_toArray, List.getElem?_cons_succ, List.getElem?_cons_zero]; rfl) (by kernel_rfl) (by kernel_rfl) (by kernel_rfl) (by kernel_rfl) (by intro _ _ _ h; exact h) (Or.inl ⟨by rfl, ?_⟩) (by assumption) ?_; rotate_left; (focus (intro wS hSw; (try dsimp only at hSw); go_simp; (try with_reducible rfl))); (try simp only [Act.put, List.setIfInBounds_toArray, List.set_cons_zero, List.set_cons_succ]))
        (refine wpAnyT_take (i := 2) (v := ?_) (by simp only [List.getElem?_toArray, List.getElem?_cons_succ, List.getElem?_cons_zero]; rfl) (by kernel_rfl) (by kernel_rfl) (by kernel_rfl) (by kernel_rfl) (by intro _ _ _ h; exact h) (Or.inl ⟨by rfl, ?_⟩) (by assumption) ?_; rotate_left; (focus (intro wS hSw; (try dsimp only at hSw); go_simp; (try with_reducible rfl))); (try simp only [Act.put, List.setIfInBounds_toArray, List.set_cons_zero, List.set_cons_succ]))
        (refine wpAnyT_take (i := 3) (v := ?_) (by simp only [List.getElem?_toArray, List.getElem?_cons_succ, List.getElem?_cons_zero]; rfl) (by kernel_rfl) (by kernel_rfl) (by kernel_rfl) (by kernel_rfl) (by intro _ _ _ h; exact h) (Or.inl ⟨by rfl, ?_⟩) (by assumption) ?_; rotate_left; (focus (intro wS hSw; (try dsimp only at hSw); go_simp; (try with_reducible rfl))); (try simp only [Act.put, List.setIfInBounds_toArray, List.set_cons_zero, List.set_cons_succ]))
        (refine wpAnyT_take (i := 4) (v := ?_) (by simp only [List.getElem?_toArray, List.getElem?_cons_succ, List.getElem?_cons_zero]; rfl) (by kernel_rfl) (by kernel_rfl) (by kernel_rfl) (by kernel_rfl) (by intro _ _ _ h; exact h) (Or.inl ⟨by rfl, ?_⟩) (by assumption) ?_; rotate_left; (focus (intro wS hSw; (try dsimp only at hSw); go_simp; (try with_reducible rfl))); (try simp only [Act.put, List.setIfInBounds_toArray, List.set_cons_zero, List.set_cons_succ]))
        (refine wpAnyT_take (i := 5) (v := ?_) (by simp only [List.getElem?_toArray, List.getElem?_cons_succ, List.getElem?_cons_zero]; rfl) (by kernel_rfl) (by kernel_rfl) (by kernel_rfl) (by kernel_rfl) (by intro _ _ _ h; exact h) (Or.inl ⟨by rfl, ?_⟩) (by assumption) ?_; rotate_left; (focus (intro wS hSw; (try dsimp only at hSw); go_simp; (try with_reducible rfl))); (try simp only [Act.put, List.setIfInBounds_toArray, List.set_cons_zero, List.set_cons_succ]))
        (refine wpAnyT_take (i := 6) (v := ?_) (by simp only [List.getElem?_toArray, List.getElem?_cons_succ, List.getElem?_cons_zero]; rfl) (by kernel_rfl) (by kernel_rfl) (by kernel_rfl) (by kernel_rfl) (by intro _ _ _ h; exact h) (Or.inl ⟨by rfl, ?_⟩) (by assumption) ?_; rotate_left; (focus (intro wS hSw; (try dsimp only at hSw); go_simp; (try with_reducible rfl))); (try simp only [Act.put, List.setIfInBounds_toArray, List.set_cons_zero, List.set_cons_succ]))
        refine wpAnyT_ready (rs := [7]) (by kernel_rfl) (by kernel_rfl) ?_
        refine AllReadyT.cons (by simp only [List.getElem?_toArray, List.getElem?_cons_succ, List.getElem?_cons_zero]; rfl) (fun K hK => ?_) AllReadyT.nil
        go_simp
        refine hK.out _ _ ?_ (fun hHeld => ?_)
        · (try dsimp only)
          first | done | trivial
        clear hK K
        (try simp only [Act.put, List.setIfInBounds_toArray, List.set_cons_zero, List.set_cons_succ])
        refine wpAnyT_ready (rs := [8]) (by kernel_rfl) (by kernel_rfl) ?_
        refine AllReadyT.cons (by simp only [List.getElem?_toArray, List.getElem?_cons_succ, List.getElem?_cons_zero]; rfl) (fun K hK => ?_) AllReadyT.nil
        go_simp
        refine hK.out _ _ ?_ (fun hHeld => ?_)
        · (try dsimp only)
          first | done | trivial
        clear hK K
        (try simp only [Act.put, List.setIfInBounds_toArray, List.set_cons_zero, List.set_cons_succ])
        refine wpAnyT_done (by kernel_rfl) ?_
        simp only [List.drop_succ_cons, List.drop_zero]
        clear hnm hr0
        cases f with
        | zero =>
          have hx4 : 4 < x := by have := HXE.out; omega
          go_wp2_with fail
          exact bodyPost_ret (v := .tuple #[.agg #[.string ⟨#[]⟩, .slice none 0 0], .string ⟨#[]⟩, .bool false]) (by simp only [results, Try.results67]; go_simp) rfl ⟨_, _, 0, [], [], w.heap.size, _, _, rfl, ⟨TermR.nil _ _ _ (Nat.le_refl _), ⟨Nat.le_refl _, (by first | omega | (simp; done) | (simp; omega))⟩, by omega, Nat.zero_le _, Nat.zero_le _⟩, Lib.hid (fun t X h1 h2 h3 => absurd (((fun t X h1 _ _ => by cases h1)) t X h1 h2 h3) (fun h => h)), by (repeat (first | with_reducible exact Below.refl _ _ | with_reducible assumption | (with_reducible refine below_drewN ?_ _) | (with_reducible refine Below.drew ?_) | (with_reducible refine Below.setCell ?_ (by first | omega | (simp; done) | (simp; omega)) _) | (with_reducible refine Below.alloc ?_ (by first | omega | (simp; done) | (simp; omega)) _) | refine Below.trans ?_ (Below.mono (by with_reducible assumption) (by first | omega | (simp; done) | (simp; omega)))))⟩
        | succ f' =>
          have hx4 : ¬ 4 < x := by have := HXE.out; omega
          go_wp2_with fail
          refine (iNameOk_any nm (by omega) _).mono ?_
          obtain ⟨nk, hnk⟩ : ∃ b, nameOk nm = b := ⟨_, rfl⟩
          rw [hnk]
          rintro e w1 ⟨rfl, rfl⟩
          have HNK := Lib.hid hnk
          clear hnk
          cases nk
          · have HN : Hid (∀ (t : TermV) (X : List UInt8), tshape (f' + 1) t = true → stops X → s.data.toList = termL (f' + 1) t ++ X → False) := Lib.hid (fun t X h1 h2 h3 => by
              obtain ⟨s', ks'⟩ := t
              have h4 := (head_name h1 h2 h3 HW.out).1
              have h5 : s' = nm := bytes_eq (by rw [h4, HNM.out])
              have h6 := (tshape_iff.1 h1).1
              rw [show TermV.name (.mk s' ks') = s' from rfl, h5, HNK.out] at h6
              cases h6)
            go_wp2_with fail
            exact bodyPost_ret (v := .tuple #[.agg #[.string ⟨#[]⟩, .slice none 0 0], .string ⟨#[]⟩, .bool false]) (by simp only [results, Try.results67]; go_simp) rfl ⟨_, _, 0, [], [], w.heap.size, _, _, rfl, ⟨TermR.nil _ _ _ (Nat.le_refl _), ⟨Nat.le_refl _, (by first | omega | (simp; done) | (simp; omega))⟩, by omega, Nat.zero_le _, Nat.zero_le _⟩, Lib.hid (fun t X h1 h2 h3 => absurd ((HN.out) t X h1 h2 h3) (fun h => h)), by (repeat (first | with_reducible exact Below.refl _ _ | with_reducible assumption | (with_reducible refine below_drewN ?_ _) | (with_reducible refine Below.drew ?_) | (with_reducible refine Below.setCell ?_ (by first | omega | (simp; done) | (simp; omega)) _) | (with_reducible refine Below.alloc ?_ (by first | omega | (simp; done) | (simp; omega)) _) | refine Below.trans ?_ (Below.mono (by with_reducible assumption) (by first | omega | (simp; done) | (simp; omega)))))⟩
          go_wp2_with fail
          refine (Try.strings_HasPrefix r0 ⟨#[40]⟩ _).mono ?_
          obtain ⟨hp, hhp⟩ : ∃ b, Lib.hasPrefix r0.data.toList (⟨#[40]⟩ : ByteArray).data.toList = b := ⟨_, rfl⟩
          rw [hhp]
          rintro e w1 ⟨rfl, rfl⟩
          have HHP := Lib.hid hhp
          clear hhp
          cases hp
          · have HC : Hid (∀ (t : TermV) (X : List UInt8), tshape (f' + 1) t = true → stops X → s.data.toList = termL (f' + 1) t ++ X → TermV.mk nm [] = t ∧ r0.data.toList = X) := Lib.hid (fun t X h1 h2 h3 => by
              obtain ⟨s', ks'⟩ := t
              obtain ⟨h4, h5⟩ := head_name h1 h2 h3 HW.out
              have h6 : s' = nm := bytes_eq (by rw [h4, HNM.out])
              cases ks' with
              | nil => exact ⟨by rw [h6], by rw [HR0.out, ← h5, if_pos rfl]⟩
              | cons p ps =>
                rw [if_neg (by simp)] at h5
                have h7 := HHP.out
                rw [HR0.out, ← h5] at h7
                simp [Lib.hasPrefix, remL] at h7)
            go_wp2_with fail
            exact bodyPost_ret (v := .tuple #[.agg #[.string nm, .slice none 0 0], .string r0, .bool true]) (by simp only [results, Try.results67]; go_simp) rfl ⟨_, _, 0, [], [], w.heap.size, _, _, rfl, ⟨TermR.nil _ _ _ (Nat.le_refl _), ⟨Nat.le_refl _, (by first | omega | (simp; done) | (simp; omega))⟩, by omega, hnz, hrz⟩, Lib.hid (fun t X h1 h2 h3 => ⟨rfl, HC.out t X h1 h2 h3⟩), by (repeat (first | with_reducible exact Below.refl _ _ | with_reducible assumption | (with_reducible refine below_drewN ?_ _) | (with_reducible refine Below.drew ?_) | (with_reducible refine Below.setCell ?_ (by first | omega | (simp; done) | (simp; omega)) _) | (with_reducible refine Below.alloc ?_ (by first | omega | (simp; done) | (simp; omega)) _) | refine Below.trans ?_ (Below.mono (by with_reducible assumption) (by first | omega | (simp; done) | (simp; omega)))))⟩
          have HP0 : Hid (PartR f' s nm [] r0 true) := Lib.hid (fun t X h1 h2 h3 => by
            obtain ⟨s', ks'⟩ := t
            obtain ⟨h4, h5⟩ := head_name h1 h2 h3 HW.out
            have h6 : s' = nm := bytes_eq (by rw [h4, HNM.out])
            have h7 := HHP.out
            rw [HR0.out, ← h5] at h7
            cases ks' with
            | nil =>
              rw [if_pos rfl] at h7
              cases X with
              | nil => simp [Lib.hasPrefix] at h7
              | cons c r =>
                have := (h2 c r rfl).2
                simp [Lib.hasPrefix] at h7
                exact absurd h7.symm this
            | cons p ps => exact ⟨p :: ps, by rw [h6]; rfl, by rw [HR0.out, ← h5, if_neg (by simp)], fun _ => by simp⟩)
          clear hx4
          go_wp2_with fail
          have hT4 : T2c (((w.alloc (.cells #[.string ⟨#[]⟩, .slice none 0 0] 30)).alloc (.cells #[.string nm, .slice none 0 0] 30)).drew) w.heap.size ⟨#[]⟩ (.slice none 0 0) := ⟨by go_simp, by go_simp, by go_simp, by go_simp⟩
          have hT8 : T2c (((w.alloc (.cells #[.string ⟨#[]⟩, .slice none 0 0] 30)).alloc (.cells #[.string nm, .slice none 0 0] 30)).drew) (w.heap.size + 1) nm (.slice none 0 0) := ⟨by go_simp, by go_simp, by go_simp, by go_simp⟩
          have HI : Hid (ReadCall f') := Lib.hid (IH f' rfl)
          go_loopw [9] (fun s9 wr => ∃ (q : Nat) (v : Value) (us : List TermV) (zs : List Value) (r : ByteArray), s9 = .string r ∧ q ≤ 2 ∧ TermR wr (w.heap.size + 1 + 1) wr.heap.size v q us zs (f' + 1) ∧ T2c wr w.heap.size ⟨#[]⟩ (.slice none 0 0) ∧ T2c wr (w.heap.size + 1) nm v ∧ r.size ≤ s.size ∧ Hid (PartR f' s nm us r (q == 0)) ∧ Below w.heap.size w wr) (fun s9 _ => strLen s9)
          case atStart => exact ⟨0, _, [], [], r0, rfl, by omega, TermR.nil _ _ _ (Nat.le_refl _), hT4, hT8, hrz, HP0, by (repeat (first | with_reducible exact Below.refl _ _ | with_reducible assumption | (with_reducible refine below_drewN ?_ _) | (with_reducible refine Below.drew ?_) | (with_reducible refine Below.setCell ?_ (by first | omega | (simp; done) | (simp; omega)) _) | (with_reducible refine Below.alloc ?_ (by first | omega | (simp; done) | (simp; omega)) _) | refine Below.trans ?_ (Below.mono (by with_reducible assumption) (by first | omega | (simp; done) | (simp; omega)))))⟩
          case round =>
            clear hT4 hT8 HP0 HHP HR0 HNM HNK
            obtain ⟨q, v, us, zs, r, rfl, hq2, hG, hT4, hT8, hrs, HP, hB⟩ := hrel
            have hzr := hB.size
            obtain ⟨Av, cv, rfl⟩ := hG.form
            have h8l := hT8.lt
            obtain ⟨a0, a1, a2, a3⟩ := hT4
            obtain ⟨b0, b1, b2, b3⟩ := hT8
            go_upto_region 9 with fail
            go_cut [64] (fun s64 wx => ∃ b : Bool, s64 = .bool b ∧ (b = true → q < 2 ∧ ∃ h : 0 < r.size, ¬ (r[0].toNat : Int) = 41) ∧ (b = false → q = 2 ∨ r.size = 0 ∨ ∃ h : 0 < r.size, (r[0].toNat : Int) = 41) ∧ wx = wr)
            case first =>
              by_cases hr0 : r.size = 0
              · have hre : r = ⟨#[]⟩ := by
                  apply ByteArray.ext
                  exact Array.eq_empty_of_size_eq_zero hr0
                subst hre
                go_wp2_with fail
                go_meet
                exact ⟨false, rfl, (fun h => by cases h), (fun _ => .inr (.inl rfl)), rfl⟩
              · have hrp : 0 < r.size := by omega
                have hne : ¬ r.toList = [] := by
                  rw [ByteArray.toList_eq]
                  intro e
                  have := congrArg List.length e
                  rw [Array.length_toList] at this
                  exact hr0 this
                have hni : (0 : Int) < (r.size : Int) := by omega
                have hem : r.toList.isEmpty = false := by rw [List.isEmpty_eq_false_iff]; exact hne
                by_cases h41 : (r[0].toNat : Int) = 41
                · have hm1 : ((r[0].toNat : Int) != 41) = false := by simp [h41]
                  have HE : Hid (∃ h : 0 < r.size, (r[0].toNat : Int) = 41) := Lib.hid ⟨hrp, h41⟩
                  clear h41
                  go_wp2_with fail
                  go_meet
                  exact ⟨false, rfl, (fun h => by cases h), (fun _ => .inr (.inr HE.out)), rfl⟩
                · have hm1 : ((r[0].toNat : Int) != 41) = true := by simpa using h41
                  have HE : Hid (∃ h : 0 < r.size, ¬ (r[0].toNat : Int) = 41) := Lib.hid ⟨hrp, h41⟩
                  by_cases hq : q < 2
                  · have hqi : (q : Int) < 2 := by omega
                    go_wp2_with fail
                    go_meet
                    exact ⟨true, rfl, (fun _ => ⟨hq, HE.out⟩), (fun h => by cases h), rfl⟩
                  · have hqi : ¬ (q : Int) < 2 := by omega
                    go_wp2_with fail
                    go_meet
                    exact ⟨false, rfl, (fun h => by cases h), (fun _ => .inl (by omega)), rfl⟩
            case rest =>
              obtain ⟨b, rfl, hT, hF, rfl⟩ := hcut
              have hul := hG.len
              cases b
              · have HF := Lib.hid (hF rfl)
                clear hT hF
                go_wp2_with fail
                refine (Try.strings_HasPrefix r ⟨#[41]⟩ _).mono ?_
                obtain ⟨hp, hhp⟩ : ∃ b, Lib.hasPrefix r.data.toList (⟨#[41]⟩ : ByteArray).data.toList = b := ⟨_, rfl⟩
                rw [hhp]
                rintro e w1 ⟨rfl, rfl⟩
                have HHP := Lib.hid hhp
                clear hhp
                cases hp
                · have HN : Hid (∀ (t : TermV) (X : List UInt8), tshape (f' + 1) t = true → stops X → s.data.toList = termL (f' + 1) t ++ X → False) := Lib.hid (fun t X h1 h2 h3 => by
                    obtain ⟨_, h5⟩ := HP.out.none hul HF.out h1 h2 h3
                    have h7 := HHP.out
                    rw [h5] at h7
                    simp [Lib.hasPrefix] at h7)
                  go_wp2_with fail
                  exact bodyPost_ret (v := .tuple #[.agg #[.string ⟨#[]⟩, .slice none 0 0], .string ⟨#[]⟩, .bool false]) (by simp only [results, Try.results67]; go_simp) rfl ⟨_, _, 0, [], [], w.heap.size, _, _, rfl, ⟨TermR.nil _ _ _ (Nat.le_refl _), ⟨Nat.le_refl _, (by first | omega | (simp; done) | (simp; omega))⟩, by omega, Nat.zero_le _, Nat.zero_le _⟩, Lib.hid (fun t X h1 h2 h3 => absurd ((HN.out) t X h1 h2 h3) (fun h => h)), by (repeat (first | with_reducible exact Below.refl _ _ | with_reducible assumption | (with_reducible refine below_drewN ?_ _) | (with_reducible refine Below.drew ?_) | (with_reducible refine Below.setCell ?_ (by first | omega | (simp; done) | (simp; omega)) _) | (with_reducible refine Below.alloc ?_ (by first | omega | (simp; done) | (simp; omega)) _) | refine Below.trans ?_ (Below.mono (by with_reducible assumption) (by first | omega | (simp; done) | (simp; omega)))))⟩
                · have hrp : 0 < r.size := by
                    rcases Nat.eq_zero_or_pos r.size with h0 | h0
                    · exfalso
                      have h7 := HHP.out
                      have hl : r.data.toList.length = r.size := Array.length_toList
                      rw [List.eq_nil_of_length_eq_zero (hl.trans h0)] at h7
                      simp [Lib.hasPrefix] at h7
                    · exact h0
                  have hri : (1 : Int) ≤ (r.size : Int) := by omega
                  obtain ⟨r3, hr3⟩ : ∃ m, r.extract 1 r.size = m := ⟨_, rfl⟩
                  have HR3 : Hid (r3.data.toList = r.data.toList.drop 1) := Lib.hid (by rw [← hr3]; exact drop_bytes r 1)
                  have hr3z : r3.size ≤ s.size := by rw [← hr3, ByteArray.size_extract]; omega
                  have HC : Hid (∀ (t : TermV) (X : List UInt8), tshape (f' + 1) t = true → stops X → s.data.toList = termL (f' + 1) t ++ X → TermV.mk nm us = t ∧ r3.data.toList = X) := Lib.hid (fun t X h1 h2 h3 => by
                    obtain ⟨h4, h5⟩ := HP.out.none hul HF.out h1 h2 h3
                    exact ⟨h4.symm, by rw [HR3.out, h5]; rfl⟩)
                  have hC2 : World.cell? _ ⟨w.heap.size + 1, 0, none⟩ = some (.string nm) ∧ World.cell? _ ⟨w.heap.size + 1, 1, none⟩ = some (.slice Av q cv) := ⟨b0, b1⟩
                  go_wp2_with fail
                  refine wp_region_T2 4 (fun w' => w'.cell? ⟨w.heap.size + 1, 0, none⟩ = some (.string nm) ∧ w'.cell? ⟨w.heap.size + 1, 1, none⟩ = some (.slice Av q cv)) (by kernel_rfl) (by kernel_rfl) ?_ (fun hHeld => ?_)
                  · exact hC2
                  (refine wpAnyT_take (i := 0) (v := ?_) (by simp only [List.getElem?_toArray, List.getElem?_cons_succ, List.getElem?_cons_zero]; rfl) (by kernel_rfl) (by kernel_rfl) (by kernel_rfl) (by kernel_rfl) (by intro _ _ _ h; exact h) (Or.inl ⟨by rfl, ?_⟩) (by assumption) ?_; rotate_left; (focus (intro wS hSw; (try dsimp only at hSw); go_simp; (try with_reducible rfl))); (try simp only [Act.put, List.setIfInBounds_toArray, List.set_cons_zero, List.set_cons_succ]))
                  (refine wpAnyT_take (i := 1) (v := ?_) (by simp only [List.getElem?_toArray, List.getElem?_cons_succ, List.getElem?_cons_zero]; rfl) (by kernel_rfl) (by kernel_rfl) (by kernel_rfl) (by kernel_rfl) (by intro _ _ _ h; exact h) (Or.inl ⟨by rfl, ?_⟩) (by assumption) ?_; rotate_left; (focus (intro wS hSw; (try dsimp only at hSw); go_simp; (try with_reducible rfl))); (try simp only [Act.put, List.setIfInBounds_toArray, List.set_cons_zero, List.set_cons_succ]))
                  (refine wpAnyT_take (i := 2) (v := ?_) (by simp only [List.getElem?_toArray, List.getElem?_cons_succ, List.getElem?_cons_zero]; rfl) (by kernel_rfl) (by kernel_rfl) (by kernel_rfl) (by kernel_rfl) (by intro _ _ _ h; exact h) (Or.inl ⟨by rfl, ?_⟩) (by assumption) ?_; rotate_left; (focus (intro wS hSw; (try dsimp only at hSw); go_simp; (try with_reducible rfl))); (try simp only [Act.put, List.setIfInBounds_toArray, List.set_cons_zero, List.set_cons_succ]))
                  refine wpAnyT_ready (rs := [3]) (by kernel_rfl) (by kernel_rfl) ?_
                  refine AllReadyT.cons (by simp only [List.getElem?_toArray, List.getElem?_cons_succ, List.getElem?_cons_zero]; rfl) (fun K hK => ?_) AllReadyT.nil
                  go_simp
                  refine hK.out _ _ ?_ (fun hHeld => ?_)
                  · (try dsimp only)
                    exact ⟨by go_simp, by go_simp⟩
                  clear hK K
                  (try simp only [Act.put, List.setIfInBounds_toArray, List.set_cons_zero, List.set_cons_succ])
                  refine wpAnyT_done (by kernel_rfl) ?_
                  simp only [List.drop_succ_cons, List.drop_zero]
                  clear hHeld hr3
                  go_wp2_with fail
                  exact bodyPost_ret (v := .tuple #[.agg #[.string nm, .slice Av q cv], .string r3, .bool true]) (by simp only [results, Try.results67]; go_simp) rfl ⟨_, _, q, us, zs, w.heap.size + 1 + 1, _, _, rfl, ⟨TermR.up (TermR.drew ((hG.set (p := ⟨w.heap.size, 0, none⟩) (by dsimp only; omega) _).set (p := ⟨w.heap.size, 1, none⟩) (by dsimp only; omega) _)) (by first | omega | (simp; done) | (simp; omega)) (Nat.le_refl _), ⟨by omega, (by first | omega | (simp; done) | (simp; omega))⟩, hq2, hnz, hr3z⟩, Lib.hid (fun t X h1 h2 h3 => ⟨rfl, HC.out t X h1 h2 h3⟩), by (repeat (first | with_reducible exact Below.refl _ _ | with_reducible assumption | (with_reducible refine below_drewN ?_ _) | (with_reducible refine Below.drew ?_) | (with_reducible refine Below.setCell ?_ (by first | omega | (simp; done) | (simp; omega)) _) | (with_reducible refine Below.alloc ?_ (by first | omega | (simp; done) | (simp; omega)) _) | refine Below.trans ?_ (Below.mono (by with_reducible assumption) (by first | omega | (simp; done) | (simp; omega)))))⟩
              · obtain ⟨hq, hrp, h41⟩ := hT rfl
                clear hT hF
                have hri : (1 : Int) ≤ (r.size : Int) := by omega
                obtain ⟨r1, hr1⟩ : ∃ m, r.extract 1 r.size = m := ⟨_, rfl⟩
                have HR1 : Hid (r1.data.toList = r.data.toList.drop 1) := Lib.hid (by rw [← hr1]; exact drop_bytes r 1)
                have hr1z : r1.size = r.size - 1 := by rw [← hr1, ByteArray.size_extract]; omega
                have HSTEP : Hid (∀ (t : TermV) (X : List UInt8), tshape (f' + 1) t = true → stops X → s.data.toList = termL (f' + 1) t ++ X → ∃ (p : TermV) (ps : List TermV), t = .mk nm (us ++ p :: ps) ∧ tshape f' p = true ∧ r1.data.toList = termL f' p ++ remL (termL f') X false ps) := Lib.hid (fun t X h1 h2 h3 => by
                  obtain ⟨rs, rfl, h5, h6⟩ := HP.out t X h1 h2 h3
                  cases rs with
                  | nil =>
                    exfalso
                    have h9 : r.data.toList[0]? = some 41 := by rw [h5]; rfl
                    have hl : r.data.toList.length = r.size := Array.length_toList
                    have h10 : r.data.toList[0]? = some r[0] := by rw [List.getElem?_eq_getElem (by omega)]; rfl
                    rw [h10] at h9
                    injection h9 with h9
                    exact h41 (by rw [h9]; rfl)
                  | cons p ps =>
                    obtain ⟨c, h7, _⟩ := remL_head (termL f') X (q == 0) p ps
                    refine ⟨p, ps, rfl, ?_, by rw [HR1.out, h5, h7]; rfl⟩
                    have h8 := (tshape_iff.1 h1).2.2 us.length (by simp [TermV.kids])
                    rw [show TermV.kids (.mk nm (us ++ p :: ps)) = us ++ p :: ps from rfl, List.getD_eq_getElem?_getD, List.getElem?_append_right (Nat.le_refl _), Nat.sub_self] at h8
                    exact h8)
                clear h41
                go_wp2_with fail
                refine (ReadCall.at HI.out r1 (x + 1) (by omega) (by omega) (by have := HXE.out; omega)).mono ?_
                rintro e w2 ⟨nm1, v1, m1, ts1, zs1, B1, r2, ok1, rfl, ⟨hG1, ⟨hB1, hB1'⟩, hm1, hnm1, hr2⟩, HC1, hb1⟩
                obtain ⟨A1, c1, rfl⟩ := hG1.form
                have hz2 := hb1.size
                have hB2 : Below w.heap.size w w2 := hB.trans (hb1.mono hzr)
                obtain ⟨d0, d1, d2, d3⟩ := (T2c.later ⟨a0, a1, a2, a3⟩ hb1 : T2c w2 w.heap.size ⟨#[]⟩ (.slice none 0 0))
                obtain ⟨e0, e1, e2, e3⟩ := (T2c.later ⟨b0, b1, b2, b3⟩ hb1 : T2c w2 (w.heap.size + 1) nm (.slice Av q cv))
                have hG2 := hG.later hb1
                have hzw0 : w.heap.size < w2.heap.size := by omega
                have hzw1 : w.heap.size + 1 < w2.heap.size := by omega
                clear hr1 a0 a1 a2 a3 b0 b1 b2 b3
                cases ok1
                · have HN : Hid (∀ (t : TermV) (X : List UInt8), tshape (f' + 1) t = true → stops X → s.data.toList = termL (f' + 1) t ++ X → False) := Lib.hid (fun t X h1 h2 h3 => by
                    obtain ⟨p, ps, _, h5, h6⟩ := HSTEP.out t X h1 h2 h3
                    have := (HC1.out p _ h5 (remL_stops _ X ps) h6).1
                    cases this)
                  go_wp2_with fail
                  exact bodyPost_ret (v := .tuple #[.agg #[.string ⟨#[]⟩, .slice none 0 0], .string ⟨#[]⟩, .bool false]) (by simp only [results, Try.results67]; go_simp) rfl ⟨_, _, 0, [], [], w.heap.size, _, _, rfl, ⟨TermR.nil _ _ _ (Nat.le_refl _), ⟨Nat.le_refl _, (by first | omega | (simp; done) | (simp; omega))⟩, by omega, Nat.zero_le _, Nat.zero_le _⟩, Lib.hid (fun t X h1 h2 h3 => absurd ((HN.out) t X h1 h2 h3) (fun h => h)), by (repeat (first | with_reducible exact Below.refl _ _ | with_reducible assumption | (with_reducible refine below_drewN ?_ _) | (with_reducible refine Below.drew ?_) | (with_reducible refine Below.setCell ?_ (by first | omega | (simp; done) | (simp; omega)) _) | (with_reducible refine Below.alloc ?_ (by first | omega | (simp; done) | (simp; omega)) _) | refine Below.trans ?_ (Below.mono (by with_reducible assumption) (by first | omega | (simp; done) | (simp; omega)))))⟩
                · have HPN : Hid (PartR f' s nm (us ++ [.mk nm1 ts1]) r2 (q + 1 == 0)) := Lib.hid (fun t X h1 h2 h3 => by
                    obtain ⟨p, ps, h4, h5, h6⟩ := HSTEP.out t X h1 h2 h3
                    obtain ⟨_, h7, h8⟩ := HC1.out p _ h5 (remL_stops _ X ps) h6
                    refine ⟨ps, by rw [h4, h7, List.append_assoc]; rfl, ?_, fun h => by simp at h⟩
                    rw [h8]
                    have e : (q + 1 == 0) = false := by simp
                    rw [e])
                  have hG1k := Lib.hid (hG1.tree (by omega))
                  (try simp at hB1)
                  have hbW : Below w2.heap.size w2 ((w2.alloc (.cells #[.string nm1, .slice A1 m1 c1] 30)).alloc (.cells #[.string nm1, .slice A1 m1 c1] 30)) := by (repeat (first | with_reducible exact Below.refl _ _ | with_reducible assumption | (with_reducible refine below_drewN ?_ _) | (with_reducible refine Below.drew ?_) | (with_reducible refine Below.setCell ?_ (by first | omega | (simp; done) | (simp; omega)) _) | (with_reducible refine Below.alloc ?_ (by first | omega | (simp; done) | (simp; omega)) _) | refine Below.trans ?_ (Below.mono (by with_reducible assumption) (by first | omega | (simp; done) | (simp; omega)))))
                  have HGW := Lib.hid (hG2.later hbW)
                  have HT4 := Lib.hid ((⟨d0, d1, d2, d3⟩ : T2c w2 w.heap.size ⟨#[]⟩ (.slice none 0 0)).later hbW)
                  have HT8 := Lib.hid ((⟨e0, e1, e2, e3⟩ : T2c w2 (w.heap.size + 1) nm (.slice Av q cv)).later hbW)
                  have hown0 := hG.own
                  have HOW := Lib.hid (fun b (e : (Value.slice Av q cv).ownBlock = some b) => (Nat.lt_of_lt_of_le (hown0.lt b e).2 hB1 : b < B1))
                  clear hown0
                  have hB1'' : B1 ≤ w2.heap.size := hB1'
                  clear hG1 hG2 HC1 hb1 hB1'
                  go_wp2_with (first | (at_builtin; refine wpList_append_lies _ (by rfl) (.tmp 78) (.tmp 80) _ (by rfl) (w.heap.size + 1 + 1) 30 i0 _ 2 40 Try.underlying28 hi zi0 zi1 zi2 rfl (by omega) (.slice Av q cv) q zs (by rfl) HGW.out.own ⟨w2.heap.size + 1, 0, none⟩ 1 1 [.string nm1, .slice A1 m1 c1] (by rfl) (by rfl) (news2 (by first | omega | (simp; done) | (simp; omega))) (by simp [Value.oneCell']) (by omega) (by unfold maxLen; omega) (by omega) (by first | omega | (simp; done) | (simp; omega)) _ rfl ?_; intro g' cap' wq hown3 hgrow hat hlt2; have hq1 := HT4.out.grown hgrow (fun e => by have := (HGW.out.own.lt _ e).1; omega); have hq2 := HT8.out.grown hgrow (fun e => by have := (HGW.out.own.lt _ e).1; omega); clear d0 d1 d2 d3 e0 e1 e2 e3; obtain ⟨d0, d1, d2, d3⟩ := hq1; obtain ⟨e0, e1, e2, e3⟩ := hq2))
                  have hG3 := HGW.out.app (u := .mk nm1 ts1) hown3 hgrow hat rfl (hG1k.out.later hbW) hB1 (by omega) hB1'' (by simp; omega) HOW.out (by show nm1.size ≤ _; omega) rfl rfl
                  have hbq : Below w.heap.size w wq := Below.grown (hB2.trans (hbW.mono (by omega))) hgrow (by first | omega | (simp; done) | (simp; omega)) (fun j hj => by have := (HGW.out.own.lt j hj).1; omega)
                  have hzq := hgrow.size
                  (try simp at hzq)
                  have HG4 := Lib.hid ((hG3.set (p := ⟨w.heap.size + 1, 1, none⟩) (by dsimp only; omega) (.slice (some ⟨g', 0, none⟩) (q + 1) cap')).up (by first | omega | (simp; done) | (simp; omega)) (Nat.le_refl _))
                  have HT4' := Lib.hid ((⟨d0, d1, d2, d3⟩ : T2c wq w.heap.size ⟨#[]⟩ (.slice none 0 0)).far (p := ⟨w.heap.size + 1, 1, none⟩) (by dsimp only; omega) (.slice (some ⟨g', 0, none⟩) (q + 1) cap'))
                  have HT8' := Lib.hid ((⟨e0, e1, e2, e3⟩ : T2c wq (w.heap.size + 1) nm (.slice Av q cv)).put1 (v := .slice (some ⟨g', 0, none⟩) (q + 1) cap'))
                  clear hown3 hgrow hat hlt2 hG3 HGW HT4 HT8 HOW hG1k hbW
                  go_wp2
                  go_roundw
                  case rel => exact ⟨q + 1, _, _, _, r2, rfl, by omega, HG4.out, HT4'.out, HT8'.out, by omega, HPN, by (repeat (first | with_reducible exact Below.refl _ _ | with_reducible assumption | (with_reducible refine below_drewN ?_ _) | (with_reducible refine Below.drew ?_) | (with_reducible refine Below.setCell ?_ (by first | omega | (simp; done) | (simp; omega)) _) | (with_reducible refine Below.alloc ?_ (by first | omega | (simp; done) | (simp; omega)) _) | refine Below.trans ?_ (Below.mono (by with_reducible assumption) (by first | omega | (simp; done) | (simp; omega)))))⟩
                  case measure => simp [strLen]; omega
      · obtain ⟨hY, hlt⟩ := hT rfl
        have HY := Lib.hid hY
        clear hT hF hY
        go_wp2
        go_round
        case rel => exact ⟨k + 1, by omega, by go_num, HY.out⟩
        case measure => simp [intOf]; omega
theorem readTerm_any : ∀ f, ReadCall f
  | 0 => readTerm_of (fun f' e => by omega)
  | f + 1 => readTerm_of (fun f' e => by obtain rfl : f = f' := by omega
                                         exact readTerm_any f)
end Go.Proofs.Ytgmeoblapnmpiaa

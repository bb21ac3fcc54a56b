/-
  LETTERS: Name of the program and of the reference, by contract.
-/
import Derived.Test.YtcainpicbkncpaaDoorLetA
namespace Go.Proofs.YtcainpicbkncpaaDoor
open Go.RowKit

theorem data_getElem (s : ByteArray) (k : Nat) (h : k < s.size) : s.data.toList[k]'(by rw [← Lib.size_eq]; exact h) = s[k] := rfl
theorem take_snoc (s : ByteArray) (k : Nat) (h : k < s.size) : s.data.toList.take (k + 1) = s.data.toList.take k ++ [s[k]] := by
  rw [List.take_succ_eq_append_getElem (by rw [← Lib.size_eq]; exact h)]; rfl
theorem drop_cons (s : ByteArray) (k : Nat) (h : k < s.size) : s.data.toList.drop k = s[k] :: s.data.toList.drop (k + 1) := by
  rw [List.drop_eq_getElem_cons (by rw [← Lib.size_eq]; exact h)]; rfl
theorem nm_of (c : UInt8) : Pl.nmB c = (Pl.isLet c.toNat || Pl.isDig c.toNat || decide ((c.toNat : Int) = 45)) := rfl
theorem name_false_at (s : ByteArray) (k : Nat) (h : k < s.size) (hn : Pl.nmB s[k] = false) : Pl.name s.data.toList = false := by
  unfold Pl.name
  have : s.data.toList.all Pl.nmB = false := by
    rw [List.all_eq_false]
    exact ⟨s[k], by rw [← data_getElem s k h]; exact List.getElem_mem _, by rw [hn]; simp⟩
  rw [this, Bool.and_false]
theorem head_let (s : ByteArray) (h : 0 < s.size) : Pl.headLet s.data.toList = Pl.isLet (s[0].toNat : Int) := by
  have := drop_cons s 0 h
  rw [List.drop_zero] at this
  rw [this]; rfl
theorem name_head (s : ByteArray) (h : 0 < s.size) (hn : Pl.isLet (s[0].toNat : Int) = false) : Pl.name s.data.toList = false := by
  unfold Pl.name
  rw [head_let s h, hn]; simp
theorem name_true (s : ByteArray) (h : 0 < s.size) (h60 : s.size ≤ 60) (hn : Pl.isLet (s[0].toNat : Int) = true) (ha : (s.data.toList.take s.size).all Pl.nmB = true) : Pl.name s.data.toList = true := by
  rw [List.take_of_length_le (by rw [Lib.size_eq]; exact Nat.le_refl _)] at ha
  unfold Pl.name
  rw [head_let s h, hn, ha, ← Lib.size_eq]; simpa using h60
theorem name_short (s : ByteArray) (h : s.size = 0) : Pl.name s.data.toList = false := by
  have : s.data.toList = [] := List.eq_nil_of_length_eq_zero (by rw [← Lib.size_eq]; exact h)
  rw [this]; rfl
theorem name_long (s : ByteArray) (h : 60 < s.size) : Pl.name s.data.toList = false := by
  unfold Pl.name
  rw [← Lib.size_eq, decide_eq_false (by omega)]; simp

set_option maxHeartbeats 1000000 in
theorem name_any (s : ByteArray) (hs : s.size ≤ 140737488351232) (w : World) :
    Calls Tryd.prog 11 #[.string s] w fun e w' => e = .returned (.bool (Pl.name s.data.toList)) ∧ w = w' := by
  rcases (show s.size = 0 ∨ 60 < s.size ∨ (0 < s.size ∧ s.size ≤ 60) from by omega) with h | h | ⟨h0, h60⟩
  · have H := Lib.hid (name_short s h)
    have h' : s.size < 1 := by omega
    clear h
    go_enter Tryd.func11, Tryd.ntmps11
    go_wp2_with fail
    go_ret
    exact ⟨ret_bool (by rw [H.out]), rfl⟩
  · have H := Lib.hid (name_long s h)
    go_enter Tryd.func11, Tryd.ntmps11
    go_wp2_with fail
    go_ret
    exact ⟨ret_bool (by rw [H.out]), rfl⟩
  · rcases hl : Pl.isLet (s[0].toNat : Int)
    · have H := Lib.hid (name_head s h0 hl)
      go_enter Tryd.func11, Tryd.ntmps11
      go_wp2_with (go_at_call 18; refine (letter_any _ _).mono ?_; rintro e w' ⟨rfl, rfl⟩)
      go_ret
      exact ⟨ret_bool (by rw [H.out]), rfl⟩
    · have HT := Lib.hid (name_true s h0 h60 hl)
      go_enter Tryd.func11, Tryd.ntmps11
      go_wp2_with (go_at_call 18; refine (letter_any _ _).mono ?_; rintro e w' ⟨rfl, rfl⟩)
      clear hl
      go_loop [21] (fun i => ∃ k : Nat, k ≤ s.size ∧ i = .int .i64 k ∧ (s.data.toList.take k).all Pl.nmB = true) (fun i => s.size - (intOf i).toNat)
      case atStart => exact ⟨0, Nat.zero_le _, rfl, rfl⟩
      case round =>
        obtain ⟨k, hk, rfl, hall⟩ := hrel
        by_cases hlt : k < s.size
        · have HS := Lib.hid (take_snoc s k hlt)
          have HN := Lib.hid (nm_of s[k])
          have HF := Lib.hid (name_false_at s k hlt)
          have HA := Lib.hid hall
          clear hall
          rcases h1 : Pl.isLet (s[k].toNat : Int)
          · rcases h2 : Pl.isDig (s[k].toNat : Int)
            · by_cases h3 : (s[k].toNat : Int) = 45
              · have hb : ((s[k].toNat : Int) != 45) = false := by simp [h3]
                have H3 := Lib.hid h3
                clear h3
                go_wp2_with (first | (go_at_call 18; refine (letter_any _ _).mono ?_; rintro e w' ⟨rfl, rfl⟩) | (go_at_call 19; refine (digit_any _ _).mono ?_; rintro e w' ⟨rfl, rfl⟩))
                go_round
                case rel => exact ⟨k + 1, by omega, by go_num, by rw [HS.out, List.all_append, HA.out]; simp [HN.out, H3.out]⟩
                case measure => simp [intOf]; omega
              · have hb : ((s[k].toNat : Int) != 45) = true := by simp [h3]
                have H3 := Lib.hid h3
                clear h3
                go_wp2_with (first | (go_at_call 18; refine (letter_any _ _).mono ?_; rintro e w' ⟨rfl, rfl⟩) | (go_at_call 19; refine (digit_any _ _).mono ?_; rintro e w' ⟨rfl, rfl⟩))
                go_ret
                exact ⟨ret_bool (by rw [HF.out (by rw [HN.out, h1, h2, decide_eq_false H3.out]; rfl)]), rfl⟩
            · go_wp2_with (first | (go_at_call 18; refine (letter_any _ _).mono ?_; rintro e w' ⟨rfl, rfl⟩) | (go_at_call 19; refine (digit_any _ _).mono ?_; rintro e w' ⟨rfl, rfl⟩))
              go_round
              case rel => exact ⟨k + 1, by omega, by go_num, by rw [HS.out, List.all_append, HA.out]; simp [HN.out, h1, h2]⟩
              case measure => simp [intOf]; omega
          · go_wp2_with (first | (go_at_call 18; refine (letter_any _ _).mono ?_; rintro e w' ⟨rfl, rfl⟩) | (go_at_call 19; refine (digit_any _ _).mono ?_; rintro e w' ⟨rfl, rfl⟩))
            go_round
            case rel => exact ⟨k + 1, by omega, by go_num, by rw [HS.out, List.all_append, HA.out]; simp [HN.out, h1]⟩
            case measure => simp [intOf]; omega
        · have : k = s.size := by omega
          subst this
          go_wp2_with fail
          go_ret
          exact ⟨ret_bool (by rw [HT.out hall]), rfl⟩

theorem isLD_let (c : Int) : Pl.isLet c = (Pl.isLD c && decide (57 < c)) := by
  unfold Pl.isLD Pl.isLet Pl.isDig
  rw [Bool.eq_iff_iff]; simp; omega
theorem nm_of' (c : UInt8) : Pl.nmB c = (Pl.isLD c.toNat || decide ((c.toNat : Int) = 45)) := rfl

set_option maxHeartbeats 1000000 in
theorem refName_any (s : ByteArray) (hs : s.size ≤ 140737488351232) (w : World) :
    Calls Tryd.prog 17 #[.string s] w fun e w' => e = .returned (.bool (Pl.name s.data.toList)) ∧ w = w' := by
  rcases (show s.size = 0 ∨ 60 < s.size ∨ (0 < s.size ∧ s.size ≤ 60) from by omega) with h | h | ⟨h0, h60⟩
  · have H := Lib.hid (name_short s h)
    have h' : s.size < 1 := by omega
    clear h
    go_enter Tryd.func17, Tryd.ntmps17
    go_wp2_with fail
    go_ret
    exact ⟨ret_bool (by rw [H.out]), rfl⟩
  · have H := Lib.hid (name_long s h)
    go_enter Tryd.func17, Tryd.ntmps17
    go_wp2_with fail
    go_ret
    exact ⟨ret_bool (by rw [H.out]), rfl⟩
  · have HD := Lib.hid (isLD_let (s[0].toNat : Int))
    have HH := Lib.hid (name_head s h0)
    have HT := Lib.hid (name_true s h0 h60)
    rcases hl : Pl.isLD (s[0].toNat : Int)
    · go_enter Tryd.func17, Tryd.ntmps17
      go_wp2_with (go_at_call 23; refine (refLetter_any _ _).mono ?_; rintro e w' ⟨rfl, rfl⟩)
      go_ret
      exact ⟨ret_bool (by rw [HH.out (by rw [HD.out, hl]; rfl)]), rfl⟩
    · by_cases h57 : (s[0].toNat : Int) ≤ 57
      · go_enter Tryd.func17, Tryd.ntmps17
        go_wp2_with (go_at_call 23; refine (refLetter_any _ _).mono ?_; rintro e w' ⟨rfl, rfl⟩)
        go_ret
        exact ⟨ret_bool (by rw [HH.out (by rw [HD.out, decide_eq_false (by omega), Bool.and_false])]), rfl⟩
      · have HL : Hid (Pl.isLet (s[0].toNat : Int) = true) := Lib.hid (by rw [HD.out, hl, decide_eq_true (by omega)]; rfl)
        go_enter Tryd.func17, Tryd.ntmps17
        go_wp2_with (go_at_call 23; refine (refLetter_any _ _).mono ?_; rintro e w' ⟨rfl, rfl⟩)
        clear hl h57
        go_loop [3] (fun i => ∃ k : Nat, k ≤ s.size ∧ i = .int .i64 k ∧ (s.data.toList.take k).all Pl.nmB = true) (fun i => s.size - (intOf i).toNat)
        case atStart => exact ⟨0, Nat.zero_le _, rfl, rfl⟩
        case round =>
          obtain ⟨k, hk, rfl, hall⟩ := hrel
          by_cases hlt : k < s.size
          · have HS := Lib.hid (take_snoc s k hlt)
            have HN := Lib.hid (nm_of' s[k])
            have HF := Lib.hid (name_false_at s k hlt)
            have HA := Lib.hid hall
            clear hall
            rcases h1 : Pl.isLD (s[k].toNat : Int)
            · by_cases h3 : (s[k].toNat : Int) = 45
              · have hb : ((s[k].toNat : Int) != 45) = false := by simp [h3]
                have H3 := Lib.hid h3
                clear h3
                go_wp2_with (go_at_call 23; refine (refLetter_any _ _).mono ?_; rintro e w' ⟨rfl, rfl⟩)
                go_round
                case rel => exact ⟨k + 1, by omega, by go_num, by rw [HS.out, List.all_append, HA.out]; simp [HN.out, H3.out]⟩
                case measure => simp [intOf]; omega
              · have hb : ((s[k].toNat : Int) != 45) = true := by simp [h3]
                have H3 := Lib.hid h3
                clear h3
                go_wp2_with (go_at_call 23; refine (refLetter_any _ _).mono ?_; rintro e w' ⟨rfl, rfl⟩)
                go_ret
                exact ⟨ret_bool (by rw [HF.out (by rw [HN.out, h1, decide_eq_false H3.out]; rfl)]), rfl⟩
            · go_wp2_with (go_at_call 23; refine (refLetter_any _ _).mono ?_; rintro e w' ⟨rfl, rfl⟩)
              go_round
              case rel => exact ⟨k + 1, by omega, by go_num, by rw [HS.out, List.all_append, HA.out]; simp [HN.out, h1]⟩
              case measure => simp [intOf]; omega
          · have : k = s.size := by omega
            subst this
            go_wp2_with fail
            go_ret
            exact ⟨ret_bool (by rw [HT.out HL.out hall]), rfl⟩

end Go.Proofs.YtcainpicbkncpaaDoor

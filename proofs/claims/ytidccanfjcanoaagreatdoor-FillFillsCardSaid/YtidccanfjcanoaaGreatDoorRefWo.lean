/-
  binderyref01.Words, by contract (printed by gen_refwords.py).
-/
import Derived.Test.YtidccanfjcanoaaGreatDoorWordsX
namespace Go.Proofs.YtidccanfjcanoaaGreatDoor
open Go.RowKit
set_option linter.unusedVariables false

set_option maxHeartbeats 4000000 in
set_option maxRecDepth 100000 in
theorem refWords_any (s : ByteArray) (hs : s.size ≤ 1099511627776) (w : World) :
    Calls Tryz.prog 10 #[.string s] w fun e w' => ∃ (v : Value) (xs : List ByteArray), e = .returned v ∧ w'.ownsRow w.heap.size 9 1 v xs.length (xs.map Value.string) ∧ xs.map lb = Pl.words (lb s) ∧ xs.length ≤ s.size + 1 ∧ Below w.heap.size w w' := by
  obtain ⟨i0, hi, hz0, hz1, hz2⟩ := info_parts Tryz.info9
  go_enter Tryz.func10, Tryz.ntmps10
  go_wp2_with fail
  go_loopw [3, 4, 5] (fun v fv i wr => ∃ (k f : Nat) (v0 : Value) (xs : List ByteArray), (v = v0 ∧ fv = .int .i64 f ∧ i = .int .i64 k) ∧ wr.ownsRow w.heap.size 9 1 v0 xs.length (xs.map Value.string) ∧ Below w.heap.size w wr ∧
      ((k ≤ s.size ∧ f ≤ k ∧ xs.length ≤ f ∧ xs.map lb ++ Pl.wds (piece s f k) ((lb s).drop k) = Pl.words (lb s)) ∨ (k = s.size + 1 ∧ xs.map lb = Pl.words (lb s) ∧ xs.length ≤ s.size + 1))) (fun _ _ i _ => s.size + 1 - (intOf i).toNat)
  case atStart => exact ⟨0, 0, _, [], ⟨rfl, rfl, rfl⟩, World.ownsRow_nil _ _ _ _, Below.refl _ _, .inl ⟨Nat.zero_le _, Nat.le_refl _, Nat.le_refl _, by simp [piece, Pl.words]⟩⟩
  case round =>
    obtain ⟨k, f, v, xs, ⟨rfl, rfl, rfl⟩, hown, hbel, hrest⟩ := hrel
    have HOwn := Lib.hid hown
    clear hown
    rcases hrest with ⟨hk, hfk, hxf, hw⟩ | ⟨rfl, hw, hxl⟩
    · have HW := Lib.hid hw
      clear hw
      by_cases hlt : k < s.size
      · have HBl := Lib.hid (blank_of s[k])
        rcases (show (s[k].toNat : Int) = 32 ∨ (s[k].toNat : Int) = 9 ∨ (s[k].toNat : Int) = 10 ∨ ((s[k].toNat : Int) ≠ 32 ∧ (s[k].toNat : Int) ≠ 9 ∧ (s[k].toNat : Int) ≠ 10) from by omega) with h | h | h | ⟨h1, h2, h3⟩
        · have hb : Pl.blank s[k] = true := by rw [HBl.out, h]; rfl
          have HN := Lib.hid (words_blank_step s f k xs hfk hlt hb HW.out)
          have HL := Lib.hid (wstep_len s f k xs hxf hfk)
          have e1 : ((s[k].toNat : Int) != 32) = false := by simp [h]
          clear h hb
          by_cases hf : f < k
          · have HX : Hid (wstep s f k xs = xs ++ [s.extract f k]) := Lib.hid (if_pos hf)
            go_wp2_with (at_builtin; go_must (refine wpList_append_own _ rfl _ _ 23 rfl w.heap.size 9 i0 (.string ByteArray.empty) 1 16 Tryz.underlying23 hi hz0 hz1 hz2 rfl (by decide) u3 xs.length _ rfl (HOwn.out.alloc _) ⟨wr.heap.size, 0, none⟩ 1 1 [.string (s.extract f k)] rfl rfl (cell_one_new _ _ _) (by simp [Value.oneCell']) (by unfold maxLen; omega) (by omega) (by have := hbel.size; simp; omega) ?_; intro v' w2 hown' hgrow _))
            have hb2 := (hbel.alloc hbel.size _).grown hgrow (by have := hbel.size; simp; omega) (fun i hi => (HOwn.out.lt i hi).1)
            go_roundw
            case rel => exact ⟨k + 1, k + 1, v', xs ++ [s.extract f k], ⟨rfl, by go_num, by go_num⟩, by rw [List.length_append, List.map_append]; exact hown', hb2, by have h9 := HN.out; have h8 := HL.out; rw [HX.out] at h9 h8; exact .inl ⟨by omega, Nat.le_refl _, h8, h9⟩⟩
            case measure => simp [intOf]; omega
          · have HX : Hid (wstep s f k xs = xs) := Lib.hid (if_neg hf)
            go_wp2_with fail
            go_roundw
            case rel => exact ⟨k + 1, k + 1, u3, xs, ⟨rfl, by go_num, by go_num⟩, HOwn.out, hbel, by have h9 := HN.out; have h8 := HL.out; rw [HX.out] at h9 h8; exact .inl ⟨by omega, Nat.le_refl _, h8, h9⟩⟩
            case measure => simp [intOf]; omega
        · have hb : Pl.blank s[k] = true := by rw [HBl.out, h]; rfl
          have HN := Lib.hid (words_blank_step s f k xs hfk hlt hb HW.out)
          have HL := Lib.hid (wstep_len s f k xs hxf hfk)
          have e1 : ((s[k].toNat : Int) != 32) = true := by simp [h]
          have e2 : ((s[k].toNat : Int) != 9) = false := by simp [h]
          clear h hb
          by_cases hf : f < k
          · have HX : Hid (wstep s f k xs = xs ++ [s.extract f k]) := Lib.hid (if_pos hf)
            go_wp2_with (at_builtin; go_must (refine wpList_append_own _ rfl _ _ 23 rfl w.heap.size 9 i0 (.string ByteArray.empty) 1 16 Tryz.underlying23 hi hz0 hz1 hz2 rfl (by decide) u3 xs.length _ rfl (HOwn.out.alloc _) ⟨wr.heap.size, 0, none⟩ 1 1 [.string (s.extract f k)] rfl rfl (cell_one_new _ _ _) (by simp [Value.oneCell']) (by unfold maxLen; omega) (by omega) (by have := hbel.size; simp; omega) ?_; intro v' w2 hown' hgrow _))
            have hb2 := (hbel.alloc hbel.size _).grown hgrow (by have := hbel.size; simp; omega) (fun i hi => (HOwn.out.lt i hi).1)
            go_roundw
            case rel => exact ⟨k + 1, k + 1, v', xs ++ [s.extract f k], ⟨rfl, by go_num, by go_num⟩, by rw [List.length_append, List.map_append]; exact hown', hb2, by have h9 := HN.out; have h8 := HL.out; rw [HX.out] at h9 h8; exact .inl ⟨by omega, Nat.le_refl _, h8, h9⟩⟩
            case measure => simp [intOf]; omega
          · have HX : Hid (wstep s f k xs = xs) := Lib.hid (if_neg hf)
            go_wp2_with fail
            go_roundw
            case rel => exact ⟨k + 1, k + 1, u3, xs, ⟨rfl, by go_num, by go_num⟩, HOwn.out, hbel, by have h9 := HN.out; have h8 := HL.out; rw [HX.out] at h9 h8; exact .inl ⟨by omega, Nat.le_refl _, h8, h9⟩⟩
            case measure => simp [intOf]; omega
        · have hb : Pl.blank s[k] = true := by rw [HBl.out, h]; rfl
          have HN := Lib.hid (words_blank_step s f k xs hfk hlt hb HW.out)
          have HL := Lib.hid (wstep_len s f k xs hxf hfk)
          have e1 : ((s[k].toNat : Int) != 32) = true := by simp [h]
          have e2 : ((s[k].toNat : Int) != 9) = true := by simp [h]
          have e3 : ((s[k].toNat : Int) != 10) = false := by simp [h]
          clear h hb
          by_cases hf : f < k
          · have HX : Hid (wstep s f k xs = xs ++ [s.extract f k]) := Lib.hid (if_pos hf)
            go_wp2_with (at_builtin; go_must (refine wpList_append_own _ rfl _ _ 23 rfl w.heap.size 9 i0 (.string ByteArray.empty) 1 16 Tryz.underlying23 hi hz0 hz1 hz2 rfl (by decide) u3 xs.length _ rfl (HOwn.out.alloc _) ⟨wr.heap.size, 0, none⟩ 1 1 [.string (s.extract f k)] rfl rfl (cell_one_new _ _ _) (by simp [Value.oneCell']) (by unfold maxLen; omega) (by omega) (by have := hbel.size; simp; omega) ?_; intro v' w2 hown' hgrow _))
            have hb2 := (hbel.alloc hbel.size _).grown hgrow (by have := hbel.size; simp; omega) (fun i hi => (HOwn.out.lt i hi).1)
            go_roundw
            case rel => exact ⟨k + 1, k + 1, v', xs ++ [s.extract f k], ⟨rfl, by go_num, by go_num⟩, by rw [List.length_append, List.map_append]; exact hown', hb2, by have h9 := HN.out; have h8 := HL.out; rw [HX.out] at h9 h8; exact .inl ⟨by omega, Nat.le_refl _, h8, h9⟩⟩
            case measure => simp [intOf]; omega
          · have HX : Hid (wstep s f k xs = xs) := Lib.hid (if_neg hf)
            go_wp2_with fail
            go_roundw
            case rel => exact ⟨k + 1, k + 1, u3, xs, ⟨rfl, by go_num, by go_num⟩, HOwn.out, hbel, by have h9 := HN.out; have h8 := HL.out; rw [HX.out] at h9 h8; exact .inl ⟨by omega, Nat.le_refl _, h8, h9⟩⟩
            case measure => simp [intOf]; omega
        · have hb : Pl.blank s[k] = false := by rw [HBl.out, decide_eq_false h1, decide_eq_false h2, decide_eq_false h3]; rfl
          have HN := Lib.hid (words_other_step s f k xs hfk hlt hb HW.out)
          have e1 : ((s[k].toNat : Int) != 32) = true := by simp [h1]
          have e2 : ((s[k].toNat : Int) != 9) = true := by simp [h2]
          have e3 : ((s[k].toNat : Int) != 10) = true := by simp [h3]
          clear h1 h2 h3 hb
          go_wp2_with fail
          go_roundw
          case rel => exact ⟨k + 1, f, u3, xs, ⟨rfl, rfl, by go_num⟩, HOwn.out, hbel, .inl ⟨by omega, by omega, hxf, HN.out⟩⟩
          case measure => simp [intOf]; omega
      · obtain rfl : k = s.size := by omega
        have HN := Lib.hid (words_end s f xs hfk HW.out)
        have HL := Lib.hid (wstep_len s f s.size xs hxf hfk)
        by_cases hf : f < s.size
        · have HX : Hid (wstep s f s.size xs = xs ++ [s.extract f s.size]) := Lib.hid (if_pos hf)
          go_wp2_with (at_builtin; go_must (refine wpList_append_own _ rfl _ _ 23 rfl w.heap.size 9 i0 (.string ByteArray.empty) 1 16 Tryz.underlying23 hi hz0 hz1 hz2 rfl (by decide) u3 xs.length _ rfl (HOwn.out.alloc _) ⟨wr.heap.size, 0, none⟩ 1 1 [.string (s.extract f s.size)] rfl rfl (cell_one_new _ _ _) (by simp [Value.oneCell']) (by unfold maxLen; omega) (by omega) (by have := hbel.size; simp; omega) ?_; intro v' w2 hown' hgrow _))
          have hb2 := (hbel.alloc hbel.size _).grown hgrow (by have := hbel.size; simp; omega) (fun i hi => (HOwn.out.lt i hi).1)
          go_roundw
          case rel => exact ⟨s.size + 1, s.size + 1, v', xs ++ [s.extract f s.size], ⟨rfl, by go_num, by go_num⟩, by rw [List.length_append, List.map_append]; exact hown', hb2, by have h9 := HN.out; have h8 := HL.out; rw [HX.out] at h9 h8; exact .inr ⟨rfl, h9, h8⟩⟩
          case measure => simp [intOf]
        · have HX : Hid (wstep s f s.size xs = xs) := Lib.hid (if_neg hf)
          go_wp2_with fail
          go_roundw
          case rel => exact ⟨s.size + 1, s.size + 1, u3, xs, ⟨rfl, by go_num, by go_num⟩, HOwn.out, hbel, by have h9 := HN.out; have h8 := HL.out; rw [HX.out] at h9 h8; exact .inr ⟨rfl, h9, h8⟩⟩
          case measure => simp [intOf]
    · go_wp2_with fail
      go_ret
      exact ⟨u3, xs, rfl, HOwn.out, hw, hxl, hbel⟩
end Go.Proofs.YtidccanfjcanoaaGreatDoor

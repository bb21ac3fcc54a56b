/-
  LETTERS: Words of the program, by contract.
-/
import Derived.Test.YtidccanfjcanoaaGreatDoorWordsW
namespace Go.Proofs.YtidccanfjcanoaaGreatDoor
open Go.RowKit

/-- What holds at the head of a round of Words: f the beginning of the word that is being read, xs the words so far. -/
def WInv (s : ByteArray) (H k f : Nat) (v : Value) (xs : List ByteArray) (w : World) : Prop :=
  f ≤ k ∧ xs.length ≤ f ∧ Boxed w (H + 2) 3 (.int .i64 f) ∧ Boxed w (H + 1) 23 v ∧ Boxed w H 9 (.string s) ∧ w.ownsRow (H + 3) 9 1 v xs.length (xs.map Value.string) ∧
    H + 3 ≤ w.heap.size ∧ xs.map lb ++ Pl.wds (piece s f k) ((lb s).drop k) = Pl.words (lb s)

set_option maxHeartbeats 2000000 in
set_option maxRecDepth 100000 in
theorem words_any (s : ByteArray) (hs : s.size ≤ 1099511627776) (w : World) :
    Calls Tryz.prog 8 #[.string s] w fun e w' => ∃ (v : Value) (xs : List ByteArray), e = .returned v ∧ w'.ownsRow w.heap.size 9 1 v xs.length (xs.map Value.string) ∧ xs.map lb = Pl.words (lb s) ∧ xs.length ≤ s.size + 1 ∧ Below w.heap.size w w' := by
  have bS := ((Boxed.new w 9 (.string s)).alloc (.cells #[.slice none 0 0] 23)).alloc (.cells #[.int .i64 0] 3)
  have bO := (Boxed.new (w.alloc (.cells #[.string s] 9)) 23 (.slice none 0 0)).alloc (.cells #[.int .i64 0] 3)
  have bF := Boxed.new ((w.alloc (.cells #[.string s] 9)).alloc (.cells #[.slice none 0 0] 23)) 3 (.int .i64 0)
  have hbel : Below w.heap.size w (((w.alloc (.cells #[.string s] 9)).alloc (.cells #[.slice none 0 0] 23)).alloc (.cells #[.int .i64 0] 3)) :=
    ((((Below.refl _ w).alloc (Nat.le_refl _) _).alloc (by simp) _).alloc (by simp; omega) _)
  simp only [World.size_alloc] at bO bF
  have hinv : WInv s w.heap.size 0 0 (.slice none 0 0) [] (((w.alloc (.cells #[.string s] 9)).alloc (.cells #[.slice none 0 0] 23)).alloc (.cells #[.int .i64 0] 3)) :=
    ⟨Nat.le_refl _, Nat.le_refl _, bF, bO, bS, World.ownsRow_nil _ _ _ _, by simp, by simp [piece, Pl.words]⟩
  have HI := Lib.hid hinv
  have HB := Lib.hid hbel
  clear bS bO bF hbel hinv
  go_enter Tryz.func8, Tryz.ntmps8
  go_wp2_with fail
  go_loopw [10] (fun i wr => ∃ (k f : Nat) (v : Value) (xs : List ByteArray), k ≤ s.size ∧ i = .int .i64 k ∧ WInv s w.heap.size k f v xs wr ∧ Below w.heap.size w wr) (fun i _ => s.size - (intOf i).toNat)
  case atStart => exact ⟨0, 0, _, [], Nat.zero_le _, rfl, HI.out, HB.out⟩
  case round =>
    obtain ⟨k, f, v, xs, hk, rfl, ⟨hfk, hxf, hF, hO, hS, hown, hsz, hw⟩, hbel⟩ := hrel
    have HW := Lib.hid hw
    have cs := hS.cell
    have HO := Lib.hid hO
    have HOwn := Lib.hid hown
    clear hw hO hown
    by_cases hlt : k < s.size
    · have HBl := Lib.hid (blank_of s[k])
      rcases (show (s[k].toNat : Int) = 32 ∨ (s[k].toNat : Int) = 9 ∨ (s[k].toNat : Int) = 10 ∨ ((s[k].toNat : Int) ≠ 32 ∧ (s[k].toNat : Int) ≠ 9 ∧ (s[k].toNat : Int) ≠ 10) from by omega) with h | h | h | ⟨h1, h2, h3⟩
      · have hb : Pl.blank s[k] = true := by rw [HBl.out, h]; rfl
        have HN := Lib.hid (words_blank_step s f k xs hfk hlt hb HW.out)
        have HL := Lib.hid (wstep_len s f k xs hxf hfk)
        have e1 : ((s[k].toNat : Int) == 32) = true := by simp [h]
        clear h hb
        go_wp2_with fail
        refine (word_any s (w.heap.size + 2) (w.heap.size + 1) w.heap.size (w.heap.size + 3) f k v xs _ hs (by omega) hk (by omega) hF HO.out hS (by omega) hsz HOwn.out w.heap.size (by omega) (by omega) (by omega) (by omega)).mono ?_
        rintro e w1 ⟨rfl, v1, hF1, hO1, hS1, hown1, hb1⟩
        have HI1 : Hid (WInv s w.heap.size (k + 1) (k + 1) v1 (wstep s f k xs) w1) := Lib.hid ⟨Nat.le_refl _, HL.out, hF1, hO1, hS1, hown1, Nat.le_trans hsz hb1.size, HN.out⟩
        clear hF1 hO1 hS1 hown1
        go_wp2_with fail
        go_roundw
        case rel => exact ⟨k + 1, k + 1, v1, _, by omega, by go_num, HI1.out, hbel.trans hb1⟩
        case measure => simp [intOf]; omega
      · have hb : Pl.blank s[k] = true := by rw [HBl.out, h]; rfl
        have HN := Lib.hid (words_blank_step s f k xs hfk hlt hb HW.out)
        have HL := Lib.hid (wstep_len s f k xs hxf hfk)
        have e1 : ((s[k].toNat : Int) == 32) = false := by simp [h]
        have e2 : ((s[k].toNat : Int) == 9) = true := by simp [h]
        clear h hb
        go_wp2_with fail
        refine (word_any s (w.heap.size + 2) (w.heap.size + 1) w.heap.size (w.heap.size + 3) f k v xs _ hs (by omega) hk (by omega) hF HO.out hS (by omega) hsz HOwn.out w.heap.size (by omega) (by omega) (by omega) (by omega)).mono ?_
        rintro e w1 ⟨rfl, v1, hF1, hO1, hS1, hown1, hb1⟩
        have HI1 : Hid (WInv s w.heap.size (k + 1) (k + 1) v1 (wstep s f k xs) w1) := Lib.hid ⟨Nat.le_refl _, HL.out, hF1, hO1, hS1, hown1, Nat.le_trans hsz hb1.size, HN.out⟩
        clear hF1 hO1 hS1 hown1
        go_wp2_with fail
        go_roundw
        case rel => exact ⟨k + 1, k + 1, v1, _, by omega, by go_num, HI1.out, hbel.trans hb1⟩
        case measure => simp [intOf]; omega
      · have hb : Pl.blank s[k] = true := by rw [HBl.out, h]; rfl
        have HN := Lib.hid (words_blank_step s f k xs hfk hlt hb HW.out)
        have HL := Lib.hid (wstep_len s f k xs hxf hfk)
        have e1 : ((s[k].toNat : Int) == 32) = false := by simp [h]
        have e2 : ((s[k].toNat : Int) == 9) = false := by simp [h]
        have e3 : ((s[k].toNat : Int) == 10) = true := by simp [h]
        clear h hb
        go_wp2_with fail
        refine (word_any s (w.heap.size + 2) (w.heap.size + 1) w.heap.size (w.heap.size + 3) f k v xs _ hs (by omega) hk (by omega) hF HO.out hS (by omega) hsz HOwn.out w.heap.size (by omega) (by omega) (by omega) (by omega)).mono ?_
        rintro e w1 ⟨rfl, v1, hF1, hO1, hS1, hown1, hb1⟩
        have HI1 : Hid (WInv s w.heap.size (k + 1) (k + 1) v1 (wstep s f k xs) w1) := Lib.hid ⟨Nat.le_refl _, HL.out, hF1, hO1, hS1, hown1, Nat.le_trans hsz hb1.size, HN.out⟩
        clear hF1 hO1 hS1 hown1
        go_wp2_with fail
        go_roundw
        case rel => exact ⟨k + 1, k + 1, v1, _, by omega, by go_num, HI1.out, hbel.trans hb1⟩
        case measure => simp [intOf]; omega
      · have hb : Pl.blank s[k] = false := by rw [HBl.out, decide_eq_false h1, decide_eq_false h2, decide_eq_false h3]; rfl
        have HN := Lib.hid (words_other_step s f k xs hfk hlt hb HW.out)
        have e1 : ((s[k].toNat : Int) == 32) = false := by simp [h1]
        have e2 : ((s[k].toNat : Int) == 9) = false := by simp [h2]
        have e3 : ((s[k].toNat : Int) == 10) = false := by simp [h3]
        clear h1 h2 h3 hb
        go_wp2_with fail
        go_roundw
        case rel => exact ⟨k + 1, f, v, xs, by omega, by go_num, ⟨by omega, hxf, hF, HO.out, hS, HOwn.out, hsz, HN.out⟩, hbel⟩
        case measure => simp [intOf]; omega
    · have : k = s.size := by omega
      subst this
      have HN := Lib.hid (words_end s f xs hfk HW.out)
      have HL := Lib.hid (wstep_len s f s.size xs hxf hfk)
      go_wp2_with fail
      refine (word_any s (w.heap.size + 2) (w.heap.size + 1) w.heap.size (w.heap.size + 3) f s.size v xs _ hs (by omega) hk (by omega) hF HO.out hS (by omega) hsz HOwn.out w.heap.size (by omega) (by omega) (by omega) (by omega)).mono ?_
      rintro e w1 ⟨rfl, v1, hF1, hO1, hS1, hown1, hb1⟩
      have co1 := hO1.cell
      have HR := Lib.hid hown1
      clear hF1 hO1 hS1 hown1
      go_wp2_with fail
      go_ret
      exact ⟨v1, _, rfl, ownsRow_base HR.out (by omega), HN.out, HL.out, hbel.trans hb1⟩

end Go.Proofs.YtidccanfjcanoaaGreatDoor

/-
  NUMBERS: some answers that the document fixes ('alive').
-/
import Derived.Test.YtcjhaeppplmmjaaDoorNextW
import Derived.Test.YtcjhaeppplmmjaaDoorJoinW
import Derived.Test.YtcjhaeppplmmjaaDoorBackW
import Derived.Test.YtcjhaeppplmmjaaDoorLetW
namespace Go.Proofs.YtcjhaeppplmmjaaDoor
open Go.RowKit
set_option linter.unusedVariables false

theorem gPow : Pow10At 1 := by unfold Pow10At; kernel_rfl
theorem gPowType : (Tryd.prog.globals[1]?).map (·.type) = some 71 := by kernel_rfl
theorem gPowFlat : flatT Tryd.prog 4 71 = true := by kernel_rfl
theorem pow_flat : flat 4 (Rows.laid_internal_strconv_uint64pow10 (H := Unit)) = Lib.pow10Tab.map (Value.int .u64) := by
  simp [flat, Rows.laid_internal_strconv_uint64pow10, Lib.pow10Tab, List.range, List.range.loop]
def NumIn (w : World) : Prop := RomanIn w ∧ Pow10 w
theorem numIn_of {W : World} {l : List (String × DataW Unit)} (h : laidMet Tryd.prog l W) (h1 : ("bindery/numbers.roman", Rows.laid_bindery_numbers_roman) ∈ l) (h2 : ("internal/strconv.uint64pow10", Rows.laid_internal_strconv_uint64pow10) ∈ l) : NumIn W :=
  ⟨romanIn_of h h1, tabIs_of_laid h h2 gPow gPowType gPowFlat pow_flat⟩
theorem NumIn.below {w w' : World} (h : NumIn w) (hb : Below w.heap.size w w') : NumIn w' := ⟨h.1.below hb h.1.pos, h.2.below gPow hb (h.2.lt gPow)⟩

theorem roman1994 : Rm.roman 1994 = [77, 67, 77, 88, 67, 73, 86] := by decide +kernel
theorem numXIV : Rm.num [88, 73, 86] = 14 := by decide +kernel
theorem numIIII : Rm.num [73, 73, 73, 73] = 0 := by decide +kernel
theorem letter703 : Rm.letter 703 = [97, 97, 97] := by
  rw [Rm.letter_pos 703 (by decide), show (703 - 1) / 26 = 27 from rfl, Rm.letter_pos 27 (by decide), show (27 - 1) / 26 = 1 from rfl, Rm.letter_pos 1 (by decide), show (1 - 1) / 26 = 0 from rfl, Rm.letter]
  rfl
theorem dotted1210 : Rm.jn [46] [1, 2, 10] 3 = [49, 46, 50, 46, 49, 48] := by
  have e1 : Lib.itoa 1 = [49] := by show Lib.decDigits 1 = _; rw [Lib.decDigits_one (by decide)]; rfl
  have e2 : Lib.itoa 2 = [50] := by show Lib.decDigits 2 = _; rw [Lib.decDigits_one (by decide)]; rfl
  have e3 : Lib.itoa 10 = [49, 48] := by show Lib.decDigits 10 = _; rw [Lib.decDigits_two (by decide) (by decide)]; rfl
  simp [Rm.jn, e1, e2, e3]

theorem roman_c (w : World) (h : RomanIn w) : Calls Tryd.prog 10 #[.int .i64 1994] w fun e w' => e = .returned (.tuple #[.string ⟨#[77, 67, 77, 88, 67, 73, 86]⟩, .int .i64 0]) ∧ Below w.heap.size w w' := by
  have := roman_good 1994 (by decide) (by decide) w h
  rw [roman1994] at this
  exact this
theorem back_c1 (w : World) (h : RomanIn w) : Calls Tryd.prog 15 #[.string ⟨#[88, 73, 86]⟩] w fun e w' => e = .returned (.tuple #[.int .i64 14, .int .i64 0]) ∧ Below w.heap.size w w' := by
  have := back_any ⟨#[88, 73, 86]⟩ w h
  rw [show Rm.num (lb ⟨#[88, 73, 86]⟩) = 14 from numXIV] at this
  exact this
theorem back_c2 (w : World) (h : RomanIn w) : Calls Tryd.prog 15 #[.string ⟨#[73, 73, 73, 73]⟩] w fun e w' => e = .returned (.tuple #[.int .i64 0, .int .i64 4]) ∧ Below w.heap.size w w' := by
  have := back_any ⟨#[73, 73, 73, 73]⟩ w h
  rw [show Rm.num (lb ⟨#[73, 73, 73, 73]⟩) = 0 from numIIII] at this
  exact this
theorem letter_c (w : World) : Calls Tryd.prog 12 #[.int .i64 703] w fun e w' => e = .returned (.tuple #[.string ⟨#[97, 97, 97]⟩, .int .i64 0]) ∧ Below w.heap.size w w' := by
  refine (letter_good 703 (by decide) (by decide) w).mono ?_
  rintro e w' ⟨⟨x, rfl, hx⟩, hb⟩
  rw [letter703] at hx
  obtain rfl : x = ⟨#[97, 97, 97]⟩ := lb_inj' hx
  exact ⟨rfl, hb⟩
theorem next_c1 (w : World) : Calls Tryd.prog 20 #[.slice (some ⟨w.heap.size, 0, none⟩) 3 3, .int .i64 2] (w.alloc (.cells #[.int .i64 1, .int .i64 2, .int .i64 3] 3)) fun e w' =>
    e = .returned (.tuple #[.slice (some ⟨w.heap.size + 1, 0, none⟩) 2 2, .int .i64 0]) ∧ RowOf w' (w.heap.size + 1) 3 [.int .i64 1, .int .i64 3] ∧ Below (w.heap.size + 1) (w.alloc (.cells #[.int .i64 1, .int .i64 2, .int .i64 3] 3)) w' := by
  have H := next_good (some ⟨w.heap.size, 0, none⟩) 3 3 2 [1, 2, 3] rfl (by decide) (by decide) (by decide) (by intro x hx; simp at hx; omega) (w.alloc (.cells #[.int .i64 1, .int .i64 2, .int .i64 3] 3)) (IR.of_lit w 3 [1, 2, 3])
  rw [show (w.alloc (.cells #[.int .i64 1, .int .i64 2, .int .i64 3] 3)).heap.size = w.heap.size + 1 by simp] at H
  refine H.mono ?_
  rintro e w' ⟨h | h, hb⟩
  · exact absurd h.1 (by decide)
  · exact ⟨h.2.1, h.2.2, hb⟩
theorem next_c2 (w : World) : Calls Tryd.prog 20 #[.slice (some ⟨w.heap.size, 0, none⟩) 1 1, .int .i64 1] (w.alloc (.cells #[.int .i64 3999] 3)) fun e w' =>
    e = .returned (.tuple #[.slice none 0 0, .int .i64 3]) ∧ Below (w.heap.size + 1) (w.alloc (.cells #[.int .i64 3999] 3)) w' := by
  have H := next_good (some ⟨w.heap.size, 0, none⟩) 1 1 1 [3999] rfl (by decide) (by decide) (by decide) (by intro x hx; simp at hx; omega) (w.alloc (.cells #[.int .i64 3999] 3)) (IR.of_lit w 3 [3999])
  rw [show (w.alloc (.cells #[.int .i64 3999] 3)).heap.size = w.heap.size + 1 by simp] at H
  refine H.mono ?_
  rintro e w' ⟨h | h, hb⟩
  · exact ⟨h.2, hb⟩
  · exact absurd h.1 (by decide)
theorem dotted_c (w : World) (h : Pow10 w) : Calls Tryd.prog 19 #[.slice (some ⟨w.heap.size, 0, none⟩) 3 3] (w.alloc (.cells #[.int .i64 1, .int .i64 2, .int .i64 10] 3)) fun e w' =>
    e = .returned (.string ⟨#[49, 46, 50, 46, 49, 48]⟩) ∧ Below (w.heap.size + 1) (w.alloc (.cells #[.int .i64 1, .int .i64 2, .int .i64 10] 3)) w' := by
  have H := dotted_any (some ⟨w.heap.size, 0, none⟩) 3 3 1 [1, 2, 10] rfl (by decide) (by intro x hx; simp at hx; omega) (w.alloc (.cells #[.int .i64 1, .int .i64 2, .int .i64 10] 3)) (IR.of_lit w 3 [1, 2, 10]) (h.below gPow ((Below.refl w.heap.size w).alloc (Nat.le_refl _) _) (h.lt gPow)) gPow
  rw [show (w.alloc (.cells #[.int .i64 1, .int .i64 2, .int .i64 10] 3)).heap.size = w.heap.size + 1 by simp] at H
  refine H.mono ?_
  rintro e w' ⟨⟨x, rfl, hx⟩, hb⟩
  rw [dotted1210] at hx
  obtain rfl : x = ⟨#[49, 46, 50, 46, 49, 48]⟩ := lb_inj' hx
  exact ⟨rfl, hb⟩
theorem RowOf.ir {w : World} {g : Nat} {l : List Int} (h : RowOf w g 3 (l.map (Value.int .i64))) : IR w (some ⟨g, 0, none⟩) l := by
  intro _
  refine ⟨g, 0, rfl, ?_, fun j hj => ?_⟩
  · unfold RowOf at h
    exact (Array.getElem?_eq_some_iff.1 h).1
  · rw [Nat.zero_add]
    exact h.cell j _ (by rw [List.getElem?_map, List.getD_eq_getElem?_getD, List.getElem?_eq_getElem hj]; rfl)
theorem same_c (w : World) (A B : Option Addr) (h1 : IR w A [1, 3]) (h2 : IR w B [1, 3]) : Calls Tryd.prog 25 #[.slice A 2 2, .slice B 2 2] w fun e w' => e = .returned (.bool true) ∧ Below w.heap.size w w' := by
  refine (sameInts_any A B 2 2 2 2 [1, 3] [1, 3] w rfl rfl (by decide) (by decide) h1 h2).mono ?_
  rintro e w' ⟨rfl, q, rfl⟩
  exact ⟨ret_bool (by simp), below_drewN (Below.refl _ _) q⟩

set_option maxHeartbeats 4000000 in
set_option maxRecDepth 100000 in
theorem alive_any (w : World) (hN : NumIn w) :
    Calls Tryd.prog 17 #[] w fun e w' => e = .returned (.bool true) ∧ Below w.heap.size w w' := by
  have HN := Lib.hid hN
  clear hN
  go_enter Tryd.func17, Tryd.ntmps17
  go_wp2_with fail
  refine (roman_c _ HN.out.1).mono ?_
  rintro e w1 ⟨rfl, b1⟩
  have H1 := Lib.hid (HN.out.below b1)
  go_wp2_with fail
  refine (back_c1 _ H1.out.1).mono ?_
  rintro e w2 ⟨rfl, b2⟩
  have H2 := Lib.hid (H1.out.below b2)
  have c2 := b1.trans (b2.mono b1.size)
  clear b1 b2 H1
  go_wp2_with fail
  refine (back_c2 _ H2.out.1).mono ?_
  rintro e w3 ⟨rfl, b3⟩
  have c3 := c2.trans (b3.mono c2.size)
  clear b3 c2 H2
  go_wp2_with fail
  refine (letter_c _).mono ?_
  rintro e w4 ⟨rfl, b4⟩
  have c4 := c3.trans (b4.mono c3.size)
  clear b4 c3
  go_wp2_with fail
  refine (next_c1 w4).mono ?_
  rintro e w5 ⟨rfl, hr, b5⟩
  have I5 := Lib.hid (RowOf.ir (l := [1, 3]) hr)
  have c5 := (c4.alloc c4.size (.cells #[.int .i64 1, .int .i64 2, .int .i64 3] 3)).trans (b5.mono (by have := c4.size; omega))
  clear b5 c4 hr
  go_wp2_with fail
  refine (next_c2 w5).mono ?_
  rintro e w6 ⟨rfl, b6⟩
  have b6' := ((Below.refl w5.heap.size w5).alloc (Nat.le_refl _) (.cells #[.int .i64 3999] 3)).trans (b6.mono (by omega))
  have I6 := Lib.hid (I5.out.below b6')
  have c6 := c5.trans (b6'.mono c5.size)
  clear b6 b6' c5 I5
  go_wp2_with fail
  refine (next_level none 0 0 4 (by decide) _).mono ?_
  rintro e w' ⟨rfl, rfl⟩
  have H6 := Lib.hid (HN.out.below c6)
  go_wp2_with fail
  refine (dotted_c w' H6.out.2).mono ?_
  rintro e w7 ⟨rfl, b7⟩
  have b7' := ((Below.refl w'.heap.size w').alloc (Nat.le_refl _) (.cells #[.int .i64 1, .int .i64 2, .int .i64 10] 3)).trans (b7.mono (by omega))
  have I7 := Lib.hid (I6.out.below b7')
  have c7 := c6.trans (b7'.mono c6.size)
  clear b7 b7' c6 I6
  go_wp2_with fail
  refine (same_c _ (some ⟨w4.heap.size + 1, 0, none⟩) (some ⟨w7.heap.size, 0, none⟩) (I7.out.below ((Below.refl w7.heap.size w7).alloc (Nat.le_refl _) _)) (IR.of_lit w7 3 [1, 3])).mono ?_
  rintro e w8 ⟨rfl, b8⟩
  have c8 := (c7.alloc c7.size (.cells #[.int .i64 1, .int .i64 3] 3)).trans (b8.mono (by have := c7.size; simp; omega))
  go_wp2_with fail
  go_ret
  exact ⟨rfl, c8⟩
end Go.Proofs.YtcjhaeppplmmjaaDoor

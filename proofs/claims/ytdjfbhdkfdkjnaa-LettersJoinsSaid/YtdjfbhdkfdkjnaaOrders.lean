/-
  LettersOrders, LettersThree: the walks.
-/
import Derived.Test.YtdjfbhdkfdkjnaaRefO
namespace Go.Proofs.Ytdjfbhdkfdkjnaa
open Go.RowKit

theorem beyond_no {l : List Int} (h : beyond l = false) : sumI l ≤ 1048576 := by
  unfold beyond at h
  simpa using h

set_option maxHeartbeats 400000 in
theorem lettersOrders_walk (a0 a1 : ByteArray) (z0 : a0.size ≤ 140737488351232) (z1 : a1.size ≤ 140737488351232) (w : World) :
    Calls Try.prog 6 #[.string a0, .string a1] w fun e w' => e = .returned (.bool true) ∧ Below w.heap.size w w' := by
  rcases hb : beyond [(a0.size : Int), a1.size]
  · have hsum := beyond_no hb
    simp only [sumI, List.foldr_cons, List.foldr_nil] at hsum
    have s0 : a0.size ≤ 1048576 := by omega
    have s1 : a1.size ≤ 1048576 := by omega
    clear hsum
    go_enter Try.func6, Try.ntmps6
    go_wp2_with (first
      | (go_at_call 12; refine (beyond2 _ _ _ (by omega) (by omega)).mono ?_; rintro e w' ⟨rfl, rfl⟩)
      | (go_at_call 21; refine (order_any _ _ (by omega) (by omega) _).mono ?_; rintro e w1 ⟨rfl, hb1⟩)
      | (go_at_call 22; refine (refOrder_any _ _ (by omega) (by omega) _).mono ?_; rintro e w2 ⟨rfl, hb2⟩))
    go_ret
    exact ⟨ret_bool (by simp), ((Below.refl _ _).alloc (Nat.le_refl _) _).trans ((hb1.mono (by simp)).trans (hb2.mono (by have := hb1.size; simp at this; omega)))⟩
  · go_enter Try.func6, Try.ntmps6
    go_wp2_with (go_at_call 12; refine (beyond2 _ _ _ (by omega) (by omega)).mono ?_; rintro e w' ⟨rfl, rfl⟩)
    go_ret
    exact ⟨rfl, (Below.refl _ _).alloc (Nat.le_refl _) _⟩
end Go.Proofs.Ytdjfbhdkfdkjnaa

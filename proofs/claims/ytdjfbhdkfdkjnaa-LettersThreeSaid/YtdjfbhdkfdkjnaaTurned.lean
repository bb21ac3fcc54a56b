/-
  LettersTurned, LettersThree: the walks.
-/
import Derived.Test.YtdjfbhdkfdkjnaaAliveW
import Derived.Test.YtdjfbhdkfdkjnaaOrders
namespace Go.Proofs.Ytdjfbhdkfdkjnaa
open Go.RowKit

theorem order_facts (a b : List UInt8) : -1 ≤ Pl.order a b ∧ Pl.order a b ≤ 1 ∧ Pl.order b a = - Pl.order a b := ⟨(Pl.order_range a b).1, (Pl.order_range a b).2, Pl.order_neg a b⟩
theorem order_beq (x y : ByteArray) : (Pl.order (lb x) (lb y) == 0) = (x.toList == y.toList) := by
  rw [Bool.eq_iff_iff]
  simp only [beq_iff_eq, Pl.order_zero_iff, Lib.toList_data]

set_option maxHeartbeats 1000000 in
theorem lettersTurned_walk (a0 a1 : ByteArray) (z0 : a0.size ≤ 140737488351232) (z1 : a1.size ≤ 140737488351232) (w : World) :
    Calls Try.prog 7 #[.string a0, .string a1] w fun e w' => e = .returned (.bool true) ∧ Below w.heap.size w w' := by
  rcases hb : beyond [(a0.size : Int), a1.size]
  · have hsum := beyond_no hb
    simp only [sumI, List.foldr_cons, List.foldr_nil] at hsum
    have s0 : a0.size ≤ 1048576 := by omega
    have s1 : a1.size ≤ 1048576 := by omega
    clear hsum
    have ho := order_facts (lb a0) (lb a1)
    have heq := order_beq a0 a1
    have HS : Hid (Pl.order (lb a0) (lb a0) = 0) := Lib.hid (Pl.order_self _)
    obtain ⟨h1, h2, h3⟩ := ho
    obtain ⟨x, hx⟩ : ∃ x, Pl.order (lb a0) (lb a1) = x := ⟨_, rfl⟩
    rw [hx] at h1 h2 h3 heq
    have HX := Lib.hid hx
    have HY := Lib.hid h3
    clear hx h3
    rcases (show x = -1 ∨ x = 0 ∨ x = 1 from by omega) with rfl | rfl | rfl
    · have he : (a0.toList == a1.toList) = false := by rw [← heq]; rfl
      clear heq h1 h2
      go_enter Try.func7, Try.ntmps7
      go_wp2_with fail
      refine (alive_any _).mono ?_
      rintro e w1 ⟨rfl, b1⟩
      go_wp2_with fail
      refine (beyond2 _ _ _ (by omega) (by omega)).mono ?_
      rintro e w' ⟨rfl, rfl⟩
      go_wp2_with fail
      refine (order_c (by omega) (by omega) HX.out _).mono ?_
      rintro e w2 ⟨rfl, b2⟩
      go_wp2_with fail
      refine (order_c (by omega) (by omega) HY.out _).mono ?_
      rintro e w3 ⟨rfl, b3⟩
      go_wp2_with fail
      refine (order_c (by omega) (by omega) HS.out _).mono ?_
      rintro e w4 ⟨rfl, b4⟩
      go_wp2_with fail
      go_ret
      have c1 := b1.alloc b1.size (.cells #[.int .i64 (a0.size : Int), .int .i64 (a1.size : Int)] 3)
      have c2 := c1.trans (b2.mono c1.size)
      have c3 := c2.trans (b3.mono c2.size)
      exact ⟨ret_bool (by simp), c3.trans (b4.mono c3.size)⟩
    · have he : (a0.toList == a1.toList) = true := by rw [← heq]; rfl
      clear heq h1 h2
      go_enter Try.func7, Try.ntmps7
      go_wp2_with fail
      refine (alive_any _).mono ?_
      rintro e w1 ⟨rfl, b1⟩
      go_wp2_with fail
      refine (beyond2 _ _ _ (by omega) (by omega)).mono ?_
      rintro e w' ⟨rfl, rfl⟩
      go_wp2_with fail
      refine (order_c (by omega) (by omega) HX.out _).mono ?_
      rintro e w2 ⟨rfl, b2⟩
      go_wp2_with fail
      refine (order_c (by omega) (by omega) HY.out _).mono ?_
      rintro e w3 ⟨rfl, b3⟩
      go_wp2_with fail
      refine (order_c (by omega) (by omega) HS.out _).mono ?_
      rintro e w4 ⟨rfl, b4⟩
      go_wp2_with fail
      go_ret
      have c1 := b1.alloc b1.size (.cells #[.int .i64 (a0.size : Int), .int .i64 (a1.size : Int)] 3)
      have c2 := c1.trans (b2.mono c1.size)
      have c3 := c2.trans (b3.mono c2.size)
      exact ⟨ret_bool (by simp), c3.trans (b4.mono c3.size)⟩
    · have he : (a0.toList == a1.toList) = false := by rw [← heq]; rfl
      clear heq h1 h2
      go_enter Try.func7, Try.ntmps7
      go_wp2_with fail
      refine (alive_any _).mono ?_
      rintro e w1 ⟨rfl, b1⟩
      go_wp2_with fail
      refine (beyond2 _ _ _ (by omega) (by omega)).mono ?_
      rintro e w' ⟨rfl, rfl⟩
      go_wp2_with fail
      refine (order_c (by omega) (by omega) HX.out _).mono ?_
      rintro e w2 ⟨rfl, b2⟩
      go_wp2_with fail
      refine (order_c (by omega) (by omega) HY.out _).mono ?_
      rintro e w3 ⟨rfl, b3⟩
      go_wp2_with fail
      refine (order_c (by omega) (by omega) HS.out _).mono ?_
      rintro e w4 ⟨rfl, b4⟩
      go_wp2_with fail
      go_ret
      have c1 := b1.alloc b1.size (.cells #[.int .i64 (a0.size : Int), .int .i64 (a1.size : Int)] 3)
      have c2 := c1.trans (b2.mono c1.size)
      have c3 := c2.trans (b3.mono c2.size)
      exact ⟨ret_bool (by simp), c3.trans (b4.mono c3.size)⟩
  · go_enter Try.func7, Try.ntmps7
    go_wp2_with fail
    refine (alive_any _).mono ?_
    rintro e w1 ⟨rfl, b1⟩
    go_wp2_with fail
    refine (beyond2 _ _ _ (by omega) (by omega)).mono ?_
    rintro e w' ⟨rfl, rfl⟩
    go_wp2_with fail
    refine (alive_any _).mono ?_
    rintro e w2 ⟨rfl, b2⟩
    go_wp2_with fail
    go_ret
    exact ⟨rfl, (b1.alloc b1.size _).trans (b2.mono (by have := b1.size; simp; omega))⟩

set_option maxHeartbeats 1000000 in
theorem lettersThree_walk (a0 a1 a2 : ByteArray) (z0 : a0.size ≤ 140737488351232) (z1 : a1.size ≤ 140737488351232) (z2 : a2.size ≤ 140737488351232) (w : World) :
    Calls Try.prog 8 #[.string a0, .string a1, .string a2] w fun e w' => e = .returned (.bool true) ∧ Below w.heap.size w w' := by
  rcases hb : beyond [(a0.size : Int), a1.size, a2.size]
  · have hsum := beyond_no hb
    simp only [sumI, List.foldr_cons, List.foldr_nil] at hsum
    have s0 : a0.size ≤ 1048576 := by omega
    have s1 : a1.size ≤ 1048576 := by omega
    have s2 : a2.size ≤ 1048576 := by omega
    clear hsum
    have ht := Pl.order_trans (lb a0) (lb a1) (lb a2)
    obtain ⟨x, hx⟩ : ∃ x, Pl.order (lb a0) (lb a1) = x := ⟨_, rfl⟩
    obtain ⟨y, hy⟩ : ∃ y, Pl.order (lb a1) (lb a2) = y := ⟨_, rfl⟩
    obtain ⟨z, hz⟩ : ∃ z, Pl.order (lb a0) (lb a2) = z := ⟨_, rfl⟩
    rw [hx, hy, hz] at ht
    have HX := Lib.hid hx
    have HY := Lib.hid hy
    have HZ := Lib.hid hz
    clear hx hy hz
    by_cases hx0 : 0 < x
    · clear ht
      go_enter Try.func8, Try.ntmps8
      go_wp2_with fail
      refine (alive_any _).mono ?_
      rintro e w1 ⟨rfl, b1⟩
      go_wp2_with fail
      refine (beyond3 _ _ _ _ (by omega) (by omega) (by omega)).mono ?_
      rintro e w' ⟨rfl, rfl⟩
      go_wp2_with fail
      refine (order_c (by omega) (by omega) HX.out _).mono ?_
      rintro e w2 ⟨rfl, b2⟩
      go_wp2_with fail
      go_ret
      have c1 := b1.alloc b1.size (.cells #[.int .i64 (a0.size : Int), .int .i64 (a1.size : Int), .int .i64 (a2.size : Int)] 3)
      exact ⟨ret_bool (by simp), c1.trans (b2.mono c1.size)⟩
    · have hx1 : x ≤ 0 := by omega
      have ht' := ht hx1
      clear ht hx0
      by_cases hy0 : 0 < y
      · clear ht'
        go_enter Try.func8, Try.ntmps8
        go_wp2_with fail
        refine (alive_any _).mono ?_
        rintro e w1 ⟨rfl, b1⟩
        go_wp2_with fail
        refine (beyond3 _ _ _ _ (by omega) (by omega) (by omega)).mono ?_
        rintro e w' ⟨rfl, rfl⟩
        go_wp2_with fail
        refine (order_c (by omega) (by omega) HX.out _).mono ?_
        rintro e w2 ⟨rfl, b2⟩
        go_wp2_with fail
        refine (order_c (by omega) (by omega) HY.out _).mono ?_
        rintro e w3 ⟨rfl, b3⟩
        go_wp2_with fail
        go_ret
        have c1 := b1.alloc b1.size (.cells #[.int .i64 (a0.size : Int), .int .i64 (a1.size : Int), .int .i64 (a2.size : Int)] 3)
        have c2 := c1.trans (b2.mono c1.size)
        exact ⟨ret_bool (by simp), c2.trans (b3.mono c2.size)⟩
      · have hy1 : y ≤ 0 := by omega
        have hz1 := ht' hy1
        clear ht' hy0
        go_enter Try.func8, Try.ntmps8
        go_wp2_with fail
        refine (alive_any _).mono ?_
        rintro e w1 ⟨rfl, b1⟩
        go_wp2_with fail
        refine (beyond3 _ _ _ _ (by omega) (by omega) (by omega)).mono ?_
        rintro e w' ⟨rfl, rfl⟩
        go_wp2_with fail
        refine (order_c (by omega) (by omega) HX.out _).mono ?_
        rintro e w2 ⟨rfl, b2⟩
        go_wp2_with fail
        refine (order_c (by omega) (by omega) HY.out _).mono ?_
        rintro e w3 ⟨rfl, b3⟩
        go_wp2_with fail
        refine (order_c (by omega) (by omega) HZ.out _).mono ?_
        rintro e w4 ⟨rfl, b4⟩
        go_wp2_with fail
        go_ret
        have c1 := b1.alloc b1.size (.cells #[.int .i64 (a0.size : Int), .int .i64 (a1.size : Int), .int .i64 (a2.size : Int)] 3)
        have c2 := c1.trans (b2.mono c1.size)
        have c3 := c2.trans (b3.mono c2.size)
        exact ⟨ret_bool (by simp), c3.trans (b4.mono c3.size)⟩
  · go_enter Try.func8, Try.ntmps8
    go_wp2_with fail
    refine (alive_any _).mono ?_
    rintro e w1 ⟨rfl, b1⟩
    go_wp2_with fail
    refine (beyond3 _ _ _ _ (by omega) (by omega) (by omega)).mono ?_
    rintro e w' ⟨rfl, rfl⟩
    go_wp2_with fail
    refine (alive_any _).mono ?_
    rintro e w2 ⟨rfl, b2⟩
    go_wp2_with fail
    go_ret
    exact ⟨rfl, (b1.alloc b1.size _).trans (b2.mono (by have := b1.size; simp; omega))⟩

end Go.Proofs.Ytdjfbhdkfdkjnaa

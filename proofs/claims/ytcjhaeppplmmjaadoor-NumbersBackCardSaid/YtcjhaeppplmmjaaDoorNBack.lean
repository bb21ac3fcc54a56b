/-
  NumbersBack: the walk.
-/
import Derived.Test.YtcjhaeppplmmjaaDoorAliveN
namespace Go.Proofs.YtcjhaeppplmmjaaDoor
open Go.RowKit
set_option linter.unusedVariables false

/-- numbers.Back, then numbers.Roman of what came out: both in one case each. -/
theorem back_none (s : ByteArray) (h : Rm.num (lb s) = 0) (w : World) (hR : RomanIn w) :
    Calls Tryd.prog 15 #[.string s] w fun e w' => e = .returned (.tuple #[.int .i64 0, .int .i64 4]) ∧ Below w.heap.size w w' := by
  have := back_any s w hR
  rw [h] at this
  exact this
theorem back_some (s : ByteArray) (N : Nat) (h : Rm.num (lb s) = N) (h0 : N ≠ 0) (w : World) (hR : RomanIn w) :
    Calls Tryd.prog 15 #[.string s] w fun e w' => e = .returned (.tuple #[.int .i64 N, .int .i64 0]) ∧ Below w.heap.size w w' := by
  have := back_any s w hR
  rw [h, if_neg h0] at this
  exact this
theorem roman_str (N : Nat) (s : ByteArray) (h : Rm.num (lb s) = N) (h0 : N ≠ 0) (w : World) (hR : RomanIn w) :
    Calls Tryd.prog 10 #[.int .i64 N] w fun e w' => e = .returned (.tuple #[.string s, .int .i64 0]) ∧ Below w.heap.size w w' := by
  have hle := Rm.num_le (lb s)
  have hp := Rm.num_pos (s := lb s) (by omega)
  rw [h] at hle hp
  have := roman_good N (by omega) hle w hR
  rw [show (⟨(Rm.roman N).toArray⟩ : ByteArray) = s from lb_inj' (by rw [lb_toArray, hp])] at this
  exact this

set_option maxHeartbeats 1000000 in
set_option maxRecDepth 100000 in
theorem numbersBack_walk (n : Int) (s : ByteArray) (hn : (Lit.int .u16 n).wf = true) (hs : s.size ≤ 140737488351232) (w : World) (hN : NumIn w) :
    Calls Tryd.prog 5 #[.int .u16 n, .string s] w fun e w' => e = .returned (.bool true) ∧ Below w.heap.size w w' := by
  obtain ⟨n0, n1⟩ := bounds_u16 hn
  obtain ⟨m, rfl⟩ : ∃ m : Nat, n = m := ⟨n.toNat, by omega⟩
  have HN := Lib.hid hN
  clear hN hn
  rcases hb : beyond [(s.size : Int)]
  · have hk : (m : Int) % 3999 + 1 = ((m % 3999 + 1 : Nat) : Int) := by omega
    obtain ⟨k, hkd⟩ : ∃ k, k = m % 3999 + 1 := ⟨_, rfl⟩
    have k1 : 1 ≤ k := by omega
    have k2 : k ≤ 3999 := by omega
    rw [← hkd] at hk
    have HK := Lib.hid hk
    clear hk hkd
    go_enter Tryd.func5, Tryd.ntmps5
    go_wp2_with fail
    refine (alive_any w HN.out).mono ?_
    rintro e w1 ⟨rfl, b1⟩
    go_wp2_with fail
    refine (beyond1 w1 s.size (by omega)).mono ?_
    rintro e w' ⟨rfl, rfl⟩
    have c1 := b1.alloc b1.size (.cells #[.int .i64 (s.size : Int)] 3)
    have H1 := Lib.hid (HN.out.below c1)
    clear b1
    go_wp2_with fail
    rw [HK.out]
    have hrl := Rm.roman_len k k1 k2
    have hrs := bld_size (Rm.roman k)
    have hnk := Rm.num_roman k k1 k2
    have hgood := fun w => roman_good k k1 k2 w
    have hlt := lb_toArray (Rm.roman k)
    obtain ⟨x, hx⟩ : ∃ x : ByteArray, x = ⟨(Rm.roman k).toArray⟩ := ⟨_, rfl⟩
    rw [← hx] at hrs hlt
    simp only [← hx] at hgood
    rw [← hlt] at hnk
    have x1 : 1 ≤ x.size := by omega
    have x2 : x.size ≤ 15 := by omega
    have x1i : (1 : Int) ≤ (x.size : Int) := by omega
    have x2i : (x.size : Int) ≤ 15 := by omega
    have kk : ((k : Int) == (k : Int)) = true := by simp
    clear x1 x2
    have HG := Lib.hid hgood
    have HX := Lib.hid hnk
    clear hx hrl hrs hnk hgood hlt
    refine (HG.out _ H1.out.1).mono ?_
    rintro e w2 ⟨rfl, b2⟩
    have c2 := c1.trans (b2.mono c1.size)
    have H2 := Lib.hid (HN.out.below c2)
    clear b2 c1 H1
    go_wp2_with fail
    refine (back_some x k HX.out (by omega) _ H2.out.1).mono ?_
    rintro e w3 ⟨rfl, b3⟩
    have c3 := c2.trans (b3.mono c2.size)
    have H3 := Lib.hid (HN.out.below c3)
    clear b3 c2 H2
    by_cases hz : Rm.num (lb s) = 0
    · have HZ := Lib.hid hz
      clear hz
      go_wp2_with fail
      refine (back_none s HZ.out _ H3.out.1).mono ?_
      rintro e w4 ⟨rfl, b4⟩
      have c4 := c3.trans (b4.mono c3.size)
      go_wp2_with fail
      refine (roman_bad 0 (by omega) _).mono ?_
      rintro e w' ⟨rfl, rfl⟩
      go_wp2_with fail
      go_ret
      exact ⟨ret_bool (by simp), c4⟩
    · obtain ⟨N, hNd⟩ : ∃ N, Rm.num (lb s) = N := ⟨_, rfl⟩
      rw [hNd] at hz
      have HD := Lib.hid hNd
      clear hNd
      have hself : (s.toList == s.toList) = true := by simp
      go_wp2_with fail
      refine (back_some s N HD.out hz _ H3.out.1).mono ?_
      rintro e w4 ⟨rfl, b4⟩
      have c4 := c3.trans (b4.mono c3.size)
      have H4 := Lib.hid (HN.out.below c4)
      go_wp2_with fail
      refine (roman_str N s HD.out hz _ H4.out.1).mono ?_
      rintro e w5 ⟨rfl, b5⟩
      have c5 := c4.trans (b5.mono c4.size)
      go_wp2_with fail
      go_ret
      exact ⟨ret_bool (by simp), c5⟩
  · go_enter Tryd.func5, Tryd.ntmps5
    go_wp2_with fail
    refine (alive_any w HN.out).mono ?_
    rintro e w1 ⟨rfl, b1⟩
    go_wp2_with fail
    refine (beyond1 w1 s.size (by omega)).mono ?_
    rintro e w' ⟨rfl, rfl⟩
    have c1 := b1.alloc b1.size (.cells #[.int .i64 (s.size : Int)] 3)
    have H1 := Lib.hid (HN.out.below c1)
    go_wp2_with fail
    refine (alive_any _ H1.out).mono ?_
    rintro e w2 ⟨rfl, b2⟩
    go_wp2_with fail
    go_ret
    exact ⟨rfl, c1.trans (b2.mono c1.size)⟩
end Go.Proofs.YtcjhaeppplmmjaaDoor

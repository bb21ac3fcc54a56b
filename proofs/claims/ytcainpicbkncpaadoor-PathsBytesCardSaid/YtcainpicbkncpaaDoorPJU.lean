/-
  PathsJoins, PathsUnlike, PathsBytes: the walks.
-/
import Derived.Test.YtcainpicbkncpaaDoorAliveP
namespace Go.Proofs.YtcainpicbkncpaaDoor
open Go.RowKit
set_option linter.unusedVariables false

theorem beyondP_no2 {n m : Nat} (h : beyond [(n : Int), (m : Int)] = false) : n + m ≤ 1048576 := by
  unfold beyond sumI at h
  simp at h
  omega
theorem beyondP_no3 {n m k : Nat} (h : beyond [(n : Int), (m : Int), (k : Int)] = false) : n + m + k ≤ 1048576 := by
  unfold beyond sumI at h
  simp at h
  omega

set_option maxHeartbeats 4000000 in
set_option maxRecDepth 100000 in
theorem pathsJoins_walk (a b : ByteArray) (ha : a.size ≤ 140737488351232) (hb' : b.size ≤ 140737488351232) (w : World) (hM : ML w) :
    Calls Tryd.prog 4 #[.string a, .string b] w fun e w' => e = .returned (.bool true) ∧ Below w.heap.size w w' := by
  have HM := Lib.hid hM
  clear hM
  rcases hb : beyond [(a.size : Int), b.size]
  · have hz := beyondP_no2 hb
    have za : a.size ≤ 1048576 := by omega
    have zb : b.size ≤ 1048576 := by omega
    have e1 : lb (a ++ ⟨#[46]⟩ ++ b) = lb a ++ [46] ++ lb b := by simp [lb]
    have e2 : lb (a ++ ⟨#[46]⟩) = lb a ++ [46] := by simp [lb]
    have e3 : lb (⟨#[46]⟩ ++ a) = 46 :: lb a := by simp [lb]
    have e4 : lb (a ++ ⟨#[46, 46]⟩ ++ b) = lb a ++ [46, 46] ++ lb b := by simp [lb]
    have g1 : Pa.check (lb (a ++ ⟨#[46]⟩ ++ b)) = (Pa.check (lb a) && Pa.check (lb b) && decide (a.size + b.size < 60)) := by rw [e1, Pa.check_joins, lb_len, lb_len]
    have G2 := Lib.hid (show Pa.check (lb (a ++ ⟨#[46]⟩)) = false by rw [e2]; exact Pa.check_dotEnd _)
    have G3 := Lib.hid (show Pa.check (lb (⟨#[46]⟩ ++ a)) = false by rw [e3]; exact Pa.check_dotHead _)
    have G4 := Lib.hid (show Pa.check (lb (a ++ ⟨#[46, 46]⟩ ++ b)) = false by rw [e4]; exact Pa.check_dots _ _)
    have s1 : (a ++ ⟨#[46]⟩ ++ b).size ≤ 1048580 := by rw [ByteArray.size_append, ByteArray.size_append]; show a.size + 1 + b.size ≤ _; omega
    have s2 : (a ++ ⟨#[46]⟩).size ≤ 1048580 := by rw [ByteArray.size_append]; show a.size + 1 ≤ _; omega
    have s3 : ((⟨#[46]⟩ : ByteArray) ++ a).size ≤ 1048580 := by rw [ByteArray.size_append]; show 1 + a.size ≤ _; omega
    have s4 : (a ++ ⟨#[46, 46]⟩ ++ b).size ≤ 1048580 := by rw [ByteArray.size_append, ByteArray.size_append]; show a.size + 2 + b.size ≤ _; omega
    have S1 := Lib.hid s1
    have S2 := Lib.hid s2
    have S3 := Lib.hid s3
    have S4 := Lib.hid s4
    clear e1 e2 e3 e4 s1 s2 s3 s4 hz
    have hNA := Pa.check_name (lb a)
    rcases hA : Pa.check (lb a)
    · have hN : Pl.name (lb a) = false := by
        cases h : Pl.name (lb a)
        · rfl
        · rw [hNA h] at hA; cases hA
      have G1 : Hid (Pa.check (lb (a ++ ⟨#[46]⟩ ++ b)) = false) := Lib.hid (by rw [g1, hA]; rfl)
      have GA := Lib.hid hA
      have GN := Lib.hid hN
      clear g1 hA hN hNA
      go_enter Tryd.func4, Tryd.ntmps4
      go_wp2_with fail
      refine (alive_any w HM.out).mono ?_
      rintro e w1 ⟨rfl, b1⟩
      go_wp2_with fail
      refine (beyond2 w1 a.size b.size (by omega) (by omega)).mono ?_
      rintro e w' ⟨rfl, rfl⟩
      have c1 := b1.alloc b1.size (.cells #[.int .i64 (a.size : Int), .int .i64 (b.size : Int)] 3)
      clear b1
      go_wp2_with fail
      refine (check_c G1.out (by have := S1.out; omega) _ (HM.out.below c1)).mono ?_
      rintro e w2 ⟨rfl, b2⟩
      have c2 := c1.trans (b2.mono c1.size)
      clear b2 c1
      go_wp2_with fail
      refine (check_c GA.out (by omega) _ (HM.out.below c2)).mono ?_
      rintro e w3 ⟨rfl, b3⟩
      have c3 := c2.trans (b3.mono c2.size)
      clear b3 c2
      go_wp2_with fail
      refine (name_cc GN.out (by omega) _).mono ?_
      rintro e w' ⟨rfl, rfl⟩
      go_wp2_with fail
      refine (check_c G2.out (by have := S2.out; omega) _ (HM.out.below c3)).mono ?_
      rintro e w4 ⟨rfl, b4⟩
      have c4 := c3.trans (b4.mono c3.size)
      clear b4 c3
      go_wp2_with fail
      refine (check_c G3.out (by have := S3.out; omega) _ (HM.out.below c4)).mono ?_
      rintro e w5 ⟨rfl, b5⟩
      have c5 := c4.trans (b5.mono c4.size)
      clear b5 c4
      go_wp2_with fail
      refine (check_c G4.out (by have := S4.out; omega) _ (HM.out.below c5)).mono ?_
      rintro e w6 ⟨rfl, b6⟩
      have c6 := c5.trans (b6.mono c5.size)
      clear b6 c5
      go_wp2_with fail
      go_ret
      exact ⟨ret_bool (by simp), c6⟩
    · rcases hB : Pa.check (lb b) <;> rcases hN : Pl.name (lb a)
      · have G1 : Hid (Pa.check (lb (a ++ ⟨#[46]⟩ ++ b)) = false) := Lib.hid (by rw [g1, hA, hB]; rfl)
        have GA := Lib.hid hA
        have GN := Lib.hid hN
        have GB := Lib.hid hB
        clear g1 hA hN hNA hB
        go_enter Tryd.func4, Tryd.ntmps4
        go_wp2_with fail
        refine (alive_any w HM.out).mono ?_
        rintro e w1 ⟨rfl, b1⟩
        go_wp2_with fail
        refine (beyond2 w1 a.size b.size (by omega) (by omega)).mono ?_
        rintro e w' ⟨rfl, rfl⟩
        have c1 := b1.alloc b1.size (.cells #[.int .i64 (a.size : Int), .int .i64 (b.size : Int)] 3)
        clear b1
        go_wp2_with fail
        refine (check_c G1.out (by have := S1.out; omega) _ (HM.out.below c1)).mono ?_
        rintro e w2 ⟨rfl, b2⟩
        have c2 := c1.trans (b2.mono c1.size)
        clear b2 c1
        go_wp2_with fail
        refine (check_c GA.out (by omega) _ (HM.out.below c2)).mono ?_
        rintro e w3 ⟨rfl, b3⟩
        have c3 := c2.trans (b3.mono c2.size)
        clear b3 c2
        go_wp2_with fail
        refine (check_c GB.out (by omega) _ (HM.out.below c3)).mono ?_
        rintro e w4 ⟨rfl, b4⟩
        have c4 := c3.trans (b4.mono c3.size)
        clear b4 c3
        go_wp2_with fail
        refine (name_cc GN.out (by omega) _).mono ?_
        rintro e w' ⟨rfl, rfl⟩
        go_wp2_with fail
        refine (check_c G2.out (by have := S2.out; omega) _ (HM.out.below c4)).mono ?_
        rintro e w5 ⟨rfl, b5⟩
        have c5 := c4.trans (b5.mono c4.size)
        clear b5 c4
        go_wp2_with fail
        refine (check_c G3.out (by have := S3.out; omega) _ (HM.out.below c5)).mono ?_
        rintro e w6 ⟨rfl, b6⟩
        have c6 := c5.trans (b6.mono c5.size)
        clear b6 c5
        go_wp2_with fail
        refine (check_c G4.out (by have := S4.out; omega) _ (HM.out.below c6)).mono ?_
        rintro e w7 ⟨rfl, b7⟩
        have c7 := c6.trans (b7.mono c6.size)
        clear b7 c6
        go_wp2_with fail
        go_ret
        exact ⟨ret_bool (by simp), c7⟩
      · have G1 : Hid (Pa.check (lb (a ++ ⟨#[46]⟩ ++ b)) = false) := Lib.hid (by rw [g1, hA, hB]; rfl)
        have GA := Lib.hid hA
        have GN := Lib.hid hN
        have GB := Lib.hid hB
        clear g1 hA hN hNA hB
        go_enter Tryd.func4, Tryd.ntmps4
        go_wp2_with fail
        refine (alive_any w HM.out).mono ?_
        rintro e w1 ⟨rfl, b1⟩
        go_wp2_with fail
        refine (beyond2 w1 a.size b.size (by omega) (by omega)).mono ?_
        rintro e w' ⟨rfl, rfl⟩
        have c1 := b1.alloc b1.size (.cells #[.int .i64 (a.size : Int), .int .i64 (b.size : Int)] 3)
        clear b1
        go_wp2_with fail
        refine (check_c G1.out (by have := S1.out; omega) _ (HM.out.below c1)).mono ?_
        rintro e w2 ⟨rfl, b2⟩
        have c2 := c1.trans (b2.mono c1.size)
        clear b2 c1
        go_wp2_with fail
        refine (check_c GA.out (by omega) _ (HM.out.below c2)).mono ?_
        rintro e w3 ⟨rfl, b3⟩
        have c3 := c2.trans (b3.mono c2.size)
        clear b3 c2
        go_wp2_with fail
        refine (check_c GB.out (by omega) _ (HM.out.below c3)).mono ?_
        rintro e w4 ⟨rfl, b4⟩
        have c4 := c3.trans (b4.mono c3.size)
        clear b4 c3
        go_wp2_with fail
        refine (name_cc GN.out (by omega) _).mono ?_
        rintro e w' ⟨rfl, rfl⟩
        go_wp2_with fail
        refine (check_c GA.out (by omega) _ (HM.out.below c4)).mono ?_
        rintro e w5 ⟨rfl, b5⟩
        have c5 := c4.trans (b5.mono c4.size)
        clear b5 c4
        go_wp2_with fail
        refine (check_c G2.out (by have := S2.out; omega) _ (HM.out.below c5)).mono ?_
        rintro e w6 ⟨rfl, b6⟩
        have c6 := c5.trans (b6.mono c5.size)
        clear b6 c5
        go_wp2_with fail
        refine (check_c G3.out (by have := S3.out; omega) _ (HM.out.below c6)).mono ?_
        rintro e w7 ⟨rfl, b7⟩
        have c7 := c6.trans (b7.mono c6.size)
        clear b7 c6
        go_wp2_with fail
        refine (check_c G4.out (by have := S4.out; omega) _ (HM.out.below c7)).mono ?_
        rintro e w8 ⟨rfl, b8⟩
        have c8 := c7.trans (b8.mono c7.size)
        clear b8 c7
        go_wp2_with fail
        go_ret
        exact ⟨ret_bool (by simp), c8⟩
      · rcases hL : decide (a.size + b.size < 60)
        · have G1 : Hid (Pa.check (lb (a ++ ⟨#[46]⟩ ++ b)) = false) := Lib.hid (by rw [g1, hA, hB, hL]; rfl)
          have GA := Lib.hid hA
          have GN := Lib.hid hN
          have GB := Lib.hid hB
          have hLi : decide ((a.size : Int) + (b.size : Int) < 60) = false := by have := of_decide_eq_false hL; simp; omega
          clear g1 hA hN hNA hB hL
          go_enter Tryd.func4, Tryd.ntmps4
          go_wp2_with fail
          refine (alive_any w HM.out).mono ?_
          rintro e w1 ⟨rfl, b1⟩
          go_wp2_with fail
          refine (beyond2 w1 a.size b.size (by omega) (by omega)).mono ?_
          rintro e w' ⟨rfl, rfl⟩
          have c1 := b1.alloc b1.size (.cells #[.int .i64 (a.size : Int), .int .i64 (b.size : Int)] 3)
          clear b1
          go_wp2_with fail
          refine (check_c G1.out (by have := S1.out; omega) _ (HM.out.below c1)).mono ?_
          rintro e w2 ⟨rfl, b2⟩
          have c2 := c1.trans (b2.mono c1.size)
          clear b2 c1
          go_wp2_with fail
          refine (check_c GA.out (by omega) _ (HM.out.below c2)).mono ?_
          rintro e w3 ⟨rfl, b3⟩
          have c3 := c2.trans (b3.mono c2.size)
          clear b3 c2
          go_wp2_with fail
          refine (check_c GB.out (by omega) _ (HM.out.below c3)).mono ?_
          rintro e w4 ⟨rfl, b4⟩
          have c4 := c3.trans (b4.mono c3.size)
          clear b4 c3
          go_wp2_with fail
          refine (name_cc GN.out (by omega) _).mono ?_
          rintro e w' ⟨rfl, rfl⟩
          go_wp2_with fail
          refine (check_c G2.out (by have := S2.out; omega) _ (HM.out.below c4)).mono ?_
          rintro e w5 ⟨rfl, b5⟩
          have c5 := c4.trans (b5.mono c4.size)
          clear b5 c4
          go_wp2_with fail
          refine (check_c G3.out (by have := S3.out; omega) _ (HM.out.below c5)).mono ?_
          rintro e w6 ⟨rfl, b6⟩
          have c6 := c5.trans (b6.mono c5.size)
          clear b6 c5
          go_wp2_with fail
          refine (check_c G4.out (by have := S4.out; omega) _ (HM.out.below c6)).mono ?_
          rintro e w7 ⟨rfl, b7⟩
          have c7 := c6.trans (b7.mono c6.size)
          clear b7 c6
          go_wp2_with fail
          go_ret
          exact ⟨ret_bool (by simp), c7⟩
        · have G1 : Hid (Pa.check (lb (a ++ ⟨#[46]⟩ ++ b)) = true) := Lib.hid (by rw [g1, hA, hB, hL]; rfl)
          have GA := Lib.hid hA
          have GN := Lib.hid hN
          have GB := Lib.hid hB
          have hLi : decide ((a.size : Int) + (b.size : Int) < 60) = true := by have := of_decide_eq_true hL; simp; omega
          clear g1 hA hN hNA hB hL
          go_enter Tryd.func4, Tryd.ntmps4
          go_wp2_with fail
          refine (alive_any w HM.out).mono ?_
          rintro e w1 ⟨rfl, b1⟩
          go_wp2_with fail
          refine (beyond2 w1 a.size b.size (by omega) (by omega)).mono ?_
          rintro e w' ⟨rfl, rfl⟩
          have c1 := b1.alloc b1.size (.cells #[.int .i64 (a.size : Int), .int .i64 (b.size : Int)] 3)
          clear b1
          go_wp2_with fail
          refine (check_c G1.out (by have := S1.out; omega) _ (HM.out.below c1)).mono ?_
          rintro e w2 ⟨rfl, b2⟩
          have c2 := c1.trans (b2.mono c1.size)
          clear b2 c1
          go_wp2_with fail
          refine (check_c GA.out (by omega) _ (HM.out.below c2)).mono ?_
          rintro e w3 ⟨rfl, b3⟩
          have c3 := c2.trans (b3.mono c2.size)
          clear b3 c2
          go_wp2_with fail
          refine (check_c GB.out (by omega) _ (HM.out.below c3)).mono ?_
          rintro e w4 ⟨rfl, b4⟩
          have c4 := c3.trans (b4.mono c3.size)
          clear b4 c3
          go_wp2_with fail
          refine (name_cc GN.out (by omega) _).mono ?_
          rintro e w' ⟨rfl, rfl⟩
          go_wp2_with fail
          refine (check_c G2.out (by have := S2.out; omega) _ (HM.out.below c4)).mono ?_
          rintro e w5 ⟨rfl, b5⟩
          have c5 := c4.trans (b5.mono c4.size)
          clear b5 c4
          go_wp2_with fail
          refine (check_c G3.out (by have := S3.out; omega) _ (HM.out.below c5)).mono ?_
          rintro e w6 ⟨rfl, b6⟩
          have c6 := c5.trans (b6.mono c5.size)
          clear b6 c5
          go_wp2_with fail
          refine (check_c G4.out (by have := S4.out; omega) _ (HM.out.below c6)).mono ?_
          rintro e w7 ⟨rfl, b7⟩
          have c7 := c6.trans (b7.mono c6.size)
          clear b7 c6
          go_wp2_with fail
          go_ret
          exact ⟨ret_bool (by simp), c7⟩
      · rcases hL : decide (a.size + b.size < 60)
        · have G1 : Hid (Pa.check (lb (a ++ ⟨#[46]⟩ ++ b)) = false) := Lib.hid (by rw [g1, hA, hB, hL]; rfl)
          have GA := Lib.hid hA
          have GN := Lib.hid hN
          have GB := Lib.hid hB
          have hLi : decide ((a.size : Int) + (b.size : Int) < 60) = false := by have := of_decide_eq_false hL; simp; omega
          clear g1 hA hN hNA hB hL
          go_enter Tryd.func4, Tryd.ntmps4
          go_wp2_with fail
          refine (alive_any w HM.out).mono ?_
          rintro e w1 ⟨rfl, b1⟩
          go_wp2_with fail
          refine (beyond2 w1 a.size b.size (by omega) (by omega)).mono ?_
          rintro e w' ⟨rfl, rfl⟩
          have c1 := b1.alloc b1.size (.cells #[.int .i64 (a.size : Int), .int .i64 (b.size : Int)] 3)
          clear b1
          go_wp2_with fail
          refine (check_c G1.out (by have := S1.out; omega) _ (HM.out.below c1)).mono ?_
          rintro e w2 ⟨rfl, b2⟩
          have c2 := c1.trans (b2.mono c1.size)
          clear b2 c1
          go_wp2_with fail
          refine (check_c GA.out (by omega) _ (HM.out.below c2)).mono ?_
          rintro e w3 ⟨rfl, b3⟩
          have c3 := c2.trans (b3.mono c2.size)
          clear b3 c2
          go_wp2_with fail
          refine (check_c GB.out (by omega) _ (HM.out.below c3)).mono ?_
          rintro e w4 ⟨rfl, b4⟩
          have c4 := c3.trans (b4.mono c3.size)
          clear b4 c3
          go_wp2_with fail
          refine (name_cc GN.out (by omega) _).mono ?_
          rintro e w' ⟨rfl, rfl⟩
          go_wp2_with fail
          refine (check_c GA.out (by omega) _ (HM.out.below c4)).mono ?_
          rintro e w5 ⟨rfl, b5⟩
          have c5 := c4.trans (b5.mono c4.size)
          clear b5 c4
          go_wp2_with fail
          refine (check_c G2.out (by have := S2.out; omega) _ (HM.out.below c5)).mono ?_
          rintro e w6 ⟨rfl, b6⟩
          have c6 := c5.trans (b6.mono c5.size)
          clear b6 c5
          go_wp2_with fail
          refine (check_c G3.out (by have := S3.out; omega) _ (HM.out.below c6)).mono ?_
          rintro e w7 ⟨rfl, b7⟩
          have c7 := c6.trans (b7.mono c6.size)
          clear b7 c6
          go_wp2_with fail
          refine (check_c G4.out (by have := S4.out; omega) _ (HM.out.below c7)).mono ?_
          rintro e w8 ⟨rfl, b8⟩
          have c8 := c7.trans (b8.mono c7.size)
          clear b8 c7
          go_wp2_with fail
          go_ret
          exact ⟨ret_bool (by simp), c8⟩
        · have G1 : Hid (Pa.check (lb (a ++ ⟨#[46]⟩ ++ b)) = true) := Lib.hid (by rw [g1, hA, hB, hL]; rfl)
          have GA := Lib.hid hA
          have GN := Lib.hid hN
          have GB := Lib.hid hB
          have hLi : decide ((a.size : Int) + (b.size : Int) < 60) = true := by have := of_decide_eq_true hL; simp; omega
          clear g1 hA hN hNA hB hL
          go_enter Tryd.func4, Tryd.ntmps4
          go_wp2_with fail
          refine (alive_any w HM.out).mono ?_
          rintro e w1 ⟨rfl, b1⟩
          go_wp2_with fail
          refine (beyond2 w1 a.size b.size (by omega) (by omega)).mono ?_
          rintro e w' ⟨rfl, rfl⟩
          have c1 := b1.alloc b1.size (.cells #[.int .i64 (a.size : Int), .int .i64 (b.size : Int)] 3)
          clear b1
          go_wp2_with fail
          refine (check_c G1.out (by have := S1.out; omega) _ (HM.out.below c1)).mono ?_
          rintro e w2 ⟨rfl, b2⟩
          have c2 := c1.trans (b2.mono c1.size)
          clear b2 c1
          go_wp2_with fail
          refine (check_c GA.out (by omega) _ (HM.out.below c2)).mono ?_
          rintro e w3 ⟨rfl, b3⟩
          have c3 := c2.trans (b3.mono c2.size)
          clear b3 c2
          go_wp2_with fail
          refine (check_c GB.out (by omega) _ (HM.out.below c3)).mono ?_
          rintro e w4 ⟨rfl, b4⟩
          have c4 := c3.trans (b4.mono c3.size)
          clear b4 c3
          go_wp2_with fail
          refine (name_cc GN.out (by omega) _).mono ?_
          rintro e w' ⟨rfl, rfl⟩
          go_wp2_with fail
          refine (check_c GA.out (by omega) _ (HM.out.below c4)).mono ?_
          rintro e w5 ⟨rfl, b5⟩
          have c5 := c4.trans (b5.mono c4.size)
          clear b5 c4
          go_wp2_with fail
          refine (check_c G2.out (by have := S2.out; omega) _ (HM.out.below c5)).mono ?_
          rintro e w6 ⟨rfl, b6⟩
          have c6 := c5.trans (b6.mono c5.size)
          clear b6 c5
          go_wp2_with fail
          refine (check_c G3.out (by have := S3.out; omega) _ (HM.out.below c6)).mono ?_
          rintro e w7 ⟨rfl, b7⟩
          have c7 := c6.trans (b7.mono c6.size)
          clear b7 c6
          go_wp2_with fail
          refine (check_c G4.out (by have := S4.out; omega) _ (HM.out.below c7)).mono ?_
          rintro e w8 ⟨rfl, b8⟩
          have c8 := c7.trans (b8.mono c7.size)
          clear b8 c7
          go_wp2_with fail
          go_ret
          exact ⟨ret_bool (by simp), c8⟩
  · go_enter Tryd.func4, Tryd.ntmps4
    go_wp2_with fail
    refine (alive_any w HM.out).mono ?_
    rintro e w1 ⟨rfl, b1⟩
    go_wp2_with fail
    refine (beyond2 w1 a.size b.size (by omega) (by omega)).mono ?_
    rintro e w' ⟨rfl, rfl⟩
    have c1 := b1.alloc b1.size (.cells #[.int .i64 (a.size : Int), .int .i64 (b.size : Int)] 3)
    clear b1
    go_wp2_with fail
    refine (alive_any _ (HM.out.below c1)).mono ?_
    rintro e w2 ⟨rfl, b2⟩
    go_wp2_with fail
    go_ret
    exact ⟨rfl, c1.trans (b2.mono c1.size)⟩

theorem link_is (p a x : ByteArray) (h : lb x = Pa.link (lb p) (lb a)) (hp : p.size ≤ 140737488351232) (ha : a.size ≤ 140737488351232) (w : World) :
    Calls Tryd.prog 13 #[.string p, .string a] w fun e w' => e = .returned (.string x) ∧ w = w' := by
  unfold Pa.link at h
  by_cases h0 : lb a = []
  · rw [if_pos h0] at h
    obtain rfl : x = p := bytes_ext h
    exact link_nil x a (isEmptyP_yes a h0) hp w
  · rw [if_neg h0] at h
    obtain rfl : x = p ++ ⟨#[35]⟩ ++ a := bytes_ext (by rw [show x.data.toList = lb x from rfl, h]; simp [lb])
    exact link_some p a (isEmptyP_no a h0) hp ha w
theorem beq_is {x y : ByteArray} {b : Bool} (h : decide (lb x = lb y) = b) : (x.toList == y.toList) = b := by
  rw [toLP, toLP, ← h, Bool.eq_iff_iff]; simp

set_option maxHeartbeats 4000000 in
set_option maxRecDepth 100000 in
theorem pathsUnlike_walk (a b p : ByteArray) (ha : a.size ≤ 140737488351232) (hb' : b.size ≤ 140737488351232) (hp : p.size ≤ 140737488351232) (w : World) (hM : ML w) :
    Calls Tryd.prog 5 #[.string a, .string b, .string p] w fun e w' => e = .returned (.bool true) ∧ Below w.heap.size w w' := by
  have HM := Lib.hid hM
  clear hM
  rcases hb : beyond [(a.size : Int), b.size, p.size]
  · have hz := beyondP_no3 hb
    have za : a.size ≤ 1048576 := by omega
    have zb : b.size ≤ 1048576 := by omega
    have zp : p.size ≤ 1048576 := by omega
    obtain ⟨x, hx⟩ : ∃ x : ByteArray, x = a ++ ⟨#[46, 104, 116, 109, 108]⟩ := ⟨_, rfl⟩
    obtain ⟨y, hy⟩ : ∃ x : ByteArray, x = b ++ ⟨#[46, 104, 116, 109, 108]⟩ := ⟨_, rfl⟩
    have hxl : lb x = lb a ++ 46 :: Pa.html := by rw [hx]; simp [lb, Pa.html]
    have hyl : lb y = lb b ++ 46 :: Pa.html := by rw [hy]; simp [lb, Pa.html]
    have hxs : x.size = a.size + 5 := by rw [← lb_len x, hxl, List.length_append, lb_len]; rfl
    obtain ⟨P, hP⟩ : ∃ x : ByteArray, lb x = Pa.link (lb p) (lb a) := ⟨⟨(Pa.link (lb p) (lb a)).toArray⟩, by simp [lb]⟩
    obtain ⟨Q, hQ⟩ : ∃ x : ByteArray, lb x = Pa.link (lb p) (lb b) := ⟨⟨(Pa.link (lb p) (lb b)).toArray⟩, by simp [lb]⟩
    have pgx := page_any a (by omega)
    have pgy := page_any b (by omega)
    rw [← hx] at pgx
    rw [← hy] at pgy
    obtain ⟨t, ht⟩ := Pa.link_pre (lb p) (lb a)
    have hPs : p.size ≤ P.size := by rw [← lb_len, ← lb_len, hP, ht, List.length_append]; omega
    have hpre : ((P.extract 0 p.size).toList == p.toList) = true := lbs_eqP (by rw [lb_ext, hP, ht, List.drop_zero, Nat.sub_zero, ← lb_len p, List.take_left])
    obtain ⟨eb, heb⟩ : ∃ eb, eb = decide (lb a = lb b) := ⟨_, rfl⟩
    have q1 : (a.toList == b.toList) = eb := beq_is heb.symm
    have q2 : (x.toList == y.toList) = eb := beq_is (by rw [heb, hxl, hyl, decide_eq_decide]; simp)
    have q3 : (P.toList == Q.toList) = eb := beq_is (by rw [heb, hP, hQ, decide_eq_decide]; exact Pa.link_eq _ _ _)
    have hck := Pa.check_page (lb a)
    rw [← hxl, lb_len] at hck
    have hxs2 : ((x.size : Int) == (a.size : Int) + 5) = true := by rw [hxs]; simp
    have hxs3 : (x.size : Int) = (a.size : Int) + 5 := by omega
    have HXS := Lib.hid hxs3
    have HPX := Lib.hid pgx
    have HPY := Lib.hid pgy
    have HP := Lib.hid hP
    have HQ := Lib.hid hQ
    have hxz : x.size ≤ 1048581 := by omega
    have hPi : (p.size : Int) ≤ (P.size : Int) := by omega
    clear hx hy hxl hyl hxs hP hQ pgx pgy ht heb hxs3 hz
    cases eb
    · rcases hA : Pa.check (lb a)
      · have GA := Lib.hid hA
        clear hA hck
        go_enter Tryd.func5, Tryd.ntmps5
        go_wp2_with fail
        refine (alive_any w HM.out).mono ?_
        rintro e w1 ⟨rfl, b1⟩
        go_wp2_with fail
        refine (beyond3 w1 a.size b.size p.size (by omega) (by omega) (by omega)).mono ?_
        rintro e w' ⟨rfl, rfl⟩
        have c1 := b1.alloc b1.size (.cells #[.int .i64 (a.size : Int), .int .i64 (b.size : Int), .int .i64 (p.size : Int)] 3)
        clear b1
        go_wp2_with fail
        refine (HPX.out _).mono ?_
        rintro e w' ⟨rfl, rfl⟩
        go_wp2_with fail
        refine (HPY.out _).mono ?_
        rintro e w' ⟨rfl, rfl⟩
        go_wp2_with fail
        refine (check_c GA.out (by omega) _ (HM.out.below c1)).mono ?_
        rintro e w2 ⟨rfl, b2⟩
        have c2 := c1.trans (b2.mono c1.size)
        clear b2 c1
        go_wp2_with fail
        refine (link_is p a P HP.out (by omega) (by omega) _).mono ?_
        rintro e w' ⟨rfl, rfl⟩
        go_wp2_with fail
        refine (link_is p b Q HQ.out (by omega) (by omega) _).mono ?_
        rintro e w' ⟨rfl, rfl⟩
        go_wp2_with fail
        go_ret
        exact ⟨ret_bool (by simp), c2⟩
      · rcases hC : decide (x.size ≤ 60)
        · have hcx : Pa.check (lb x) = false := by rw [hck hA, hC]
          have GC := Lib.hid hcx
          have hCi : ¬ (a.size : Int) + 5 ≤ 60 := by have := of_decide_eq_false hC; have := HXS.out; omega
          have GA := Lib.hid hA
          clear hA hck hcx hC
          go_enter Tryd.func5, Tryd.ntmps5
          go_wp2_with fail
          refine (alive_any w HM.out).mono ?_
          rintro e w1 ⟨rfl, b1⟩
          go_wp2_with fail
          refine (beyond3 w1 a.size b.size p.size (by omega) (by omega) (by omega)).mono ?_
          rintro e w' ⟨rfl, rfl⟩
          have c1 := b1.alloc b1.size (.cells #[.int .i64 (a.size : Int), .int .i64 (b.size : Int), .int .i64 (p.size : Int)] 3)
          clear b1
          go_wp2_with fail
          refine (HPX.out _).mono ?_
          rintro e w' ⟨rfl, rfl⟩
          go_wp2_with fail
          refine (HPY.out _).mono ?_
          rintro e w' ⟨rfl, rfl⟩
          go_wp2_with fail
          refine (check_c GA.out (by omega) _ (HM.out.below c1)).mono ?_
          rintro e w2 ⟨rfl, b2⟩
          have c2 := c1.trans (b2.mono c1.size)
          clear b2 c1
          go_wp2_with fail
          refine (check_c GC.out (by omega) _ (HM.out.below c2)).mono ?_
          rintro e w3 ⟨rfl, b3⟩
          have c3 := c2.trans (b3.mono c2.size)
          clear b3 c2
          go_wp2_with fail
          refine (link_is p a P HP.out (by omega) (by omega) _).mono ?_
          rintro e w' ⟨rfl, rfl⟩
          go_wp2_with fail
          refine (link_is p b Q HQ.out (by omega) (by omega) _).mono ?_
          rintro e w' ⟨rfl, rfl⟩
          go_wp2_with fail
          go_ret
          exact ⟨ret_bool (by simp), c3⟩
        · have hcx : Pa.check (lb x) = true := by rw [hck hA, hC]
          have GC := Lib.hid hcx
          have hCi : (a.size : Int) + 5 ≤ 60 := by have := of_decide_eq_true hC; have := HXS.out; omega
          have GA := Lib.hid hA
          clear hA hck hcx hC
          go_enter Tryd.func5, Tryd.ntmps5
          go_wp2_with fail
          refine (alive_any w HM.out).mono ?_
          rintro e w1 ⟨rfl, b1⟩
          go_wp2_with fail
          refine (beyond3 w1 a.size b.size p.size (by omega) (by omega) (by omega)).mono ?_
          rintro e w' ⟨rfl, rfl⟩
          have c1 := b1.alloc b1.size (.cells #[.int .i64 (a.size : Int), .int .i64 (b.size : Int), .int .i64 (p.size : Int)] 3)
          clear b1
          go_wp2_with fail
          refine (HPX.out _).mono ?_
          rintro e w' ⟨rfl, rfl⟩
          go_wp2_with fail
          refine (HPY.out _).mono ?_
          rintro e w' ⟨rfl, rfl⟩
          go_wp2_with fail
          refine (check_c GA.out (by omega) _ (HM.out.below c1)).mono ?_
          rintro e w2 ⟨rfl, b2⟩
          have c2 := c1.trans (b2.mono c1.size)
          clear b2 c1
          go_wp2_with fail
          refine (check_c GC.out (by omega) _ (HM.out.below c2)).mono ?_
          rintro e w3 ⟨rfl, b3⟩
          have c3 := c2.trans (b3.mono c2.size)
          clear b3 c2
          go_wp2_with fail
          refine (link_is p a P HP.out (by omega) (by omega) _).mono ?_
          rintro e w' ⟨rfl, rfl⟩
          go_wp2_with fail
          refine (link_is p b Q HQ.out (by omega) (by omega) _).mono ?_
          rintro e w' ⟨rfl, rfl⟩
          go_wp2_with fail
          go_ret
          exact ⟨ret_bool (by simp), c3⟩
    · rcases hA : Pa.check (lb a)
      · have GA := Lib.hid hA
        clear hA hck
        go_enter Tryd.func5, Tryd.ntmps5
        go_wp2_with fail
        refine (alive_any w HM.out).mono ?_
        rintro e w1 ⟨rfl, b1⟩
        go_wp2_with fail
        refine (beyond3 w1 a.size b.size p.size (by omega) (by omega) (by omega)).mono ?_
        rintro e w' ⟨rfl, rfl⟩
        have c1 := b1.alloc b1.size (.cells #[.int .i64 (a.size : Int), .int .i64 (b.size : Int), .int .i64 (p.size : Int)] 3)
        clear b1
        go_wp2_with fail
        refine (HPX.out _).mono ?_
        rintro e w' ⟨rfl, rfl⟩
        go_wp2_with fail
        refine (HPY.out _).mono ?_
        rintro e w' ⟨rfl, rfl⟩
        go_wp2_with fail
        refine (check_c GA.out (by omega) _ (HM.out.below c1)).mono ?_
        rintro e w2 ⟨rfl, b2⟩
        have c2 := c1.trans (b2.mono c1.size)
        clear b2 c1
        go_wp2_with fail
        refine (link_is p a P HP.out (by omega) (by omega) _).mono ?_
        rintro e w' ⟨rfl, rfl⟩
        go_wp2_with fail
        refine (link_is p b Q HQ.out (by omega) (by omega) _).mono ?_
        rintro e w' ⟨rfl, rfl⟩
        go_wp2_with fail
        go_ret
        exact ⟨ret_bool (by simp), c2⟩
      · rcases hC : decide (x.size ≤ 60)
        · have hcx : Pa.check (lb x) = false := by rw [hck hA, hC]
          have GC := Lib.hid hcx
          have hCi : ¬ (a.size : Int) + 5 ≤ 60 := by have := of_decide_eq_false hC; have := HXS.out; omega
          have GA := Lib.hid hA
          clear hA hck hcx hC
          go_enter Tryd.func5, Tryd.ntmps5
          go_wp2_with fail
          refine (alive_any w HM.out).mono ?_
          rintro e w1 ⟨rfl, b1⟩
          go_wp2_with fail
          refine (beyond3 w1 a.size b.size p.size (by omega) (by omega) (by omega)).mono ?_
          rintro e w' ⟨rfl, rfl⟩
          have c1 := b1.alloc b1.size (.cells #[.int .i64 (a.size : Int), .int .i64 (b.size : Int), .int .i64 (p.size : Int)] 3)
          clear b1
          go_wp2_with fail
          refine (HPX.out _).mono ?_
          rintro e w' ⟨rfl, rfl⟩
          go_wp2_with fail
          refine (HPY.out _).mono ?_
          rintro e w' ⟨rfl, rfl⟩
          go_wp2_with fail
          refine (check_c GA.out (by omega) _ (HM.out.below c1)).mono ?_
          rintro e w2 ⟨rfl, b2⟩
          have c2 := c1.trans (b2.mono c1.size)
          clear b2 c1
          go_wp2_with fail
          refine (check_c GC.out (by omega) _ (HM.out.below c2)).mono ?_
          rintro e w3 ⟨rfl, b3⟩
          have c3 := c2.trans (b3.mono c2.size)
          clear b3 c2
          go_wp2_with fail
          refine (link_is p a P HP.out (by omega) (by omega) _).mono ?_
          rintro e w' ⟨rfl, rfl⟩
          go_wp2_with fail
          refine (link_is p b Q HQ.out (by omega) (by omega) _).mono ?_
          rintro e w' ⟨rfl, rfl⟩
          go_wp2_with fail
          go_ret
          exact ⟨ret_bool (by simp), c3⟩
        · have hcx : Pa.check (lb x) = true := by rw [hck hA, hC]
          have GC := Lib.hid hcx
          have hCi : (a.size : Int) + 5 ≤ 60 := by have := of_decide_eq_true hC; have := HXS.out; omega
          have GA := Lib.hid hA
          clear hA hck hcx hC
          go_enter Tryd.func5, Tryd.ntmps5
          go_wp2_with fail
          refine (alive_any w HM.out).mono ?_
          rintro e w1 ⟨rfl, b1⟩
          go_wp2_with fail
          refine (beyond3 w1 a.size b.size p.size (by omega) (by omega) (by omega)).mono ?_
          rintro e w' ⟨rfl, rfl⟩
          have c1 := b1.alloc b1.size (.cells #[.int .i64 (a.size : Int), .int .i64 (b.size : Int), .int .i64 (p.size : Int)] 3)
          clear b1
          go_wp2_with fail
          refine (HPX.out _).mono ?_
          rintro e w' ⟨rfl, rfl⟩
          go_wp2_with fail
          refine (HPY.out _).mono ?_
          rintro e w' ⟨rfl, rfl⟩
          go_wp2_with fail
          refine (check_c GA.out (by omega) _ (HM.out.below c1)).mono ?_
          rintro e w2 ⟨rfl, b2⟩
          have c2 := c1.trans (b2.mono c1.size)
          clear b2 c1
          go_wp2_with fail
          refine (check_c GC.out (by omega) _ (HM.out.below c2)).mono ?_
          rintro e w3 ⟨rfl, b3⟩
          have c3 := c2.trans (b3.mono c2.size)
          clear b3 c2
          go_wp2_with fail
          refine (link_is p a P HP.out (by omega) (by omega) _).mono ?_
          rintro e w' ⟨rfl, rfl⟩
          go_wp2_with fail
          refine (link_is p b Q HQ.out (by omega) (by omega) _).mono ?_
          rintro e w' ⟨rfl, rfl⟩
          go_wp2_with fail
          go_ret
          exact ⟨ret_bool (by simp), c3⟩
  · go_enter Tryd.func5, Tryd.ntmps5
    go_wp2_with fail
    refine (alive_any w HM.out).mono ?_
    rintro e w1 ⟨rfl, b1⟩
    go_wp2_with fail
    refine (beyond3 w1 a.size b.size p.size (by omega) (by omega) (by omega)).mono ?_
    rintro e w' ⟨rfl, rfl⟩
    have c1 := b1.alloc b1.size (.cells #[.int .i64 (a.size : Int), .int .i64 (b.size : Int), .int .i64 (p.size : Int)] 3)
    clear b1
    go_wp2_with fail
    refine (alive_any _ (HM.out.below c1)).mono ?_
    rintro e w2 ⟨rfl, b2⟩
    go_wp2_with fail
    go_ret
    exact ⟨rfl, c1.trans (b2.mono c1.size)⟩
end Go.Proofs.YtcainpicbkncpaaDoor

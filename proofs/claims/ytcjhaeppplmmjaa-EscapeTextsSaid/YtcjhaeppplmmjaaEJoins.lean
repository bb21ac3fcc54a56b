/-
  EscapeJoins: the walk.
-/
import Derived.Test.YtcjhaeppplmmjaaEBack
namespace Go.Proofs.Ytcjhaeppplmmjaa
open Go.RowKit
set_option linter.unusedVariables false

theorem beyond_no2 {n m : Nat} (h : beyond [(n : Int), (m : Int)] = false) : n + m ≤ 1048576 := by
  unfold beyond sumI at h
  simp at h
  omega
theorem back_gen (s : ByteArray) (hs : s.size ≤ 17592186044416) (w : World) :
    Calls Try.prog 12 #[.string s] w fun e w' => ∃ (x : ByteArray) (k : Nat), e = .returned (.tuple #[.string x, .int .i64 (k : Int)]) ∧ Below w.heap.size w w' := by
  refine (back_any s hs w).mono ?_
  rintro e w' ⟨he, hb⟩
  cases h : Es.back (lb s) with
  | none => rw [h] at he; exact ⟨_, 4, he, hb⟩
  | some l => rw [h] at he; exact ⟨_, 0, he, hb⟩
theorem lbs_eq {x y : ByteArray} (h : lb x = lb y) : (x.toList == y.toList) = true := by rw [toL, toL, h]; simp

set_option maxHeartbeats 4000000 in
set_option maxRecDepth 100000 in
theorem escapeJoins_walk (a b : ByteArray) (ha : a.size ≤ 140737488351232) (hb' : b.size ≤ 140737488351232) (w : World) :
    Calls Try.prog 7 #[.string a, .string b] w fun e w' => e = .returned (.bool true) ∧ Below w.heap.size w w' := by
  rcases hb : beyond [(a.size : Int), b.size]
  · have hz := beyond_no2 hb
    have za : a.size ≤ 1048576 := by omega
    have zb : b.size ≤ 1048576 := by omega
    have zab : (a ++ b).size ≤ 1048576 := by rw [ByteArray.size_append]; exact hz
    obtain ⟨x, hx⟩ : ∃ x : ByteArray, lb x = Es.esc (lb a) := ⟨⟨(Es.esc (lb a)).toArray⟩, lb_toArray _⟩
    obtain ⟨y, hy⟩ : ∃ x : ByteArray, lb x = Es.esc (lb b) := ⟨⟨(Es.esc (lb b)).toArray⟩, lb_toArray _⟩
    obtain ⟨z, hzz⟩ : ∃ x : ByteArray, lb x = Es.esc (lb (a ++ b)) := ⟨⟨(Es.esc (lb (a ++ b))).toArray⟩, lb_toArray _⟩
    have hlab : lb (a ++ b) = lb a ++ lb b := by simp [lb]
    have hxyz : (z.toList == (x ++ y).toList) = true := lbs_eq (by rw [hzz, hlab, Es.esc_append, ← hx, ← hy]; simp [lb])
    have hxs : x.size ≤ 6 * a.size := by have := Es.esc_len (lb a); rw [← hx, lb_len, lb_len] at this; exact this
    have hys : y.size ≤ 6 * b.size := by have := Es.esc_len (lb b); rw [← hy, lb_len, lb_len] at this; exact this
    have HX := Lib.hid hx
    have HY := Lib.hid hy
    have HZ := Lib.hid hzz
    have HLAB := Lib.hid hlab
    clear hx hy hzz hz hlab
    go_enter Try.func7, Try.ntmps7
    go_wp2_with fail
    refine (alive_any w).mono ?_
    rintro e w1 ⟨rfl, b1⟩
    go_wp2_with fail
    refine (beyond2 w1 a.size b.size (by omega) (by omega)).mono ?_
    rintro e w' ⟨rfl, rfl⟩
    have c1 := b1.alloc b1.size (.cells #[.int .i64 (a.size : Int), .int .i64 (b.size : Int)] 3)
    clear b1
    go_wp2_with fail
    refine (text_is (a ++ b) z HZ.out.symm (by omega) _).mono ?_
    rintro e w2 ⟨rfl, b2⟩
    have c2 := c1.trans (b2.mono c1.size)
    clear b2 c1
    go_wp2_with fail
    refine (text_is a x HX.out.symm (by omega) _).mono ?_
    rintro e w3 ⟨rfl, b3⟩
    have c3 := c2.trans (b3.mono c2.size)
    clear b3 c2
    go_wp2_with fail
    refine (text_is b y HY.out.symm (by omega) _).mono ?_
    rintro e w4 ⟨rfl, b4⟩
    have c4 := c3.trans (b4.mono c3.size)
    clear b4 c3
    cases hba : Es.back (lb a) with
    | none =>
      have HBA := Lib.hid hba
      clear hba
      go_wp2_with fail
      refine (back_not a HBA.out (by omega) _).mono ?_
      rintro e w5 ⟨rfl, b5⟩
      have c5 := c4.trans (b5.mono c4.size)
      clear b5 c4
      go_wp2_with fail
      refine (back_gen b (by omega) _).mono ?_
      rintro e w6 ⟨q, k, rfl, b6⟩
      have c6 := c5.trans (b6.mono c5.size)
      clear b6 c5
      go_wp2_with fail
      refine (back_gen (a ++ b) (by omega) _).mono ?_
      rintro e w7 ⟨q2, k2, rfl, b7⟩
      have c7 := c6.trans (b7.mono c6.size)
      clear b7 c6
      go_wp2_with fail
      go_ret
      exact ⟨ret_bool (by simp), c7⟩
    | some la =>
      obtain ⟨p, hp⟩ : ∃ y : ByteArray, lb y = la := ⟨⟨la.toArray⟩, lb_toArray _⟩
      subst hp
      have HBA := Lib.hid hba
      have hpl : p.size ≤ a.size := by have := Es.back_len _ _ hba; rw [lb_len, lb_len] at this; exact this
      clear hba
      cases hbb : Es.back (lb b) with
      | none =>
        have HBB := Lib.hid hbb
        clear hbb
        go_wp2_with fail
        refine (back_is a p HBA.out (by omega) _).mono ?_
        rintro e w5 ⟨rfl, b5⟩
        have c5 := c4.trans (b5.mono c4.size)
        clear b5 c4
        go_wp2_with fail
        refine (back_not b HBB.out (by omega) _).mono ?_
        rintro e w6 ⟨rfl, b6⟩
        have c6 := c5.trans (b6.mono c5.size)
        clear b6 c5
        go_wp2_with fail
        refine (back_gen (a ++ b) (by omega) _).mono ?_
        rintro e w7 ⟨q2, k2, rfl, b7⟩
        have c7 := c6.trans (b7.mono c6.size)
        clear b7 c6
        go_wp2_with fail
        go_ret
        exact ⟨ret_bool (by simp), c7⟩
      | some l2 =>
        obtain ⟨q, hq⟩ : ∃ y : ByteArray, lb y = l2 := ⟨⟨l2.toArray⟩, lb_toArray _⟩
        subst hq
        have HBB := Lib.hid hbb
        have hql : q.size ≤ b.size := by have := Es.back_len _ _ hbb; rw [lb_len, lb_len] at this; exact this
        have HBC : Hid (Es.back (lb (a ++ b)) = some (lb (p ++ q))) := Lib.hid (by rw [HLAB.out, Es.back_joins _ _ _ _ HBA.out hbb]; simp [lb])
        have hself : ((p ++ q).toList == (p ++ q).toList) = true := by simp
        clear hbb
        go_wp2_with fail
        refine (back_is a p HBA.out (by omega) _).mono ?_
        rintro e w5 ⟨rfl, b5⟩
        have c5 := c4.trans (b5.mono c4.size)
        clear b5 c4
        go_wp2_with fail
        refine (back_is b q HBB.out (by omega) _).mono ?_
        rintro e w6 ⟨rfl, b6⟩
        have c6 := c5.trans (b6.mono c5.size)
        clear b6 c5
        go_wp2_with fail
        refine (back_is (a ++ b) (p ++ q) HBC.out (by omega) _).mono ?_
        rintro e w7 ⟨rfl, b7⟩
        have c7 := c6.trans (b7.mono c6.size)
        clear b7 c6
        go_wp2_with fail
        go_ret
        exact ⟨ret_bool (by simp), c7⟩
  · go_enter Try.func7, Try.ntmps7
    go_wp2_with fail
    refine (alive_any w).mono ?_
    rintro e w1 ⟨rfl, b1⟩
    go_wp2_with fail
    refine (beyond2 w1 a.size b.size (by omega) (by omega)).mono ?_
    rintro e w' ⟨rfl, rfl⟩
    have c1 := b1.alloc b1.size (.cells #[.int .i64 (a.size : Int), .int .i64 (b.size : Int)] 3)
    go_wp2_with fail
    refine (alive_any _).mono ?_
    rintro e w2 ⟨rfl, b2⟩
    go_wp2_with fail
    go_ret
    exact ⟨rfl, c1.trans (b2.mono c1.size)⟩
end Go.Proofs.Ytcjhaeppplmmjaa

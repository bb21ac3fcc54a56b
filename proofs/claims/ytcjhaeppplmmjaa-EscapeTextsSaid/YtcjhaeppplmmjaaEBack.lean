/-
  EscapeBack: the walk.
-/
import Derived.Test.YtcjhaeppplmmjaaAliveE
namespace Go.Proofs.Ytcjhaeppplmmjaa
open Go.RowKit
set_option linter.unusedVariables false

theorem beyond_no1 {n : Nat} (h : beyond [(n : Int)] = false) : n ≤ 1048576 := by
  unfold beyond sumI at h
  simp at h
  omega
theorem toL (x : ByteArray) : x.toList = lb x := Lib.toList_data x

set_option maxHeartbeats 2000000 in
set_option maxRecDepth 100000 in
theorem escapeBack_walk (s : ByteArray) (hs : s.size ≤ 140737488351232) (w : World) :
    Calls Try.prog 5 #[.string s] w fun e w' => e = .returned (.bool true) ∧ Below w.heap.size w w' := by
  rcases hb : beyond [(s.size : Int)]
  · have hz := beyond_no1 hb
    go_enter Try.func5, Try.ntmps5
    go_wp2_with fail
    refine (alive_any w).mono ?_
    rintro e w1 ⟨rfl, b1⟩
    go_wp2_with fail
    refine (beyond1 w1 s.size (by omega)).mono ?_
    rintro e w' ⟨rfl, rfl⟩
    have c1 := b1.alloc b1.size (.cells #[.int .i64 (s.size : Int)] 3)
    clear b1
    go_wp2_with fail
    obtain ⟨x, hx⟩ : ∃ x : ByteArray, lb x = Es.esc (lb s) := ⟨⟨(Es.esc (lb s)).toArray⟩, lb_toArray _⟩
    have hxs : x.size ≤ 6 * s.size := by have := Es.esc_len (lb s); rw [← hx, lb_len, lb_len] at this; exact this
    have HX := Lib.hid hx
    clear hx
    refine (text_is s x HX.out.symm (by omega) _).mono ?_
    rintro e w2 ⟨rfl, b2⟩
    have c2 := c1.trans (b2.mono c1.size)
    clear b2 c1
    go_wp2_with fail
    have HXB : Hid (Es.back (lb x) = some (lb s)) := Lib.hid (by rw [HX.out]; exact Es.back_esc _)
    refine (back_is x s HXB.out (by omega) _).mono ?_
    rintro e w3 ⟨rfl, b3⟩
    have c3 := c2.trans (b3.mono c2.size)
    clear b3 c2
    have hself : (s.toList == s.toList) = true := by simp
    cases hbk : Es.back (lb s) with
    | none =>
      have HBK := Lib.hid hbk
      clear hbk
      go_wp2_with fail
      refine (back_not s HBK.out (by omega) _).mono ?_
      rintro e w4 ⟨rfl, b4⟩
      have c4 := c3.trans (b4.mono c3.size)
      go_wp2_with fail
      go_ret
      exact ⟨ret_bool (by simp), c4⟩
    | some l =>
      obtain ⟨y, hy⟩ : ∃ y : ByteArray, lb y = l := ⟨⟨l.toArray⟩, lb_toArray _⟩
      subst hy
      have HBK := Lib.hid hbk
      have hyl : y.size ≤ s.size := by have := Es.back_len _ _ hbk; rw [lb_len, lb_len] at this; exact this
      have HE := Lib.hid ((Es.back_some _ _).1 hbk)
      clear hbk
      go_wp2_with fail
      refine (back_is s y HBK.out (by omega) _).mono ?_
      rintro e w4 ⟨rfl, b4⟩
      have c4 := c3.trans (b4.mono c3.size)
      go_wp2_with fail
      refine (text_is y s HE.out (by omega) _).mono ?_
      rintro e w5 ⟨rfl, b5⟩
      have c5 := c4.trans (b5.mono c4.size)
      go_wp2_with fail
      go_ret
      exact ⟨ret_bool (by simp), c5⟩
  · go_enter Try.func5, Try.ntmps5
    go_wp2_with fail
    refine (alive_any w).mono ?_
    rintro e w1 ⟨rfl, b1⟩
    go_wp2_with fail
    refine (beyond1 w1 s.size (by omega)).mono ?_
    rintro e w' ⟨rfl, rfl⟩
    have c1 := b1.alloc b1.size (.cells #[.int .i64 (s.size : Int)] 3)
    go_wp2_with fail
    refine (alive_any _).mono ?_
    rintro e w2 ⟨rfl, b2⟩
    go_wp2_with fail
    go_ret
    exact ⟨rfl, c1.trans (b2.mono c1.size)⟩
end Go.Proofs.Ytcjhaeppplmmjaa

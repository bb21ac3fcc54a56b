/-
  EscapeTexts: the walk.
-/
import Derived.Test.YtcjhaeppplmmjaaEJoins
import Derived.Test.YtcjhaeppplmmjaaRefB
namespace Go.Proofs.Ytcjhaeppplmmjaa
open Go.RowKit
set_option linter.unusedVariables false

theorem refBack_is (s x : ByteArray) (h : Es.back (lb s) = some (lb x)) (hs : s.size ≤ 17592186044416) (w : World) :
    Calls Try.prog 13 #[.string s] w fun e w' => e = .returned (.tuple #[.string x, .int .i64 0]) ∧ Below w.heap.size w w' := by
  refine (refBack_any s hs w).mono ?_
  rintro e w' ⟨he, hb⟩
  rw [h] at he
  simp only [BackPost] at he
  rw [show (⟨(lb x).toArray⟩ : ByteArray) = x from lb_inj'' (lb_toArray _)] at he
  exact ⟨he, hb⟩
theorem refBack_not (s : ByteArray) (h : Es.back (lb s) = none) (hs : s.size ≤ 17592186044416) (w : World) :
    Calls Try.prog 13 #[.string s] w fun e w' => e = .returned (.tuple #[.string ⟨#[]⟩, .int .i64 4]) ∧ Below w.heap.size w w' := by
  refine (refBack_any s hs w).mono ?_
  rintro e w' ⟨he, hb⟩
  rw [h] at he
  exact ⟨he, hb⟩
theorem refText_is (s x : ByteArray) (h : Es.esc (lb s) = lb x) (hs : s.size ≤ 17592186044416) (w : World) :
    Calls Try.prog 15 #[.string s] w fun e w' => e = .returned (.string x) ∧ Below w.heap.size w w' := by
  refine (refText_any s hs w).mono ?_
  rintro e w' ⟨y, rfl, hy, _, hb⟩
  obtain rfl : y = x := lb_inj'' (hy.trans h)
  exact ⟨rfl, hb⟩

set_option maxHeartbeats 2000000 in
set_option maxRecDepth 100000 in
theorem escapeTexts_walk (s : ByteArray) (hs : s.size ≤ 140737488351232) (w : World) :
    Calls Try.prog 4 #[.string s] w fun e w' => e = .returned (.bool true) ∧ Below w.heap.size w w' := by
  rcases hb : beyond [(s.size : Int)]
  · have hz := beyond_no1 hb
    obtain ⟨x, hx⟩ : ∃ x : ByteArray, Es.esc (lb s) = lb x := ⟨⟨(Es.esc (lb s)).toArray⟩, (lb_toArray _).symm⟩
    have HX := Lib.hid hx
    have hself : (x.toList == x.toList) = true := by simp
    clear hx
    cases hbk : Es.back (lb s) with
    | none =>
      have HBK := Lib.hid hbk
      clear hbk
      go_enter Try.func4, Try.ntmps4
      go_wp2_with fail
      refine (beyond1 w s.size (by omega)).mono ?_
      rintro e w' ⟨rfl, rfl⟩
      have c1 : Below w.heap.size w (w.alloc (.cells #[.int .i64 (s.size : Int)] 3)) := (Below.refl _ _).alloc (Nat.le_refl _) _
      go_wp2_with fail
      refine (back_not s HBK.out (by omega) _).mono ?_
      rintro e w2 ⟨rfl, b2⟩
      have c2 := c1.trans (b2.mono c1.size)
      go_wp2_with fail
      refine (refBack_not s HBK.out (by omega) _).mono ?_
      rintro e w3 ⟨rfl, b3⟩
      have c3 := c2.trans (b3.mono c2.size)
      go_wp2_with fail
      refine (text_is s x HX.out (by omega) _).mono ?_
      rintro e w4 ⟨rfl, b4⟩
      have c4 := c3.trans (b4.mono c3.size)
      go_wp2_with fail
      refine (refText_is s x HX.out (by omega) _).mono ?_
      rintro e w5 ⟨rfl, b5⟩
      have c5 := c4.trans (b5.mono c4.size)
      go_wp2_with fail
      go_ret
      exact ⟨ret_bool (by simp), c5⟩
    | some l =>
      obtain ⟨y, hy⟩ : ∃ y : ByteArray, lb y = l := ⟨⟨l.toArray⟩, lb_toArray _⟩
      subst hy
      have hself2 : (y.toList == y.toList) = true := by simp
      have HBK := Lib.hid hbk
      clear hbk
      go_enter Try.func4, Try.ntmps4
      go_wp2_with fail
      refine (beyond1 w s.size (by omega)).mono ?_
      rintro e w' ⟨rfl, rfl⟩
      have c1 : Below w.heap.size w (w.alloc (.cells #[.int .i64 (s.size : Int)] 3)) := (Below.refl _ _).alloc (Nat.le_refl _) _
      go_wp2_with fail
      refine (back_is s y HBK.out (by omega) _).mono ?_
      rintro e w2 ⟨rfl, b2⟩
      have c2 := c1.trans (b2.mono c1.size)
      go_wp2_with fail
      refine (refBack_is s y HBK.out (by omega) _).mono ?_
      rintro e w3 ⟨rfl, b3⟩
      have c3 := c2.trans (b3.mono c2.size)
      go_wp2_with fail
      refine (text_is s x HX.out (by omega) _).mono ?_
      rintro e w4 ⟨rfl, b4⟩
      have c4 := c3.trans (b4.mono c3.size)
      go_wp2_with fail
      refine (refText_is s x HX.out (by omega) _).mono ?_
      rintro e w5 ⟨rfl, b5⟩
      have c5 := c4.trans (b5.mono c4.size)
      go_wp2_with fail
      go_ret
      exact ⟨ret_bool (by simp), c5⟩
  · go_enter Try.func4, Try.ntmps4
    go_wp2_with fail
    refine (beyond1 w s.size (by omega)).mono ?_
    rintro e w' ⟨rfl, rfl⟩
    go_wp2_with fail
    go_ret
    exact ⟨rfl, (Below.refl _ _).alloc (Nat.le_refl _) _⟩
end Go.Proofs.Ytcjhaeppplmmjaa

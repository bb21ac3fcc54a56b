/-
  NumbersRomans: the walk.
-/
import Derived.Test.YtcjhaeppplmmjaaDoorRomW
import Derived.Test.YtcjhaeppplmmjaaDoorLetW
namespace Go.Proofs.YtcjhaeppplmmjaaDoor
open Go.RowKit

theorem lb_inj' {a b : ByteArray} (h : lb a = lb b) : a = b := by
  cases a; cases b
  congr 1
  exact Array.toList_inj.1 h

set_option maxHeartbeats 2000000 in
set_option maxRecDepth 100000 in
theorem numbersRomans_walk (n : Int) (_ : (Lit.int .i64 n).wf = true) (w : World) (hR : RomanIn w) :
    Calls Tryd.prog 3 #[.int .i64 n] w fun e w' => e = .returned (.bool true) ∧ Below w.heap.size w w' := by
  by_cases hb : n < 1 ∨ 3999 < n
  · go_enter Tryd.func3, Tryd.ntmps3
    go_wp2_with fail
    refine (roman_bad n hb _).mono ?_
    rintro e w' ⟨rfl, rfl⟩
    go_wp2_with fail
    refine (refRoman_bad n hb _).mono ?_
    rintro e w' ⟨rfl, rfl⟩
    go_wp2_with fail
    refine (letter_bad n hb _).mono ?_
    rintro e w' ⟨rfl, rfl⟩
    go_wp2_with fail
    refine (refLetter_bad n hb _).mono ?_
    rintro e w' ⟨rfl, rfl⟩
    go_wp2_with fail
    go_ret
    exact ⟨rfl, Below.refl _ _⟩
  · obtain ⟨m, rfl⟩ : ∃ m : Nat, n = m := ⟨n.toNat, by omega⟩
    have h1 : 1 ≤ m := by omega
    have h2 : m ≤ 3999 := by omega
    clear hb
    go_enter Tryd.func3, Tryd.ntmps3
    go_wp2_with fail
    refine (roman_good m h1 h2 _ hR).mono ?_
    rintro e w1 ⟨rfl, b1⟩
    go_wp2_with fail
    refine (refRoman_good m h1 h2 _).mono ?_
    rintro e w' ⟨⟨x, rfl, hx⟩, rfl⟩
    obtain rfl : x = ⟨(Rm.roman m).toArray⟩ := lb_inj' (by rw [hx, lb_toArray])
    go_wp2_with fail
    refine (letter_good m h1 h2 _).mono ?_
    rintro e w2 ⟨⟨y, rfl, hy⟩, b2⟩
    go_wp2_with fail
    refine (refLetter_good m h1 h2 _).mono ?_
    rintro e w' ⟨⟨z, rfl, hz⟩, rfl⟩
    obtain rfl : z = y := lb_inj' (by rw [hy, hz])
    go_wp2_with fail
    go_ret
    exact ⟨ret_bool (by simp), b1.trans (b2.mono b1.size)⟩
end Go.Proofs.YtcjhaeppplmmjaaDoor

/-
  NumbersBacks: the walk.
-/
import Derived.Test.YtcjhaeppplmmjaaDoorBackW
namespace Go.Proofs.YtcjhaeppplmmjaaDoor
open Go.RowKit

set_option maxHeartbeats 2000000 in
set_option maxRecDepth 100000 in
theorem numbersBacks_walk (s : ByteArray) (hs : s.size ≤ 140737488351232) (w : World) (hR : RomanIn w) :
    Calls Tryd.prog 4 #[.string s] w fun e w' => e = .returned (.bool true) ∧ Below w.heap.size w w' := by
  rcases hb : beyond [(s.size : Int)]
  · have H1 := back_any s (w.alloc (.cells #[.int .i64 (s.size : Int)] 3)) (hR.below (((Below.refl w.heap.size w).alloc (Nat.le_refl _) _)) hR.pos)
    have H2 := fun w => refBack_any s w
    generalize (Rm.num (lb s)) = N at H1 H2
    generalize (if N = 0 then (4 : Int) else 0) = E at H1 H2
    have HA := Lib.hid H1
    have HB := Lib.hid H2
    clear H1 H2 hR
    go_enter Tryd.func4, Tryd.ntmps4
    go_wp2_with fail
    refine (beyond1 _ _ (by omega)).mono ?_
    rintro e w' ⟨rfl, rfl⟩
    go_wp2_with fail
    refine HA.out.mono ?_
    rintro e w1 ⟨rfl, b1⟩
    go_wp2_with fail
    refine (HB.out _).mono ?_
    rintro e w' ⟨rfl, rfl⟩
    go_wp2_with fail
    go_ret
    exact ⟨ret_bool (by simp), ((Below.refl w.heap.size w).alloc (Nat.le_refl _) _).trans (b1.mono (by simp))⟩
  · go_enter Tryd.func4, Tryd.ntmps4
    go_wp2_with fail
    refine (beyond1 _ _ (by omega)).mono ?_
    rintro e w' ⟨rfl, rfl⟩
    go_wp2_with fail
    go_ret
    exact ⟨rfl, (Below.refl w.heap.size w).alloc (Nat.le_refl _) _⟩
end Go.Proofs.YtcjhaeppplmmjaaDoor

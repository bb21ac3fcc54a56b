/-
  binderylaw12.worth: the walk.
-/
import Derived.Test.YtcjhaeppplmmjaaDoorAliveN
import Derived.Test.YtcjhaeppplmmjaaDoorWorthP
namespace Go.Proofs.YtcjhaeppplmmjaaDoor
open Go.RowKit
set_option linter.unusedVariables false

theorem u8_lit (c : UInt8) (k : UInt8) (h : ¬ c = k) : ¬ ((c.toNat : Int) = (k.toNat : Int)) := fun e => h (UInt8.toNat_inj.1 (by omega))

set_option maxHeartbeats 400000 in
set_option maxRecDepth 100000 in
theorem worth_any (c : UInt8) (w : World) :
    Calls Tryd.prog 18 #[.int .u8 c.toNat] w fun e w' => e = .returned (.int .i64 (Rm.worth c)) ∧ w' = w := by
  by_cases h0 : c = 73
  · subst h0
    go_enter Tryd.func18, Tryd.ntmps18
    go_wp2
    go_ret
    exact ⟨rfl, rfl⟩
  by_cases h1 : c = 86
  · subst h1
    go_enter Tryd.func18, Tryd.ntmps18
    go_wp2
    go_ret
    exact ⟨rfl, rfl⟩
  by_cases h2 : c = 88
  · subst h2
    go_enter Tryd.func18, Tryd.ntmps18
    go_wp2
    go_ret
    exact ⟨rfl, rfl⟩
  by_cases h3 : c = 76
  · subst h3
    go_enter Tryd.func18, Tryd.ntmps18
    go_wp2
    go_ret
    exact ⟨rfl, rfl⟩
  by_cases h4 : c = 67
  · subst h4
    go_enter Tryd.func18, Tryd.ntmps18
    go_wp2
    go_ret
    exact ⟨rfl, rfl⟩
  by_cases h5 : c = 68
  · subst h5
    go_enter Tryd.func18, Tryd.ntmps18
    go_wp2
    go_ret
    exact ⟨rfl, rfl⟩
  by_cases h6 : c = 77
  · subst h6
    go_enter Tryd.func18, Tryd.ntmps18
    go_wp2
    go_ret
    exact ⟨rfl, rfl⟩
  have hw : Rm.worth c = 0 := by unfold Rm.worth; rw [if_neg h0, if_neg h1, if_neg h2, if_neg h3, if_neg h4, if_neg h5, if_neg h6]
  rw [hw]
  have g0 : ((c.toNat : Int) == 73) = false := by have := u8_lit c 73 h0; simpa using this
  have g1 : ((c.toNat : Int) == 86) = false := by have := u8_lit c 86 h1; simpa using this
  have g2 : ((c.toNat : Int) == 88) = false := by have := u8_lit c 88 h2; simpa using this
  have g3 : ((c.toNat : Int) == 76) = false := by have := u8_lit c 76 h3; simpa using this
  have g4 : ((c.toNat : Int) == 67) = false := by have := u8_lit c 67 h4; simpa using this
  have g5 : ((c.toNat : Int) == 68) = false := by have := u8_lit c 68 h5; simpa using this
  have g6 : ((c.toNat : Int) == 77) = false := by have := u8_lit c 77 h6; simpa using this
  clear h0 h1 h2 h3 h4 h5 h6 hw
  generalize (c.toNat : Int) = z at *
  go_enter Tryd.func18, Tryd.ntmps18
  go_wp2
  go_ret
  exact ⟨rfl, rfl⟩
end Go.Proofs.YtcjhaeppplmmjaaDoor

/-
  PATHS: some answers that the document fixes ('alive'); Page, Link by contract.
-/
import Derived.Test.YtcainpicbkncpaaDoorRefC
import Derived.Test.YtcainpicbkncpaaDoorLowA
namespace Go.Proofs.YtcainpicbkncpaaDoor
open Go.RowKit
set_option linter.unusedVariables false

theorem check_c {s : ByteArray} {b : Bool} (h : Pa.check (lb s) = b) (hs : s.size ≤ 140737488351232) (w : World) (hM : ML w) :
    Calls Tryd.prog 8 #[.string s] w fun e w' => e = .returned (.bool b) ∧ Below w.heap.size w w' := by
  have := check_any s hs w hM
  rw [h] at this
  exact this
theorem name_cc {s : ByteArray} {b : Bool} (h : Pl.name (lb s) = b) (hs : s.size ≤ 140737488351232) (w : World) :
    Calls Tryd.prog 11 #[.string s] w fun e w' => e = .returned (.bool b) ∧ w = w' := by
  have := name_any s hs w
  rw [show Pl.name s.data.toList = b from h] at this
  exact this
def htmlS : ByteArray := ⟨#[46, 104, 116, 109, 108]⟩
set_option maxHeartbeats 400000 in
theorem page_any (s : ByteArray) (hs : s.size ≤ 140737488351232) (w : World) :
    Calls Tryd.prog 12 #[.string s] w fun e w' => e = .returned (.string (s ++ ⟨#[46, 104, 116, 109, 108]⟩)) ∧ w = w' := by
  go_enter Tryd.func12, Tryd.ntmps12
  go_wp2_with fail
  go_ret
  exact ⟨rfl, rfl⟩
set_option maxHeartbeats 400000 in
theorem link_nil (p a : ByteArray) (h : a.toList.isEmpty = true) (hp : p.size ≤ 140737488351232) (w : World) :
    Calls Tryd.prog 13 #[.string p, .string a] w fun e w' => e = .returned (.string p) ∧ w = w' := by
  go_enter Tryd.func13, Tryd.ntmps13
  go_wp2_with fail
  go_ret
  exact ⟨rfl, rfl⟩
set_option maxHeartbeats 400000 in
theorem link_some (p a : ByteArray) (h : a.toList.isEmpty = false) (hp : p.size ≤ 140737488351232) (ha : a.size ≤ 140737488351232) (w : World) :
    Calls Tryd.prog 13 #[.string p, .string a] w fun e w' => e = .returned (.string (p ++ ⟨#[35]⟩ ++ a)) ∧ w = w' := by
  go_enter Tryd.func13, Tryd.ntmps13
  go_wp2_with fail
  go_ret
  exact ⟨rfl, rfl⟩
theorem toLP (x : ByteArray) : x.toList = lb x := Lib.toList_data x
theorem lbs_eqP {x y : ByteArray} (h : lb x = lb y) : (x.toList == y.toList) = true := by rw [toLP, toLP, h]; simp
theorem lbs_neP {x y : ByteArray} (h : lb x ≠ lb y) : (x.toList == y.toList) = false := by rw [toLP, toLP]; simpa using h
theorem isEmptyP_yes (s : ByteArray) (h : lb s = []) : s.toList.isEmpty = true := by rw [toLP, h]; rfl
theorem isEmptyP_no (s : ByteArray) (h : lb s ≠ []) : s.toList.isEmpty = false := by
  rw [toLP]
  cases hq : lb s
  · exact absurd hq h
  · rfl
theorem page_c (w : World) : Calls Tryd.prog 12 #[.string ⟨#[105, 110, 116, 114, 111]⟩] w fun e w' => e = .returned (.string ⟨#[105, 110, 116, 114, 111, 46, 104, 116, 109, 108]⟩) ∧ w = w' := by
  have := page_any ⟨#[105, 110, 116, 114, 111]⟩ (by decide) w
  rwa [show ((⟨#[105, 110, 116, 114, 111]⟩ : ByteArray) ++ ⟨#[46, 104, 116, 109, 108]⟩) = ⟨#[105, 110, 116, 114, 111, 46, 104, 116, 109, 108]⟩ from bytes_ext (by simp)] at this
theorem link_c (w : World) : Calls Tryd.prog 13 #[.string ⟨#[97, 46, 104, 116, 109, 108]⟩, .string ⟨#[120]⟩] w fun e w' => e = .returned (.string ⟨#[97, 46, 104, 116, 109, 108, 35, 120]⟩) ∧ w = w' := by
  have := link_some ⟨#[97, 46, 104, 116, 109, 108]⟩ ⟨#[120]⟩ (by decide +kernel) (by decide) (by decide) w
  rwa [show ((⟨#[97, 46, 104, 116, 109, 108]⟩ : ByteArray) ++ ⟨#[35]⟩ ++ ⟨#[120]⟩) = ⟨#[97, 46, 104, 116, 109, 108, 35, 120]⟩ from bytes_ext (by simp)] at this
theorem ck0 : Pa.check [102, 105, 103, 46, 112, 110, 103] = true := by decide +kernel
theorem ck1 : Pa.check [97, 46, 98, 46, 99] = true := by decide +kernel
theorem ck2 : Pa.check [] = false := by decide +kernel
theorem ck3 : Pa.check [46, 97] = false := by decide +kernel
theorem ck4 : Pa.check [97, 46, 49] = false := by decide +kernel
theorem ck5 : Pa.check [97, 47, 98] = false := by decide +kernel

set_option maxHeartbeats 2000000 in
set_option maxRecDepth 100000 in
theorem alive_any (w : World) (hM : ML w) :
    Calls Tryd.prog 10 #[] w fun e w' => e = .returned (.bool true) ∧ Below w.heap.size w w' := by
  have HM := Lib.hid hM
  have c0 := Below.refl w.heap.size w
  clear hM
  go_enter Tryd.func10, Tryd.ntmps10
  go_wp2_with fail
  refine (check_c (s := ⟨#[102, 105, 103, 46, 112, 110, 103]⟩) ck0 (by decide) _ (HM.out.below c0)).mono ?_
  rintro e w1 ⟨rfl, b1⟩
  have c1 := c0.trans (b1.mono c0.size)
  clear b1 c0
  go_wp2_with fail
  refine (check_c (s := ⟨#[97, 46, 98, 46, 99]⟩) ck1 (by decide) _ (HM.out.below c1)).mono ?_
  rintro e w2 ⟨rfl, b2⟩
  have c2 := c1.trans (b2.mono c1.size)
  clear b2 c1
  go_wp2_with fail
  refine (check_c (s := ⟨#[]⟩) ck2 (by decide) _ (HM.out.below c2)).mono ?_
  rintro e w3 ⟨rfl, b3⟩
  have c3 := c2.trans (b3.mono c2.size)
  clear b3 c2
  go_wp2_with fail
  refine (check_c (s := ⟨#[46, 97]⟩) ck3 (by decide) _ (HM.out.below c3)).mono ?_
  rintro e w4 ⟨rfl, b4⟩
  have c4 := c3.trans (b4.mono c3.size)
  clear b4 c3
  go_wp2_with fail
  refine (check_c (s := ⟨#[97, 46, 49]⟩) ck4 (by decide) _ (HM.out.below c4)).mono ?_
  rintro e w5 ⟨rfl, b5⟩
  have c5 := c4.trans (b5.mono c4.size)
  clear b5 c4
  go_wp2_with fail
  refine (check_c (s := ⟨#[97, 47, 98]⟩) ck5 (by decide) _ (HM.out.below c5)).mono ?_
  rintro e w6 ⟨rfl, b6⟩
  have c6 := c5.trans (b6.mono c5.size)
  clear b6 c5
  go_wp2_with fail
  refine (page_c _).mono ?_
  rintro e w' ⟨rfl, rfl⟩
  go_wp2_with fail
  refine (link_c _).mono ?_
  rintro e w' ⟨rfl, rfl⟩
  go_wp2_with fail
  refine (link_nil ⟨#[97, 46, 104, 116, 109, 108]⟩ ⟨#[]⟩ (by decide +kernel) (by decide) _).mono ?_
  rintro e w' ⟨rfl, rfl⟩
  go_wp2_with fail
  go_ret
  exact ⟨ret_bool (by simp), c6⟩
end Go.Proofs.YtcainpicbkncpaaDoor

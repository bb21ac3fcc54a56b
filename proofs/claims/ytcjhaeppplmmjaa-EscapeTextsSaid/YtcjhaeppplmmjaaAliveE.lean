/-
  ESCAPE: some answers that the document fixes ('alive').
-/
import Derived.Test.YtcjhaeppplmmjaaBackE
import Derived.Test.YtcjhaeppplmmjaaAttW
namespace Go.Proofs.Ytcjhaeppplmmjaa
open Go.RowKit
set_option linter.unusedVariables false

theorem lb_inj'' {a b : ByteArray} (h : lb a = lb b) : a = b := bytes_ext h
theorem text_is (s x : ByteArray) (h : Es.esc (lb s) = lb x) (hs : s.size ≤ 17592186044416) (w : World) :
    Calls Try.prog 14 #[.string s] w fun e w' => e = .returned (.string x) ∧ Below w.heap.size w w' := by
  refine (text_any s hs w).mono ?_
  rintro e w' ⟨⟨y, rfl, hy⟩, hb⟩
  obtain rfl : y = x := lb_inj'' (hy.trans h)
  exact ⟨rfl, hb⟩
theorem back_is (s x : ByteArray) (h : Es.back (lb s) = some (lb x)) (hs : s.size ≤ 17592186044416) (w : World) :
    Calls Try.prog 12 #[.string s] w fun e w' => e = .returned (.tuple #[.string x, .int .i64 0]) ∧ Below w.heap.size w w' := by
  refine (back_any s hs w).mono ?_
  rintro e w' ⟨he, hb⟩
  rw [h] at he
  simp only [BackPost] at he
  rw [show (⟨(lb x).toArray⟩ : ByteArray) = x from lb_inj'' (lb_toArray _)] at he
  exact ⟨he, hb⟩
theorem back_not (s : ByteArray) (h : Es.back (lb s) = none) (hs : s.size ≤ 17592186044416) (w : World) :
    Calls Try.prog 12 #[.string s] w fun e w' => e = .returned (.tuple #[.string ⟨#[]⟩, .int .i64 4]) ∧ Below w.heap.size w w' := by
  refine (back_any s hs w).mono ?_
  rintro e w' ⟨he, hb⟩
  rw [h] at he
  exact ⟨he, hb⟩
theorem tag_is (a b c d x : ByteArray) (h : Es.tag (lb a) (lb b) (lb c) (lb d) = lb x) (h0 : a.size ≤ 1048576) (h1 : b.size ≤ 1048576) (h2 : c.size ≤ 1048576) (h3 : d.size ≤ 1048576) (w : World) :
    Calls Try.prog 10 #[.string a, .string b, .string c, .string d] w fun e w' => e = .returned (.string x) ∧ Below w.heap.size w w' := by
  refine (tag_any a b c d w h0 h1 h2 h3).mono ?_
  rintro e w' ⟨⟨y, rfl, hy⟩, hb⟩
  obtain rfl : y = x := lb_inj'' (hy.trans h)
  exact ⟨rfl, hb⟩

theorem back_k : Es.back [97, 38, 108, 116, 59, 98, 32, 38, 97, 109, 112, 59, 32, 38, 113, 117, 111, 116, 59, 99, 38, 35, 51, 57, 59, 38, 103, 116, 59] = some [97, 60, 98, 32, 38, 32, 34, 99, 39, 62] := by decide +kernel
theorem back_k2 : Es.back [38, 110, 98, 115, 112, 59] = none := by decide +kernel
theorem esc_k : Es.esc [97, 60, 98, 32, 38, 32, 34, 99, 39, 62] = [97, 38, 108, 116, 59, 98, 32, 38, 97, 109, 112, 59, 32, 38, 113, 117, 111, 116, 59, 99, 38, 35, 51, 57, 59, 38, 103, 116, 59] := by decide +kernel
theorem tag_k : Es.tag [97] [99, 34] [105] [60, 98, 62] = [60, 97, 32, 99, 108, 97, 115, 115, 61, 34, 99, 38, 113, 117, 111, 116, 59, 34, 32, 105, 100, 61, 34, 105, 34, 62, 60, 98, 62, 60, 47, 97, 62] := by decide +kernel

set_option maxHeartbeats 2000000 in
set_option maxRecDepth 100000 in
theorem alive_any (w : World) :
    Calls Try.prog 16 #[] w fun e w' => e = .returned (.bool true) ∧ Below w.heap.size w w' := by
  go_enter Try.func16, Try.ntmps16
  go_wp2_with fail
  refine (back_is _ ⟨#[97, 60, 98, 32, 38, 32, 34, 99, 39, 62]⟩ back_k (by decide) _).mono ?_
  rintro e w1 ⟨rfl, b1⟩
  go_wp2_with fail
  refine (back_not _ back_k2 (by decide) _).mono ?_
  rintro e w2 ⟨rfl, b2⟩
  have c2 := b1.trans (b2.mono b1.size)
  clear b1 b2
  go_wp2_with fail
  refine (text_is _ ⟨#[97, 38, 108, 116, 59, 98, 32, 38, 97, 109, 112, 59, 32, 38, 113, 117, 111, 116, 59, 99, 38, 35, 51, 57, 59, 38, 103, 116, 59]⟩ esc_k (by decide) _).mono ?_
  rintro e w3 ⟨rfl, b3⟩
  have c3 := c2.trans (b3.mono c2.size)
  clear b3 c2
  go_wp2_with fail
  refine (tag_is _ _ _ _ ⟨#[60, 97, 32, 99, 108, 97, 115, 115, 61, 34, 99, 38, 113, 117, 111, 116, 59, 34, 32, 105, 100, 61, 34, 105, 34, 62, 60, 98, 62, 60, 47, 97, 62]⟩ tag_k (by decide) (by decide) (by decide) (by decide) _).mono ?_
  rintro e w4 ⟨rfl, b4⟩
  have c4 := c3.trans (b4.mono c3.size)
  clear b4 c3
  go_wp2_with fail
  go_ret
  exact ⟨ret_bool (by simp), c4⟩
end Go.Proofs.Ytcjhaeppplmmjaa

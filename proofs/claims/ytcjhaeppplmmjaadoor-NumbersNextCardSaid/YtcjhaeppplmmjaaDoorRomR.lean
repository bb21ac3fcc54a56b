/-
  binderyref12.digit, Roman, Letter: the walks.
-/
import Derived.Test.YtcjhaeppplmmjaaDoorRomP
import Derived.Test.YtcjhaeppplmmjaaDoorBase
import Derived.Test.YtcjhaeppplmmjaaDoorRows
import Derived.WalkKit
import Derived.ProofKit
namespace Go.Proofs.YtcjhaeppplmmjaaDoor
open Go.RowKit

theorem Rm.dgfive_length (n : Nat) (h5 : 5 ≤ n) (h8 : n ≤ 8) (o f t : List UInt8) (ho : o.length ≤ 1) (hf : f.length ≤ 1) : (f ++ Rm.dg (n - 5) o f t).length ≤ 9 := by
  have hr : ∀ m, (List.replicate m o).flatten.length = m * o.length := by intro m; simp
  have hm := Nat.mul_le_mul_left (n - 5) ho
  have e5 := hr (n - 5)
  rw [List.length_append]
  unfold Rm.dg
  rw [if_neg (by omega), if_neg (by omega), if_neg (by omega)]
  omega
set_option linter.unusedVariables false
theorem lb_app (a b : ByteArray) : lb (a ++ b) = lb a ++ lb b := by simp [lb]
theorem lb_inj' {a b : ByteArray} (h : lb a = lb b) : a = b := by
  cases a; cases b
  congr 1
  exact Array.toList_inj.1 h
theorem rep_snoc (n : Nat) (o : List UInt8) : (List.replicate (n + 1) o).flatten = (List.replicate n o).flatten ++ o := by
  rw [List.replicate_succ']; simp

set_option maxHeartbeats 4000000 in
set_option maxRecDepth 100000 in
theorem digit_low (n : Nat) (h : n ≤ 4) (o f t : ByteArray) (ho : o.size ≤ 1) (hf : f.size ≤ 1) (ht : t.size ≤ 1) (w : World) :
    Calls Tryd.prog 23 #[.int .i64 n, .string o, .string f, .string t] w fun e w' => (∃ x, e = .returned (.string x) ∧ lb x = Rm.dg n (lb o) (lb f) (lb t) ∧ x.size ≤ 9) ∧ w' = w := by
  rcases (by omega : n = 4 ∨ n ≤ 3) with rfl | h3
  · go_enter Tryd.func23, Tryd.ntmps23
    go_wp2
    go_ret
    exact ⟨⟨_, rfl, lb_app _ _, by rw [ByteArray.size_append]; omega⟩, rfl⟩
  · go_enter Tryd.func23, Tryd.ntmps23
    go_wp2_with fail
    go_loop [9, 10] (fun s i => ∃ (k : Nat) (x : ByteArray), k ≤ n ∧ i = .int .i64 k ∧ s = .string x ∧ x.size ≤ k ∧ lb x = (List.replicate k (lb o)).flatten) (fun _ i => n - (intOf i).toNat)
    case atStart => exact ⟨0, ⟨#[]⟩, Nat.zero_le _, rfl, rfl, Nat.le_refl _, rfl⟩
    case round =>
      obtain ⟨k, x, hk, rfl, rfl, hxs, hx⟩ := hrel
      have HX := Lib.hid hx
      clear hx
      by_cases hlt : k < n
      · go_wp2_with fail
        go_round
        case rel => exact ⟨k + 1, _, by omega, by go_num, rfl, by rw [ByteArray.size_append]; omega, by rw [lb_app, HX.out, rep_snoc]⟩
        case measure => simp [intOf]; omega
      · have hkn : k = n := by omega
        subst hkn
        go_wp2_with fail
        go_ret
        refine ⟨⟨_, rfl, ?_, by omega⟩, rfl⟩
        rw [HX.out]
        unfold Rm.dg
        rw [if_neg (by omega), if_neg (by omega), if_neg (by omega)]

set_option maxHeartbeats 4000000 in
set_option maxRecDepth 100000 in
theorem digit_any (n : Nat) (h : n < 10) (o f t : ByteArray) (ho : o.size ≤ 1) (hf : f.size ≤ 1) (ht : t.size ≤ 1) (w : World) :
    Calls Tryd.prog 23 #[.int .i64 n, .string o, .string f, .string t] w fun e w' => (∃ x, e = .returned (.string x) ∧ lb x = Rm.dg n (lb o) (lb f) (lb t) ∧ x.size ≤ 9) ∧ w' = w := by
  rcases (by omega : n ≤ 4 ∨ n = 9 ∨ (5 ≤ n ∧ n ≤ 8)) with h4 | rfl | ⟨h5, h8⟩
  · exact digit_low n h4 o f t ho hf ht w
  · go_enter Tryd.func23, Tryd.ntmps23
    go_wp2
    go_ret
    exact ⟨⟨_, rfl, lb_app _ _, by rw [ByteArray.size_append]; omega⟩, rfl⟩
  · have he : (n : Int) - 5 = (n - 5 : Nat) := by omega
    have HE := Lib.hid he
    clear he
    go_enter Tryd.func23, Tryd.ntmps23
    go_wp2_with fail
    rw [HE.out]
    refine (digit_low (n - 5) (by omega) o f t ho hf ht _).mono ?_
    rintro e w' ⟨⟨x, rfl, hx, hxs⟩, rfl⟩
    have HX := Lib.hid hx
    clear hx
    go_wp2_with fail
    go_ret
    refine ⟨⟨_, rfl, ?_, ?_⟩, rfl⟩
    rotate_left
    · rw [show (f ++ x).size = (lb (f ++ x)).length from Lib.size_eq _, lb_app, HX.out]
      exact Rm.dgfive_length n h5 h8 _ _ _ (by rw [show (lb o).length = o.size from (Lib.size_eq o).symm]; exact ho) (by rw [show (lb f).length = f.size from (Lib.size_eq f).symm]; exact hf)
    rw [lb_app, HX.out]
    unfold Rm.dg
    rw [if_neg (by omega), if_neg (by omega), if_neg (show ¬ n = 9 by omega), if_pos h5]
    rcases (by omega : n = 5 ∨ n = 6 ∨ n = 7 ∨ n = 8) with rfl | rfl | rfl | rfl <;> rfl

set_option maxHeartbeats 4000000 in
set_option maxRecDepth 100000 in
theorem refRoman_good (n : Nat) (h1 : 1 ≤ n) (h2 : n ≤ 3999) (w : World) :
    Calls Tryd.prog 11 #[.int .i64 n] w fun e w' => (∃ x, e = .returned (.tuple #[.string x, .int .i64 0]) ∧ lb x = Rm.roman n) ∧ w' = w := by
  have e0 : (n : Int) / 1000 = (n / 1000 : Nat) := by omega
  have e1 : (n : Int) / 100 % 10 = (n / 100 % 10 : Nat) := by omega
  have e2 : (n : Int) / 10 % 10 = (n / 10 % 10 : Nat) := by omega
  have e3 : (n : Int) % 10 = (n % 10 : Nat) := by omega
  have E := Lib.hid (And.intro e0 (And.intro e1 (And.intro e2 e3)))
  clear e0 e1 e2 e3
  go_enter Tryd.func11, Tryd.ntmps11
  go_wp2_with fail
  rw [E.out.1]
  refine (digit_any (n / 1000) (by omega) ⟨#[77]⟩ ⟨#[]⟩ ⟨#[]⟩ (by decide) (by decide) (by decide) _).mono ?_
  rintro e w' ⟨⟨x0, rfl, hx0, hs0⟩, rfl⟩
  go_wp2_with fail
  rw [E.out.2.1]
  refine (digit_any (n / 100 % 10) (by omega) ⟨#[67]⟩ ⟨#[68]⟩ ⟨#[77]⟩ (by decide) (by decide) (by decide) _).mono ?_
  rintro e w' ⟨⟨x1, rfl, hx1, hs1⟩, rfl⟩
  go_wp2_with fail
  rw [E.out.2.2.1]
  refine (digit_any (n / 10 % 10) (by omega) ⟨#[88]⟩ ⟨#[76]⟩ ⟨#[67]⟩ (by decide) (by decide) (by decide) _).mono ?_
  rintro e w' ⟨⟨x2, rfl, hx2, hs2⟩, rfl⟩
  go_wp2_with fail
  rw [E.out.2.2.2]
  refine (digit_any (n % 10) (by omega) ⟨#[73]⟩ ⟨#[86]⟩ ⟨#[88]⟩ (by decide) (by decide) (by decide) _).mono ?_
  rintro e w' ⟨⟨x3, rfl, hx3, hs3⟩, rfl⟩
  have H := Lib.hid (And.intro hx0 (And.intro hx1 (And.intro hx2 hx3)))
  clear hx0 hx1 hx2 hx3
  go_wp2_with fail
  go_ret2
  refine ⟨⟨_, rfl, ?_⟩, rfl⟩
  rw [lb_app, lb_app, lb_app, H.out.1, H.out.2.1, H.out.2.2.1, H.out.2.2.2, Rm.roman_eq]

set_option maxHeartbeats 1000000 in
set_option maxRecDepth 100000 in
theorem refRoman_bad (n : Int) (h : n < 1 ∨ 3999 < n) (w : World) :
    Calls Tryd.prog 11 #[.int .i64 n] w fun e w' => e = .returned (.tuple #[.string ⟨#[]⟩, .int .i64 1]) ∧ w' = w := by
  rcases h with h | h
  all_goals
    go_enter Tryd.func11, Tryd.ntmps11
    go_wp2
    go_ret2
    exact ⟨rfl, rfl⟩

/-! ### Letter -/
abbrev abc : ByteArray := ⟨#[97, 98, 99, 100, 101, 102, 103, 104, 105, 106, 107, 108, 109, 110, 111, 112, 113, 114, 115, 116, 117, 118, 119, 120, 121, 122]⟩

theorem abc_at (m : Nat) (h : m < 26) : lb (abc.extract m (m + 1)) = [UInt8.ofNat (97 + m)] := by
  rcases (by omega : m = 0 ∨ m = 1 ∨ m = 2 ∨ m = 3 ∨ m = 4 ∨ m = 5 ∨ m = 6 ∨ m = 7 ∨ m = 8 ∨ m = 9 ∨ m = 10 ∨ m = 11 ∨ m = 12 ∨ m = 13 ∨ m = 14 ∨ m = 15 ∨ m = 16 ∨ m = 17 ∨ m = 18 ∨ m = 19 ∨ m = 20 ∨ m = 21 ∨ m = 22 ∨ m = 23 ∨ m = 24 ∨ m = 25) with
    rfl | rfl | rfl | rfl | rfl | rfl | rfl | rfl | rfl | rfl | rfl | rfl | rfl | rfl | rfl | rfl | rfl | rfl | rfl | rfl | rfl | rfl | rfl | rfl | rfl | rfl <;> decide +kernel
theorem abc_size (m : Nat) (h : m < 26) : (abc.extract m (m + 1)).size = 1 := by
  have : (abc.extract m (m + 1)).size = (lb (abc.extract m (m + 1))).length := Lib.size_eq _
  rw [this, abc_at m h]; rfl

set_option maxHeartbeats 4000000 in
set_option maxRecDepth 100000 in
theorem refLetter_good (n : Nat) (h1 : 1 ≤ n) (h2 : n ≤ 3999) (w : World) :
    Calls Tryd.prog 13 #[.int .i64 n] w fun e w' => (∃ x, e = .returned (.tuple #[.string x, .int .i64 0]) ∧ lb x = Rm.letter n) ∧ w' = w := by
  go_enter Tryd.func13, Tryd.ntmps13
  go_wp2_with fail
  go_loop [0, 4] (fun i s => ∃ (k : Nat) (x : ByteArray), k ≤ 3999 ∧ i = .int .i64 k ∧ s = .string x ∧ x.size + k ≤ 3999 ∧ Rm.letter k ++ lb x = Rm.letter n) (fun i _ => (intOf i).toNat)
  case atStart => exact ⟨n, ⟨#[]⟩, h2, rfl, rfl, by show 0 + n ≤ 3999; omega, by simp⟩
  case round =>
    obtain ⟨k, x, hk, rfl, rfl, hx, hn⟩ := hrel
    have HN := Lib.hid hn
    clear hn
    by_cases h0 : k = 0
    · subst h0
      go_wp2_with fail
      go_ret2
      exact ⟨⟨_, rfl, by have := HN.out; rwa [show Rm.letter 0 = [] by rw [Rm.letter], List.nil_append] at this⟩, rfl⟩
    · have HH := Lib.hid h0
      go_wp2_with fail
      go_round
      case rel =>
        refine ⟨(k - 1) / 26, _, by omega, by go_num, rfl, ?_, ?_⟩
        · rw [ByteArray.size_append, abc_size _ (Nat.mod_lt _ (by decide))]; omega
        · rw [lb_app, abc_at _ (Nat.mod_lt _ (by decide)), ← HN.out, Rm.letter_pos k (by omega)]
          simp
      case measure => simp [intOf]; omega

set_option maxHeartbeats 1000000 in
set_option maxRecDepth 100000 in
theorem refLetter_bad (n : Int) (h : n < 1 ∨ 3999 < n) (w : World) :
    Calls Tryd.prog 13 #[.int .i64 n] w fun e w' => e = .returned (.tuple #[.string ⟨#[]⟩, .int .i64 1]) ∧ w' = w := by
  rcases h with h | h
  all_goals
    go_enter Tryd.func13, Tryd.ntmps13
    go_wp2
    go_ret2
    exact ⟨rfl, rfl⟩
end Go.Proofs.YtcjhaeppplmmjaaDoor

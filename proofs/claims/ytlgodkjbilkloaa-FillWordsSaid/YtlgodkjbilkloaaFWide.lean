/-
  FillWider: the walk.
-/
import Derived.Test.YtlgodkjbilkloaaAliveF
namespace Go.Proofs.Ytlgodkjbilkloaa
open Go.RowKit
set_option linter.unusedVariables false

theorem u8_nat {c : Int} (h : (Lit.int .u8 c).wf = true) : ∃ n : Nat, c = (n : Int) ∧ n ≤ 255 := by
  have h2 := bounds_u8 h
  exact ⟨c.toNat, by omega, by omega⟩
theorem lines_wider (wd wd' : Nat) (h : wd ≤ wd') (ws : List (List UInt8)) : (Fi.linesOf wd' ws).length ≤ (Fi.linesOf wd ws).length := by
  unfold Fi.linesOf
  rw [List.length_map, List.length_map]
  have := Fi.fl_wider wd wd' h ws [] [] 0 0 (.inr ⟨rfl, List.suffix_refl _, Iff.rfl⟩)
  omega
theorem fill_ok (s : ByteArray) (hs : s.size ≤ 1000000) (wd : Nat) (h1 : 1 ≤ wd) (h2 : wd ≤ 200) (w : World) :
    Calls Try.prog 9 #[.string s, .int .i64 (wd : Int)] w fun e w' => ∃ (xs : List ByteArray) (a : Option Addr) (c : Nat), e = .returned (.tuple #[.slice a xs.length c, .int .i64 0]) ∧ w'.ownsRow w.heap.size 9 1 (.slice a xs.length c) xs.length (xs.map Value.string) ∧ xs.map lb = Fi.linesOf wd (Pl.words (lb s)) ∧ xs.length ≤ 1000003 ∧ Below w.heap.size w w' := by
  refine (fill_yes s hs wd h1 h2 w).mono ?_
  rintro e w' ⟨v, xs, rfl, hown, hx, hb⟩
  obtain ⟨a, c, rfl⟩ := lenOf hown
  refine ⟨xs, a, c, rfl, hown, hx, ?_, hb⟩
  have h3 := lines_len wd (Pl.words (lb s))
  have h4 := length_wt (Pl.words (lb s))
  have h5 := wt_words (lb s)
  rw [sg_len] at h5
  rw [← hx, List.length_map] at h3
  omega

set_option maxHeartbeats 4000000 in
set_option maxRecDepth 100000 in
theorem fillWider_walk (s : ByteArray) (a b : Int) (hs : s.size ≤ 140737488351232) (ha : (Lit.int .u8 a).wf = true) (hb : (Lit.int .u8 b).wf = true) (w : World) :
    Calls Try.prog 5 #[.string s, .int .u8 a, .int .u8 b] w fun e w' => e = .returned (.bool true) ∧ Below w.heap.size w w' := by
  obtain ⟨n, rfl, hn⟩ := u8_nat ha
  obtain ⟨m, rfl, hm⟩ := u8_nat hb
  clear ha hb
  obtain ⟨wd, hwd, hw1, hw2⟩ : ∃ wd : Nat, 1 + (n : Int) % 200 = (wd : Int) ∧ 1 ≤ wd ∧ wd ≤ 200 := ⟨1 + n % 200, by omega, by omega, by omega⟩
  obtain ⟨we, hwe, hv1, hv2, hv3⟩ : ∃ we : Nat, min 200 ((wd : Int) + (m : Int)) = (we : Int) ∧ 1 ≤ we ∧ we ≤ 200 ∧ wd ≤ we := ⟨min 200 (wd + m), by omega, by omega, by omega, by omega⟩
  by_cases hz : s.size ≤ 2000
  · have hzi : decide ((2000 : Int) < (s.size : Int)) = false := by simp; omega
    go_enter Try.func5, Try.ntmps5
    go_wp2_with fail
    refine (alive_any w).mono ?_
    rintro e w1 ⟨rfl, b1⟩
    have B1 := Lib.hid b1
    clear b1
    go_wp2_with fail
    refine (fill_ok s (by omega) wd hw1 hw2 w1).mono ?_
    rintro e w2 ⟨xs, a1, c1, rfl, _, hx, hl1, b2⟩
    have HX := Lib.hid hx
    have B2 := Lib.hid (B1.out.trans (b2.mono B1.out.size))
    clear hx b2
    go_wp2_with fail
    refine (fill_ok s (by omega) we hv1 hv2 w2).mono ?_
    rintro e w3 ⟨ys, a2, c2, rfl, _, hy, hl2, b3⟩
    have hle : ys.length ≤ xs.length := by
      have := lines_wider wd we hv3 (Pl.words (lb s))
      rw [← hy, ← HX.out, List.length_map, List.length_map] at this
      exact this
    have B3 := Lib.hid (B2.out.trans (b3.mono B2.out.size))
    clear hy b3
    go_wp2_with fail
    refine (fill_no s (201 + (m : Int)) (.inr (by omega)) w3).mono ?_
    rintro e w4 ⟨rfl, b4⟩
    have B4 := Lib.hid (B3.out.trans (b4.mono B3.out.size))
    clear b4
    go_wp2_with fail
    refine (fill_no s (-(m : Int)) (.inl (by omega)) w4).mono ?_
    rintro e w5 ⟨rfl, b5⟩
    have B5 := Lib.hid (B4.out.trans (b5.mono B4.out.size))
    clear b5
    go_wp2_with fail
    go_ret
    exact ⟨ret_bool (by simp), B5.out⟩
  · have hzi : (2000 : Int) < (s.size : Int) := by omega
    go_enter Try.func5, Try.ntmps5
    go_wp2_with fail
    refine (alive_any w).mono ?_
    rintro e w1 ⟨rfl, b1⟩
    have B1 := Lib.hid b1
    clear b1
    go_wp2_with fail
    refine (alive_any w1).mono ?_
    rintro e w2 ⟨rfl, b2⟩
    have B2 := Lib.hid (B1.out.trans (b2.mono B1.out.size))
    clear b2
    go_wp2_with fail
    go_ret
    exact ⟨rfl, B2.out⟩
end Go.Proofs.Ytlgodkjbilkloaa

/-
  NumbersLetters: the walk.
-/
import Derived.Test.YtcjhaeppplmmjaaDoorAliveN
import Derived.Test.YtcjhaeppplmmjaaDoorLetP
import Derived.IntWalk
import Derived.Lib.QuietBelow
import Derived.BigQuiet
namespace Go.Proofs.YtcjhaeppplmmjaaDoor
open Go.RowKit Go.Sort
set_option linter.unusedVariables false

theorem bytesLess_cmp : ∀ (a b : List UInt8), Op.bytesLess a b = decide (Lib.compareBytes a b = -1)
  | [], [] => by simp [Op.bytesLess, Lib.compareBytes]
  | [], _ :: _ => by simp [Op.bytesLess, Lib.compareBytes]
  | _ :: _, [] => by simp [Op.bytesLess, Lib.compareBytes]
  | x :: a, y :: b => by
    have ih := bytesLess_cmp a b
    unfold Op.bytesLess Lib.compareBytes
    by_cases h1 : x < y
    · simp [h1]
    · by_cases h2 : y < x
      · have : ¬ x = y := by rintro rfl; exact h1 h2
        simp [h1, h2, this]
      · have : x = y := UInt8.le_antisymm (UInt8.not_lt.1 h2) (UInt8.not_lt.1 h1)
        subst this
        simp [h1, ih]
theorem alive_q {w : World} (hN : Hid (NumIn w)) (d : Nat) (os : Array Obj) :
    Calls Tryd.prog 17 #[] (grow (redrawn w d) os) fun e w'' => e = .returned (.bool true) ∧ ∃ p : Regrown, w'' = grow (redrawn w p.d) p.os :=
  Calls.regrown_of (alive_any _ (hN.out.below (below_regrown w d os)))
theorem letter_last (a : Nat) (h : 1 ≤ a) : Rm.letter a = Rm.letter ((a - 1) / 26) ++ [UInt8.ofNat (97 + (a - 1) % 26)] := Rm.letter_pos a h
theorem lets_size (x : ByteArray) (a : Nat) (h : 1 ≤ a) (hx : lb x = Rm.letter a) : x.size = (Rm.letter ((a - 1) / 26)).length + 1 := by
  rw [Lib.size_eq]
  show (lb x).length = _
  rw [hx, letter_last a h, List.length_append]; rfl
theorem lets_at (x : ByteArray) (P : List UInt8) (c : UInt8) (hx : lb x = P ++ [c]) (h : P.length < x.size) : x[P.length] = c := by
  have : (lb x)[P.length]? = some c := by rw [hx]; simp
  have h2 : (lb x)[P.length]? = some x[P.length] := List.getElem?_eq_getElem (by rw [← Lib.size_eq]; exact h)
  exact Option.some.inj (h2.symm.trans this)
theorem letter_small : ∀ a, a ≤ 4000 → (Rm.letter a).length ≤ 4000
  | a, h => by
    rcases Nat.eq_zero_or_pos a with h0 | h0
    · subst h0; rw [Rm.letter]; simp
    · have : ∀ n, (Rm.letter n).length ≤ n := by
        intro n
        induction n using Nat.strongRecOn with
        | _ n ih =>
          rcases Nat.eq_zero_or_pos n with h1 | h1
          · subst h1; rw [Rm.letter]; simp
          · have := ih ((n - 1) / 26) (by omega)
            rw [letter_last n h1, List.length_append]
            simp; omega
      exact Nat.le_trans (this a) h

theorem lets_z (x : ByteArray) (a : Nat) (h : 1 ≤ a) (hp : x.size - 1 < x.size) (hx : lb x = Rm.letter ((a - 1) / 26) ++ [UInt8.ofNat (97 + (a - 1) % 26)]) (h25 : (a - 1) % 26 = 25) : ((x[x.size - 1].toNat : Int) == 122) = true := by
  have hs : x.size - 1 = (Rm.letter ((a - 1) / 26)).length := by
    have : x.size = _ := Lib.size_eq x
    rw [show x.data.toList = lb x from rfl, hx, List.length_append] at this
    simp at this; omega
  have := lets_at x _ _ hx (by omega)
  simp only [hs]
  rw [this, h25]; rfl
theorem lets_next (x z : ByteArray) (a : Nat) (h : 1 ≤ a) (hp : x.size - 1 < x.size) (hx : lb x = Rm.letter ((a - 1) / 26) ++ [UInt8.ofNat (97 + (a - 1) % 26)]) (hz : lb z = Rm.letter (a + 1)) (h25 : ¬ (a - 1) % 26 = 25) :
    z.size = x.size ∧ ∃ hq : x.size - 1 < z.size, ((x[x.size - 1].toNat : Int) == 122) = false ∧ ((z.extract 0 (x.size - 1)).toList == (x.extract 0 (x.size - 1)).toList) = true ∧ (z[x.size - 1].toNat : Int) = (x[x.size - 1].toNat : Int) + 1 ∧ (x[x.size - 1].toNat : Int) ≤ 121 := by
  have hz' : lb z = Rm.letter ((a - 1) / 26) ++ [UInt8.ofNat (97 + ((a - 1) % 26 + 1))] := by
    rw [hz, letter_last (a + 1) (by omega), show (a + 1 - 1) / 26 = (a - 1) / 26 by omega, show (a + 1 - 1) % 26 = (a - 1) % 26 + 1 by omega]
  have sx : x.size = (Rm.letter ((a - 1) / 26)).length + 1 := by
    have : x.size = _ := Lib.size_eq x
    rw [show x.data.toList = lb x from rfl, hx, List.length_append] at this
    exact this
  have sz : z.size = (Rm.letter ((a - 1) / 26)).length + 1 := by
    have : z.size = _ := Lib.size_eq z
    rw [show z.data.toList = lb z from rfl, hz', List.length_append] at this
    exact this
  have hs : x.size - 1 = (Rm.letter ((a - 1) / 26)).length := by omega
  have ax := lets_at x _ _ hx (by omega)
  have az := lets_at z _ _ hz' (by omega)
  have hr : (a - 1) % 26 < 25 := by have := Nat.mod_lt (a - 1) (show 0 < 26 by decide); omega
  have t1 : (UInt8.ofNat (97 + (a - 1) % 26)).toNat = 97 + (a - 1) % 26 := by rw [UInt8.toNat_ofNat', Nat.mod_eq_of_lt (by omega)]
  have t2 : (UInt8.ofNat (97 + ((a - 1) % 26 + 1))).toNat = 97 + ((a - 1) % 26 + 1) := by rw [UInt8.toNat_ofNat', Nat.mod_eq_of_lt (by omega)]
  refine ⟨by omega, by omega, ?_, ?_, ?_, ?_⟩
  · simp only [hs]
    rw [ax, t1]; simp; omega
  · rw [Lib.toList_data, Lib.toList_data, Lib.extract_data, Lib.extract_data, show x.data.toList = lb x from rfl, show z.data.toList = lb z from rfl, hx, hz', hs]
    simp
  · simp only [hs]
    rw [ax, az, t1, t2]; omega
  · simp only [hs]
    rw [ax, t1]; omega
set_option maxHeartbeats 4000000 in
set_option maxRecDepth 100000 in
theorem numbersLetters_walk (n m : Int) (hn : (Lit.int .u16 n).wf = true) (hm : (Lit.int .u16 m).wf = true) (w : World) (hN : NumIn w) :
    Calls Tryd.prog 7 #[.int .u16 n, .int .u16 m] w fun e w' => e = .returned (.bool true) ∧ Below w.heap.size w w' := by
  obtain ⟨n0, n1⟩ := bounds_u16 hn
  obtain ⟨m0, m1⟩ := bounds_u16 hm
  obtain ⟨n, rfl⟩ : ∃ k : Nat, n = k := ⟨n.toNat, by omega⟩
  obtain ⟨m, rfl⟩ : ∃ k : Nat, m = k := ⟨m.toNat, by omega⟩
  have HN := Lib.hid hN
  clear hN hn hm
  obtain ⟨a, ha⟩ : ∃ k, k = n % 3999 + 1 := ⟨_, rfl⟩
  obtain ⟨b, hb⟩ : ∃ k, k = m % 3999 + 1 := ⟨_, rfl⟩
  have HA : Hid ((n : Int) % 3999 + 1 = (a : Int)) := Lib.hid (by omega)
  have HB : Hid ((m : Int) % 3999 + 1 = (b : Int)) := Lib.hid (by omega)
  have a1 : 1 ≤ a := by omega
  have a2 : a ≤ 3999 := by omega
  have b1 : 1 ≤ b := by omega
  have b2 : b ≤ 3999 := by omega
  clear ha hb
  go_enter Tryd.func7, Tryd.ntmps7
  go_wp2_with fail
  rw [HA.out]
  refine (letter_good a a1 a2 _).mono ?_
  rintro e w1 ⟨⟨x, rfl, hx⟩, c1⟩
  go_wp2_with fail
  rw [HB.out]
  refine (letter_good b b1 b2 _).mono ?_
  rintro e w2 ⟨⟨y, rfl, hy⟩, c2⟩
  have c2 := c1.trans (c2.mono c1.size)
  have hord := bytesLess_cmp x.toList y.toList
  have hlater : (x.size < y.size ∧ a < b) ∨ (x.size = y.size ∧ Op.bytesLess x.toList y.toList = true ∧ a < b) ∨ (x.size = y.size ∧ Op.bytesLess x.toList y.toList = false ∧ ¬ a < b) ∨ (y.size < x.size ∧ ¬ a < b) := by
    have hlat := Rm.letter_later a b
    rw [Lib.toList_data, Lib.toList_data, show x.data.toList = Rm.letter a from hx, show y.data.toList = Rm.letter b from hy] at hord
    unfold Rm.later at hlat
    rw [show (Rm.letter a).length = x.size by rw [← hx]; exact (Lib.size_eq x).symm, show (Rm.letter b).length = y.size by rw [← hy]; exact (Lib.size_eq y).symm] at hlat
    rcases Nat.lt_trichotomy x.size y.size with h | h | h
    · exact .inl ⟨h, hlat.1 (.inl h)⟩
    · by_cases hc : Lib.compareBytes (Rm.letter a) (Rm.letter b) = -1
      · exact .inr (.inl ⟨h, by rw [Lib.toList_data, Lib.toList_data, show x.data.toList = Rm.letter a from hx, show y.data.toList = Rm.letter b from hy, hord, decide_eq_true hc], hlat.1 (.inr ⟨h, hc⟩)⟩)
      · exact .inr (.inr (.inl ⟨h, by rw [Lib.toList_data, Lib.toList_data, show x.data.toList = Rm.letter a from hx, show y.data.toList = Rm.letter b from hy, hord, decide_eq_false hc], fun hab => by rcases hlat.2 hab with h' | h' <;> first | omega | exact hc h'.2⟩))
    · exact .inr (.inr (.inr ⟨h, fun hab => by rcases hlat.2 hab with h' | h' <;> omega⟩))
  clear hord
  have hxs := lets_size x a a1 hx
  have xsm : x.size ≤ 4000 := by have := letter_small a (by omega); rw [← hx] at this; rw [Lib.size_eq]; exact this
  have ysm : y.size ≤ 4000 := by have := letter_small b (by omega); rw [← hy] at this; rw [Lib.size_eq]; exact this
  have hx' := hx
  rw [letter_last a a1] at hx'
  have HX := Lib.hid hx'
  have HXS := Lib.hid hxs
  have xpos : 1 ≤ x.size := by omega
  clear hx hx' hy hxs
  rcases hlater with ⟨q1, hab⟩ | ⟨q1, q2, hab⟩ | ⟨q1, q2, hab⟩ | ⟨q1, hab⟩
  · have q1' : (x.size : Int) < (y.size : Int) := by omega
    have HAB : Hid (decide (a < b) = true) := Lib.hid (decide_eq_true hab)
    clear hab
    go_wp2_with fail
    clear q1 q1'
    have hx0 : ((x.size : Int) == 0) = false := by simp; rintro rfl; exact absurd xpos (by decide)
    have k0 : (0 : Int) ≤ (x.size : Int) - 1 := by omega
    have k1 : (x.size : Int) - 1 < (x.size : Int) := by omega
    have k2 : ((x.size : Int) - 1).toNat = x.size - 1 := by omega
    have hab := HAB.out
    by_cases h99 : a < 3999
    · refine (letter_good (a + 1) (by omega) (by omega) _).mono ?_
      rintro e w3 ⟨⟨z, rfl, hz⟩, c3⟩
      have c3 := c2.trans (c3.mono c2.size)
      have H3 := Lib.hid (HN.out.below c3)
      have h99i : decide ((a : Int) < 3999) = true := by simp; omega
      by_cases h25 : (a - 1) % 26 = 25
      · have hl : ((x[x.size - 1].toNat : Int) == 122) = true := lets_z x a a1 (by omega) HX.out h25
        clear hz
        go_wp2_with fail
        refine (alive_any _ H3.out).mono ?_
        rintro e w4 ⟨rfl, c4⟩
        go_wp2_with fail
        go_ret
        exact ⟨rfl, c3.trans (c4.mono c3.size)⟩
      · obtain ⟨hzs, hq, hl, e2, e3, e4⟩ := lets_next x z a a1 (by omega) HX.out hz h25
        have e1 : ((z.size : Int) == (x.size : Int)) = true := by rw [hzs]; simp
        clear hz
        go_wp2_with fail
        have e5 : IntKind.i64.wrap ((x.size : Int) - 1) = (x.size : Int) - 1 := IntWalk.i64_in _ (by omega)
        have e6 : (x.size : Int) - 1 ≤ (z.size : Int) := by omega
        have e7 : (x.size : Int) - 1 < (z.size : Int) := by omega
        clear hab
        refine wp_region_quiet_below (by kernel_rfl) (by kernel_rfl) ?_
        repeat (any_goals (first | go_big_quiet_step (exact alive_q H3 _ _) | quiet_step (exact alive_q H3 _ _)))
        refine wpQuiet_nil ?_
        intro _ hw'
        obtain ⟨⟨dq, osq⟩, rfl⟩ := hw'
        go_wp2_with fail
        go_ret
        exact ⟨rfl, c3.trans ((below_regrown w3 dq osq).mono c3.size)⟩
    · refine (letter_bad (a + 1) (by omega) _).mono ?_
      rintro e w' ⟨rfl, rfl⟩
      have h99i : decide ((a : Int) < 3999) = false := by simp; omega
      have H3 := Lib.hid (HN.out.below c2)
      go_wp2_with fail
      refine (alive_any _ H3.out).mono ?_
      rintro e w4 ⟨rfl, c4⟩
      go_wp2_with fail
      go_ret
      exact ⟨rfl, c2.trans (c4.mono c2.size)⟩
  · have q3 : decide (x.size < y.size) = false := by simp; omega
    have q4 : ((x.size : Int) == (y.size : Int)) = true := by simp; omega
    have HAB : Hid (decide (a < b) = true) := Lib.hid (decide_eq_true hab)
    clear hab q1
    go_wp2_with fail
    clear q2 q3 q4
    have hx0 : ((x.size : Int) == 0) = false := by simp; rintro rfl; exact absurd xpos (by decide)
    have k0 : (0 : Int) ≤ (x.size : Int) - 1 := by omega
    have k1 : (x.size : Int) - 1 < (x.size : Int) := by omega
    have k2 : ((x.size : Int) - 1).toNat = x.size - 1 := by omega
    have hab := HAB.out
    by_cases h99 : a < 3999
    · refine (letter_good (a + 1) (by omega) (by omega) _).mono ?_
      rintro e w3 ⟨⟨z, rfl, hz⟩, c3⟩
      have c3 := c2.trans (c3.mono c2.size)
      have H3 := Lib.hid (HN.out.below c3)
      have h99i : decide ((a : Int) < 3999) = true := by simp; omega
      by_cases h25 : (a - 1) % 26 = 25
      · have hl : ((x[x.size - 1].toNat : Int) == 122) = true := lets_z x a a1 (by omega) HX.out h25
        clear hz
        go_wp2_with fail
        refine (alive_any _ H3.out).mono ?_
        rintro e w4 ⟨rfl, c4⟩
        go_wp2_with fail
        go_ret
        exact ⟨rfl, c3.trans (c4.mono c3.size)⟩
      · obtain ⟨hzs, hq, hl, e2, e3, e4⟩ := lets_next x z a a1 (by omega) HX.out hz h25
        have e1 : ((z.size : Int) == (x.size : Int)) = true := by rw [hzs]; simp
        clear hz
        go_wp2_with fail
        have e5 : IntKind.i64.wrap ((x.size : Int) - 1) = (x.size : Int) - 1 := IntWalk.i64_in _ (by omega)
        have e6 : (x.size : Int) - 1 ≤ (z.size : Int) := by omega
        have e7 : (x.size : Int) - 1 < (z.size : Int) := by omega
        clear hab
        refine wp_region_quiet_below (by kernel_rfl) (by kernel_rfl) ?_
        repeat (any_goals (first | go_big_quiet_step (exact alive_q H3 _ _) | quiet_step (exact alive_q H3 _ _)))
        refine wpQuiet_nil ?_
        intro _ hw'
        obtain ⟨⟨dq, osq⟩, rfl⟩ := hw'
        go_wp2_with fail
        go_ret
        exact ⟨rfl, c3.trans ((below_regrown w3 dq osq).mono c3.size)⟩
    · refine (letter_bad (a + 1) (by omega) _).mono ?_
      rintro e w' ⟨rfl, rfl⟩
      have h99i : decide ((a : Int) < 3999) = false := by simp; omega
      have H3 := Lib.hid (HN.out.below c2)
      go_wp2_with fail
      refine (alive_any _ H3.out).mono ?_
      rintro e w4 ⟨rfl, c4⟩
      go_wp2_with fail
      go_ret
      exact ⟨rfl, c2.trans (c4.mono c2.size)⟩
  · have q3 : decide (x.size < y.size) = false := by simp; omega
    have q4 : ((x.size : Int) == (y.size : Int)) = true := by simp; omega
    have HAB : Hid (decide (a < b) = false) := Lib.hid (decide_eq_false hab)
    clear hab q1
    go_wp2_with fail
    clear q2 q3 q4
    have hx0 : ((x.size : Int) == 0) = false := by simp; rintro rfl; exact absurd xpos (by decide)
    have k0 : (0 : Int) ≤ (x.size : Int) - 1 := by omega
    have k1 : (x.size : Int) - 1 < (x.size : Int) := by omega
    have k2 : ((x.size : Int) - 1).toNat = x.size - 1 := by omega
    have hab := HAB.out
    by_cases h99 : a < 3999
    · refine (letter_good (a + 1) (by omega) (by omega) _).mono ?_
      rintro e w3 ⟨⟨z, rfl, hz⟩, c3⟩
      have c3 := c2.trans (c3.mono c2.size)
      have H3 := Lib.hid (HN.out.below c3)
      have h99i : decide ((a : Int) < 3999) = true := by simp; omega
      by_cases h25 : (a - 1) % 26 = 25
      · have hl : ((x[x.size - 1].toNat : Int) == 122) = true := lets_z x a a1 (by omega) HX.out h25
        clear hz
        go_wp2_with fail
        refine (alive_any _ H3.out).mono ?_
        rintro e w4 ⟨rfl, c4⟩
        go_wp2_with fail
        go_ret
        exact ⟨rfl, c3.trans (c4.mono c3.size)⟩
      · obtain ⟨hzs, hq, hl, e2, e3, e4⟩ := lets_next x z a a1 (by omega) HX.out hz h25
        have e1 : ((z.size : Int) == (x.size : Int)) = true := by rw [hzs]; simp
        clear hz
        go_wp2_with fail
        have e5 : IntKind.i64.wrap ((x.size : Int) - 1) = (x.size : Int) - 1 := IntWalk.i64_in _ (by omega)
        have e6 : (x.size : Int) - 1 ≤ (z.size : Int) := by omega
        have e7 : (x.size : Int) - 1 < (z.size : Int) := by omega
        clear hab
        refine wp_region_quiet_below (by kernel_rfl) (by kernel_rfl) ?_
        repeat (any_goals (first | go_big_quiet_step (exact alive_q H3 _ _) | quiet_step (exact alive_q H3 _ _)))
        refine wpQuiet_nil ?_
        intro _ hw'
        obtain ⟨⟨dq, osq⟩, rfl⟩ := hw'
        go_wp2_with fail
        go_ret
        exact ⟨rfl, c3.trans ((below_regrown w3 dq osq).mono c3.size)⟩
    · refine (letter_bad (a + 1) (by omega) _).mono ?_
      rintro e w' ⟨rfl, rfl⟩
      have h99i : decide ((a : Int) < 3999) = false := by simp; omega
      have H3 := Lib.hid (HN.out.below c2)
      go_wp2_with fail
      refine (alive_any _ H3.out).mono ?_
      rintro e w4 ⟨rfl, c4⟩
      go_wp2_with fail
      go_ret
      exact ⟨rfl, c2.trans (c4.mono c2.size)⟩
  · have q3 : decide (x.size < y.size) = false := by simp; omega
    have q4 : ((x.size : Int) == (y.size : Int)) = false := by simp; omega
    have HAB : Hid (decide (a < b) = false) := Lib.hid (decide_eq_false hab)
    clear hab q1
    go_wp2_with fail
    clear q3 q4
    have hx0 : ((x.size : Int) == 0) = false := by simp; rintro rfl; exact absurd xpos (by decide)
    have k0 : (0 : Int) ≤ (x.size : Int) - 1 := by omega
    have k1 : (x.size : Int) - 1 < (x.size : Int) := by omega
    have k2 : ((x.size : Int) - 1).toNat = x.size - 1 := by omega
    have hab := HAB.out
    by_cases h99 : a < 3999
    · refine (letter_good (a + 1) (by omega) (by omega) _).mono ?_
      rintro e w3 ⟨⟨z, rfl, hz⟩, c3⟩
      have c3 := c2.trans (c3.mono c2.size)
      have H3 := Lib.hid (HN.out.below c3)
      have h99i : decide ((a : Int) < 3999) = true := by simp; omega
      by_cases h25 : (a - 1) % 26 = 25
      · have hl : ((x[x.size - 1].toNat : Int) == 122) = true := lets_z x a a1 (by omega) HX.out h25
        clear hz
        go_wp2_with fail
        refine (alive_any _ H3.out).mono ?_
        rintro e w4 ⟨rfl, c4⟩
        go_wp2_with fail
        go_ret
        exact ⟨rfl, c3.trans (c4.mono c3.size)⟩
      · obtain ⟨hzs, hq, hl, e2, e3, e4⟩ := lets_next x z a a1 (by omega) HX.out hz h25
        have e1 : ((z.size : Int) == (x.size : Int)) = true := by rw [hzs]; simp
        clear hz
        go_wp2_with fail
        have e5 : IntKind.i64.wrap ((x.size : Int) - 1) = (x.size : Int) - 1 := IntWalk.i64_in _ (by omega)
        have e6 : (x.size : Int) - 1 ≤ (z.size : Int) := by omega
        have e7 : (x.size : Int) - 1 < (z.size : Int) := by omega
        clear hab
        refine wp_region_quiet_below (by kernel_rfl) (by kernel_rfl) ?_
        repeat (any_goals (first | go_big_quiet_step (exact alive_q H3 _ _) | quiet_step (exact alive_q H3 _ _)))
        refine wpQuiet_nil ?_
        intro _ hw'
        obtain ⟨⟨dq, osq⟩, rfl⟩ := hw'
        go_wp2_with fail
        go_ret
        exact ⟨rfl, c3.trans ((below_regrown w3 dq osq).mono c3.size)⟩
    · refine (letter_bad (a + 1) (by omega) _).mono ?_
      rintro e w' ⟨rfl, rfl⟩
      have h99i : decide ((a : Int) < 3999) = false := by simp; omega
      have H3 := Lib.hid (HN.out.below c2)
      go_wp2_with fail
      refine (alive_any _ H3.out).mono ?_
      rintro e w4 ⟨rfl, c4⟩
      go_wp2_with fail
      go_ret
      exact ⟨rfl, c2.trans (c4.mono c2.size)⟩
end Go.Proofs.YtcjhaeppplmmjaaDoor

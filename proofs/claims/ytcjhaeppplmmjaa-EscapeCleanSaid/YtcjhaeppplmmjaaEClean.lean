/-
  EscapeClean: the walk.
-/
import Derived.Test.YtcjhaeppplmmjaaEBack
import Derived.Test.YtcjhaeppplmmjaaRefE
namespace Go.Proofs.Ytcjhaeppplmmjaa
open Go.RowKit
set_option linter.unusedVariables false

theorem pluses_snoc (l : List UInt8) (c : UInt8) : Es.pluses (l ++ [c]) = Es.pluses l + Es.plus c := by
  induction l with
  | nil => simp [Es.pluses]
  | cons d l ih => simp only [List.cons_append, Es.pluses, ih]; omega
theorem pluses_take (s : ByteArray) (k : Nat) (h : k < s.size) : Es.pluses ((lb s).take (k + 1)) = Es.pluses ((lb s).take k) + Es.plus s[k] := by rw [take_snoc' s k h, pluses_snoc]
theorem pluses_le (l : List UInt8) : Es.pluses l ≤ 5 * l.length := by
  induction l with
  | nil => simp [Es.pluses]
  | cons d l ih =>
    rw [Es.pluses, List.length_cons]
    have : Es.plus d ≤ 5 := by unfold Es.plus; repeat' split
                               all_goals omega
    omega
theorem clean_at (t s : ByteArray) (h : lb t = Es.esc (lb s)) (j : Nat) (hj : j < t.size) : Es.cut t[j] = false := by
  have h1 := Es.esc_clean (lb s)
  rw [← h] at h1
  have h2 := List.all_eq_true.1 h1 t[j] (by rw [show t[j] = (lb t)[j]'(by rw [lb_len]; exact hj) from rfl]; exact List.getElem_mem _)
  simpa using h2

set_option maxHeartbeats 4000000 in
set_option maxRecDepth 100000 in
theorem escapeClean_walk (s : ByteArray) (hs : s.size ≤ 140737488351232) (w : World) :
    Calls Try.prog 6 #[.string s] w fun e w' => e = .returned (.bool true) ∧ Below w.heap.size w w' := by
  rcases hb : beyond [(s.size : Int)]
  · have hz := beyond_no1 hb
    obtain ⟨x, hx⟩ : ∃ x : ByteArray, lb x = Es.esc (lb s) := ⟨⟨(Es.esc (lb s)).toArray⟩, lb_toArray _⟩
    have hxl : x.size = s.size + Es.pluses (lb s) := by rw [← lb_len x, hx, Es.esc_pluses, lb_len]
    have hpl := pluses_le (lb s)
    rw [lb_len] at hpl
    have hxs : x.size ≤ 6 * s.size := by omega
    have HX := Lib.hid hx
    have HXL := Lib.hid hxl
    clear hx hxl hpl
    go_enter Try.func6, Try.ntmps6
    go_wp2_with fail
    refine (alive_any w).mono ?_
    rintro e w1 ⟨rfl, b1⟩
    go_wp2_with fail
    refine (beyond1 w1 s.size (by omega)).mono ?_
    rintro e w' ⟨rfl, rfl⟩
    have c1 := b1.alloc b1.size (.cells #[.int .i64 (s.size : Int)] 3)
    clear b1
    go_wp2_with fail
    refine (text_is s x HX.out.symm (by omega) _).mono ?_
    rintro e w2 ⟨rfl, b2⟩
    have c2 := c1.trans (b2.mono c1.size)
    clear b2 c1
    go_wp2_with fail
    go_loop [4, 5] (fun n i => ∃ k : Nat, k ≤ s.size ∧ i = .int .i64 k ∧ n = .int .i64 (Es.pluses ((lb s).take k) : Nat)) (fun _ i => s.size - (intOf i).toNat)
    case atStart => exact ⟨0, by omega, rfl, rfl⟩
    case round =>
      obtain ⟨k, hk, rfl, rfl⟩ := hrel
      have hple := pluses_le ((lb s).take k)
      rw [List.length_take, lb_len] at hple
      have hpb : Es.pluses ((lb s).take k) ≤ 5 * s.size := by omega
      clear hple
      by_cases hlt : k < s.size
      · have HP := Lib.hid (pluses_take s k hlt)
        have HU := Lib.hid (rfl : Es.plus s[k] = Es.plus s[k])
        by_cases h0 : s[k] = 38
        · have HQ : Hid (Es.pluses ((lb s).take (k + 1)) = Es.pluses ((lb s).take k) + 4) := Lib.hid (by rw [HP.out, h0]; rfl)
          have g0 : ((s[k].toNat : Int) == 38) = true := by rw [h0]; rfl
          clear h0
          go_wp2_with fail
          go_round
          case rel => exact ⟨k + 1, by omega, by go_num, by rw [HQ.out]; go_num⟩
          case measure => simp [intOf]; omega
        by_cases h1 : s[k] = 60
        · have HQ : Hid (Es.pluses ((lb s).take (k + 1)) = Es.pluses ((lb s).take k) + 3) := Lib.hid (by rw [HP.out, h1]; rfl)
          have g0 : ((s[k].toNat : Int) == 38) = false := by have := u8_lit s[k] 38 h0; simpa using this
          have g1 : ((s[k].toNat : Int) == 60) = true := by rw [h1]; rfl
          clear h0 h1
          go_wp2_with fail
          go_round
          case rel => exact ⟨k + 1, by omega, by go_num, by rw [HQ.out]; go_num⟩
          case measure => simp [intOf]; omega
        by_cases h2 : s[k] = 62
        · have HQ : Hid (Es.pluses ((lb s).take (k + 1)) = Es.pluses ((lb s).take k) + 3) := Lib.hid (by rw [HP.out, h2]; rfl)
          have g0 : ((s[k].toNat : Int) == 38) = false := by have := u8_lit s[k] 38 h0; simpa using this
          have g1 : ((s[k].toNat : Int) == 60) = false := by have := u8_lit s[k] 60 h1; simpa using this
          have g2 : ((s[k].toNat : Int) == 62) = true := by rw [h2]; rfl
          clear h0 h1 h2
          go_wp2_with fail
          go_round
          case rel => exact ⟨k + 1, by omega, by go_num, by rw [HQ.out]; go_num⟩
          case measure => simp [intOf]; omega
        by_cases h3 : s[k] = 34
        · have HQ : Hid (Es.pluses ((lb s).take (k + 1)) = Es.pluses ((lb s).take k) + 5) := Lib.hid (by rw [HP.out, h3]; rfl)
          have g0 : ((s[k].toNat : Int) == 38) = false := by have := u8_lit s[k] 38 h0; simpa using this
          have g1 : ((s[k].toNat : Int) == 60) = false := by have := u8_lit s[k] 60 h1; simpa using this
          have g2 : ((s[k].toNat : Int) == 62) = false := by have := u8_lit s[k] 62 h2; simpa using this
          have g3 : ((s[k].toNat : Int) == 34) = true := by rw [h3]; rfl
          clear h0 h1 h2 h3
          go_wp2_with fail
          go_round
          case rel => exact ⟨k + 1, by omega, by go_num, by rw [HQ.out]; go_num⟩
          case measure => simp [intOf]; omega
        by_cases h4 : s[k] = 39
        · have HQ : Hid (Es.pluses ((lb s).take (k + 1)) = Es.pluses ((lb s).take k) + 4) := Lib.hid (by rw [HP.out, h4]; rfl)
          have g0 : ((s[k].toNat : Int) == 38) = false := by have := u8_lit s[k] 38 h0; simpa using this
          have g1 : ((s[k].toNat : Int) == 60) = false := by have := u8_lit s[k] 60 h1; simpa using this
          have g2 : ((s[k].toNat : Int) == 62) = false := by have := u8_lit s[k] 62 h2; simpa using this
          have g3 : ((s[k].toNat : Int) == 34) = false := by have := u8_lit s[k] 34 h3; simpa using this
          have g4 : ((s[k].toNat : Int) == 39) = true := by rw [h4]; rfl
          clear h0 h1 h2 h3 h4
          go_wp2_with fail
          go_round
          case rel => exact ⟨k + 1, by omega, by go_num, by rw [HQ.out]; go_num⟩
          case measure => simp [intOf]; omega
        have HQ : Hid (Es.pluses ((lb s).take (k + 1)) = Es.pluses ((lb s).take k)) := Lib.hid (by rw [HP.out]; unfold Es.plus; rw [if_neg h0, if_neg h1, if_neg h2, if_neg h3, if_neg h4]; rfl)
        have g0 : ((s[k].toNat : Int) == 38) = false := by have := u8_lit s[k] 38 h0; simpa using this
        have g1 : ((s[k].toNat : Int) == 60) = false := by have := u8_lit s[k] 60 h1; simpa using this
        have g2 : ((s[k].toNat : Int) == 62) = false := by have := u8_lit s[k] 62 h2; simpa using this
        have g3 : ((s[k].toNat : Int) == 34) = false := by have := u8_lit s[k] 34 h3; simpa using this
        have g4 : ((s[k].toNat : Int) == 39) = false := by have := u8_lit s[k] 39 h4; simpa using this
        clear h0 h1 h2 h3 h4
        go_wp2_with fail
        go_round
        case rel => exact ⟨k + 1, by omega, by go_num, by rw [HQ.out]⟩
        case measure => simp [intOf]; omega
      · obtain rfl : k = s.size := by omega
        have hn : Es.pluses ((lb s).take s.size) = Es.pluses (lb s) := by rw [List.take_of_length_le (by rw [lb_len]; exact Nat.le_refl _)]
        rw [hn] at hpb ⊢
        have HN := Lib.hid (Es.pluses_zero (lb s))
        generalize Es.pluses (lb s) = n at *
        clear hn
        go_wp2_with fail
        go_loop [6] (fun i => ∃ j : Nat, j ≤ x.size ∧ i = .int .i64 j) (fun i => x.size - (intOf i).toNat)
        case atStart => exact ⟨0, by omega, rfl⟩
        case round =>
          obtain ⟨j, hj, rfl⟩ := hrel
          by_cases hjt : j < x.size
          · have hcut := clean_at x s HX.out j hjt
            unfold Es.cut at hcut
            simp only [Bool.or_eq_false_iff, beq_eq_false_iff_ne] at hcut
            obtain ⟨⟨⟨q0, q1⟩, q2⟩, q3⟩ := hcut
            have g0 : ((x[j].toNat : Int) == 60) = false := by have := u8_lit x[j] 60 q0; simpa using this
            have g1 : ((x[j].toNat : Int) == 62) = false := by have := u8_lit x[j] 62 q1; simpa using this
            have g2 : ((x[j].toNat : Int) == 34) = false := by have := u8_lit x[j] 34 q2; simpa using this
            have g3 : ((x[j].toNat : Int) == 39) = false := by have := u8_lit x[j] 39 q3; simpa using this
            clear q0 q1 q2 q3
            go_wp2_with fail
            go_round
            case rel => exact ⟨j + 1, by omega, by go_num⟩
            case measure => simp [intOf]; omega
          · obtain rfl : j = x.size := by omega
            have hlen : ((x.size : Int) == (s.size : Int) + (n : Int)) = true := by rw [HXL.out]; simp
            by_cases hn0 : n = 0
            · have hxs2 : (x.toList == s.toList) = true := by rw [toL, toL, HX.out, HN.out hn0]; simp
              subst hn0
              have hlen0 : ((x.size : Int) == (s.size : Int)) = true := by have := HXL.out; simp; omega
              clear hlen
              go_wp2_with fail
              go_ret
              exact ⟨ret_bool (by simp), c2⟩
            · have hgt : (0 : Int) < (n : Int) := by omega
              go_wp2_with fail
              go_ret
              exact ⟨ret_bool (by simp), c2⟩
  · go_enter Try.func6, Try.ntmps6
    go_wp2_with fail
    refine (alive_any w).mono ?_
    rintro e w1 ⟨rfl, b1⟩
    go_wp2_with fail
    refine (beyond1 w1 s.size (by omega)).mono ?_
    rintro e w' ⟨rfl, rfl⟩
    have c1 := b1.alloc b1.size (.cells #[.int .i64 (s.size : Int)] 3)
    go_wp2_with fail
    refine (alive_any _).mono ?_
    rintro e w2 ⟨rfl, b2⟩
    go_wp2_with fail
    go_ret
    exact ⟨rfl, c1.trans (b2.mono c1.size)⟩
end Go.Proofs.Ytcjhaeppplmmjaa

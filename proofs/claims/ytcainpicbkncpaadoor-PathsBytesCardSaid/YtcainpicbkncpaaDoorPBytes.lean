/-
  PathsBytes: the walk.
-/
import Derived.Test.YtcainpicbkncpaaDoorPJU
namespace Go.Proofs.YtcainpicbkncpaaDoor
open Go.RowKit
set_option linter.unusedVariables false

theorem okB_cases (c : UInt8) (h : Pa.okB c = true) : (97 ≤ (c.toNat : Int) ∧ (c.toNat : Int) ≤ 122) ∨ (65 ≤ (c.toNat : Int) ∧ (c.toNat : Int) ≤ 90) ∨ (48 ≤ (c.toNat : Int) ∧ (c.toNat : Int) ≤ 57) ∨ (c.toNat : Int) = 45 ∨ (c.toNat : Int) = 46 := by
  unfold Pa.okB Pl.nmB Pl.isNm Pl.isLD Pl.isLet Pl.isDig at h
  simp only [Bool.or_eq_true, decide_eq_true_eq, beq_iff_eq] at h
  rcases h with ((((h | h) | h) | h) | h)
  · exact .inr (.inl h)
  · exact .inl h
  · exact .inr (.inr (.inl h))
  · exact .inr (.inr (.inr (.inl h)))
  · subst h; exact .inr (.inr (.inr (.inr rfl)))
theorem ok_at (s : ByteArray) (h : Pa.check (lb s) = true) (i : Nat) (hi : i < s.size) : Pa.okB s[i] = true := by
  have := Pa.check_ok (lb s) h
  refine List.all_eq_true.1 this s[i] ?_
  rw [show s[i] = (lb s)[i]'(by rw [lb_len]; exact hi) from rfl]
  exact List.getElem_mem _
theorem let_at (s : ByteArray) (h : Pa.check (lb s) = true) (hi : 0 < s.size) : (97 ≤ (s[0].toNat : Int) ∧ (s[0].toNat : Int) ≤ 122) ∨ (65 ≤ (s[0].toNat : Int) ∧ (s[0].toNat : Int) ≤ 90) := by
  obtain ⟨c, r, hs, hc⟩ := Pa.check_head (lb s) h
  have h0 : (lb s)[0]? = some s[0] := List.getElem?_eq_getElem (by rw [lb_len]; exact hi)
  rw [hs] at h0
  simp at h0
  subst h0
  unfold Pl.isLet at hc
  have := of_decide_eq_true hc
  omega
theorem lower_c (s : ByteArray) (hs : s.size ≤ 140737488351232) (w : World) :
    Calls Tryd.prog 14 #[.string s] w fun e w' => ∃ x : ByteArray, e = .returned (.string x) ∧ lb x = Pl.lower (lb s) ∧ Below w.heap.size w w' :=
  (lower_any s hs w).mono fun _ _ h => ⟨_, h.1, by simp [lb], h.2⟩

set_option maxHeartbeats 4000000 in
set_option maxRecDepth 100000 in
theorem pathsBytes_walk (s : ByteArray) (hs : s.size ≤ 140737488351232) (w : World) (hM : ML w) :
    Calls Tryd.prog 6 #[.string s] w fun e w' => e = .returned (.bool true) ∧ Below w.heap.size w w' := by
  have HM := Lib.hid hM
  clear hM
  rcases hb : beyond [(s.size : Int)]
  · have hz := beyond_no1 hb
    rcases hA : Pa.check (lb s)
    · have GA := Lib.hid hA
      clear hA
      go_enter Tryd.func6, Tryd.ntmps6
      go_wp2_with fail
      refine (alive_any w HM.out).mono ?_
      rintro e w1 ⟨rfl, b1⟩
      go_wp2_with fail
      refine (beyond1 w1 s.size (by omega)).mono ?_
      rintro e w' ⟨rfl, rfl⟩
      have c1 := b1.alloc b1.size (.cells #[.int .i64 (s.size : Int)] 3)
      clear b1
      go_wp2_with fail
      refine (check_c GA.out (by omega) _ (HM.out.below c1)).mono ?_
      rintro e w2 ⟨rfl, b2⟩
      have c2 := c1.trans (b2.mono c1.size)
      go_wp2_with fail
      refine (alive_any _ (HM.out.below c2)).mono ?_
      rintro e w3 ⟨rfl, b3⟩
      go_wp2_with fail
      go_ret
      exact ⟨rfl, c2.trans (b3.mono c2.size)⟩
    · have h60 : s.size ≤ 60 := by
        have := hA
        unfold Pa.check at this
        simp only [Bool.and_eq_true, decide_eq_true_eq] at this
        rw [← lb_len]; exact this.1
      have hpos : 0 < s.size := by
        obtain ⟨c, r, h, _⟩ := Pa.check_head (lb s) hA
        rw [← lb_len, h]; simp
      have GA := Lib.hid hA
      have h60i : (s.size : Int) ≤ 60 := by omega
      have hposi : (1 : Int) ≤ (s.size : Int) := by omega
      clear hA
      go_enter Tryd.func6, Tryd.ntmps6
      go_wp2_with fail
      refine (alive_any w HM.out).mono ?_
      rintro e w1 ⟨rfl, b1⟩
      go_wp2_with fail
      refine (beyond1 w1 s.size (by omega)).mono ?_
      rintro e w' ⟨rfl, rfl⟩
      have c1 := b1.alloc b1.size (.cells #[.int .i64 (s.size : Int)] 3)
      clear b1
      go_wp2_with fail
      refine (check_c GA.out (by omega) _ (HM.out.below c1)).mono ?_
      rintro e w2 ⟨rfl, b2⟩
      have c2 := c1.trans (b2.mono c1.size)
      clear b2 c1
      go_wp2_with fail
      go_loop [3] (fun i => ∃ k : Nat, k ≤ s.size ∧ i = .int .i64 k) (fun i => s.size - (intOf i).toNat)
      case atStart => exact ⟨0, by omega, rfl⟩
      case round =>
        obtain ⟨k, hk, rfl⟩ := hrel
        by_cases hlt : k < s.size
        · have hcs : ((97 ≤ (s[k].toNat : Int) ∧ (s[k].toNat : Int) ≤ 122) ∨ (65 ≤ (s[k].toNat : Int) ∧ (s[k].toNat : Int) ≤ 90)) ∨ (0 < k ∧ ((48 ≤ (s[k].toNat : Int) ∧ (s[k].toNat : Int) ≤ 57) ∨ (s[k].toNat : Int) = 45 ∨ (s[k].toNat : Int) = 46)) := by
            rcases Nat.eq_zero_or_pos k with h0 | h0
            · subst h0; exact .inl (let_at s GA.out hlt)
            · rcases okB_cases _ (ok_at s GA.out k hlt) with h | h | h | h | h
              · exact .inl (.inl h)
              · exact .inl (.inr h)
              · exact .inr ⟨h0, .inl h⟩
              · exact .inr ⟨h0, .inr (.inl h)⟩
              · exact .inr ⟨h0, .inr (.inr h)⟩
          rcases hcs with (⟨q1, q2⟩ | ⟨q1, q2⟩) | ⟨h0, (⟨q1, q2⟩ | q | q)⟩
          · go_wp2_with fail
            go_round
            case rel => exact ⟨k + 1, by omega, by go_num⟩
            case measure => simp [intOf]; omega
          · have q3 : (s[k].toNat : Int) < 97 := by omega
            go_wp2_with fail
            go_round
            case rel => exact ⟨k + 1, by omega, by go_num⟩
            case measure => simp [intOf]; omega
          · have hk0 : ((k : Int) == 0) = false := by simp; omega
            have q3 : (s[k].toNat : Int) < 97 := by omega
            have q4 : (s[k].toNat : Int) < 65 := by omega
            clear h0
            go_wp2_with fail
            go_round
            case rel => exact ⟨k + 1, by omega, by go_num⟩
            case measure => simp [intOf]; omega
          · have hk0 : ((k : Int) == 0) = false := by simp; omega
            have g1 : ((s[k].toNat : Int) != 45) = false := by rw [q]; rfl
            have q3 : (s[k].toNat : Int) < 97 := by omega
            have q4 : (s[k].toNat : Int) < 65 := by omega
            have q5 : (s[k].toNat : Int) < 48 := by omega
            clear h0 q
            go_wp2_with fail
            go_round
            case rel => exact ⟨k + 1, by omega, by go_num⟩
            case measure => simp [intOf]; omega
          · have hk0 : ((k : Int) == 0) = false := by simp; omega
            have g1 : ((s[k].toNat : Int) != 45) = true := by rw [q]; rfl
            have g2 : ((s[k].toNat : Int) != 46) = false := by rw [q]; rfl
            have q3 : (s[k].toNat : Int) < 97 := by omega
            have q4 : (s[k].toNat : Int) < 65 := by omega
            have q5 : (s[k].toNat : Int) < 48 := by omega
            clear h0 q
            go_wp2_with fail
            go_round
            case rel => exact ⟨k + 1, by omega, by go_num⟩
            case measure => simp [intOf]; omega
        · obtain rfl : k = s.size := by omega
          go_wp2_with fail
          refine (lower_c s (by omega) _).mono ?_
          rintro e w3 ⟨x, rfl, hx, b3⟩
          have c3 := c2.trans (b3.mono c2.size)
          have HX : Hid (Pa.check (lb x) = true) := Lib.hid (by rw [hx, Pa.check_lower]; exact GA.out)
          have hxs : x.size ≤ 60 := by rw [← lb_len, hx, Pl.lower_length, lb_len]; exact h60
          clear hx b3 c2
          go_wp2_with fail
          refine (check_c HX.out (by omega) _ (HM.out.below c3)).mono ?_
          rintro e w4 ⟨rfl, b4⟩
          go_wp2_with fail
          go_ret
          exact ⟨ret_bool (by simp), c3.trans (b4.mono c3.size)⟩
  · go_enter Tryd.func6, Tryd.ntmps6
    go_wp2_with fail
    refine (alive_any w HM.out).mono ?_
    rintro e w1 ⟨rfl, b1⟩
    go_wp2_with fail
    refine (beyond1 w1 s.size (by omega)).mono ?_
    rintro e w' ⟨rfl, rfl⟩
    have c1 := b1.alloc b1.size (.cells #[.int .i64 (s.size : Int)] 3)
    clear b1
    go_wp2_with fail
    refine (alive_any _ (HM.out.below c1)).mono ?_
    rintro e w2 ⟨rfl, b2⟩
    go_wp2_with fail
    go_ret
    exact ⟨rfl, c1.trans (b2.mono c1.size)⟩
end Go.Proofs.YtcainpicbkncpaaDoor

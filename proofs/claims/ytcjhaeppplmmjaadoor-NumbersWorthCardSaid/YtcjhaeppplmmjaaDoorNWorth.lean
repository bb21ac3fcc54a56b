/-
  NumbersWorth: the walk (under way).
-/
import Derived.Test.YtcjhaeppplmmjaaDoorWorth
import Derived.IntWalk
namespace Go.Proofs.YtcjhaeppplmmjaaDoor
open Go.RowKit
set_option linter.unusedVariables false

theorem worth_bounds (c : UInt8) : 0 ≤ Rm.worth c ∧ Rm.worth c ≤ 1000 := by
  unfold Rm.worth
  repeat' split
  all_goals omega
theorem getDb (x : ByteArray) (j : Nat) (h : j < x.size) : (lb x).getD j 0 = x[j] := by
  rw [List.getD_eq_getElem?_getD, List.getElem?_eq_getElem (by rw [← Lib.size_eq]; exact h)]; rfl

theorem worth_ne {x : ByteArray} (h : ((lb x).all fun c => decide (Rm.worth c ≠ 0)) = true) (j : Nat) (hj : j < x.size) : (Rm.worth x[j] == 0) = false := by
  have := List.all_eq_true.1 h x[j] (by rw [← getDb x j hj, List.getD_eq_getElem?_getD, List.getElem?_eq_getElem (by rw [← Lib.size_eq]; exact hj)]; exact List.getElem_mem _)
  simpa using this
theorem u8_beq (a b : UInt8) : (((a.toNat : Nat) : Int) == ((b.toNat : Nat) : Int)) = (a == b) := by
  rw [Bool.eq_iff_iff]
  simp only [beq_iff_eq]
  exact ⟨fun h => UInt8.toNat_inj.1 (by omega), fun h => by rw [h]⟩
theorem noFour_c {x : ByteArray} (h : Rm.noFour (lb x) = true) (i : Nat) (hi : i + 3 < x.size) :
    (((x[i + 3].toNat : Nat) : Int) == ((x[i + 2].toNat : Nat) : Int)) = false ∨
    ((((x[i + 3].toNat : Nat) : Int) == ((x[i + 2].toNat : Nat) : Int)) = true ∧ (((x[i + 3].toNat : Nat) : Int) == ((x[i + 1].toNat : Nat) : Int)) = false) ∨
    ((((x[i + 3].toNat : Nat) : Int) == ((x[i + 2].toNat : Nat) : Int)) = true ∧ (((x[i + 3].toNat : Nat) : Int) == ((x[i + 1].toNat : Nat) : Int)) = true ∧ (((x[i + 3].toNat : Nat) : Int) == ((x[i].toNat : Nat) : Int)) = false) := by
  have := noFour_at i (lb x) h (by rw [← Lib.size_eq]; exact hi)
  rw [getDb x (i + 3) hi, getDb x (i + 2) (by omega), getDb x (i + 1) (by omega), getDb x i (by omega)] at this
  simp only [u8_beq]
  by_cases h1 : x[i + 3] = x[i + 2]
  · by_cases h2 : x[i + 3] = x[i + 1]
    · by_cases h3 : x[i + 3] = x[i]
      · exact absurd ⟨h1, h2, h3⟩ this
      · exact .inr (.inr ⟨by simp [h1], by simp [h2], by simp [h3]⟩)
    · exact .inr (.inl ⟨by simp [h1], by simp [h2]⟩)
  · exact .inl (by simp [h1])

set_option maxHeartbeats 4000000 in
set_option maxRecDepth 100000 in
theorem numbersWorth_walk (n : Int) (hn : (Lit.int .u16 n).wf = true) (w : World) (hN : NumIn w) :
    Calls Tryd.prog 6 #[.int .u16 n] w fun e w' => e = .returned (.bool true) ∧ Below w.heap.size w w' := by
  obtain ⟨n0, n1⟩ := bounds_u16 hn
  obtain ⟨m, rfl⟩ : ∃ m : Nat, n = m := ⟨n.toNat, by omega⟩
  have HN := Lib.hid hN
  clear hN hn
  have hk : (m : Int) % 3999 + 1 = ((m % 3999 + 1 : Nat) : Int) := by omega
  obtain ⟨k, hkd⟩ : ∃ k, k = m % 3999 + 1 := ⟨_, rfl⟩
  have k1 : 1 ≤ k := by omega
  have k2 : k ≤ 3999 := by omega
  rw [← hkd] at hk
  have HK := Lib.hid hk
  clear hk hkd
  go_enter Tryd.func6, Tryd.ntmps6
  go_wp2_with fail
  rw [HK.out]
  refine (roman_good k k1 k2 _ HN.out.1).mono ?_
  rintro e w1 ⟨rfl, b1⟩
  have hrl := Rm.roman_len k k1 k2
  have hrs := bld_size (Rm.roman k)
  have hfine := Rm.fine_all k (by omega)
  obtain ⟨x, hx⟩ : ∃ x : ByteArray, x = ⟨(Rm.roman k).toArray⟩ := ⟨_, rfl⟩
  have hlx : lb x = Rm.roman k := by rw [hx, lb_toArray]
  rw [← hx] at hrs ⊢
  clear hx
  have hf : Rm.fine k = true := by rcases hfine with h | h <;> first | omega | exact h
  unfold Rm.fine at hf
  simp only [Bool.and_eq_true, decide_eq_true_eq] at hf
  obtain ⟨⟨hsum, hnf⟩, hall⟩ := hf
  rw [← hlx] at hsum hnf hall hrl hrs
  have HS := Lib.hid hsum
  have HF := Lib.hid hnf
  have HW := Lib.hid hall
  have HL := Lib.hid hrs
  obtain ⟨hr1, hr2⟩ := hrl
  clear hsum hnf hall hfine hlx hrs
  go_wp2_with fail
  go_loopw [6, 7] (fun t i wr => ∃ (j : Nat) (z : Int), j ≤ x.size ∧ i = .int .i64 j ∧ t = .int .i64 z ∧ z + Rm.total ((lb x).drop j) = k ∧ -1000 * (j : Int) ≤ z ∧ z ≤ 1000 * (j : Int) ∧ ∃ q, w1.drewN q = wr) (fun _ i _ => x.size - (intOf i).toNat)
  case atStart => exact ⟨0, 0, by omega, rfl, rfl, by simpa using HS.out, by omega, by omega, 0, rfl⟩
  case round =>
    obtain ⟨j, z, hj, rfl, rfl, hz, z1, z2, q, rfl⟩ := hrel
    have hsz : x.size ≤ 15 := by have := HL.out; omega
    have zl : -15000 ≤ z := by omega
    have zu : z ≤ 15000 := by omega
    have HZB : Hid (-1000 * (j : Int) ≤ z ∧ z ≤ 1000 * (j : Int)) := Lib.hid ⟨z1, z2⟩
    clear z1 z2
    by_cases hlt : j < x.size
    · have HZ := Lib.hid hz
      have hst := total_step (lb x) j (by rw [← Lib.size_eq]; exact hlt)
      rw [getDb x j hlt, show (lb x).length = x.size from (Lib.size_eq x).symm] at hst
      have hne : (Rm.worth x[j] == 0) = false := worth_ne HW.out j hlt
      obtain ⟨hb1, hb2⟩ := worth_bounds x[j]
      clear hz
      by_cases h1 : j + 1 < x.size
      · rw [getDb x (j + 1) h1] at hst
        obtain ⟨hc1, hc2⟩ := worth_bounds x[j + 1]
        have h1i : (j : Int) + 1 < x.size := by omega
        rcases hg : decide (Rm.worth x[j] < Rm.worth x[j + 1])
        · have HST : Hid (Rm.total ((lb x).drop j) = Rm.worth x[j] + Rm.total ((lb x).drop (j + 1))) := Lib.hid (by rw [hst, if_neg (fun h => (of_decide_eq_false hg) h.2)])
          clear hst
          by_cases h2 : j ≤ 2
          · have h2i : decide ((2 : Int) < (j : Int)) = false := by simp; omega
            go_wp2_with (go_at_call 18; refine (worth_any _ _).mono ?_; rintro e w' ⟨rfl, rfl⟩)
            go_quiet (fail)
            go_wp2_with fail
            go_roundw
            case rel => exact ⟨j + 1, _, by omega, by go_num, rfl, by have h5 := HZ.out; rw [HST.out] at h5; omega, by have h5 := HZB.out; omega, by have h5 := HZB.out; omega, _, rfl⟩
            case measure => simp [intOf]; omega
          · obtain ⟨i, rfl⟩ : ∃ i, j = i + 3 := ⟨j - 3, by omega⟩
            have hno := noFour_c HF.out i hlt
            have h2i : decide ((2 : Int) < (i : Int) + 3) = true := by simp; omega
            have q0 : (0 : Int) ≤ (i : Int) + 3 := by omega
            have q3 : (i : Int) + 3 < x.size := by omega
            have s1 : (0 : Int) ≤ (i : Int) + 2 := by omega
            have s2 : (0 : Int) ≤ (i : Int) + 1 := by omega
            have s3 : (0 : Int) ≤ (i : Int) := by omega
            have t1 : (i : Int) + 2 < x.size := by omega
            have t2 : (i : Int) + 1 < x.size := by omega
            have t3 : (i : Int) < x.size := by omega
            have g0 : ((i : Int) + 3).toNat = i + 3 := by omega
            have g1 : ((i : Int) + 2).toNat = i + 2 := by omega
            have g2 : ((i : Int) + 1).toNat = i + 1 := by omega
            have e1 : IntKind.i64.wrap ((i : Int) + 3 - 1) = (i : Int) + 2 := by rw [IntWalk.i64_in _ (by omega)]; omega
            have e2 : IntKind.i64.wrap ((i : Int) + 3 - 2) = (i : Int) + 1 := by rw [IntWalk.i64_in _ (by omega)]; omega
            have e3 : IntKind.i64.wrap ((i : Int) + 3 - 3) = (i : Int) := by rw [IntWalk.i64_in _ (by omega)]; omega
            rcases hno with v1 | ⟨v1, v2⟩ | ⟨v1, v2, v3⟩
            · go_wp2_with (go_at_call 18; refine (worth_any _ _).mono ?_; rintro e w' ⟨rfl, rfl⟩)
              go_quiet (fail)
              go_wp2_with fail
              go_roundw
              case rel => exact ⟨i + 3 + 1, _, by omega, by go_num, rfl, by clear e1 e2 e3; have h5 := HZ.out; rw [HST.out] at h5; omega, by clear e1 e2 e3; have h5 := HZB.out; omega, by clear e1 e2 e3; have h5 := HZB.out; omega, _, rfl⟩
              case measure => clear e1 e2 e3; simp [intOf]; omega
            · go_wp2_with (go_at_call 18; refine (worth_any _ _).mono ?_; rintro e w' ⟨rfl, rfl⟩)
              go_quiet (fail)
              go_wp2_with fail
              go_roundw
              case rel => exact ⟨i + 3 + 1, _, by omega, by go_num, rfl, by clear e1 e2 e3; have h5 := HZ.out; rw [HST.out] at h5; omega, by clear e1 e2 e3; have h5 := HZB.out; omega, by clear e1 e2 e3; have h5 := HZB.out; omega, _, rfl⟩
              case measure => clear e1 e2 e3; simp [intOf]; omega
            · go_wp2_with (go_at_call 18; refine (worth_any _ _).mono ?_; rintro e w' ⟨rfl, rfl⟩)
              go_quiet (fail)
              go_wp2_with fail
              go_roundw
              case rel => exact ⟨i + 3 + 1, _, by omega, by go_num, rfl, by clear e1 e2 e3; have h5 := HZ.out; rw [HST.out] at h5; omega, by clear e1 e2 e3; have h5 := HZB.out; omega, by clear e1 e2 e3; have h5 := HZB.out; omega, _, rfl⟩
              case measure => clear e1 e2 e3; simp [intOf]; omega
        · have HST : Hid (Rm.total ((lb x).drop j) = - Rm.worth x[j] + Rm.total ((lb x).drop (j + 1))) := Lib.hid (by rw [hst, if_pos ⟨h1, of_decide_eq_true hg⟩])
          clear hst
          by_cases h2 : j ≤ 2
          · have h2i : decide ((2 : Int) < (j : Int)) = false := by simp; omega
            go_wp2_with (go_at_call 18; refine (worth_any _ _).mono ?_; rintro e w' ⟨rfl, rfl⟩)
            go_quiet (fail)
            go_wp2_with fail
            go_roundw
            case rel => exact ⟨j + 1, _, by omega, by go_num, rfl, by have h5 := HZ.out; rw [HST.out] at h5; omega, by have h5 := HZB.out; omega, by have h5 := HZB.out; omega, _, rfl⟩
            case measure => simp [intOf]; omega
          · obtain ⟨i, rfl⟩ : ∃ i, j = i + 3 := ⟨j - 3, by omega⟩
            have hno := noFour_c HF.out i hlt
            have h2i : decide ((2 : Int) < (i : Int) + 3) = true := by simp; omega
            have q0 : (0 : Int) ≤ (i : Int) + 3 := by omega
            have q3 : (i : Int) + 3 < x.size := by omega
            have s1 : (0 : Int) ≤ (i : Int) + 2 := by omega
            have s2 : (0 : Int) ≤ (i : Int) + 1 := by omega
            have s3 : (0 : Int) ≤ (i : Int) := by omega
            have t1 : (i : Int) + 2 < x.size := by omega
            have t2 : (i : Int) + 1 < x.size := by omega
            have t3 : (i : Int) < x.size := by omega
            have g0 : ((i : Int) + 3).toNat = i + 3 := by omega
            have g1 : ((i : Int) + 2).toNat = i + 2 := by omega
            have g2 : ((i : Int) + 1).toNat = i + 1 := by omega
            have e1 : IntKind.i64.wrap ((i : Int) + 3 - 1) = (i : Int) + 2 := by rw [IntWalk.i64_in _ (by omega)]; omega
            have e2 : IntKind.i64.wrap ((i : Int) + 3 - 2) = (i : Int) + 1 := by rw [IntWalk.i64_in _ (by omega)]; omega
            have e3 : IntKind.i64.wrap ((i : Int) + 3 - 3) = (i : Int) := by rw [IntWalk.i64_in _ (by omega)]; omega
            rcases hno with v1 | ⟨v1, v2⟩ | ⟨v1, v2, v3⟩
            · go_wp2_with (go_at_call 18; refine (worth_any _ _).mono ?_; rintro e w' ⟨rfl, rfl⟩)
              go_quiet (fail)
              go_wp2_with fail
              go_roundw
              case rel => exact ⟨i + 3 + 1, _, by omega, by go_num, rfl, by clear e1 e2 e3; have h5 := HZ.out; rw [HST.out] at h5; omega, by clear e1 e2 e3; have h5 := HZB.out; omega, by clear e1 e2 e3; have h5 := HZB.out; omega, _, rfl⟩
              case measure => clear e1 e2 e3; simp [intOf]; omega
            · go_wp2_with (go_at_call 18; refine (worth_any _ _).mono ?_; rintro e w' ⟨rfl, rfl⟩)
              go_quiet (fail)
              go_wp2_with fail
              go_roundw
              case rel => exact ⟨i + 3 + 1, _, by omega, by go_num, rfl, by clear e1 e2 e3; have h5 := HZ.out; rw [HST.out] at h5; omega, by clear e1 e2 e3; have h5 := HZB.out; omega, by clear e1 e2 e3; have h5 := HZB.out; omega, _, rfl⟩
              case measure => clear e1 e2 e3; simp [intOf]; omega
            · go_wp2_with (go_at_call 18; refine (worth_any _ _).mono ?_; rintro e w' ⟨rfl, rfl⟩)
              go_quiet (fail)
              go_wp2_with fail
              go_roundw
              case rel => exact ⟨i + 3 + 1, _, by omega, by go_num, rfl, by clear e1 e2 e3; have h5 := HZ.out; rw [HST.out] at h5; omega, by clear e1 e2 e3; have h5 := HZB.out; omega, by clear e1 e2 e3; have h5 := HZB.out; omega, _, rfl⟩
              case measure => clear e1 e2 e3; simp [intOf]; omega
      · have HST : Hid (Rm.total ((lb x).drop j) = Rm.worth x[j] + Rm.total ((lb x).drop (j + 1))) := Lib.hid (by rw [hst, if_neg (fun h => h1 h.1)])
        have h1i : ¬ ((j : Int) + 1 < x.size) := by omega
        clear hst
        by_cases h2 : j ≤ 2
        · have h2i : decide ((2 : Int) < (j : Int)) = false := by simp; omega
          go_wp2_with (go_at_call 18; refine (worth_any _ _).mono ?_; rintro e w' ⟨rfl, rfl⟩)
          go_quiet (fail)
          go_wp2_with fail
          go_roundw
          case rel => exact ⟨j + 1, _, by omega, by go_num, rfl, by have h5 := HZ.out; rw [HST.out] at h5; omega, by have h5 := HZB.out; omega, by have h5 := HZB.out; omega, _, rfl⟩
          case measure => simp [intOf]; omega
        · obtain ⟨i, rfl⟩ : ∃ i, j = i + 3 := ⟨j - 3, by omega⟩
          have hno := noFour_c HF.out i hlt
          have h2i : decide ((2 : Int) < (i : Int) + 3) = true := by simp; omega
          have q0 : (0 : Int) ≤ (i : Int) + 3 := by omega
          have q3 : (i : Int) + 3 < x.size := by omega
          have s1 : (0 : Int) ≤ (i : Int) + 2 := by omega
          have s2 : (0 : Int) ≤ (i : Int) + 1 := by omega
          have s3 : (0 : Int) ≤ (i : Int) := by omega
          have t1 : (i : Int) + 2 < x.size := by omega
          have t2 : (i : Int) + 1 < x.size := by omega
          have t3 : (i : Int) < x.size := by omega
          have g0 : ((i : Int) + 3).toNat = i + 3 := by omega
          have g1 : ((i : Int) + 2).toNat = i + 2 := by omega
          have g2 : ((i : Int) + 1).toNat = i + 1 := by omega
          have e1 : IntKind.i64.wrap ((i : Int) + 3 - 1) = (i : Int) + 2 := by rw [IntWalk.i64_in _ (by omega)]; omega
          have e2 : IntKind.i64.wrap ((i : Int) + 3 - 2) = (i : Int) + 1 := by rw [IntWalk.i64_in _ (by omega)]; omega
          have e3 : IntKind.i64.wrap ((i : Int) + 3 - 3) = (i : Int) := by rw [IntWalk.i64_in _ (by omega)]; omega
          rcases hno with v1 | ⟨v1, v2⟩ | ⟨v1, v2, v3⟩
          · go_wp2_with (go_at_call 18; refine (worth_any _ _).mono ?_; rintro e w' ⟨rfl, rfl⟩)
            go_quiet (fail)
            go_wp2_with fail
            go_roundw
            case rel => exact ⟨i + 3 + 1, _, by omega, by go_num, rfl, by clear e1 e2 e3; have h5 := HZ.out; rw [HST.out] at h5; omega, by clear e1 e2 e3; have h5 := HZB.out; omega, by clear e1 e2 e3; have h5 := HZB.out; omega, _, rfl⟩
            case measure => clear e1 e2 e3; simp [intOf]; omega
          · go_wp2_with (go_at_call 18; refine (worth_any _ _).mono ?_; rintro e w' ⟨rfl, rfl⟩)
            go_quiet (fail)
            go_wp2_with fail
            go_roundw
            case rel => exact ⟨i + 3 + 1, _, by omega, by go_num, rfl, by clear e1 e2 e3; have h5 := HZ.out; rw [HST.out] at h5; omega, by clear e1 e2 e3; have h5 := HZB.out; omega, by clear e1 e2 e3; have h5 := HZB.out; omega, _, rfl⟩
            case measure => clear e1 e2 e3; simp [intOf]; omega
          · go_wp2_with (go_at_call 18; refine (worth_any _ _).mono ?_; rintro e w' ⟨rfl, rfl⟩)
            go_quiet (fail)
            go_wp2_with fail
            go_roundw
            case rel => exact ⟨i + 3 + 1, _, by omega, by go_num, rfl, by clear e1 e2 e3; have h5 := HZ.out; rw [HST.out] at h5; omega, by clear e1 e2 e3; have h5 := HZB.out; omega, by clear e1 e2 e3; have h5 := HZB.out; omega, _, rfl⟩
            case measure => clear e1 e2 e3; simp [intOf]; omega
    · obtain rfl : j = x.size := by omega
      rw [List.drop_of_length_le (by rw [Lib.size_eq]; exact Nat.le_refl _)] at hz
      obtain rfl : z = k := by simpa [Rm.total] using hz
      have c1 := below_drewN b1 q
      have H1 := Lib.hid (HN.out.below c1)
      clear hz
      go_wp2_with fail
      refine (alive_any _ H1.out).mono ?_
      rintro e w2 ⟨rfl, b2⟩
      go_wp2_with fail
      go_ret
      exact ⟨ret_bool (by simp), c1.trans (b2.mono c1.size)⟩
end Go.Proofs.YtcjhaeppplmmjaaDoor

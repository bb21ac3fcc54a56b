/-
  The reference's digits and Dotted, by contract.
-/
import Derived.Test.YtidccanfjcanoaaGreatDoorJoinW
import Derived.BigQuiet
namespace Go.Proofs.YtidccanfjcanoaaGreatDoor
open Go.RowKit
set_option linter.unusedVariables false

abbrev dg10 : ByteArray := ⟨#[48, 49, 50, 51, 52, 53, 54, 55, 56, 57]⟩
theorem dg_at (m : Nat) (h : m < 10) : lb (dg10.extract m (m + 1)) = [UInt8.ofNat (48 + m)] := by
  rcases (by omega : m = 0 ∨ m = 1 ∨ m = 2 ∨ m = 3 ∨ m = 4 ∨ m = 5 ∨ m = 6 ∨ m = 7 ∨ m = 8 ∨ m = 9) with rfl | rfl | rfl | rfl | rfl | rfl | rfl | rfl | rfl | rfl <;> decide +kernel
theorem dg_size (m : Nat) (h : m < 10) : (dg10.extract m (m + 1)).size = 1 := by
  have : (dg10.extract m (m + 1)).size = (lb (dg10.extract m (m + 1))).length := Lib.size_eq _
  rw [this, dg_at m h]; rfl
theorem decDigits_step (m : Nat) (h : ¬ m < 10) : Lib.decDigits m = Lib.decDigits (m / 10) ++ [UInt8.ofNat (48 + m % 10)] := by
  rw [Lib.decDigits, dif_neg h]
def dz (n : Int) : ByteArray := ⟨(Lib.itoa n).toArray⟩
theorem dz_lb (n : Int) : lb (dz n) = Lib.itoa n := by simp [dz, lb]
theorem dz_size (n : Int) (h : -9223372036854775808 ≤ n ∧ n ≤ 9223372036854775807) : (dz n).size ≤ 21 := by
  have h1 := Lib.itoa_length_le n h.1 h.2
  have h2 : (dz n).size = (lb (dz n)).length := Lib.size_eq _
  rw [dz_lb] at h2
  omega
theorem lb_appD (x y : ByteArray) : lb (x ++ y) = lb x ++ lb y := by simp [lb]
def DgP (n : Int) : Prop := ∀ (w : World), Calls Tryz.prog 82 #[.int .i64 n] w fun e w' => e = .returned (.string (dz n)) ∧ ∃ q', w' = w.drewN q'
theorem digits_q {n : Int} (ih : DgP n) {w : World} {k : Nat} : Calls Tryz.prog 82 #[.int .i64 n] (w.drewN k) fun e w'' => e = .returned (.string (dz n)) ∧ ∃ m, w'' = w.drewN m :=
  (ih _).mono fun _ _ ⟨he, m, hm⟩ => ⟨he, k + m, by rw [hm, World.drewN_drewN]⟩
theorem dz_of {n : Int} {x : ByteArray} (h : lb x = Lib.itoa n) : x = dz n := bytes_ext (h.trans (dz_lb n).symm)
set_option maxHeartbeats 2000000 in
set_option maxRecDepth 100000 in
theorem digits_small (m : Nat) (h : m < 10) : DgP (m : Int) := by
  intro w
  have ha := dg_at m h
  have HA := Lib.hid (dz_of (ha.trans ((Lib.itoa_nonneg m).trans (Lib.decDigits_one h)).symm))
  have hw : IntKind.i64.wrap ((m : Int) + 1) = (m : Int) + 1 := IntWalk.i64_in _ (by omega)
  have d1 : ¬ (m : Int) < 0 := by omega
  have d2 : (m : Int) < 10 := by omega
  have d3 : (-10 : Int) < (m : Int) := by omega
  clear ha
  go_enter Tryz.func82, Tryz.ntmps82
  go_wp2_with fail
  go_ret
  exact ⟨ret_str HA.out, by first | exact ⟨0, rfl⟩ | exact ⟨_, rfl⟩⟩
set_option maxHeartbeats 2000000 in
set_option maxRecDepth 100000 in
theorem digits_small_neg (m : Nat) (h0 : 0 < m) (h : m < 10) : DgP (-(m : Int)) := by
  intro w
  have ha := dg_at m h
  have HA : Hid ((⟨#[45]⟩ ++ dg10.extract m (m + 1) : ByteArray) = dz (-(m : Int))) := Lib.hid (dz_of (by
    rw [lb_appD, ha, Lib.itoa_neg m h0, Lib.decDigits_one h]; rfl))
  have hs := dg_size m h
  have hw : IntKind.i64.wrap (1 - -(m : Int)) = (m : Int) + 1 := by rw [show (1 : Int) - -(m : Int) = (m : Int) + 1 by omega]; exact IntWalk.i64_in _ (by omega)
  have hw2 : IntKind.i64.wrap (- -(m : Int)) = (m : Int) := by rw [show - -(m : Int) = (m : Int) by omega]; exact IntWalk.i64_in _ (by omega)
  obtain ⟨z, hz⟩ : ∃ z : Int, z = -(m : Int) := ⟨_, rfl⟩
  rw [← hz] at hw hw2 HA ⊢
  have d1 : z < 0 := by omega
  have d3 : (-10 : Int) < z := by omega
  clear ha hz
  go_enter Tryz.func82, Tryz.ntmps82
  go_wp2_with fail
  go_ret
  exact ⟨ret_str HA.out, by first | exact ⟨0, rfl⟩ | exact ⟨_, rfl⟩⟩
set_option maxHeartbeats 2000000 in
set_option maxRecDepth 100000 in
theorem digits_big (m : Nat) (h : ¬ m < 10) (hm : m ≤ 9223372036854775807) (ih : DgP ((m : Int) / 10)) : DgP (m : Int) := by
  intro w
  have hd : ((m : Int) / 10) = ((m / 10 : Nat) : Int) := by omega
  have ha := dg_at (m % 10) (by omega)
  have hs := dg_size (m % 10) (by omega)
  have hy := dz_size ((m : Int) / 10) (by omega)
  have HA : Hid ((dz ((m : Int) / 10) ++ dg10.extract (m % 10) (m % 10 + 1) : ByteArray) = dz (m : Int)) := Lib.hid (dz_of (by
    rw [lb_appD, ha, dz_lb, hd, Lib.itoa_nonneg, Lib.itoa_nonneg, decDigits_step m h]))
  have hw : IntKind.i64.wrap (((m % 10 : Nat) : Int) + 1) = ((m % 10 : Nat) : Int) + 1 := IntWalk.i64_in _ (by omega)
  have d1 : ¬ (m : Int) < 0 := by omega
  have d2 : ¬ (m : Int) < 10 := by omega
  have d3 : (-10 : Int) < (m : Int) := by omega
  have IH := Lib.hid ih
  clear ha ih hd
  go_enter Tryz.func82, Tryz.ntmps82
  go_wp2_with fail
  go_quiet ((go_at_call 82; exact digits_q IH.out))
  go_wp2_with fail
  go_ret
  exact ⟨ret_str HA.out, by first | exact ⟨0, rfl⟩ | exact ⟨_, rfl⟩⟩
set_option maxHeartbeats 2000000 in
set_option maxRecDepth 100000 in
theorem digits_big_neg (m : Nat) (h : ¬ m < 10) (hm : m ≤ 9223372036854775808) (ih : DgP (-((m : Int) / 10))) : DgP (-(m : Int)) := by
  intro w
  have hd : ((m : Int) / 10) = ((m / 10 : Nat) : Int) := by omega
  have ha := dg_at (m % 10) (by omega)
  have hs := dg_size (m % 10) (by omega)
  have hy := dz_size (-((m : Int) / 10)) (by omega)
  have HA : Hid ((dz (-((m : Int) / 10)) ++ dg10.extract (m % 10) (m % 10 + 1) : ByteArray) = dz (-(m : Int))) := Lib.hid (dz_of (by
    rw [lb_appD, ha, dz_lb, hd, Lib.itoa_neg _ (by omega), Lib.itoa_neg _ (by omega), decDigits_step m h]; rfl))
  have hw : IntKind.i64.wrap (((m % 10 : Nat) : Int) + 1) = ((m % 10 : Nat) : Int) + 1 := IntWalk.i64_in _ (by omega)
  have e1 : (-(m : Int)).tmod 10 = -((m % 10 : Nat) : Int) := by rw [Int.neg_tmod, Int.tmod_eq_emod_of_nonneg (by omega)] <;> omega
  have e2 : (-(m : Int)).tdiv 10 = -((m : Int) / 10) := by rw [Int.neg_tdiv, Int.tdiv_eq_ediv_of_nonneg (by omega)] <;> omega
  have e3 : IntKind.i64.wrap (- -((m % 10 : Nat) : Int)) = ((m % 10 : Nat) : Int) := by rw [show - -((m % 10 : Nat) : Int) = ((m % 10 : Nat) : Int) by omega]; exact IntWalk.i64_in _ (by omega)
  obtain ⟨z, hz⟩ : ∃ z : Int, z = -(m : Int) := ⟨_, rfl⟩
  rw [← hz] at HA e1 e2 ⊢
  have d1 : z < 0 := by omega
  have d3 : ¬ (-10 : Int) < z := by omega
  have IH := Lib.hid ih
  clear ha ih hz hd
  go_enter Tryz.func82, Tryz.ntmps82
  go_wp2_with fail
  go_quiet ((go_at_call 82; exact digits_q IH.out))
  go_wp2_with fail
  go_ret
  exact ⟨ret_str HA.out, by first | exact ⟨0, rfl⟩ | exact ⟨_, rfl⟩⟩
theorem digits_pos : ∀ (m : Nat), m ≤ 9223372036854775807 → DgP (m : Int) := fun m => by
  induction m using Nat.strongRecOn with
  | ind m ih =>
    intro hm
    by_cases h : m < 10
    · exact digits_small m h
    · refine digits_big m h hm ?_
      have := ih (m / 10) (by omega) (by omega)
      rwa [show ((m / 10 : Nat) : Int) = (m : Int) / 10 by omega] at this
theorem digits_neg : ∀ (m : Nat), 0 < m → m ≤ 9223372036854775808 → DgP (-(m : Int)) := fun m => by
  induction m using Nat.strongRecOn with
  | ind m ih =>
    intro h0 hm
    by_cases h : m < 10
    · exact digits_small_neg m h0 h
    · refine digits_big_neg m h hm ?_
      have := ih (m / 10) (by omega) (by omega) (by omega)
      rwa [show ((m / 10 : Nat) : Int) = (m : Int) / 10 by omega] at this
theorem digits_all (n : Int) (h : -9223372036854775808 ≤ n ∧ n ≤ 9223372036854775807) : DgP n := by
  by_cases h0 : 0 ≤ n
  · have := digits_pos n.toNat (by omega)
    rwa [show ((n.toNat : Nat) : Int) = n by omega] at this
  · have := digits_neg n.natAbs (by omega) (by omega)
    rwa [show -((n.natAbs : Nat) : Int) = n by omega] at this

set_option maxHeartbeats 4000000 in
set_option maxRecDepth 100000 in
theorem refDotted_any (A : Option Addr) (n c : Nat) (l : List Int) (hl : l.length = n) (hn : n ≤ 1000000) (hi : Rm.inI l) (w : World) (hA : IR w A l) :
    Calls Tryz.prog 17 #[.slice A n c] w fun e w' => (∃ x, e = .returned (.string x) ∧ lb x = Rm.jn [46] l n) ∧ ∃ q, w' = w.drewN q := by
  have HA := Lib.hid hA
  have HL := Lib.hid hl
  have HI := Lib.hid hi
  clear hA hl hi
  go_enter Tryz.func17, Tryz.ntmps17
  go_wp2_with fail
  go_loopw [3, 4] (fun s i wr => ∃ (k : Nat) (x : ByteArray), k ≤ n ∧ i = .int .i64 k ∧ s = .string x ∧ lb x = Rm.jn [46] l k ∧ ∃ q, wr = w.drewN q) (fun _ i _ => n - (intOf i).toNat)
  case atStart => exact ⟨0, ⟨#[]⟩, Nat.zero_le _, rfl, rfl, rfl, 0, rfl⟩
  case round =>
    obtain ⟨k, x, hk, rfl, rfl, hx, q, rfl⟩ := hrel
    have hjl := Rm.jn_length [46] l HI.out k
    have hxs : x.size ≤ k * 22 := by
      have h2 : x.size = (lb x).length := Lib.size_eq _
      rw [h2, hx]
      simpa using hjl
    have HX := Lib.hid hx
    clear hx hjl
    by_cases hlt : k < n
    · obtain ⟨b, o, rfl, hbl, hc⟩ := HA.out (by intro h0; have := HL.out; rw [h0] at this; simp at this; omega)
      have c1 := hc k (by rw [HL.out]; exact hlt)
      have hr := Rm.inI_getD HI.out k
      have HJ : Hid (Rm.jn [46] l (k + 1) = Rm.jn [46] l k ++ (if k = 0 then [] else [46]) ++ Lib.itoa (l.getD k 0)) := Lib.hid rfl
      have hki : (k : Int) < (n : Int) := by omega
      clear hc
      generalize l.getD k 0 = z at *
      have HD := Lib.hid (digits_all z hr)
      have hzs := dz_size z hr
      obtain ⟨hr1, hr2⟩ := hr
      rcases Nat.eq_zero_or_pos k with hk0 | hk0
      · have g1 : ¬ (0 : Int) < (k : Int) := by omega
        have s1 : ¬ 9223372036854775807 < x.size + (dz z).size := by omega
        have HE : Hid (lb (x ++ dz z) = Rm.jn [46] l (k + 1)) := Lib.hid (by rw [lb_appD, dz_lb, HX.out, HJ.out, if_pos hk0, List.append_nil])
        clear hk0
        go_wp2_with fail
        refine (HD.out _).mono ?_
        rintro e w2 ⟨rfl, q2, rfl⟩
        go_wp2_with fail
        go_roundw
        case rel => exact ⟨k + 1, _, by omega, by go_num, rfl, HE.out, _, rfl⟩
        case measure => simp [intOf]; omega
      · have g1 : (0 : Int) < (k : Int) := by omega
        have s0 : ¬ 9223372036854775807 < x.size + 1 := by omega
        have s1 : ¬ 9223372036854775807 < x.size + 1 + (dz z).size := by omega
        have HE : Hid (lb (x ++ ⟨#[46]⟩ ++ dz z) = Rm.jn [46] l (k + 1)) := Lib.hid (by rw [lb_appD, lb_appD, dz_lb, HX.out, HJ.out, if_neg (by omega)] <;> rfl)
        go_wp2_with fail
        refine (HD.out _).mono ?_
        rintro e w2 ⟨rfl, q2, rfl⟩
        go_wp2_with fail
        go_roundw
        case rel => exact ⟨k + 1, _, by omega, by go_num, rfl, HE.out, _, rfl⟩
        case measure => simp [intOf]; omega
    · obtain rfl : k = n := by omega
      go_wp2_with fail
      go_ret
      exact ⟨⟨_, rfl, HX.out⟩, _, rfl⟩
end Go.Proofs.YtidccanfjcanoaaGreatDoor

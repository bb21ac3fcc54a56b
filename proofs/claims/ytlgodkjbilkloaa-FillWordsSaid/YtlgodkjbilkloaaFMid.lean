/-
  FillMiddle: the walk.
-/
import Derived.Test.YtlgodkjbilkloaaFAgain
import Derived.Test.YtlgodkjbilkloaaSigL
namespace Go.Proofs.Ytlgodkjbilkloaa
open Go.RowKit
set_option linter.unusedVariables false

theorem u8_byte {c : Int} (h : (Lit.int .u8 c).wf = true) : ∃ b : UInt8, c = (b.toNat : Int) := by
  have h2 := bounds_u8 h
  refine ⟨UInt8.ofNat c.toNat, ?_⟩
  rw [UInt8.toNat_ofNat']
  omega
theorem tail_is {y s : ByteArray} {k : Nat} (h : lb y = spcs k ++ lb s) : y.extract k y.size = s := by
  apply bytes_ext
  show lb _ = lb s
  have : lb (y.extract k y.size) = ((lb y).drop k).take (y.size - k) := Lib.extract_data y k y.size
  rw [this, h]
  have hs : y.size = k + s.size := by rw [← sg_len y, h, List.length_append, sg_len]; simp [spcs]
  have hd : (spcs k ++ lb s).drop k = lb s := by
    rw [List.drop_append_of_le_length (by simp [spcs])]
    simp [spcs]
  rw [hd, List.take_of_length_le (by rw [sg_len]; omega)]

set_option maxHeartbeats 8000000 in
set_option maxRecDepth 100000 in
theorem fillMiddle_walk (s : ByteArray) (a b : Int) (hs : s.size ≤ 140737488351232) (ha : (Lit.int .u8 a).wf = true) (hb : (Lit.int .u8 b).wf = true) (w : World) :
    Calls Try.prog 7 #[.string s, .int .u8 a, .int .u8 b] w fun e w' => e = .returned (.bool true) ∧ Below w.heap.size w w' := by
  obtain ⟨m, rfl, hm⟩ := u8_nat ha
  obtain ⟨c, rfl⟩ := u8_byte hb
  clear ha hb
  obtain ⟨wd, hwd, hw2⟩ : ∃ wd : Nat, (m : Int) % 201 = (wd : Int) ∧ wd ≤ 200 := ⟨m % 201, by omega, by omega⟩
  have HWd := Lib.hid hwd
  clear hwd
  by_cases hz : s.size ≤ 3000
  · have hzi : decide ((3000 : Int) < (s.size : Int)) = false := by simp; omega
    have hle := Fi.sigs_le (lb s)
    rw [sg_len] at hle
    go_enter Try.func7, Try.ntmps7
    go_wp2_with fail
    refine (alive_any w).mono ?_
    rintro e w1 ⟨rfl, b1⟩
    have B1 := Lib.hid b1
    clear b1
    go_wp2_with fail
    rw [HWd.out]
    refine (center_any s (by omega) wd hw2 w1).mono ?_
    rintro e w2 ⟨⟨y, rfl, hy⟩, b2⟩
    have B2 := Lib.hid (B1.out.trans (b2.mono B1.out.size))
    have HY := Lib.hid hy
    clear hy b2
    go_wp2_with fail
    refine (under_any s (by omega) c w2).mono ?_
    rintro e w3 ⟨g, z, rfl, own3, hz3, b3⟩
    have B3 := Lib.hid (B2.out.trans (b3.mono B2.out.size))
    have O3 := Lib.hid own3
    have HZ := Lib.hid hz3
    clear hz3 b3 own3
    go_wp2_with fail
    refine (signsL_any s (by omega) w3).mono ?_
    rintro e w4 ⟨rfl, b4⟩
    have B4 := Lib.hid (B3.out.trans (b4.mono B3.out.size))
    have own4 := own_below O3.out b4
    obtain ⟨g0, e0, c0⟩ := own_at own4 0 (by decide)
    obtain ⟨g1, e1, c1⟩ := own_at own4 1 (by decide)
    obtain rfl : g = g0 := by injection e0 with e0; injection e0
    obtain rfl : g = g1 := by injection e1 with e1; injection e1
    have d0 : w4.cell? ⟨g, 0, none⟩ = some (.string s) := c0
    have d1 : w4.cell? ⟨g, 1, none⟩ = some (.string z) := c1
    clear e0 e1 c0 c1 own4 b4
    obtain ⟨n, hn⟩ : ∃ n, Fi.sigs (lb s) = n := ⟨_, rfl⟩
    have hzs : z.size = n := by rw [← sg_len, HZ.out, List.length_replicate, hn]
    rw [hn] at hle ⊢
    have hyl : y.size = (wd - n) / 2 + s.size := by rw [← sg_len y, HY.out, List.length_append, sg_len, hn]; simp [spcs]
    have htl := tail_is HY.out
    rw [hn] at htl
    obtain ⟨k, hk⟩ : ∃ k, (wd - n) / 2 = k := ⟨_, rfl⟩
    rw [hk] at hyl htl
    have hki : (y.size : Int) - (s.size : Int) = (k : Int) := by omega
    have hky : k ≤ y.size := by omega
    have hkn : decide ((k : Int) < 0) = false := by simp
    have t1 : ((y.extract k y.size).toList == s.toList) = true := by rw [htl]; simp
    have t2 : (s.toList != s.toList) = false := by simp
    have t3 : ((z.size : Int) != (n : Int)) = false := by rw [hzs]; simp
    by_cases hnw : n < wd
    · have i1 : decide ((wd : Int) ≤ (n : Int)) = false := by simp; omega
      have i2 : (n : Int) < (wd : Int) := by omega
      rcases (by omega : wd - n - k = k ∨ wd - n - k = k + 1) with hb2 | hb2
      · have i3 : ((wd : Int) - (n : Int) - (k : Int)) = (k : Int) := by omega
        have i4 : ((wd : Int) - (n : Int) - (k : Int) == (k : Int)) = true := by simp; omega
        have hyb : y.size ≤ 1000000 := by omega
        clear hyl htl hzs hk hb2 hn
        go_wp2_with fail
        go_ret
        exact ⟨ret_bool (by simp), B4.out⟩
      · have i3 : ((wd : Int) - (n : Int) - (k : Int)) = (k : Int) + 1 := by omega
        have i4 : ((wd : Int) - (n : Int) - (k : Int) == (k : Int)) = false := by simp; omega
        have hyb : y.size ≤ 1000000 := by omega
        clear hyl htl hzs hk hb2 hn
        go_wp2_with fail
        go_ret
        exact ⟨ret_bool (by simp), B4.out⟩
    · have i1 : (wd : Int) ≤ (n : Int) := by omega
      have hk0 : k = 0 := by omega
      have hyb : y.size ≤ 1000000 := by omega
      have hys : y = s := by
        apply bytes_ext
        have h9 := HY.out
        rw [hn, hk, hk0] at h9
        exact h9
      have t4 : (y.toList == s.toList) = true := by rw [hys]; simp
      subst hk0
      clear t1 hys hyl htl hzs hk hn
      go_wp2_with fail
      go_ret
      exact ⟨ret_bool (by simp), B4.out⟩
  · have hzi : (3000 : Int) < (s.size : Int) := by omega
    go_enter Try.func7, Try.ntmps7
    go_wp2_with fail
    refine (alive_any w).mono ?_
    rintro e w1 ⟨rfl, b1⟩
    have B1 := Lib.hid b1
    clear b1
    go_wp2_with fail
    refine (alive_any w1).mono ?_
    rintro e w2 ⟨rfl, b2⟩
    have B2 := Lib.hid (B1.out.trans (b2.mono B1.out.size))
    clear b2
    go_wp2_with fail
    go_ret
    exact ⟨rfl, B2.out⟩
end Go.Proofs.Ytlgodkjbilkloaa

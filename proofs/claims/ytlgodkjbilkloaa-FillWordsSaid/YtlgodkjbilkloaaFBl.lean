/-
  FillBlanks: the walk.
-/
import Derived.Test.YtlgodkjbilkloaaFMid
namespace Go.Proofs.Ytlgodkjbilkloaa
open Go.RowKit
set_option linter.unusedVariables false

/-! ### plain -/
theorem indB_zero (u : ByteArray) : indB 0 u = u := by
  unfold indB
  split
  · rfl
  · apply bytes_ext
    simp [spcs]
theorem indB_all (xs : List ByteArray) : xs.map (indB 0) = xs := by
  conv => rhs; rw [← List.map_id xs]
  exact List.map_congr_left (fun u _ => indB_zero u)
theorem clN_neg (n : Nat) : clN (-(n : Int)) = 0 := by unfold clN; omega
theorem clN_more (n : Nat) : clN (201 + (n : Int)) = 200 := by unfold clN; omega
theorem clN_200 : clN 200 = 200 := by unfold clN; omega
theorem clN_in (k : Nat) (h : k ≤ 200) : clN (k : Int) = k := by unfold clN; omega
theorem getD_map (k : Nat) (xs : List ByteArray) (i : Nat) (h : i < xs.length) : (xs.map (indB k)).getD i ByteArray.empty = indB k (xs.getD i ByteArray.empty) := by
  rw [getD_lt _ i (by rw [List.length_map]; exact h), getD_lt xs i h, List.getElem_map]
theorem ind_lb (k : Nat) (u : ByteArray) (h : u.size ≠ 0) : lb (indB k u) = spcs k ++ lb u := by
  unfold indB; rw [if_neg h, lb_app]
theorem ind_size (k : Nat) (u : ByteArray) (h : u.size ≠ 0) : (indB k u).size = k + u.size := by
  rw [← sg_len (indB k u), ind_lb k u h, List.length_append, sg_len]; simp [spcs]
theorem ind_at (k : Nat) (u y : ByteArray) (h : u.size ≠ 0) (hy : indB k u = y) (j : Nat) (hj : j < k) (hjy : j < y.size) : (y[j].toNat : Int) = 32 := by
  have h1 : (lb y)[j]? = some 32 := by
    rw [← hy, ind_lb k u h, List.getElem?_append_left (by simp [spcs]; exact hj)]
    simp [spcs, hj]
  have h2 : (lb y)[j]? = some y[j] := List.getElem?_eq_getElem (by rw [sg_len]; exact hjy)
  rw [h1] at h2
  have h3 := Option.some.inj h2
  rw [← h3]; rfl

theorem own_eq {w : World} {B e n m : Nat} {v : Value} {xs : List Value} (h : w.ownsRow B e 1 v n xs) (hm : n = m) : w.ownsRow B e 1 v m xs := by subst hm; exact h

set_option maxHeartbeats 16000000 in
set_option maxRecDepth 100000 in
theorem fillBlanks_walk (w : World) (A : Option Addr) (n c : Nat) (xs : List ByteArray) (b : Int) (hl : xs.length = n) (hA : TR w A xs) (hn : n ≤ 8796093022208) (hs : ∀ i, (xs.getD i ByteArray.empty).size ≤ 140737488351232) (hb : (Lit.int .u8 b).wf = true) :
    Calls Try.prog 6 #[.slice A n c, .int .u8 b] w fun e w' => e = .returned (.bool true) ∧ Below w.heap.size w w' := by
  obtain ⟨m, rfl, hm⟩ := u8_nat hb
  clear hb
  obtain ⟨k, hk, hk2⟩ : ∃ k : Nat, (m : Int) % 201 = (k : Int) ∧ k ≤ 200 := ⟨m % 201, by omega, by omega⟩
  have HK := Lib.hid hk
  have HA := Lib.hid hA
  have HS := Lib.hid hs
  clear hk hA hs
  by_cases hz : n ≤ 300
  · have hzi : decide ((300 : Int) < (n : Int)) = false := by simp; omega
    go_enter Try.func6, Try.ntmps6
    go_wp2_with fail
    refine (alive_any w).mono ?_
    rintro e w1 ⟨rfl, b1⟩
    have B1 := Lib.hid b1
    have T1 := Lib.hid (HA.out.below b1)
    clear b1
    go_wp2_with fail
    refine (textsSize_any A n c xs w1 hl (by omega) T1.out HS.out).mono ?_
    rintro e w' ⟨r, rfl, HR, rfl⟩
    by_cases hr : r ≤ 50000
    · have hri : decide ((50000 : Int) < r) = false := by simp; omega
      have hsz : ∀ i, (xs.getD i ByteArray.empty).size ≤ 50000 := fun i => by
        by_cases hi : i < xs.length
        · have h1 := tsz_elem n xs i hi
          have h2 := HR.out (by omega) xs.length (Nat.le_refl _)
          omega
        · rw [List.getD_eq_getElem?_getD, List.getElem?_eq_none (by omega)]; simp
      have HZ := Lib.hid hsz
      clear hsz HR
      go_wp2_with fail
      rw [HK.out]
      refine (indent_any A n c xs (k : Int) w1 hl (by omega) T1.out (fun i => by have := HZ.out i; omega)).mono ?_
      rintro e w2 ⟨v2, rfl, own2, b2⟩
      obtain ⟨a2, c2, hv2⟩ := lenOf own2
      subst hv2
      have B2 := Lib.hid (B1.out.trans (b2.mono B1.out.size))
      have T2 := Lib.hid (T1.out.below b2)
      have O2 := Lib.hid own2
      have hnn : ((n : Int) != (n : Int)) = false := by simp
      clear own2 b2
      go_wp2_with fail
      refine (indent_any A n c xs (-(m : Int)) w2 hl (by omega) T2.out (fun i => by have := HZ.out i; omega)).mono ?_
      rintro e w3 ⟨v3, rfl, own3, b3⟩
      obtain ⟨a3, c3, hv3⟩ := lenOf own3
      subst hv3
      have O2' := Lib.hid (own_below O2.out b3)
      have T3 := Lib.hid (T2.out.below b3)
      have B3 := Lib.hid (B2.out.trans (b3.mono B2.out.size))
      have O3 := Lib.hid own3
      clear own3 b3 O2
      go_wp2_with fail
      refine (sameTexts_any a3 A n n c3 c (xs.map (indB (clN (-(m : Int))))) xs w3 (by rw [List.length_map, hl]) hl (by omega) (by omega) (TR.of_own O3.out).2 T3.out).mono ?_
      rintro e w4 ⟨rfl, q4, hq4⟩
      have e4 : decide (xs.map (indB (clN (-(m : Int)))) = xs) = true := decide_eq_true (by rw [clN_neg, indB_all])
      have b4 : Below w3.heap.size w3 w4 := by rw [← hq4]; exact below_drewN (Below.refl _ _) q4
      have O2 := Lib.hid (own_below O2'.out b4)
      have T4 := Lib.hid (T3.out.below b4)
      have B4 := Lib.hid (B3.out.trans (b4.mono B3.out.size))
      clear hq4 b4 O2' O3
      rw [e4]
      clear e4
      go_wp2_with fail
      refine (indent_any A n c xs (201 + (m : Int)) w4 hl (by omega) T4.out (fun i => by have := HZ.out i; omega)).mono ?_
      rintro e w5 ⟨v5, rfl, own5, b5⟩
      obtain ⟨a5, c5, hv5⟩ := lenOf own5
      subst hv5
      have O2' := Lib.hid (own_below O2.out b5)
      have T5 := Lib.hid (T4.out.below b5)
      have B5 := Lib.hid (B4.out.trans (b5.mono B4.out.size))
      have O5 := Lib.hid own5
      clear own5 b5 O2
      go_wp2_with fail
      refine (indent_any A n c xs 200 w5 hl (by omega) T5.out (fun i => by have := HZ.out i; omega)).mono ?_
      rintro e w6 ⟨v6, rfl, own6, b6⟩
      obtain ⟨a6, c6, hv6⟩ := lenOf own6
      subst hv6
      have O2 := Lib.hid (own_below O2'.out b6)
      have O5' := Lib.hid (own_below O5.out b6)
      have T6 := Lib.hid (T5.out.below b6)
      have B6 := Lib.hid (B5.out.trans (b6.mono B5.out.size))
      have O6 := Lib.hid own6
      clear own6 b6 O2' O5
      go_wp2_with fail
      refine (sameTexts_any a5 a6 n n c5 c6 (xs.map (indB (clN (201 + (m : Int))))) (xs.map (indB (clN 200))) w6 (by rw [List.length_map, hl]) (by rw [List.length_map, hl]) (by omega) (by omega) (TR.of_own O5'.out).2 (TR.of_own O6.out).2).mono ?_
      rintro e w7 ⟨rfl, q7, hq7⟩
      have e7 : decide (xs.map (indB (clN (201 + (m : Int)))) = xs.map (indB (clN 200))) = true := decide_eq_true (by rw [clN_more, clN_200])
      have b7 : Below w6.heap.size w6 w7 := by rw [← hq7]; exact below_drewN (Below.refl _ _) q7
      have O7 := Lib.hid (own_below O2.out b7)
      have T7 := Lib.hid (T6.out.below b7)
      have B7 := Lib.hid (B6.out.trans (b7.mono B6.out.size))
      clear hq7 b7 O2 O5' O6
      rw [e7]
      clear e7
      go_wp2_with fail
      go_loopw [7] (fun i wr => ∃ i' : Nat, i' ≤ n ∧ i = .int .i64 i' ∧ wr.ownsRow w1.heap.size 9 1 (.slice a2 n c2) n ((xs.map (indB (clN (k : Int)))).map Value.string) ∧ TR wr A xs ∧ Below w.heap.size w wr) (fun i _ => n - (intOf i).toNat)
      case atStart => exact ⟨0, Nat.zero_le _, rfl, O7.out, T7.out, B7.out⟩
      case round =>
        obtain ⟨wo, rfl⟩ : ∃ wo, wo = wr := ⟨wr, rfl⟩
        obtain ⟨i, hi, rfl, hown, htr, hbel⟩ := hrel
        have HO := Lib.hid hown
        have HT := Lib.hid htr
        have HB := Lib.hid hbel
        clear hown htr hbel
        by_cases hlt : i < n
        · obtain ⟨bb, off, rfl, hbl, hcs⟩ := HT.out (by intro e; rw [e] at hl; simp at hl; omega)
          have hc := hcs i (by omega)
          obtain ⟨g, rfl, hd0⟩ := own_at HO.out i hlt
          rw [getD_map _ _ _ (by omega), clN_in k hk2] at hd0
          have hus := HZ.out i
          have hii : (i : Int) < (n : Int) := by omega
          clear hcs
          generalize xs.getD i ByteArray.empty = u at *
          by_cases hu : u.size = 0
          · have hne : u.toList.isEmpty = true := by
              rw [Lib.toList_data, List.isEmpty_iff]
              exact List.eq_nil_of_length_eq_zero (by rw [← Lib.size_eq]; exact hu)
            have hy : indB k u = u := by unfold indB; rw [if_pos hu]
            rw [hy] at hd0
            clear hy
            go_wp2_with fail
            go_roundw
            case rel => exact ⟨i + 1, by omega, by go_num, HO.out, HT.out, HB.out⟩
            case measure => simp [intOf]; omega
          · have hne : u.toList.isEmpty = false := by
              rw [Lib.toList_data, Bool.eq_false_iff]
              intro h
              rw [List.isEmpty_iff] at h
              exact hu (by rw [Lib.size_eq, h]; rfl)
            have hys := ind_size k u hu
            have htl := tail_is (ind_lb k u hu)
            obtain ⟨y, hy⟩ : ∃ y, indB k u = y := ⟨_, rfl⟩
            have HAt := Lib.hid (ind_at k u y hu hy)
            rw [hy] at hd0 hys htl
            have t1 : ((y.extract k y.size).toList == u.toList) = true := by rw [htl]; simp
            have t2 : ((y.size : Int) != (k : Int) + (u.size : Int)) = false := by rw [hys]; simp
            have t2' : ((y.size : Int) == (k : Int) + (u.size : Int)) = true := by rw [hys]; simp
            have hky : k ≤ y.size := by omega
            have hy2 : y.size ≤ 50200 := by omega
            clear htl hys hy
            go_wp2_with fail
            go_quiet (fail)
            go_wp2_with fail
            obtain ⟨wq, hwq⟩ : ∃ x, x = wo.drewN nq := ⟨_, rfl⟩
            rw [← hwq]
            have hbq : Below wo.heap.size wo wq := by rw [hwq]; exact below_drewN (Below.refl _ _) nq
            have hdq : wq.cell? ⟨g, i, none⟩ = some (.string y) := (hbq.cell (p := ⟨g, i, none⟩) (HO.out.lt g rfl).2).trans hd0
            have HO2 := Lib.hid (own_below HO.out hbq)
            have HT2 := Lib.hid (HT.out.below hbq)
            have HB2 := Lib.hid (HB.out.trans (hbq.mono HB.out.size))
            clear hbq hwq hd0 hc t1 t2 t2'
            go_loop [8] (fun j => ∃ t : Nat, t ≤ k ∧ j = .int .i64 t) (fun j => k - (intOf j).toNat)
            case atStart => exact ⟨0, Nat.zero_le _, rfl⟩
            case round =>
              obtain ⟨t, ht, rfl⟩ := hrel
              by_cases htk : t < k
              · have hty : t < y.size := by omega
                have h32 := HAt.out t htk hty
                have t3 : ((y[t].toNat : Int) == 32) = true := by rw [h32]; rfl
                have t4 : ((y[t].toNat : Int) != 32) = false := by rw [h32]; rfl
                have hti : (t : Int) < (k : Int) := by omega
                clear h32
                go_wp2_with fail
                go_round
                case rel => exact ⟨t + 1, by omega, by go_num⟩
                case measure => simp [intOf]; omega
              · have hti : decide ((t : Int) < (k : Int)) = false := by simp; omega
                go_wp2_with fail
                go_roundw
                case rel => exact ⟨i + 1, by omega, by go_num, HO2.out, HT2.out, HB2.out⟩
                case measure => simp [intOf]; omega
        · obtain rfl : i = n := by omega
          go_wp2_with fail
          go_ret
          exact ⟨rfl, HB.out⟩
    · have hri : (50000 : Int) < r := by omega
      clear HR
      go_wp2_with fail
      refine (alive_any w1).mono ?_
      rintro e w2 ⟨rfl, b2⟩
      have B2 := Lib.hid (B1.out.trans (b2.mono B1.out.size))
      clear b2
      go_wp2_with fail
      go_ret
      exact ⟨rfl, B2.out⟩
  · have hzi : (300 : Int) < (n : Int) := by omega
    go_enter Try.func6, Try.ntmps6
    go_wp2_with fail
    refine (alive_any w).mono ?_
    rintro e w1 ⟨rfl, b1⟩
    have B1 := Lib.hid b1
    clear b1
    go_wp2_with fail
    refine (alive_any w1).mono ?_
    rintro e w2 ⟨rfl, b2⟩
    have B2 := Lib.hid (B1.out.trans (b2.mono B1.out.size))
    clear b2
    go_wp2_with fail
    go_ret
    exact ⟨rfl, B2.out⟩
end Go.Proofs.Ytlgodkjbilkloaa

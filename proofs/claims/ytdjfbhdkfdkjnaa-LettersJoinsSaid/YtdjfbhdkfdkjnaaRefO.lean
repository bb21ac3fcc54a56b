/-
  LETTERS: the reference's key and Order, by contract.
-/
import Derived.Test.YtdjfbhdkfdkjnaaOrdW
namespace Go.Proofs.Ytdjfbhdkfdkjnaa
open Go.RowKit

set_option maxHeartbeats 2000000 in
theorem refKey_any (s : ByteArray) (hs : s.size ≤ 1099511627776) (w : World) :
    Calls Try.prog 36 #[.string s] w fun e w' => e = .returned (.string ⟨(Pl.key s.data.toList).toArray⟩) ∧ Below w.heap.size w w' := by
  obtain ⟨i0, hi, hz0, hz1, hz2⟩ := info_parts Try.info5
  go_enter Try.func36, Try.ntmps36
  go_wp2_with fail
  refine (refLower_any s (by omega) _).mono ?_
  rintro e w1 ⟨rfl, hb1⟩
  have HSz := Lib.hid (lower_size s)
  have HKey := Lib.hid (key_of s.data.toList)
  have hlo : (⟨(Pl.lower s.data.toList).toArray⟩ : ByteArray).data.toList = Pl.lower s.data.toList := rfl
  have HLo := Lib.hid hlo
  clear hlo
  have hls : (⟨(Pl.lower s.data.toList).toArray⟩ : ByteArray).size ≤ 1099511627776 := by rw [HSz.out]; exact hs
  generalize (⟨(Pl.lower s.data.toList).toArray⟩ : ByteArray) = lo at *
  go_wp2_with fail
  go_loopw [3, 4] (fun v i wr => ∃ k : Nat, k ≤ lo.size ∧ i = .int .i64 k ∧ wr.ownsRow w.heap.size 5 1 v (kept lo k).length ((kept lo k).map bv) ∧ Below w.heap.size w wr) (fun _ i _ => lo.size - (intOf i).toNat)
  case atStart => exact ⟨0, Nat.zero_le _, rfl, World.ownsRow_nil _ _ _ _, hb1⟩
  case round =>
    obtain ⟨k, hk, rfl, hown, hbel⟩ := hrel
    by_cases hlt : k < lo.size
    · have hkl : (kept lo k).length ≤ k := by unfold kept; exact Nat.le_trans (filter_le _) (List.length_take_le _ _)
      rcases hld : Pl.isLD (lo[k].toNat : Int)
      · have HM := Lib.hid (kept_miss lo k hlt (by rw [ldB_of]; exact hld))
        go_wp2_with (go_at_call 31; refine (refLetter_any _ _).mono ?_; rintro e w' ⟨rfl, rfl⟩)
        go_roundw
        case rel => exact ⟨k + 1, by omega, by go_num, by rw [HM.out]; exact hown, hbel⟩
        case measure => simp [intOf]; omega
      · have HH := Lib.hid (kept_hit lo k hlt (by rw [ldB_of]; exact hld))
        go_wp2_with (first
          | (go_at_call 31; refine (refLetter_any _ _).mono ?_; rintro e w' ⟨rfl, rfl⟩)
          | (at_builtin; refine wpList_append_own _ rfl _ _ 32 rfl w.heap.size 5 i0 (.int .u8 0) 1 1 Try.underlying32 hi hz0 hz1 hz2 rfl (by decide) _ _ _ rfl (hown.alloc _) ⟨wr.heap.size, 0, none⟩ 1 1 [.int .u8 (lo[k].toNat : Int)] rfl rfl (cell_one_new _ _ _) (by simp [Value.oneCell']) (by unfold maxLen; omega) (by omega) (by have := hbel.size; simp; omega) ?_; intro v' w2 hown' hgrow _))
        go_roundw
        case rel =>
          refine ⟨k + 1, by omega, by go_num, ?_, (hbel.alloc hbel.size _).grown hgrow (by have := hbel.size; simp; omega) (fun j hj => ((hown.lt j hj).1))⟩
          rw [HH.out, map_bv_snoc, List.length_append]
          exact hown'
        case measure => simp [intOf]; omega
    · have : k = lo.size := by omega
      subst this
      have hconv := conv_own (P := Try.prog) Try.underlying32 Try.underlying5 Try.underlying9 wr w.heap.size _ _ _ hown
      have HC := Lib.hid (kept_all lo)
      clear hown
      go_wp2_with fail
      go_ret
      exact ⟨ret_str (by rw [HC.out, HLo.out, HKey.out]), hbel⟩

theorem refKey_some (s : ByteArray) (hs : s.size ≤ 1099511627776) (w : World) :
    Calls Try.prog 36 #[.string s] w fun e w' => ∃ x : ByteArray, e = .returned (.string x) ∧ x.data.toList = Pl.key s.data.toList ∧ Below w.heap.size w w' :=
  (refKey_any s hs w).mono fun _ _ h => ⟨_, h.1, rfl, h.2⟩

set_option maxHeartbeats 1000000 in
theorem refOrder_any (a b : ByteArray) (ha : a.size ≤ 1099511627776) (hb : b.size ≤ 1099511627776) (w : World) :
    Calls Try.prog 22 #[.string a, .string b] w fun e w' => e = .returned (.int .i64 (Pl.order a.data.toList b.data.toList)) ∧ Below w.heap.size w w' := by
  by_cases h : Lib.compareBytes (Pl.key a.data.toList) (Pl.key b.data.toList) = 0
  · have HT := Lib.hid (order_text h)
    have H := Lib.hid h
    clear h
    go_enter Try.func22, Try.ntmps22
    go_wp2_with fail
    refine (refKey_some a ha _).mono ?_
    rintro e w1 ⟨x, rfl, hx, hb1⟩
    have HX := Lib.hid hx
    clear hx
    go_wp2_with fail
    refine (refKey_some b hb _).mono ?_
    rintro e w2 ⟨y, rfl, hy, hb2⟩
    have HB : (Lib.compareBytes x.data.toList y.data.toList != 0) = false := by rw [HX.out, hy, H.out]; rfl
    clear hy
    go_wp2_with (go_at_call 35; refine (sign_any _ _ _).mono ?_; rintro e w' ⟨rfl, rfl⟩)
    go_ret
    exact ⟨ret_int (by rw [HT.out]), hb1.trans (hb2.mono hb1.size)⟩
  · have HT := Lib.hid (order_key h)
    have H := Lib.hid h
    clear h
    go_enter Try.func22, Try.ntmps22
    go_wp2_with fail
    refine (refKey_some a ha _).mono ?_
    rintro e w1 ⟨x, rfl, hx, hb1⟩
    have HX := Lib.hid hx
    clear hx
    go_wp2_with fail
    refine (refKey_some b hb _).mono ?_
    rintro e w2 ⟨y, rfl, hy, hb2⟩
    have HB : (Lib.compareBytes x.data.toList y.data.toList != 0) = true := by rw [HX.out, hy]; simpa using H.out
    have HY := Lib.hid hy
    clear hy
    go_wp2_with (go_at_call 35; refine (sign_any _ _ _).mono ?_; rintro e w' ⟨rfl, rfl⟩)
    go_ret
    exact ⟨ret_int (by rw [HT.out, HX.out, HY.out]), hb1.trans (hb2.mono hb1.size)⟩

end Go.Proofs.Ytdjfbhdkfdkjnaa

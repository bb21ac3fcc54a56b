/-
  LETTERS: Lower of the program and of the reference, by contract.
-/
import Derived.Test.YtcainpicbkncpaaDoorNameW
import Derived.Test.YtcainpicbkncpaaDoorRowB
namespace Go.Proofs.YtcainpicbkncpaaDoor
open Go.RowKit

theorem Tryd.info5 : (Tryd.prog.info? 5).map (fun i => (i.zero, i.size, i.bytes)) = some (some (.int .u8 0), 1, 1) := by kernel_rfl

/-- The row of 'out' when k bytes have been changed. -/
def lowRow (l : List UInt8) (k : Nat) : List UInt8 := (Pl.lower l).take k ++ List.replicate (l.length - k) 0
theorem lowRow_zero (l : List UInt8) : lowRow l 0 = List.replicate l.length 0 := by simp [lowRow]
theorem lowRow_full (l : List UInt8) : lowRow l l.length = Pl.lower l := by
  unfold lowRow
  rw [List.take_of_length_le (by rw [Pl.lower_length]; exact Nat.le_refl _)]; simp
theorem lowRow_length (l : List UInt8) (k : Nat) (h : k ≤ l.length) : (lowRow l k).length = l.length := by
  simp only [lowRow, List.length_append, List.length_take, Pl.lower_length, List.length_replicate]; omega
theorem lowRow_succ (s : ByteArray) (k : Nat) (h : k < s.size) : (lowRow s.data.toList k).set k (Pl.lowB s[k]) = lowRow s.data.toList (k + 1) := by
  have hl : s.data.toList.length = s.size := (Lib.size_eq s).symm
  have e1 : (Pl.lower s.data.toList).take (k + 1) = (Pl.lower s.data.toList).take k ++ [Pl.lowB s[k]] := by
    rw [List.take_succ_eq_append_getElem (by rw [Pl.lower_length, hl]; exact h)]
    simp only [Pl.lower, List.getElem_map]
    rfl
  have hk : ((Pl.lower s.data.toList).take k).length = k := by rw [List.length_take, Pl.lower_length]; omega
  unfold lowRow
  rw [List.set_append_right _ _ (by omega), e1, List.append_assoc]
  congr 1
  rw [hk, Nat.sub_self, show s.data.toList.length - k = (s.data.toList.length - (k + 1)) + 1 from by omega, List.replicate_succ, List.set_cons_zero]
  rfl
theorem zero_row (n : Nat) : (List.replicate n (0 : UInt8)).map bv = List.replicate n (.int .u8 0) := by simp [bv]

set_option maxHeartbeats 1000000 in
theorem change_low (s : ByteArray) (hs : s.size ≤ 140737488351232) (w : World) :
    Calls Tryd.prog 20 #[.string s, .func (.func 21) #[] #[]] w fun e w' => e = .returned (.string ⟨(Pl.lower s.data.toList).toArray⟩) ∧ Below w.heap.size w w' := by
  have hlen : s.data.toList.length = s.size := (Lib.size_eq s).symm
  have HL := Lib.hid hlen
  clear hlen
  obtain ⟨i0, hi, hz0, hz1, hz2⟩ := info_parts Tryd.info5
  go_enter Tryd.func20, Tryd.ntmps20
  go_wp2_with (first
    | (at_make; refine wpList_make_full _ rfl _ _ 37 rfl w.heap.size 5 i0 (.int .u8 0) 1 Tryd.underlying37 hi hz0 hz1 .i64 .i64 _ _ s.size rfl rfl rfl rfl (by rw [hz2]; omega) (by unfold maxLen; omega) (Nat.le_refl _) ?_; intro w1 hown hgrow)
    | fail)
  have hown' := BRow.of_own (l := List.replicate s.size 0) (by rw [zero_row]; simpa [Value.cells, toList_madeCells_one] using hown)
  have hb1 : Below w.heap.size w w1 := (Below.refl _ _).grown hgrow (Nat.le_refl _) (fun k h => by cases h)
  have hsz1 : w.heap.size < w1.heap.size := by
    have := hown.lt w.heap.size rfl
    exact this.2
  clear hown hgrow
  go_loopw [12] (fun i wr => ∃ k : Nat, k ≤ s.size ∧ i = .int .i64 k ∧ BRow wr w.heap.size (lowRow s.data.toList k) ∧ Below w.heap.size w wr) (fun i _ => s.size - (intOf i).toNat)
  case atStart => exact ⟨0, Nat.zero_le _, rfl, by rw [lowRow_zero, HL.out]; exact hown', hb1⟩
  case round =>
    obtain ⟨k, hk, rfl, hrow, hbel⟩ := hrel
    by_cases hlt : k < s.size
    · have HR := Lib.hid hrow
      have hc := (hrow k (by rw [lowRow_length _ _ (by rw [HL.out]; exact hk), HL.out]; exact hlt)).1
      have hf := (hrow k (by rw [lowRow_length _ _ (by rw [HL.out]; exact hk), HL.out]; exact hlt)).2
      have HB := Lib.hid (Pl.lowB_toNat s[k])
      have hu := Pl.u8_lt s[k]
      clear hrow
      go_wp2_with (go_at_call 21; refine (low_any _ (by omega) (by omega) _).mono ?_; rintro e w' ⟨rfl, rfl⟩)
      go_roundw
      case rel =>
        refine ⟨k + 1, by omega, by go_num, ?_, hbel.setCell (p := ⟨w.heap.size, k, none⟩) (Nat.le_refl _) _⟩
        rw [← HB.out, ← lowRow_succ s k hlt]
        exact BRow.set HR.out k (by rw [lowRow_length _ _ (by rw [HL.out]; exact hk), HL.out]; exact hlt) _
      case measure => simp [intOf]; omega
    · have : k = s.size := by omega
      subst this
      have hconv := conv_row (P := Tryd.prog) Tryd.underlying37 Tryd.underlying5 Tryd.underlying9 wr w.heap.size s.size s.size _ (by rw [lowRow_length _ _ (by rw [HL.out]; exact Nat.le_refl _), HL.out]) hrow
      have HC := Lib.hid (lowRow_full s.data.toList)
      clear hrow
      go_wp2_with fail
      go_ret
      exact ⟨ret_str (by rw [← HC.out, HL.out]), hbel⟩

set_option maxHeartbeats 400000 in
theorem lower_any (s : ByteArray) (hs : s.size ≤ 140737488351232) (w : World) :
    Calls Tryd.prog 14 #[.string s] w fun e w' => e = .returned (.string ⟨(Pl.lower s.data.toList).toArray⟩) ∧ Below w.heap.size w w' := by
  go_enter Tryd.func14, Tryd.ntmps14
  go_wp2_with (go_at_call 20; refine (change_low _ (by omega) _).mono ?_; rintro e w' ⟨rfl, hbel⟩)
  go_ret
  exact ⟨rfl, hbel⟩

/-- The reference's row when k bytes have been looked at. -/
def refRow (l : List UInt8) (k : Nat) : List UInt8 := (Pl.lower l).take k ++ l.drop k
theorem refRow_length (l : List UInt8) (k : Nat) (h : k ≤ l.length) : (refRow l k).length = l.length := by
  simp only [refRow, List.length_append, List.length_take, Pl.lower_length, List.length_drop]; omega
theorem refRow_zero (l : List UInt8) : refRow l 0 = l := by simp [refRow]
theorem refRow_full (l : List UInt8) : refRow l l.length = Pl.lower l := by
  unfold refRow
  rw [List.take_of_length_le (by rw [Pl.lower_length]; exact Nat.le_refl _)]; simp
theorem refRow_at (s : ByteArray) (k : Nat) (h : k < s.size) : (refRow s.data.toList k).getD k 0 = s[k] := by
  have hl : s.data.toList.length = s.size := (Lib.size_eq s).symm
  have hk : ((Pl.lower s.data.toList).take k).length = k := by rw [List.length_take, Pl.lower_length]; omega
  unfold refRow
  rw [List.getD_eq_getElem?_getD, List.getElem?_append_right (by omega), hk, Nat.sub_self, drop_cons s k h]
  rfl
theorem refRow_set (s : ByteArray) (k : Nat) (h : k < s.size) : (refRow s.data.toList k).set k (Pl.lowB s[k]) = refRow s.data.toList (k + 1) := by
  have hl : s.data.toList.length = s.size := (Lib.size_eq s).symm
  have e1 : (Pl.lower s.data.toList).take (k + 1) = (Pl.lower s.data.toList).take k ++ [Pl.lowB s[k]] := by
    rw [List.take_succ_eq_append_getElem (by rw [Pl.lower_length, hl]; exact h)]
    simp only [Pl.lower, List.getElem_map]
    rfl
  have hk : ((Pl.lower s.data.toList).take k).length = k := by rw [List.length_take, Pl.lower_length]; omega
  unfold refRow
  rw [List.set_append_right _ _ (by omega), e1, List.append_assoc, hk, Nat.sub_self, drop_cons s k h]
  rfl
theorem refRow_keep (s : ByteArray) (k : Nat) (h : k < s.size) (he : Pl.lowB s[k] = s[k]) : refRow s.data.toList k = refRow s.data.toList (k + 1) := by
  rw [← refRow_set s k h, he]
  have hl : s.data.toList.length = s.size := (Lib.size_eq s).symm
  have hk : ((Pl.lower s.data.toList).take k).length = k := by rw [List.length_take, Pl.lower_length]; omega
  unfold refRow
  rw [List.set_append_right _ _ (by omega), hk, Nat.sub_self, drop_cons s k h]
  rfl
theorem lowB_same (c : UInt8) (h : ¬ (65 ≤ (c.toNat : Int) ∧ (c.toNat : Int) ≤ 90)) : Pl.lowB c = c := by
  apply Pl.u8_ext
  rw [Pl.lowB_toNat]; unfold Pl.lowI; rw [if_neg h]
theorem lowB_turned (c : UInt8) (h : 65 ≤ (c.toNat : Int) ∧ (c.toNat : Int) ≤ 90) : ((Pl.lowB c).toNat : Int) = (c.toNat : Int) + 32 := by
  rw [Pl.lowB_toNat]; unfold Pl.lowI; rw [if_pos h]

end Go.Proofs.YtcainpicbkncpaaDoor

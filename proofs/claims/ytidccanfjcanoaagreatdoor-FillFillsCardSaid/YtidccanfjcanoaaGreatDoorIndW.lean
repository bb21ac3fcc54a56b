/-
  fill.Indent; binderylaw01.TextsSize: by contract.
-/
import Derived.Test.YtidccanfjcanoaaGreatDoorSigW
import Derived.Test.YtidccanfjcanoaaGreatDoorShelf
import Derived.Test.YtidccanfjcanoaaGreatDoorTextW
import Derived.Lib.Repeat
import Derived.Lib.MinMax
import Derived.Maps.AppendAt
namespace Go.Proofs.YtidccanfjcanoaaGreatDoor
open Go.RowKit
set_option linter.unusedVariables false

def spcs (k : Nat) : List UInt8 := List.replicate k 32
theorem rep_spcs : ∀ k, Lib.repeatL [32] k = spcs k
  | 0 => rfl
  | k + 1 => by rw [Lib.repeatL, rep_spcs k]; rfl
/-- How many blanks: between none and 200. -/
def clN (x : Int) : Nat := (min (max x 0) 200).toNat
theorem clN_le (x : Int) : clN x ≤ 200 := by unfold clN; omega
theorem clN_eq (x : Int) : min (max x 0) 200 = ((clN x : Nat) : Int) := by unfold clN; omega
/-- A line with k blanks ahead. -/
def indB (k : Nat) (u : ByteArray) : ByteArray := if u.size = 0 then u else ⟨(spcs k).toArray⟩ ++ u
theorem lb_app (a b : ByteArray) : lb (a ++ b) = lb a ++ lb b := by simp [lb]
theorem blanks_any (k : Nat) (hk : k ≤ 200) (w : World) :
    Calls Tryz.prog 86 #[.string ⟨#[32]⟩, .int .i64 ((k : Nat) : Int)] w fun e w' => e = .returned (.string ⟨(spcs k).toArray⟩) ∧ Below w.heap.size w w' := by
  refine (Tryz.strings_Repeat ⟨#[32]⟩ k w (by omega) (by show 1 * k ≤ _; omega)).mono ?_
  rintro e w' ⟨rfl, h⟩
  refine ⟨?_, h⟩
  show Ending.returned (.string ⟨(Lib.repeatL [32] k).toArray⟩) = _
  rw [rep_spcs]
theorem spcs_size (k : Nat) : (⟨(spcs k).toArray⟩ : ByteArray).size = k := by rw [Lib.size_eq]; simp [spcs]
theorem ind_step (k : Nat) (xs : List ByteArray) (i : Nat) (h : i < xs.length) : ((xs.take (i + 1)).map (indB k)).map Value.string = ((xs.take i).map (indB k)).map Value.string ++ [.string (indB k (xs.getD i ByteArray.empty))] := by
  rw [List.take_succ_eq_append_getElem h, List.map_append, List.map_append, getD_lt xs i h]
  rfl

set_option maxHeartbeats 2000000 in
set_option maxRecDepth 100000 in
theorem indent_any (A : Option Addr) (n c : Nat) (xs : List ByteArray) (x : Int) (w : World) (hx : xs.length = n) (hn : n ≤ 1000000) (hA : TR w A xs) (hs : ∀ i, (xs.getD i ByteArray.empty).size ≤ 1099511627776) :
    Calls Tryz.prog 25 #[.slice A n c, .int .i64 x] w fun e w' => ∃ v, e = .returned v ∧ w'.ownsRow w.heap.size 9 1 v n ((xs.map (indB (clN x))).map Value.string) ∧ Below w.heap.size w w' := by
  obtain ⟨i0, hi, hz0, hz1, hz2⟩ := info_parts Tryz.info9
  have HA := Lib.hid hA
  have HS := Lib.hid hs
  have hk := clN_le x
  have hE := clN_eq x
  obtain ⟨k, hkx⟩ : ∃ k, clN x = k := ⟨_, rfl⟩
  rw [hkx] at hk hE ⊢
  have HE := Lib.hid hE
  clear hA hs hE hkx
  go_enter Tryz.func25, Tryz.ntmps25
  go_wp2_with fail
  rw [HE.out]
  refine (blanks_any k hk w).mono ?_
  rintro e w0 ⟨rfl, hb0⟩
  have hsz := spcs_size k
  have hB0 := hb0.size
  have HB0 := Lib.hid hb0
  clear hb0
  generalize hbl : (⟨(spcs k).toArray⟩ : ByteArray) = bl at *
  have HBl := Lib.hid hbl
  clear hbl
  go_wp2_with (at_make; go_must (refine wpList_make_own _ rfl _ _ 23 rfl w.heap.size 9 i0 (.string ByteArray.empty) 1 Tryz.underlying23 hi hz0 hz1 .i64 .i64 _ n rfl rfl (by simp) (by rw [hz2]; omega) (by unfold maxLen; omega) (by omega) ?_; intro w1 hown1 hgrow1))
  have hb1 : Below w.heap.size w w1 := HB0.out.grown hgrow1 hB0 (fun k h => by cases h)
  clear hgrow1
  go_wp2_with fail
  go_loopw [6, 18] (fun v i wr => ∃ j : Nat, j ≤ n ∧ i = .int .i64 j ∧ wr.ownsRow w.heap.size 9 1 v j (((xs.take j).map (indB k)).map Value.string) ∧ Below w.heap.size w wr) (fun _ i _ => n - (intOf i).toNat)
  case atStart => exact ⟨0, by omega, rfl, hown1, hb1⟩
  case round =>
    obtain ⟨j, hj, rfl, hown, hb⟩ := hrel
    have HO := Lib.hid hown
    have HB := Lib.hid hb
    have hszr := hb.size
    clear hown hb
    by_cases hlt : j < n
    · obtain ⟨b, off, rfl, hbl, hc⟩ := HA.out (by intro e; rw [e] at hx; simp at hx; omega)
      have hc2 : wr.cell? ⟨b, off + j, none⟩ = some (.string (xs.getD j ByteArray.empty)) := (HB.out.cell (p := ⟨b, off + j, none⟩) hbl).trans (hc j (by omega))
      have HT := Lib.hid (ind_step k xs j (by omega))
      have hus := HS.out j
      have hji : (j : Int) < (n : Int) := by omega
      clear hc
      generalize xs.getD j ByteArray.empty = u at *
      by_cases hu : u.size = 0
      · have hne : u.toList.isEmpty = true := by
          rw [Lib.toList_data, List.isEmpty_iff]
          exact List.eq_nil_of_length_eq_zero (by rw [← Lib.size_eq]; exact hu)
        have HI : Hid (indB k u = u) := Lib.hid (by unfold indB; rw [if_pos hu])
        rw [HI.out] at HT
        go_wp2_with (at_builtin; go_must (refine wpList_append_own _ rfl _ _ 23 rfl w.heap.size 9 i0 (.string ByteArray.empty) 1 16 Tryz.underlying23 hi hz0 hz1 hz2 rfl (by decide) _ j _ rfl (HO.out.alloc _) ⟨wr.heap.size, 0, none⟩ 1 1 [.string u] rfl rfl (cell_one_new _ _ _) (by simp [Value.oneCell']) (by unfold maxLen; omega) (by omega) (by simp; omega) ?_; intro v' w2 hown' hgrow _))
        have hb2 := (HB.out.alloc hszr _).grown hgrow (by simp; omega) (fun i hi => (HO.out.lt i hi).1)
        go_roundw
        case rel => exact ⟨j + 1, by omega, by go_num, by rw [HT.out]; exact hown', hb2⟩
        case measure => simp [intOf]; omega
      · have hne : u.toList.isEmpty = false := by
          rw [Lib.toList_data, Bool.eq_false_iff]
          intro h
          rw [List.isEmpty_iff] at h
          exact hu (by rw [Lib.size_eq, h]; rfl)
        have HI : Hid (indB k u = bl ++ u) := Lib.hid (by unfold indB; rw [if_neg hu, HBl.out])
        rw [HI.out] at HT
        go_wp2_with (at_builtin; go_must (refine wpList_append_own _ rfl _ _ 23 rfl w.heap.size 9 i0 (.string ByteArray.empty) 1 16 Tryz.underlying23 hi hz0 hz1 hz2 rfl (by decide) _ j _ rfl (HO.out.alloc _) ⟨wr.heap.size, 0, none⟩ 1 1 [.string (bl ++ u)] rfl rfl (cell_one_new _ _ _) (by simp [Value.oneCell']) (by unfold maxLen; omega) (by omega) (by simp; omega) ?_; intro v' w2 hown' hgrow _))
        have hb2 := (HB.out.alloc hszr _).grown hgrow (by simp; omega) (fun i hi => (HO.out.lt i hi).1)
        go_roundw
        case rel => exact ⟨j + 1, by omega, by go_num, by rw [HT.out]; exact hown', hb2⟩
        case measure => simp [intOf]; omega
    · obtain rfl : j = n := by omega
      go_wp2_with fail
      go_ret
      refine ⟨_, rfl, ?_, HB.out⟩
      have h := HO.out
      rw [List.take_of_length_le (by omega)] at h
      exact h

/-! ### the size of texts -/
/-- The size of a row of texts and of what it holds, as far as it has been added up. -/
def tsz (n : Nat) (xs : List ByteArray) : Nat → Nat
  | 0 => n
  | k + 1 => tsz n xs k + (xs.getD k ByteArray.empty).size
/-- What TextsSize answers: the first sum beyond 1048576, or the whole. -/
def TSz (n : Nat) (xs : List ByteArray) (r : Int) : Prop := (r ≤ 1048576 → ∀ k, k ≤ xs.length → ((tsz n xs k : Nat) : Int) ≤ r)
theorem tsz_mono (n : Nat) (xs : List ByteArray) : ∀ (d k : Nat), tsz n xs k ≤ tsz n xs (k + d)
  | 0, k => Nat.le_refl _
  | d + 1, k => Nat.le_trans (tsz_mono n xs d k) (by show tsz n xs (k + d) ≤ tsz n xs (k + d) + _; omega)
theorem tsz_elem (n : Nat) (xs : List ByteArray) (k : Nat) (h : k < xs.length) : (xs.getD k ByteArray.empty).size ≤ tsz n xs xs.length := by
  have := tsz_mono n xs (xs.length - (k + 1)) (k + 1)
  rw [show k + 1 + (xs.length - (k + 1)) = xs.length by omega] at this
  have h2 : tsz n xs (k + 1) = tsz n xs k + (xs.getD k ByteArray.empty).size := rfl
  omega

set_option maxHeartbeats 2000000 in
set_option maxRecDepth 100000 in
theorem textsSize_any (A : Option Addr) (n c : Nat) (xs : List ByteArray) (w : World) (hx : xs.length = n) (hn : n ≤ 1099511627776) (hA : TR w A xs) (hs : ∀ i, (xs.getD i ByteArray.empty).size ≤ 140737488351232) :
    Calls Tryz.prog 23 #[.slice A n c] w fun e w' => ∃ r : Int, e = .returned (.int .i64 r) ∧ Hid (TSz n xs r) ∧ w = w' := by
  have HA := Lib.hid hA
  have HS := Lib.hid hs
  clear hA hs
  go_enter Tryz.func23, Tryz.ntmps23
  go_wp2_with fail
  go_loop [3, 4] (fun t i => ∃ k : Nat, k ≤ n ∧ i = .int .i64 k ∧ t = .int .i64 ((tsz n xs k : Nat) : Int) ∧ tsz n xs k ≤ 281474976710656) (fun _ i => n - (intOf i).toNat)
  case atStart => exact ⟨0, Nat.zero_le _, rfl, rfl, by show n ≤ _; omega⟩
  case round =>
    obtain ⟨k, hk, rfl, rfl, hle⟩ := hrel
    by_cases hlt : k < n
    · obtain ⟨b, off, rfl, hbl, hc⟩ := HA.out (by intro e; rw [e] at hx; simp at hx; omega)
      have hc2 := hc k (by omega)
      have hus := HS.out k
      have HT : Hid (tsz n xs (k + 1) = tsz n xs k + (xs.getD k ByteArray.empty).size) := Lib.hid rfl
      have hki : (k : Int) < (n : Int) := by omega
      have HM := Lib.hid (fun (j : Nat) (h : k ≤ j) => by have := tsz_mono n xs (j - k) k; rwa [show k + (j - k) = j by omega] at this : ∀ j, k ≤ j → tsz n xs k ≤ tsz n xs j)
      clear hc
      generalize xs.getD k ByteArray.empty = u at *
      by_cases hb : tsz n xs k ≤ 1048576
      · have hbi : ((tsz n xs k : Nat) : Int) ≤ 1048576 := by omega
        go_wp2_with fail
        go_round
        case rel => exact ⟨k + 1, by omega, by go_num, by rw [HT.out]; go_num, by rw [HT.out]; omega⟩
        case measure => simp [intOf]; omega
      · have hbi : decide (((tsz n xs k : Nat) : Int) ≤ 1048576) = false := by simp; omega
        go_wp2_with fail
        go_ret
        exact ⟨_, rfl, Lib.hid (fun h => by omega), rfl⟩
    · obtain rfl : k = n := by omega
      go_wp2_with fail
      go_ret
      refine ⟨_, rfl, Lib.hid (fun h j hj => ?_), rfl⟩
      have := tsz_mono k xs (k - j) j
      rw [show j + (k - j) = k by omega] at this
      omega
end Go.Proofs.YtidccanfjcanoaaGreatDoor

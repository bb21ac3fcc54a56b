/-
  The reference's blanks and Indent, by contract.
-/
import Derived.Test.YtidccanfjcanoaaGreatDoorIndW
import Derived.Deep.RegionLaw
import Derived.Deep.AppendLies
namespace Go.Proofs.YtidccanfjcanoaaGreatDoor
open Go.RowKit
set_option linter.unusedVariables false

theorem spcs_succ (k : Nat) : (⟨(spcs k).toArray⟩ : ByteArray) ++ ⟨#[32]⟩ = ⟨(spcs (k + 1)).toArray⟩ := by
  apply bytes_ext
  simp [spcs, List.replicate_succ']
set_option maxHeartbeats 1000000 in
set_option maxRecDepth 100000 in
theorem refBlanks_any (x : Int) (hx : x ≤ 200) (w : World) :
    Calls Tryz.prog 87 #[.int .i64 x] w fun e w' => e = .returned (.string ⟨(spcs x.toNat).toArray⟩) ∧ w = w' := by
  go_enter Tryz.func87, Tryz.ntmps87
  go_wp2_with fail
  go_loop [3, 4] (fun t i => ∃ (k : Nat) (y : ByteArray), k ≤ x.toNat ∧ i = .int .i64 k ∧ t = .string y ∧ y = ⟨(spcs k).toArray⟩) (fun _ i => x.toNat - (intOf i).toNat)
  case atStart => exact ⟨0, ⟨#[]⟩, Nat.zero_le _, rfl, rfl, rfl⟩
  case round =>
    obtain ⟨k, y, hk, rfl, rfl, hy⟩ := hrel
    have hsz : y.size = k := by rw [hy]; exact spcs_size k
    have HS := Lib.hid (spcs_succ k)
    have HY := Lib.hid hy
    have HZ := Lib.hid hsz
    have hyl : y.size ≤ 200 := by omega
    clear hy hsz
    by_cases hlt : (k : Int) < x
    · go_wp2_with fail
      go_round
      case rel => exact ⟨k + 1, _, by omega, by go_num, rfl, by rw [HY.out]; exact HS.out⟩
      case measure => simp [intOf]; omega
    · have hd : decide ((k : Int) < x) = false := by simpa using hlt
      have HK : Hid (k = x.toNat) := Lib.hid (by omega)
      go_wp2_with fail
      go_ret
      exact ⟨by rw [← HK.out]; exact ret_str HY.out, rfl⟩

theorem clN_min (x : Int) : (min x 200).toNat = clN x := by unfold clN; omega
set_option maxHeartbeats 4000000 in
set_option maxRecDepth 100000 in
theorem refIndent_any (A : Option Addr) (n c : Nat) (xs : List ByteArray) (x : Int) (w : World) (hx : xs.length = n) (hn : n ≤ 1000000) (hA : TR w A xs) (hs : ∀ i, (xs.getD i ByteArray.empty).size ≤ 1099511627776) :
    Calls Tryz.prog 26 #[.slice A n c, .int .i64 x] w fun e w' => ∃ v, e = .returned v ∧ w'.ownsRow w.heap.size 9 1 v n ((xs.map (indB (clN x))).map Value.string) ∧ Below w.heap.size w w' := by
  obtain ⟨i0, hi, hz0, hz1, hz2⟩ := info_parts Tryz.info9
  have HA := Lib.hid hA
  have HS := Lib.hid hs
  have hk := clN_le x
  have HE := Lib.hid (clN_min x)
  have hm : min x 200 ≤ 200 := by omega
  clear hA hs
  go_enter Tryz.func26, Tryz.ntmps26
  go_wp2_with fail
  go_loopw [5, 6] (fun v i wr => ∃ (j : Nat) (v0 : Value), j ≤ n ∧ i = .int .i64 j ∧ v = v0 ∧ wr.ownsRow w.heap.size 9 1 v0 j (((xs.take j).map (indB (clN x))).map Value.string) ∧ Below w.heap.size w wr) (fun _ i _ => n - (intOf i).toNat)
  case atStart => exact ⟨0, _, by omega, rfl, rfl, World.ownsRow_nil _ _ _ _, Below.refl _ _⟩
  case round =>
    obtain ⟨j, v0, hj, rfl, rfl, hown, hb⟩ := hrel
    have HO := Lib.hid hown
    have HB := Lib.hid hb
    have hszr := hb.size
    clear hown hb
    by_cases hlt : j < n
    · obtain ⟨b, off, rfl, hbl, hc⟩ := HA.out (by intro e; rw [e] at hx; simp at hx; omega)
      have hc2 : wr.cell? ⟨b, off + j, none⟩ = some (.string (xs.getD j ByteArray.empty)) := (HB.out.cell (p := ⟨b, off + j, none⟩) hbl).trans (hc j (by omega))
      have HT := Lib.hid (ind_step (clN x) xs j (by omega))
      have hus := HS.out j
      have hji : (j : Int) < (n : Int) := by omega
      clear hc
      generalize xs.getD j ByteArray.empty = u at *
      by_cases hu : u.size = 0
      · have hne : u.toList.isEmpty = true := by
          rw [Lib.toList_data, List.isEmpty_iff]
          exact List.eq_nil_of_length_eq_zero (by rw [← Lib.size_eq]; exact hu)
        have HI : Hid (indB (clN x) u = ⟨#[]⟩) := Lib.hid (by
          unfold indB
          rw [if_pos hu]
          apply bytes_ext
          exact List.eq_nil_of_length_eq_zero (by rw [← Lib.size_eq]; exact hu))
        rw [HI.out] at HT
        go_wp2_with (at_builtin; go_must (refine wpList_append_own _ rfl _ _ 23 rfl w.heap.size 9 i0 (.string ByteArray.empty) 1 16 Tryz.underlying23 hi hz0 hz1 hz2 rfl (by decide) _ j _ rfl (HO.out.alloc _) ⟨wr.heap.size, 0, none⟩ 1 1 [.string ⟨#[]⟩] rfl rfl (cell_one_new _ _ _) (by simp [Value.oneCell']) (by unfold maxLen; omega) (by omega) (by simp; omega) ?_; intro v' w2 hown' hgrow _))
        have hb2 := (HB.out.alloc hszr _).grown hgrow (by simp; omega) (fun i hi => (HO.out.lt i hi).1)
        go_roundw
        case rel => exact ⟨j + 1, _, by omega, by go_num, rfl, by rw [HT.out]; exact hown', hb2⟩
        case measure => simp [intOf]; omega
      · have hne : u.toList.isEmpty = false := by
          rw [Lib.toList_data, Bool.eq_false_iff]
          intro h
          rw [List.isEmpty_iff] at h
          exact hu (by rw [Lib.size_eq, h]; rfl)
        have HI : Hid (indB (clN x) u = ⟨(spcs (min x 200).toNat).toArray⟩ ++ u) := Lib.hid (by unfold indB; rw [if_neg hu, HE.out])
        rw [HI.out] at HT
        have hbs := spcs_size (min x 200).toNat
        have hk2 : (min x 200).toNat ≤ 200 := by omega
        have hif : ¬ 9223372036854775807 < (min x 200).toNat + u.size := by omega
        go_wp2_with fail
        go_region_law (first | (refine step_append_lies _ (by rfl) _ _ _ (by rfl) w.heap.size 9 i0 _ 1 16 Tryz.underlying23 hi hz0 hz1 hz2 rfl (by omega) _ j (((xs.take j).map (indB (clN x))).map Value.string) (by rfl) ((HO.out.alloc _).drew) ⟨wr.heap.size, 0, none⟩ 1 1 [.string (⟨(spcs (min x 200).toNat).toArray⟩ ++ u)] (by rfl) (by rfl) (World.news_of_block (cs := #[.string (⟨(spcs (min x 200).toNat).toArray⟩ ++ u)]) (t := 9) (fr := (0, 0)) (heap_alloc_new wr _)) (by simp [Value.oneCell']) (by omega) (by unfold maxLen; omega) (by omega) (by simp; omega) (wr.heap.size + 1) (by simp) ?_; intro gg cap w2 hown' hgrow hat hlt2) | (go_simp; go_at_call 87; refine (refBlanks_any (min x 200) hm _).mono ?_; rintro e w' ⟨rfl, rfl⟩))
        all_goals
          have hb2 : Below w.heap.size w w2 := ((HB.out.alloc hszr _).drew).grown hgrow (by simp; omega) (fun i hi => (HO.out.lt i hi).1)
          go_wp2_with fail
          go_roundw
          case rel => exact ⟨j + 1, _, by omega, by go_num, rfl, by rw [HT.out]; exact hown', hb2⟩
          case measure => simp [intOf]; omega
    · obtain rfl : j = n := by omega
      go_wp2_with fail
      go_ret
      refine ⟨_, rfl, ?_, HB.out⟩
      have h := HO.out
      rw [List.take_of_length_le (by omega)] at h
      exact h
end Go.Proofs.YtidccanfjcanoaaGreatDoor

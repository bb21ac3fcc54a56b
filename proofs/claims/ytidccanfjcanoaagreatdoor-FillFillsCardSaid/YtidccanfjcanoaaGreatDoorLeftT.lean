/-
  LeftTexts: is a row of one's own as it was, its spare text too? by contract.
-/
import Derived.Test.YtidccanfjcanoaaGreatDoorTwinT
namespace Go.Proofs.YtidccanfjcanoaaGreatDoor
open Go.RowKit
set_option linter.unusedVariables false

set_option maxHeartbeats 2000000 in
set_option maxRecDepth 100000 in
theorem leftTexts_any (B g n cp : Nat) (A : Option Addr) (c : Nat) (xs : List ByteArray) (w : World) (hx : xs.length = n) (hn : n ≤ 1000000) (hA : TR w A xs)
    (hown : w.ownsRow B 9 1 (.slice (some ⟨g, 0, none⟩) (n + 1) cp) (n + 1) (xs.map Value.string ++ [.string spareT])) :
    Calls Tryz.prog 27 #[.slice (some ⟨g, 0, none⟩) n cp, .slice A n c] w fun e w' => e = .returned (.bool true) ∧ ∃ q, w.drewN q = w' := by
  have HA := Lib.hid hA
  have hcap := own_cap hown
  have hmx : cp ≤ maxLen := by
    rcases hown.2 with ⟨h, _⟩ | ⟨g', cap', cur, h, _, _, _, h4, _⟩
    · cases h
    · injection h with _ _ h; omega
  unfold maxLen at hmx
  have hcell : ∀ j, j < n + 1 → w.cell? ⟨g, j, none⟩ = some (.string ((xs ++ [spareT]).getD j ByteArray.empty)) := fun j hj => by
    rw [hown.cellAt j (by simp; omega)]
    have e : xs.map Value.string ++ [.string spareT] = (xs ++ [spareT]).map Value.string := by simp
    rw [e, List.getElem?_map, List.getElem?_eq_getElem (by simp; omega), List.getD_eq_getElem?_getD, List.getElem?_eq_getElem (by simp; omega)]
    rfl
  have HC := Lib.hid hcell
  have hbn : ((n : Int) != n) = false := by simp
  have hcp : decide (cp ≤ n) = false := by simp; omega
  have hcp' : decide ((cp : Int) ≤ (n : Int)) = false := by simp; omega
  clear hA hown hcell
  go_enter Tryz.func27, Tryz.ntmps27
  go_wp2_with fail
  go_loopw [5] (fun i wr => ∃ k : Nat, k ≤ n ∧ i = .int .i64 k ∧ ∃ q, w.drewN q = wr) (fun i _ => n - (intOf i).toNat)
  case atStart => exact ⟨0, Nat.zero_le _, rfl, 0, rfl⟩
  case round =>
    obtain ⟨k, hk, rfl, q, rfl⟩ := hrel
    by_cases hlt : k < n
    · obtain ⟨b, off, rfl, hbl, hc⟩ := HA.out (by intro e; rw [e] at hx; simp at hx; omega)
      have c1 := hc k (by omega)
      have c2 := HC.out k (by omega)
      have hg : (xs ++ [spareT]).getD k ByteArray.empty = xs.getD k ByteArray.empty := by
        rw [List.getD_eq_getElem?_getD, List.getD_eq_getElem?_getD, List.getElem?_append_left (by omega)]
      rw [hg] at c2
      have hki : (k : Int) < (n : Int) := by omega
      clear hc hg
      generalize xs.getD k ByteArray.empty = u at *
      have hbb : (u.toList == u.toList) = true := by simp
      have hbb' : (u.toList != u.toList) = false := by simp
      go_wp2_with fail
      go_quiet (fail)
      go_wp2_with fail
      go_roundw
      case rel => exact ⟨k + 1, by omega, by go_num, _, rfl⟩
      case measure => simp [intOf]; omega
    · obtain rfl : k = n := by omega
      have c2 := HC.out k (by omega)
      have hg : (xs ++ [spareT]).getD k ByteArray.empty = spareT := by
        rw [List.getD_eq_getElem?_getD, List.getElem?_append_right (by omega)]
        simp [hx]
      rw [hg] at c2
      clear hg
      have hw1 : IntKind.i64.wrap ((k : Int) + 1) = (k : Int) + 1 := IntWalk.i64_in _ (by omega)
      have hs : (spareT.toList == (⟨#[115, 112, 97, 114, 101]⟩ : ByteArray).toList) = true := by unfold spareT; simp
      go_wp2_with fail
      go_ret
      exact ⟨ret_bool (by first | exact hs | simp [spareT]), _, rfl⟩
end Go.Proofs.YtidccanfjcanoaaGreatDoor

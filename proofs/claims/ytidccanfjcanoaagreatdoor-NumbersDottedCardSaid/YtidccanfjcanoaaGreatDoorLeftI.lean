/-
  LeftInts: is a row of one's own as it was, its spare int too? by contract.
-/
import Derived.Test.YtidccanfjcanoaaGreatDoorTwinI
namespace Go.Proofs.YtidccanfjcanoaaGreatDoor
open Go.RowKit
set_option linter.unusedVariables false

set_option maxHeartbeats 2000000 in
set_option maxRecDepth 100000 in
theorem leftInts_any (B g n cp : Nat) (A : Option Addr) (c : Nat) (xs : List Int) (w : World) (hx : xs.length = n) (hn : n ≤ 1000000) (hA : IR w A xs)
    (hown : w.ownsRow B 3 1 (.slice (some ⟨g, 0, none⟩) (n + 1) cp) (n + 1) (xs.map (Value.int .i64) ++ [.int .i64 77])) :
    Calls Tryz.prog 19 #[.slice (some ⟨g, 0, none⟩) n cp, .slice A n c] w fun e w' => e = .returned (.bool true) ∧ ∃ q, w.drewN q = w' := by
  have HA := Lib.hid hA
  have hcap := own_cap hown
  have hmx : cp ≤ maxLen := by
    rcases hown.2 with ⟨h, _⟩ | ⟨g', cap', cur, h, _, _, _, h4, _⟩
    · cases h
    · injection h with _ _ h; omega
  unfold maxLen at hmx
  have hcell : ∀ j, j < n + 1 → w.cell? ⟨g, j, none⟩ = some (.int .i64 ((xs ++ [77]).getD j 0)) := fun j hj => by
    rw [hown.cellAt j (by simp; omega)]
    have e : xs.map (Value.int .i64) ++ [.int .i64 77] = (xs ++ [77]).map (Value.int .i64) := by simp
    rw [e, List.getElem?_map, List.getElem?_eq_getElem (by simp; omega), List.getD_eq_getElem?_getD, List.getElem?_eq_getElem (by simp; omega)]
    rfl
  have HC := Lib.hid hcell
  have hbn : ((n : Int) != n) = false := by simp
  have hcp : decide (cp ≤ n) = false := by simp; omega
  have hcp' : decide ((cp : Int) ≤ (n : Int)) = false := by simp; omega
  clear hA hown hcell
  go_enter Tryz.func19, Tryz.ntmps19
  go_wp2_with fail
  go_loopw [5] (fun i wr => ∃ k : Nat, k ≤ n ∧ i = .int .i64 k ∧ ∃ q, w.drewN q = wr) (fun i _ => n - (intOf i).toNat)
  case atStart => exact ⟨0, Nat.zero_le _, rfl, 0, rfl⟩
  case round =>
    obtain ⟨k, hk, rfl, q, rfl⟩ := hrel
    by_cases hlt : k < n
    · obtain ⟨b, off, rfl, hbl, hc⟩ := HA.out (by intro e; rw [e] at hx; simp at hx; omega)
      have c1 := hc k (by omega)
      have c2 := HC.out k (by omega)
      have hg : (xs ++ [77]).getD k 0 = xs.getD k 0 := by
        rw [List.getD_eq_getElem?_getD, List.getD_eq_getElem?_getD, List.getElem?_append_left (by omega)]
      rw [hg] at c2
      have hki : (k : Int) < (n : Int) := by omega
      clear hc hg
      generalize xs.getD k 0 = u at *
      have hbb : (u == u) = true := by simp
      have hbb' : (u != u) = false := by simp
      go_wp2_with fail
      go_quiet (fail)
      go_wp2_with fail
      go_roundw
      case rel => exact ⟨k + 1, by omega, by go_num, _, rfl⟩
      case measure => simp [intOf]; omega
    · obtain rfl : k = n := by omega
      have c2 := HC.out k (by omega)
      have hg : (xs ++ [77]).getD k 0 = 77 := by
        rw [List.getD_eq_getElem?_getD, List.getElem?_append_right (by omega)]
        simp [hx]
      rw [hg] at c2
      clear hg
      have hw1 : IntKind.i64.wrap ((k : Int) + 1) = (k : Int) + 1 := IntWalk.i64_in _ (by omega)
      have hs : ((77 : Int) == 77) = true := by decide
      go_wp2_with fail
      go_ret
      exact ⟨ret_bool (by simp), _, rfl⟩
end Go.Proofs.YtidccanfjcanoaaGreatDoor

/-
  TwinInts: a row of ints of one's own, one spare int behind.
-/
import Derived.Test.YtidccanfjcanoaaGreatDoorIApN
import Derived.Test.YtidccanfjcanoaaGreatDoorIntW
namespace Go.Proofs.YtidccanfjcanoaaGreatDoor
open Go.RowKit
set_option linter.unusedVariables false

theorem IR.at {w : World} {A : Option Addr} {xs : List Int} (h : IR w A xs) (k : Nat) (hk : k < xs.length) : ∃ b off, A = some ⟨b, off, none⟩ ∧ b < w.heap.size ∧ w.cell? ⟨b, off + k, none⟩ = some (.int .i64 (xs.getD k 0)) := by
  obtain ⟨b, off, e, hb, hc⟩ := h (fun e => by rw [e] at hk; exact absurd hk (by simp))
  exact ⟨b, off, e, hb, hc k hk⟩
theorem take_oneI (xs : List Int) (k : Nat) (h : k < xs.length) : (xs.take (k + 1)).map (Value.int .i64) = (xs.take k).map (Value.int .i64) ++ [.int .i64 (xs.getD k 0)] := by
  rw [List.take_succ_eq_append_getElem h, List.map_append, getDI xs k h]
  rfl
theorem own_take {w : World} {B e n g cp : Nat} {xs : List Value} {s : Value} (h : w.ownsRow B e 1 (.slice (some ⟨g, 0, none⟩) (n + 1) cp) (n + 1) (xs ++ [s])) (hl : xs.length = n) : w.ownsRow B e 1 (.slice (some ⟨g, 0, none⟩) n cp) n xs := by
  refine ⟨by omega, .inr ?_⟩
  rcases h.2 with ⟨h, _⟩ | ⟨g', cap, cur, hv, hb, hg, h3, h4, h5, h6⟩
  · cases h
  · injection hv with h7 _ h8
    obtain rfl : g = g' := by injection h7 with h7; injection h7
    subst h8
    refine ⟨g, cp, cur, rfl, hb, hg, by omega, h4, h5, ?_⟩
    have e1 : cur.toList.take n = (cur.toList.take ((n + 1) * 1)).take n := by rw [List.take_take, Nat.min_eq_left (by omega)]
    rw [Nat.mul_one, e1, h6, ← hl, List.take_left]
theorem own_cap {w : World} {B e n g cp : Nat} {xs : List Value} (h : w.ownsRow B e 1 (.slice (some ⟨g, 0, none⟩) n cp) n xs) : n ≤ cp := by
  rcases h.2 with ⟨h, _⟩ | ⟨g', cap, cur, hv, hb, hg, h3, h4, h5, h6⟩
  · cases h
  · injection hv with _ _ h8
    omega
set_option maxHeartbeats 2000000 in
set_option maxRecDepth 100000 in
theorem twinInts_any (A : Option Addr) (n c : Nat) (xs : List Int) (w : World) (hx : xs.length = n) (hn : n ≤ 1000000) (hA : IR w A xs) :
    Calls Tryz.prog 13 #[.slice A n c] w fun e w' => ∃ g cp, e = .returned (.slice (some ⟨g, 0, none⟩) n cp) ∧ w'.ownsRow w.heap.size 3 1 (.slice (some ⟨g, 0, none⟩) (n + 1) cp) (n + 1) (xs.map (Value.int .i64) ++ [.int .i64 77]) ∧ Below w.heap.size w w' := by
  obtain ⟨i0, hi, hz0, hz1, hz2⟩ := info_parts infoIntI
  have HA := Lib.hid hA
  have hw1 : IntKind.i64.wrap ((n : Int) + 1) = (n : Int) + 1 := IntWalk.i64_in _ (by omega)
  clear hA
  go_enter Tryz.func13, Tryz.ntmps13
  go_wp2_with (at_make; go_must (refine wpList_make_own _ rfl _ _ 48 rfl w.heap.size 3 i0 (.int .i64 0) 1 Tryz.underlying48 hi hz0 hz1 .i64 .i64 _ (n + 1) rfl rfl (by simp) (by rw [hz2]; omega) (by unfold maxLen; omega) (Nat.le_refl _) ?_; intro w1 hown1 hgrow1))
  have hb1 : Below w.heap.size w w1 := (Below.refl _ _).grown hgrow1 (Nat.le_refl _) (fun k h => by cases h)
  clear hgrow1
  go_wp2_with fail
  go_loopw [3, 4] (fun v i wr => ∃ k : Nat, k ≤ n ∧ i = .int .i64 k ∧ wr.ownsRow w.heap.size 3 1 v k ((xs.take k).map (Value.int .i64)) ∧ Below w.heap.size w wr) (fun _ i _ => n - (intOf i).toNat)
  case atStart => exact ⟨0, by omega, rfl, hown1, hb1⟩
  case round =>
    obtain ⟨k, hk, rfl, hown, hb⟩ := hrel
    have HO := Lib.hid hown
    have HB := Lib.hid hb
    have hsz := hb.size
    clear hown hb
    by_cases hlt : k < n
    · obtain ⟨b, off, rfl, hbl, hc⟩ := HA.out.at k (by omega)
      have hc2 : wr.cell? ⟨b, off + k, none⟩ = some (.int .i64 (xs.getD k 0)) := (HB.out.cell (p := ⟨b, off + k, none⟩) hbl).trans hc
      have HT := Lib.hid (take_oneI xs k (by omega))
      clear hc
      generalize xs.getD k 0 = x at *
      go_wp2_with (at_builtin; go_must (refine wpList_append_own _ rfl _ _ 48 rfl w.heap.size 3 i0 (.int .i64 0) 1 8 Tryz.underlying48 hi hz0 hz1 hz2 rfl (by decide) u3 k _ rfl (HO.out.alloc _) ⟨wr.heap.size, 0, none⟩ 1 1 [.int .i64 x] rfl rfl (cell_one_new _ _ _) (by simp [Value.oneCell']) (by unfold maxLen; omega) (by omega) (by simp; omega) ?_; intro v' w2 hown' hgrow _))
      have hb2 := (HB.out.alloc hsz _).grown hgrow (by simp; omega) (fun i hi => (HO.out.lt i hi).1)
      go_roundw
      case rel => exact ⟨k + 1, by omega, by go_num, by rw [HT.out]; exact hown', hb2⟩
      case measure => simp [intOf]; omega
    · obtain rfl : k = n := by omega
      go_wp2_with (at_builtin; go_must (refine wpList_append_own _ rfl _ _ 48 rfl w.heap.size 3 i0 (.int .i64 0) 1 8 Tryz.underlying48 hi hz0 hz1 hz2 rfl (by decide) u3 k _ rfl (HO.out.alloc _) ⟨wr.heap.size, 0, none⟩ 1 1 [.int .i64 77] rfl rfl (cell_one_new _ _ _) (by simp [Value.oneCell']) (by unfold maxLen; omega) (by omega) (by simp; omega) ?_; intro v' w2 hown' hgrow _; obtain ⟨g', cap', rfl⟩ := own_succ hown'; have hcap := own_cap hown'))
      go_ret
      refine ⟨g', cap', rfl, ?_, (HB.out.alloc hsz _).grown hgrow (by simp; omega) (fun i hi => (HO.out.lt i hi).1)⟩
      rw [List.take_of_length_le (by omega)] at hown'
      exact hown'
end Go.Proofs.YtidccanfjcanoaaGreatDoor

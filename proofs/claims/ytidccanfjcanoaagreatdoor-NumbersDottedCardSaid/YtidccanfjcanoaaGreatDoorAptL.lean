/-
  Book.Apart: lemmas on rows that the call owns; the marks.
-/
import Derived.Test.YtidccanfjcanoaaGreatDoorAptE
import Derived.Test.YtidccanfjcanoaaGreatDoorJoinW
import Derived.Test.YtidccanfjcanoaaGreatDoorRowB
import Derived.Deep.RegionWith
import Derived.Maps.AppendAt
import Derived.Maps.Range
namespace Go.Proofs.YtidccanfjcanoaaGreatDoor
open Go.RowKit
set_option linter.unusedVariables false

theorem own_set {w : World} {base e g n cap : Nat} {xs : List Value} (h : w.ownsRow base e 1 (.slice (some ⟨g, 0, none⟩) n cap) n xs) (k : Nat) (hk : k < n) (u : Value) :
    (w.setCell ⟨g, k, none⟩ u).ownsRow base e 1 (.slice (some ⟨g, 0, none⟩) n cap) n (xs.set k u) := by
  obtain ⟨hl, h2⟩ := h
  refine ⟨by rw [List.length_set]; exact hl, .inr ?_⟩
  rcases h2 with ⟨h, _⟩ | ⟨g', cap', cur, hv, hb, hg, h3, h4, h5, h6⟩
  · cases h
  · injection hv with h7 _ h8
    obtain rfl : g = g' := by injection h7 with h7; injection h7
    subst h8
    refine ⟨g, cap, cur.setIfInBounds k u, rfl, hb, ?_, h3, h4, by simpa using h5, ?_⟩
    · simp [World.setCell, Array.getElem?_modify, hg]
    · rw [Array.toList_setIfInBounds, List.take_set, h6]
theorem own_cell {w : World} {base e n : Nat} {v : Value} {xs : List Value} (h : w.ownsRow base e 1 v n xs) (k : Nat) (hk : k < n) : ∃ g cap, v = .slice (some ⟨g, 0, none⟩) n cap ∧ base ≤ g ∧ g < w.heap.size ∧ w.cell? ⟨g, k, none⟩ = some (xs.getD k undef) ∧ w.frozen? ⟨g, k, none⟩ = false := by
  have h0 := h
  obtain ⟨hl, h2⟩ := h
  rcases h2 with ⟨_, h⟩ | ⟨g, cap, cur, rfl, hb, hg, h3, h4, h5, h6⟩
  · omega
  · refine ⟨g, cap, rfl, hb, (Array.getElem?_eq_some_iff.1 hg).1, ?_, by simp [World.frozen?, hg]⟩
    rw [h0.cellAt k (by omega), List.getD_eq_getElem?_getD, List.getElem?_eq_getElem (by omega)]
    rfl
/-- Blocks of unlike types differ. -/
theorem own_ne {w : World} {base e e' size n K : Nat} {v : Value} {xs : List Value} {cur : Array Value} {fz : Nat × Nat} (h : w.ownsRow base e size v n xs) (hK : w.heap[K]? = some (.cells cur e' fz)) (hne : e ≠ e') : v.ownBlock ≠ some K := by
  rcases h.2 with ⟨rfl, _⟩ | ⟨g, cap, cur', rfl, _, hg, _⟩
  · simp [Value.ownBlock]
  · intro e1
    obtain rfl : g = K := by simpa [Value.ownBlock] using e1
    rw [hg] at hK
    injection hK with hK
    injection hK with _ h2 _
    exact hne h2
theorem own_grown {w w' : World} {base e size n : Nat} {v : Value} {xs : List Value} {row : Option Nat} (h : w.ownsRow base e size v n xs) (hg : w.grownBy w' row) (hr : v.ownBlock = none ∨ v.ownBlock ≠ row) : w'.ownsRow base e size v n xs := h.kept hg hr
theorem grown_below {w w' : World} {row : Option Nat} (h : Below w.heap.size w w') : w.grownBy w' row := ⟨h.os, h.tape, h.output, h.size, fun k hk _ => h.block k hk⟩
theorem grown_set (w : World) (g k : Nat) (u : Value) : w.grownBy (w.setCell ⟨g, k, none⟩ u) (some g) := by
  refine ⟨rfl, rfl, rfl, ?_, fun i _ hi => ?_⟩
  · simp [World.setCell]
  · exact Below.heap_setCell _ _ _ _ (fun e => hi (by rw [e]))

/-! ### the marks of texts -/
def mkT (n : Nat) : ByteArray := ⟨(35 :: Lib.itoa n).toArray⟩
theorem mkT_eq (n : Nat) : (⟨#[35]⟩ ++ ⟨(Lib.itoa n).toArray⟩ : ByteArray) = mkT n := by
  apply bytes_ext
  simp [mkT]
theorem itoa_small (n : Nat) (h : n ≤ 1000) : (Lib.itoa n).length ≤ 21 := Lib.itoa_length_le n (by omega) (by omega)
set_option maxHeartbeats 400000 in
theorem markWord_any (n : Nat) (hn : n ≤ 1000) (w : World) (hP : Pow10 w) :
    Calls Tryz.prog 134 #[.int .i64 n] w fun e w' => e = .returned (.string (mkT n)) ∧ Below w.heap.size w w' := by
  have hs := bld_size (Lib.itoa n)
  have hl := itoa_small n hn
  have HM := Lib.hid (mkT_eq n)
  have hI := itoa_c (n : Int) (by omega) w hP
  obtain ⟨y, hy⟩ : ∃ y : ByteArray, y = ⟨(Lib.itoa n).toArray⟩ := ⟨_, rfl⟩
  rw [← hy] at hs HM hI
  have HI := Lib.hid hI
  have hys : y.size ≤ 21 := by omega
  clear hs hl hI hy
  go_enter Tryz.func134, Tryz.ntmps134
  go_wp2_with fail
  refine HI.out.mono ?_
  rintro e w1 ⟨rfl, b1⟩
  go_wp2_with fail
  go_ret
  exact ⟨ret_str (by rw [← HM.out]), b1⟩
set_option maxHeartbeats 400000 in
theorem markText_any (n : Nat) (hn : n ≤ 1000) (w : World) (hP : Pow10 w) :
    Calls Tryz.prog 90 #[.int .i64 n] w fun e w' => e = .returned (.string (mkT n)) ∧ Below w.heap.size w w' := by
  have H := Lib.hid (markWord_any n hn w hP)
  go_enter Tryz.func90, Tryz.ntmps90
  go_wp2_with fail
  refine H.out.mono ?_
  rintro e w1 ⟨rfl, b1⟩
  go_wp2_with fail
  go_ret
  exact ⟨rfl, b1⟩
set_option maxHeartbeats 400000 in
theorem isText_any (n : Nat) (hn : n ≤ 1000) (w : World) (hP : Pow10 w) :
    Calls Tryz.prog 107 #[.string (mkT n), .int .i64 n] w fun e w' => e = .returned (.bool true) ∧ Below w.heap.size w w' := by
  have H := Lib.hid (markWord_any n hn w hP)
  have hself : ((mkT n).toList == (mkT n).toList) = true := by simp
  go_enter Tryz.func107, Tryz.ntmps107
  go_wp2_with fail
  refine H.out.mono ?_
  rintro e w1 ⟨rfl, b1⟩
  go_wp2_with fail
  go_ret
  exact ⟨ret_bool (by simp), b1⟩
end Go.Proofs.YtidccanfjcanoaaGreatDoor

/-
  PATHS: Check, Page, Link, by contract; the document's Check.
-/
import Derived.Test.YtcainpicbkncpaaDoorNameW
import Derived.Test.YtcainpicbkncpaaDoorPathP
import Derived.Test.YtcainpicbkncpaaDoorShelf
namespace Go.Proofs.YtcainpicbkncpaaDoor
open Go.RowKit
set_option linter.unusedVariables false

/-- The library's limit holds an int. -/
def ML (w : World) : Prop := ∃ m : Int, w.cell? ⟨0, 0, none⟩ = some (.int .i64 m)
theorem ML.below {w w' : World} (h : ML w) (hb : Below w.heap.size w w') : ML w' := by
  obtain ⟨m, hm⟩ := h
  exact ⟨m, (hb.cell (p := ⟨_, 0, none⟩) (World.block_lt_of_cell? _ _ hm)).trans hm⟩
theorem lb_len (s : ByteArray) : (lb s).length = s.size := (Lib.size_eq s).symm
theorem lb_ext (s : ByteArray) (a b : Nat) : lb (s.extract a b) = ((lb s).drop a).take (b - a) := Lib.extract_data s a b

def s46 : ByteArray := ⟨#[46]⟩
set_option maxHeartbeats 1000000 in
set_option maxRecDepth 100000 in
theorem all_names (B n c : Nat) (xs : List ByteArray) (w : World) (hn : xs.length = n) (hn2 : n ≤ 1000) (hsz : ∀ x ∈ xs, x.size ≤ 1000)
    (hc : ∀ j, j < n → w.cell? ⟨B, j, none⟩ = some (.string (xs.getD j ByteArray.empty))) :
    Calls Tryd.prog 15 #[.func (.func 11) #[] #[], .slice (some ⟨B, 0, none⟩) n c] w fun e w' => e = .returned (.bool (xs.all (fun x => Pl.name (lb x)) && decide (0 < n))) ∧ w = w' := by
  go_enter Tryd.func15, Tryd.ntmps15
  go_wp2_with fail
  go_loop [9] (fun i => ∃ k : Nat, k ≤ n ∧ i = .int .i64 k ∧ (xs.take k).all (fun x => Pl.name (lb x)) = true) (fun i => n - (intOf i).toNat)
  case atStart => exact ⟨0, by omega, rfl, by simp⟩
  case round =>
    obtain ⟨k, hk, rfl, hall⟩ := hrel
    have HN := Lib.hid hn
    have HA := Lib.hid hall
    clear hall
    by_cases hlt : k < n
    · have c1 := hc k hlt
      have hx : xs.getD k ByteArray.empty ∈ xs := by rw [List.getD_eq_getElem?_getD, List.getElem?_eq_getElem (by rw [HN.out]; exact hlt)]; exact List.getElem_mem _
      have hsx := hsz _ hx
      have hts : Hid (xs.take (k + 1) = xs.take k ++ [xs.getD k ByteArray.empty]) := Lib.hid (by rw [List.getD_eq_getElem?_getD, List.getElem?_eq_getElem (by rw [HN.out]; exact hlt)]; exact List.take_succ_eq_append_getElem (by rw [HN.out]; exact hlt))
      have HX := Lib.hid hx
      clear hc hsz hx hn
      generalize xs.getD k ByteArray.empty = x at *
      rcases hp : Pl.name (lb x)
      · have HP := Lib.hid hp
        have hcn := name_any x (by omega)
        rw [show Pl.name x.data.toList = false from hp] at hcn
        have HCN := Lib.hid hcn
        clear hp hcn
        go_wp2_with fail
        refine (HCN.out _).mono ?_
        rintro e w' ⟨rfl, rfl⟩
        go_wp2_with fail
        go_ret
        refine ⟨ret_bool ?_, rfl⟩
        have : xs.all (fun x => Pl.name (lb x)) = false := by
          rw [List.all_eq_false]
          exact ⟨x, HX.out, by rw [HP.out]; simp⟩
        rw [this]; rfl
      · have HP := Lib.hid hp
        have hcn := name_any x (by omega)
        rw [show Pl.name x.data.toList = true from hp] at hcn
        have HCN := Lib.hid hcn
        clear hp hcn
        go_wp2_with fail
        refine (HCN.out _).mono ?_
        rintro e w' ⟨rfl, rfl⟩
        go_wp2_with fail
        go_round
        case rel => exact ⟨k + 1, by omega, by go_num, by rw [hts.out, List.all_append, HA.out]; simp [HP.out]⟩
        case measure => simp [intOf]; omega
    · obtain rfl : k = n := by omega
      clear hn hc hsz
      have hA := HA.out
      rw [List.take_of_length_le (by rw [HN.out]; exact Nat.le_refl _)] at hA
      have HA2 := Lib.hid hA
      clear hA
      go_wp2_with fail
      go_ret
      exact ⟨ret_bool (by rw [HA2.out]; simp), rfl⟩

theorem split_len (s : ByteArray) : (Lib.splitB s46 0 (Lib.countB s s46) s).length = Lib.countB s s46 + 1 := Lib.splitB_all s46 (by decide) 0 _ s rfl
theorem split_names (s : ByteArray) : (Lib.splitB s46 0 (Lib.countB s s46) s).all (fun x => Pl.name (lb x)) = Pa.names (lb s) := by
  have h := Lib.splitB_data s46 0 (Lib.countB s s46) s
  have h2 := Pa.split_pieces (lb s)
  unfold Pa.names
  rw [← h2]
  have h3 : Lib.splitK [46] 0 (Lib.count (lb s) [46]) (lb s) = (Lib.splitB s46 0 (Lib.countB s s46) s).map (·.data.toList) := h.symm
  rw [h3, List.all_map]
  rfl
theorem split_size (s : ByteArray) : ∀ (k : Nat) (t : ByteArray), t.size ≤ s.size → ∀ x ∈ Lib.splitB s46 0 k t, x.size ≤ s.size
  | 0, t, ht, x, hx => by
    rw [Lib.splitB_zero] at hx
    simp at hx; subst hx; exact ht
  | k + 1, t, ht, x, hx => by
    unfold Lib.splitB at hx
    split at hx
    · simp at hx; subst hx; exact ht
    · rcases List.mem_cons.1 hx with rfl | h
      · rw [ByteArray.size_extract]; omega
      · exact split_size s k _ (by rw [ByteArray.size_extract]; omega) x h
set_option maxHeartbeats 1000000 in
set_option maxRecDepth 100000 in
theorem check_any (s : ByteArray) (hs : s.size ≤ 140737488351232) (w : World) (hM : ML w) :
    Calls Tryd.prog 8 #[.string s] w fun e w' => e = .returned (.bool (Pa.check (lb s))) ∧ Below w.heap.size w w' := by
  obtain ⟨m, hm⟩ := hM
  by_cases h60 : s.size ≤ 60
  · have hsp := Tryd.strings_Split s s46 m w (by omega) hm (by decide)
    have hlen := split_len s
    have hle := Lib.countB_le s46 (by decide) s.size s (Nat.le_refl _)
    have hal := all_names w.heap.size (Lib.countB s s46 + 1) (Lib.countB s s46 + 1) (Lib.splitB s46 0 (Lib.countB s s46) s) (w.alloc (.cells ((Lib.splitB s46 0 (Lib.countB s s46) s).map Value.string).toArray 9)) hlen (by omega)
      (fun x hx => by have := split_size s _ s (Nat.le_refl _) x hx; omega)
      (fun j hj => by
        rw [World.cell?_alloc_at (hn := rfl)]
        rw [List.getElem?_toArray, List.getElem?_map, List.getD_eq_getElem?_getD, List.getElem?_eq_getElem (by rw [hlen]; exact hj)]; rfl)
    rw [split_names, show decide (0 < Lib.countB s s46 + 1) = true by simp, Bool.and_true] at hal
    have hck : Pa.check (lb s) = Pa.names (lb s) := by unfold Pa.check; rw [lb_len, decide_eq_true h60]; rfl
    rw [hck]
    have HS := Lib.hid hsp
    have HAL := Lib.hid hal
    have h60i : (s.size : Int) ≤ 60 := by omega
    clear hsp hal hm hlen hle hck
    go_enter Tryd.func8, Tryd.ntmps8
    go_wp2_with fail
    refine HS.out.mono ?_
    rintro e w' ⟨rfl, rfl⟩
    go_wp2_with fail
    refine HAL.out.mono ?_
    rintro e w' ⟨rfl, rfl⟩
    go_wp2_with fail
    go_ret
    exact ⟨ret_bool (by simp), (Below.refl _ _).alloc (Nat.le_refl _) _⟩
  · have hck : Pa.check (lb s) = false := by unfold Pa.check; rw [lb_len, decide_eq_false h60]; rfl
    rw [hck]
    have h60i : ¬ (s.size : Int) ≤ 60 := by omega
    clear hck hm
    go_enter Tryd.func8, Tryd.ntmps8
    go_wp2_with fail
    go_ret
    exact ⟨rfl, Below.refl _ _⟩
end Go.Proofs.YtcainpicbkncpaaDoor

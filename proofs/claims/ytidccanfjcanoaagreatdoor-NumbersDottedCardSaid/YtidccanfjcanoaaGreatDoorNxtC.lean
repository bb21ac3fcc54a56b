/-
  Next, by contract: the code's, and the reference's.
-/
import Derived.Test.YtidccanfjcanoaaGreatDoorNextW
import Derived.Test.YtidccanfjcanoaaGreatDoorLeftI
import Derived.RegionTactic
namespace Go.Proofs.YtidccanfjcanoaaGreatDoor
open Go.RowKit
set_option linter.unusedVariables false

/-! ### what both answer -/
def nxBad (l : List Int) (v : Int) : Prop := v < 1 ∨ 3 < v ∨ 3 < l.length ∨ ∃ x ∈ l, x < 0 ∨ 3999 < x
def nxLast (l : List Int) (v : Int) : Int := (pad l v.toNat).getD (v.toNat - 1) 0
open Classical in
noncomputable def nxE (l : List Int) (v : Int) : Int := if nxBad l v then 1 else if 3999 ≤ nxLast l v then 3 else 0
open Classical in
noncomputable def nxL (l : List Int) (v : Int) : List Int := if nxBad l v then [] else if 3999 ≤ nxLast l v then [] else (pad l v.toNat).set (v.toNat - 1) (nxLast l v + 1)
def NxtAns (l : List Int) (v : Int) (w : World) (e : Ending) (w' : World) : Prop :=
  ∃ r, e = .returned (.tuple #[r, .int .i64 (nxE l v)]) ∧ w'.ownsRow w.heap.size 3 1 r (nxL l v).length ((nxL l v).map (Value.int .i64)) ∧ Below w.heap.size w w'
theorem nxtAns_bad {l : List Int} {v : Int} {w w' : World} {e : Ending} (h : nxBad l v) (he : e = .returned (.tuple #[.slice none 0 0, .int .i64 1])) (hb : Below w.heap.size w w') : NxtAns l v w e w' := by
  refine ⟨.slice none 0 0, ?_, ?_, hb⟩
  · rw [he, nxE, if_pos h]
  · rw [nxL, if_pos h]; exact World.ownsRow_nil _ _ _ _
theorem nxtAns_big {l : List Int} {v : Int} {w w' : World} {e : Ending} (h : ¬ nxBad l v) (hl : 3999 ≤ nxLast l v) (he : e = .returned (.tuple #[.slice none 0 0, .int .i64 3])) (hb : Below w.heap.size w w') : NxtAns l v w e w' := by
  refine ⟨.slice none 0 0, ?_, ?_, hb⟩
  · rw [he, nxE, if_neg h, if_pos hl]
  · rw [nxL, if_neg h, if_pos hl]; exact World.ownsRow_nil _ _ _ _
theorem nxtAns_ok {l : List Int} {v : Int} {w w' : World} {e : Ending} {r : Value} {L : Nat} (hL : v = (L : Int)) (h : ¬ nxBad l v) (hl : ¬ 3999 ≤ nxLast l v) (he : e = .returned (.tuple #[r, .int .i64 0]))
    (hr : w'.ownsRow w.heap.size 3 1 r L (((pad l L).map (Value.int .i64)).set (L - 1) (.int .i64 ((pad l L).getD (L - 1) 0 + 1)))) (hb : Below w.heap.size w w') : NxtAns l v w e w' := by
  refine ⟨r, ?_, ?_, hb⟩
  · rw [he, nxE, if_neg h, if_neg hl]
  · have h3 : L ≤ 3 := by unfold nxBad at h; omega
    have hlen := pad_length l L h3
    subst hL
    rw [nxL, if_neg h, if_neg hl, List.map_set, List.length_set]
    unfold nxLast
    rw [Int.toNat_natCast, hlen]
    exact hr
theorem nx_cases (l : List Int) (v : Int) : (v < 1 ∨ 3 < v) ∨ (1 ≤ v ∧ v ≤ 3 ∧ 3 < l.length) ∨ (1 ≤ v ∧ v ≤ 3 ∧ l.length ≤ 3 ∧ ∃ x ∈ l, x < 0 ∨ 3999 < x) ∨ (1 ≤ v ∧ v ≤ 3 ∧ l.length ≤ 3 ∧ ∀ x ∈ l, 0 ≤ x ∧ x ≤ 3999) := by
  by_cases h1 : v < 1 ∨ 3 < v
  · exact .inl h1
  · by_cases h2 : 3 < l.length
    · exact .inr (.inl ⟨by omega, by omega, h2⟩)
    · by_cases h3 : ∃ x ∈ l, x < 0 ∨ 3999 < x
      · exact .inr (.inr (.inl ⟨by omega, by omega, by omega, h3⟩))
      · refine .inr (.inr (.inr ⟨by omega, by omega, by omega, fun x hx => ?_⟩))
        have h5 : ¬ (x < 0 ∨ 3999 < x) := fun h => h3 ⟨x, hx, h⟩
        omega
theorem pad_range {l : List Int} (hx : ∀ x ∈ l, 0 ≤ x ∧ x ≤ 3999) (L i : Nat) : 0 ≤ (pad l L).getD i 0 ∧ (pad l L).getD i 0 ≤ 3999 := by
  rw [List.getD_eq_getElem?_getD]
  cases hq : (pad l L)[i]? with
  | none => constructor <;> decide
  | some x =>
    have := List.mem_of_getElem? hq
    have := List.mem_of_mem_take this
    rcases List.mem_append.1 this with h | h
    · exact hx x h
    · simp at h; subst h; constructor <;> decide
theorem pad_in {l : List Int} {L k : Nat} (h : k < l.length) (hL : k < L) : (pad l L).getD k 0 = l.getD k 0 := by
  rw [pad, List.getD_eq_getElem?_getD, List.getD_eq_getElem?_getD, List.getElem?_take, if_pos hL, List.getElem?_append_left h]
theorem pad_out {l : List Int} {L k : Nat} (h : ¬ k < l.length) : (pad l L).getD k 0 = 0 := by
  rw [pad, List.getD_eq_getElem?_getD, List.getElem?_take]
  split
  · rw [List.getElem?_append_right (by omega)]
    rcases (by omega : k - l.length = 0 ∨ k - l.length = 1 ∨ k - l.length = 2 ∨ 3 ≤ k - l.length) with e | e | e | e
    · rw [e]; rfl
    · rw [e]; rfl
    · rw [e]; rfl
    · rw [List.getElem?_eq_none (by simpa using e)]; rfl
  · rfl

/-! ### the code's -/
set_option maxHeartbeats 1000000 in
set_option maxRecDepth 100000 in
theorem next_long (A : Option Addr) (n c : Nat) (v : Int) (h1 : 1 ≤ v) (h2 : v ≤ 3) (hn : 3 < n) (w : World) :
    Calls Tryz.prog 14 #[.slice A n c, .int .i64 v] w fun e w' => e = .returned (.tuple #[.slice none 0 0, .int .i64 1]) ∧ w' = w := by
  have d1 : ¬ v < 1 := by omega
  have d2 : ¬ 3 < v := by omega
  have d3 : (3 : Int) < (n : Int) := by omega
  go_enter Tryz.func14, Tryz.ntmps14
  go_wp2_with fail
  go_ret2
  exact ⟨rfl, rfl⟩
set_option maxHeartbeats 1000000 in
set_option maxRecDepth 100000 in
theorem next_bad (A : Option Addr) (n c : Nat) (l : List Int) (v : Int) (hl : l.length = n) (h1 : 1 ≤ v) (h2 : v ≤ 3) (hn : n ≤ 3) (hx : ∃ x ∈ l, x < 0 ∨ 3999 < x) (w : World) (hA : IR w A l) :
    Calls Tryz.prog 14 #[.slice A n c, .int .i64 v] w fun e w' => e = .returned (.tuple #[.slice none 0 0, .int .i64 1]) ∧ w' = w := by
  have d1 : ¬ v < 1 := by omega
  have d2 : ¬ 3 < v := by omega
  have d3 : ¬ (3 : Int) < (n : Int) := by omega
  have HA := Lib.hid hA
  have HX := Lib.hid hx
  have HL := Lib.hid hl
  clear hA hx hl
  go_enter Tryz.func14, Tryz.ntmps14
  go_wp2_with fail
  go_loop [22] (fun i => ∃ k : Nat, k ≤ n ∧ i = .int .i64 k ∧ ∀ j, j < k → 0 ≤ l.getD j 0 ∧ l.getD j 0 ≤ 3999) (fun i => n - (intOf i).toNat)
  case atStart => exact ⟨0, Nat.zero_le _, rfl, fun j hj => by omega⟩
  case round =>
    obtain ⟨k, hk, rfl, hall⟩ := hrel
    have HALL := Lib.hid hall
    clear hall
    by_cases hlt : k < n
    · obtain ⟨b, o, rfl, hbl, hc⟩ := HA.out (by intro h0; have := HL.out; rw [h0] at this; simp at this; omega)
      have c1 := hc k (by rw [HL.out]; exact hlt)
      clear hc
      obtain ⟨x, hxe⟩ : ∃ x, l.getD k 0 = x := ⟨_, rfl⟩
      rw [hxe] at c1
      have HXE := Lib.hid hxe
      clear hxe
      by_cases hb1 : x < 0
      · go_wp2_with fail
        go_ret2
        exact ⟨rfl, rfl⟩
      · by_cases hb2 : 3999 < x
        · go_wp2_with fail
          go_ret2
          exact ⟨rfl, rfl⟩
        · go_wp2_with fail
          go_round
          case rel => exact ⟨k + 1, by omega, by go_num, fun j hj => by
            rcases Nat.lt_succ_iff_lt_or_eq.1 hj with h | rfl
            · exact HALL.out j h
            · rw [HXE.out]; omega⟩
          case measure => simp [intOf]; omega
    · exfalso
      obtain ⟨x, hm, hbad⟩ := HX.out
      obtain ⟨j, hj, rfl⟩ := List.mem_iff_getElem.1 hm
      have h3 := HALL.out j (by have := HL.out; omega)
      rw [getDI l j hj] at h3
      omega
theorem next_ans (A : Option Addr) (n c : Nat) (l : List Int) (v : Int) (hl : l.length = n) (w : World) (hA : IR w A l) : Calls Tryz.prog 14 #[.slice A n c, .int .i64 v] w (NxtAns l v w) := by
  rcases nx_cases l v with h | ⟨h1, h2, h3⟩ | ⟨h1, h2, h3, h4⟩ | ⟨h1, h2, h3, h4⟩
  · refine (next_level A n c v h w).mono ?_
    rintro e w' ⟨he, rfl⟩
    exact nxtAns_bad (h.elim .inl (fun h => .inr (.inl h))) he (Below.refl _ _)
  · refine (next_long A n c v h1 h2 (by omega) w).mono ?_
    rintro e w' ⟨he, rfl⟩
    exact nxtAns_bad (.inr (.inr (.inl h3))) he (Below.refl _ _)
  · refine (next_bad A n c l v hl h1 h2 (by omega) h4 w hA).mono ?_
    rintro e w' ⟨he, rfl⟩
    exact nxtAns_bad (.inr (.inr (.inr h4))) he (Below.refl _ _)
  · obtain ⟨L, rfl⟩ : ∃ L : Nat, v = (L : Int) := ⟨v.toNat, by omega⟩
    have hnb : ¬ nxBad l (L : Int) := by
      rintro (h | h | h | ⟨x, hx, h⟩)
      · omega
      · omega
      · omega
      · have := h4 x hx; omega
    refine (next_good A n c L l hl (by omega) (by omega) (by omega) h4 w hA).mono ?_
    rintro e w' ⟨h | ⟨h5, he, hr⟩, hb⟩
    · exact nxtAns_big hnb (by unfold nxLast; rw [Int.toNat_natCast]; exact h.1) h.2 hb
    · refine nxtAns_ok rfl hnb (by unfold nxLast; rw [Int.toNat_natCast]; omega) he (hr.own (Nat.le_refl _) (by rw [List.length_set, List.length_map, pad_length l L (by omega)]) (by unfold maxLen; omega)) hb

/-! ### the reference's -/
set_option maxHeartbeats 1000000 in
set_option maxRecDepth 100000 in
theorem refNext_level (A : Option Addr) (n c : Nat) (v : Int) (h : v < 1 ∨ 3 < v) (w : World) :
    Calls Tryz.prog 15 #[.slice A n c, .int .i64 v] w fun e w' => e = .returned (.tuple #[.slice none 0 0, .int .i64 1]) ∧ Below w.heap.size w w' := by
  by_cases h1 : v < 1
  · go_enter Tryz.func15, Tryz.ntmps15
    go_wp2_with fail
    go_ret2
    exact ⟨rfl, Below.refl _ _⟩
  · have h2 : 3 < v := by omega
    clear h
    go_enter Tryz.func15, Tryz.ntmps15
    go_wp2_with fail
    go_ret2
    exact ⟨rfl, Below.refl _ _⟩
set_option maxHeartbeats 1000000 in
set_option maxRecDepth 100000 in
theorem refNext_long (A : Option Addr) (n c : Nat) (v : Int) (h1 : 1 ≤ v) (h2 : v ≤ 3) (hn : 3 < n) (w : World) :
    Calls Tryz.prog 15 #[.slice A n c, .int .i64 v] w fun e w' => e = .returned (.tuple #[.slice none 0 0, .int .i64 1]) ∧ Below w.heap.size w w' := by
  have d1 : ¬ v < 1 := by omega
  have d2 : ¬ 3 < v := by omega
  have d3 : (3 : Int) < (n : Int) := by omega
  go_enter Tryz.func15, Tryz.ntmps15
  go_wp2_with fail
  go_ret2
  exact ⟨rfl, Below.refl _ _⟩
set_option maxHeartbeats 1000000 in
set_option maxRecDepth 100000 in
theorem refNext_bad (A : Option Addr) (n c : Nat) (l : List Int) (v : Int) (hl : l.length = n) (h1 : 1 ≤ v) (h2 : v ≤ 3) (hn : n ≤ 3) (hx : ∃ x ∈ l, x < 0 ∨ 3999 < x) (w : World) (hA : IR w A l) :
    Calls Tryz.prog 15 #[.slice A n c, .int .i64 v] w fun e w' => e = .returned (.tuple #[.slice none 0 0, .int .i64 1]) ∧ Below w.heap.size w w' := by
  have d1 : ¬ v < 1 := by omega
  have d2 : ¬ 3 < v := by omega
  have d3 : ¬ (3 : Int) < (n : Int) := by omega
  have HA := Lib.hid hA
  have HX := Lib.hid hx
  have HL := Lib.hid hl
  clear hA hx hl
  go_enter Tryz.func15, Tryz.ntmps15
  go_wp2_with fail
  go_loop [6] (fun i => ∃ k : Nat, k ≤ n ∧ i = .int .i64 k ∧ ∀ j, j < k → 0 ≤ l.getD j 0 ∧ l.getD j 0 ≤ 3999) (fun i => n - (intOf i).toNat)
  case atStart => exact ⟨0, Nat.zero_le _, rfl, fun j hj => by omega⟩
  case round =>
    obtain ⟨k, hk, rfl, hall⟩ := hrel
    have HALL := Lib.hid hall
    clear hall
    by_cases hlt : k < n
    · obtain ⟨b, o, rfl, hbl, hc⟩ := HA.out (by intro h0; have := HL.out; rw [h0] at this; simp at this; omega)
      have c1 := hc k (by rw [HL.out]; exact hlt)
      clear hc
      obtain ⟨x, hxe⟩ : ∃ x, l.getD k 0 = x := ⟨_, rfl⟩
      rw [hxe] at c1
      have HXE := Lib.hid hxe
      clear hxe
      by_cases hb1 : x < 0
      · go_wp2_with fail
        go_ret2
        exact ⟨rfl, Below.refl _ _⟩
      · by_cases hb2 : 3999 < x
        · go_wp2_with fail
          go_ret2
          exact ⟨rfl, Below.refl _ _⟩
        · go_wp2_with fail
          go_round
          case rel => exact ⟨k + 1, by omega, by go_num, fun j hj => by
            rcases Nat.lt_succ_iff_lt_or_eq.1 hj with h | rfl
            · exact HALL.out j h
            · rw [HXE.out]; omega⟩
          case measure => simp [intOf]; omega
    · exfalso
      obtain ⟨x, hm, hbad⟩ := HX.out
      obtain ⟨j, hj, rfl⟩ := List.mem_iff_getElem.1 hm
      have h3 := HALL.out j (by have := HL.out; omega)
      rw [getDI l j hj] at h3
      omega
end Go.Proofs.YtidccanfjcanoaaGreatDoor

/-
  WALKS, BASE: Beyond (are these sizes together too much?).
-/
import Derived.Test.YtidccanfjcanoaaGreatDoorBase0
namespace Go.Proofs.YtidccanfjcanoaaGreatDoor
open Go.RowKit

/-- The sum of sizes. -/
def sumI (l : List Int) : Int := l.foldr (· + ·) 0
def most : Int := 1048576
def beyond (l : List Int) : Bool := decide (1048576 < sumI l)
theorem sumI_take_succ (l : List Int) (k : Nat) (h : k < l.length) : sumI (l.take (k + 1)) = sumI (l.take k) + l.getD k 0 := by
  induction l generalizing k with
  | nil => simp at h
  | cons a l ih =>
    cases k with
    | zero => simp [sumI]
    | succ k =>
      have := ih k (by simpa using h)
      simp only [List.take_succ_cons, sumI, List.foldr_cons, List.getD_cons_succ] at this ⊢
      omega
theorem sumI_le (l : List Int) (hp : ∀ x ∈ l, 0 ≤ x) : ∀ k, 0 ≤ sumI (l.take k) ∧ sumI (l.take k) ≤ sumI l := by
  induction l with
  | nil => intro k; simp [sumI]
  | cons a l ih =>
    intro k
    have ha := hp a (List.mem_cons_self ..)
    have h0 := ih (fun x hx => hp x (List.mem_cons_of_mem _ hx)) 0
    cases k with
    | zero => simp only [List.take_zero, sumI, List.foldr_nil, List.foldr_cons] at h0 ⊢; omega
    | succ k =>
      have := ih (fun x hx => hp x (List.mem_cons_of_mem _ hx)) k
      simp only [List.take_succ_cons, sumI, List.foldr_cons] at this ⊢
      omega

set_option maxHeartbeats 400000 in
theorem beyond_any (b : Nat) (n cap : Nat) (zs : List Int) (w : World) (hz : zs.length = n) (hn : n ≤ 1000) (hp : ∀ x ∈ zs, 0 ≤ x ∧ x ≤ 140737488351232)
    (hc : ∀ j, j < n → w.cell? ⟨b, j, none⟩ = some (.int .i64 (zs.getD j 0))) :
    Calls Tryz.prog 7 #[.slice (some ⟨b, 0, none⟩) n cap] w fun e w' => e = .returned (.bool (beyond zs)) ∧ w = w' := by
  go_enter Tryz.func7, Tryz.ntmps7
  go_wp2
  go_loop [3, 4] (fun t i => ∃ k : Nat, k ≤ n ∧ i = .int .i64 k ∧ t = .int .i64 (sumI (zs.take k)) ∧ sumI (zs.take k) ≤ 1048576) (fun _ i => n - (intOf i).toNat)
  case atStart => exact ⟨0, Nat.zero_le _, rfl, rfl, by simp [sumI]⟩
  case round =>
    obtain ⟨k, hk, rfl, rfl, hle⟩ := hrel
    have hs := sumI_le zs (fun x hx => (hp x hx).1) k
    by_cases hlt : k < n
    · have hcell := hc k hlt
      have hx := hp (zs.getD k 0) (by rw [List.getD_eq_getElem?_getD, List.getElem?_eq_getElem (by omega)]; exact List.getElem_mem _)
      have HS := Lib.hid (sumI_take_succ zs k (by omega))
      have ht := sumI_le zs (fun x hx => (hp x hx).1) (k + 1)
      generalize zs.getD k 0 = x at *
      clear hc hp
      obtain ⟨H1, H2⟩ := hx
      by_cases hb : sumI (zs.take k) + x ≤ 1048576
      · go_wp2
        go_round
        case rel => exact ⟨k + 1, by omega, by go_num, by rw [HS.out], by rw [HS.out]; exact hb⟩
        case measure => simp [intOf]; omega
      · have hb' : (1048576 : Int) < sumI (zs.take k) + x := by omega
        go_wp2
        go_ret
        refine ⟨ret_bool ?_, rfl⟩
        have := HS.out
        simp only [beyond]
        symm
        simp only [decide_eq_true_eq]
        omega
    · have : k = n := by omega
      subst this
      go_wp2
      go_ret
      refine ⟨ret_bool ?_, rfl⟩
      simp only [beyond]
      symm
      simp only [decide_eq_false_iff_not]
      rw [List.take_of_length_le (by omega)] at hle
      omega

/-! ### Beyond, at one to four sizes: the slice is laid by the call's own text. -/
section
variable (w : World)
theorem beyond1 (a : Nat) (ha : a ≤ 140737488351232) :
    Calls Tryz.prog 7 #[.slice (some ⟨w.heap.size, 0, none⟩) 1 1] (w.alloc (.cells #[.int .i64 (a : Int)] 3)) fun e w' => e = .returned (.bool (beyond [(a : Int)])) ∧ w.alloc (.cells #[.int .i64 (a : Int)] 3) = w' :=
  beyond_any _ 1 1 [(a : Int)] _ rfl (by omega) (by intro x hx; simp at hx; omega) (by
    intro j hj
    obtain rfl : j = 0 := by omega
    simp [World.cell?_alloc_at])
theorem beyond2 (a b : Nat) (ha : a ≤ 140737488351232) (hb : b ≤ 140737488351232) :
    Calls Tryz.prog 7 #[.slice (some ⟨w.heap.size, 0, none⟩) 2 2] (w.alloc (.cells #[.int .i64 (a : Int), .int .i64 (b : Int)] 3)) fun e w' => e = .returned (.bool (beyond [(a : Int), b])) ∧ w.alloc (.cells #[.int .i64 (a : Int), .int .i64 (b : Int)] 3) = w' :=
  beyond_any _ 2 2 [(a : Int), b] _ rfl (by omega) (by intro x hx; simp at hx; omega) (by
    intro j hj
    match j, hj with
    | 0, _ => simp [World.cell?_alloc_at]
    | 1, _ => simp [World.cell?_alloc_at])
theorem beyond3 (a b c : Nat) (ha : a ≤ 140737488351232) (hb : b ≤ 140737488351232) (hc : c ≤ 140737488351232) :
    Calls Tryz.prog 7 #[.slice (some ⟨w.heap.size, 0, none⟩) 3 3] (w.alloc (.cells #[.int .i64 (a : Int), .int .i64 (b : Int), .int .i64 (c : Int)] 3)) fun e w' => e = .returned (.bool (beyond [(a : Int), b, c])) ∧ w.alloc (.cells #[.int .i64 (a : Int), .int .i64 (b : Int), .int .i64 (c : Int)] 3) = w' :=
  beyond_any _ 3 3 [(a : Int), b, c] _ rfl (by omega) (by intro x hx; simp at hx; omega) (by
    intro j hj
    match j, hj with
    | 0, _ => simp [World.cell?_alloc_at]
    | 1, _ => simp [World.cell?_alloc_at]
    | 2, _ => simp [World.cell?_alloc_at])
theorem beyond4 (a b c d : Nat) (ha : a ≤ 140737488351232) (hb : b ≤ 140737488351232) (hc : c ≤ 140737488351232) (hd : d ≤ 140737488351232) :
    Calls Tryz.prog 7 #[.slice (some ⟨w.heap.size, 0, none⟩) 4 4] (w.alloc (.cells #[.int .i64 (a : Int), .int .i64 (b : Int), .int .i64 (c : Int), .int .i64 (d : Int)] 3)) fun e w' => e = .returned (.bool (beyond [(a : Int), b, c, d])) ∧ w.alloc (.cells #[.int .i64 (a : Int), .int .i64 (b : Int), .int .i64 (c : Int), .int .i64 (d : Int)] 3) = w' :=
  beyond_any _ 4 4 [(a : Int), b, c, d] _ rfl (by omega) (by intro x hx; simp at hx; omega) (by
    intro j hj
    match j, hj with
    | 0, _ => simp [World.cell?_alloc_at]
    | 1, _ => simp [World.cell?_alloc_at]
    | 2, _ => simp [World.cell?_alloc_at]
    | 3, _ => simp [World.cell?_alloc_at])
end

end Go.Proofs.YtidccanfjcanoaaGreatDoor

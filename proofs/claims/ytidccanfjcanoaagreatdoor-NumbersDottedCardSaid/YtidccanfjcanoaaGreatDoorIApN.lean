/-
  Book.Apart for rows of ints: two rows, three rows (printed by gen_iapt.py).
-/
import Derived.Test.YtidccanfjcanoaaGreatDoorIApM
import Derived.Test.YtidccanfjcanoaaGreatDoorAptN
namespace Go.Proofs.YtidccanfjcanoaaGreatDoor
open Go.RowKit
set_option linter.unusedVariables false

theorem apartI_2 (K B gp : Nat) (hgp : Pow10At gp) (hgB : gp < B) (tv : Value) (x y : Value) (nx ny : Nat) (lx ly : List Value) (w : World) (hBw : B ≤ w.heap.size) (hKB : B ≤ K) (hP : Pow10 w)
    (hnx : nx ≤ 1099511627776) (hny : ny ≤ 1099511627776)
    (hK : w.heap[K]? = some (.cells (bookC 2 tv nilV) 44 (0, 0)))
    (hown : w.ownsRow B 80 3 tv 2 [x, nilV, .int .i64 1, y, nilV, .int .i64 2])
    (hx : w.ownsRow B 3 1 x nx lx) (hy : w.ownsRow B 3 1 y ny ly) (hxy : x.ownBlock = none ∨ x.ownBlock ≠ y.ownBlock) :
    Calls Tryz.prog 12 #[.pointer (some ⟨K, 0, none⟩)] w fun e w' => e = .returned (.bool true) ∧ Below B w w' := by
  obtain ⟨H, cap, rfl⟩ := own_succ3 (k := 1) hown
  have cellH : ∀ k, k < 6 → w.cell? ⟨H, k, none⟩ = some ([x, nilV, .int .i64 1, y, nilV, .int .i64 2].getD k undef) := fun k hk => by
    rw [hown.cellAt k (by simpa using hk), List.getD_eq_getElem?_getD, List.getElem?_eq_getElem (by simpa using hk)]
    rfl
  refine apart_ints K B gp H 2 cap 2 (by decide) hgp hgB (two x y) (twoN nx ny) (twoL lx ly) w hBw hKB (head_lies hown) hP (fun j hj => ?_) hK ⟨by rw [Lib.cell_of_heap hK]; rfl, ⟨_, _, hK⟩, own_at hown rfl, fun j hj => ?_, fun j hj => ?_, fun j hj => ?_⟩ (fun j hj => ?_) (fun i j hi hj hij => ?_)
  · match j, hj with
    | 0, _ => exact hnx
    | 1, _ => exact hny
  · match j, hj with
    | 0, _ => exact cellH 0 (by decide)
    | 1, _ => exact cellH 3 (by decide)
  · match j, hj with
    | 0, _ => exact cellH 1 (by decide)
    | 1, _ => exact cellH 4 (by decide)
  · match j, hj with
    | 0, _ => exact cellH 2 (by decide)
    | 1, _ => exact cellH 5 (by decide)
  · match j, hj with
    | 0, _ => exact hx
    | 1, _ => exact hy
  · match i, j, hi, hj, hij with
    | 0, 0, _, _, h => exact absurd rfl h
    | 0, 1, _, _, _ => exact hxy
    | 1, 1, _, _, h => exact absurd rfl h
    | 1, 0, _, _, _ => exact not_same hxy
theorem apartI_3 (K B gp : Nat) (hgp : Pow10At gp) (hgB : gp < B) (tv : Value) (x y z : Value) (nx ny nz : Nat) (lx ly lz : List Value) (w : World) (hBw : B ≤ w.heap.size) (hKB : B ≤ K) (hP : Pow10 w)
    (hnx : nx ≤ 1099511627776) (hny : ny ≤ 1099511627776) (hnz : nz ≤ 1099511627776)
    (hK : w.heap[K]? = some (.cells (bookC 3 tv nilV) 44 (0, 0)))
    (hown : w.ownsRow B 80 3 tv 3 [x, nilV, .int .i64 1, y, nilV, .int .i64 2, z, nilV, .int .i64 3])
    (hx : w.ownsRow B 3 1 x nx lx) (hy : w.ownsRow B 3 1 y ny ly) (hz : w.ownsRow B 3 1 z nz lz)
    (hxy : x.ownBlock = none ∨ x.ownBlock ≠ y.ownBlock) (hxz : x.ownBlock = none ∨ x.ownBlock ≠ z.ownBlock) (hyz : y.ownBlock = none ∨ y.ownBlock ≠ z.ownBlock) :
    Calls Tryz.prog 12 #[.pointer (some ⟨K, 0, none⟩)] w fun e w' => e = .returned (.bool true) ∧ Below B w w' := by
  obtain ⟨H, cap, rfl⟩ := own_succ3 (k := 2) hown
  have cellH : ∀ k, k < 9 → w.cell? ⟨H, k, none⟩ = some ([x, nilV, .int .i64 1, y, nilV, .int .i64 2, z, nilV, .int .i64 3].getD k undef) := fun k hk => by
    rw [hown.cellAt k (by simpa using hk), List.getD_eq_getElem?_getD, List.getElem?_eq_getElem (by simpa using hk)]
    rfl
  refine apart_ints K B gp H 3 cap 3 (by decide) hgp hgB (three x y z) (threeN nx ny nz) (threeL lx ly lz) w hBw hKB (head_lies hown) hP (fun j hj => ?_) hK ⟨by rw [Lib.cell_of_heap hK]; rfl, ⟨_, _, hK⟩, own_at hown rfl, fun j hj => ?_, fun j hj => ?_, fun j hj => ?_⟩ (fun j hj => ?_) (fun i j hi hj hij => ?_)
  · match j, hj with
    | 0, _ => exact hnx
    | 1, _ => exact hny
    | 2, _ => exact hnz
  · match j, hj with
    | 0, _ => exact cellH 0 (by decide)
    | 1, _ => exact cellH 3 (by decide)
    | 2, _ => exact cellH 6 (by decide)
  · match j, hj with
    | 0, _ => exact cellH 1 (by decide)
    | 1, _ => exact cellH 4 (by decide)
    | 2, _ => exact cellH 7 (by decide)
  · match j, hj with
    | 0, _ => exact cellH 2 (by decide)
    | 1, _ => exact cellH 5 (by decide)
    | 2, _ => exact cellH 8 (by decide)
  · match j, hj with
    | 0, _ => exact hx
    | 1, _ => exact hy
    | 2, _ => exact hz
  · match i, j, hi, hj, hij with
    | 0, 0, _, _, h => exact absurd rfl h
    | 0, 1, _, _, _ => exact hxy
    | 0, 2, _, _, _ => exact hxz
    | 1, 0, _, _, _ => exact not_same hxy
    | 1, 1, _, _, h => exact absurd rfl h
    | 1, 2, _, _, _ => exact hyz
    | 2, 0, _, _, _ => exact not_same hxz
    | 2, 1, _, _, _ => exact not_same hyz
    | 2, 2, _, _, h => exact absurd rfl h
end Go.Proofs.YtidccanfjcanoaaGreatDoor

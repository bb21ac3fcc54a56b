/-
  Book.Apart for rows of ints: keepInt, Ints (printed by gen_iapt.py).
-/
import Derived.Test.YtidccanfjcanoaaGreatDoorIApK
import Derived.Test.YtidccanfjcanoaaGreatDoorAptP
namespace Go.Proofs.YtidccanfjcanoaaGreatDoor
open Go.RowKit
set_option linter.unusedVariables false

theorem infoHeldInt : (Tryz.prog.info? 80).map (fun i => (i.zero, i.size, i.bytes)) = some (some (.agg #[nilV, nilV, .int .i64 0]), 3, 56) := by kernel_rfl
set_option maxHeartbeats 4000000 in
set_option maxRecDepth 100000 in
theorem keepInt_any (K n B : Nat) (iv tv : Value) (a : Option Addr) (nl cl : Nat) (xs : List Value) (w : World) (hn : n ≤ 100) (hBw : B ≤ w.heap.size)
    (hK : w.heap[K]? = some (.cells (bookC n tv iv) 44 (0, 0))) (hown : w.ownsRow B 80 3 tv n xs) :
    Calls Tryz.prog 83 #[.pointer (some ⟨K, 0, none⟩), .slice a nl cl] w fun e w' => e = .returned (.tuple #[]) ∧ ∃ tv', w'.heap[K]? = some (.cells (bookC ((n : Int) + 1) tv' iv) 44 (0, 0)) ∧
      w'.ownsRow B 80 3 tv' (n + 1) (xs ++ [.slice a nl cl, nilV, .int .i64 ((n : Int) + 1)]) ∧ KeptBut w w' (fun k => k = K ∨ tv.ownBlock = some k) := by
  obtain ⟨i0, hi0, hz0, hz1, hz2⟩ := info_parts infoHeldInt
  have k0 : w.cell? ⟨K, 0, none⟩ = some (.int .i64 n) := by rw [Lib.cell_of_heap hK]; rfl
  have k1 : w.frozen? ⟨K, 0, none⟩ = false := by simp [World.frozen?, hK]
  have k2 : w.cell? ⟨K, 2, none⟩ = some tv := by rw [Lib.cell_of_heap hK]; rfl
  have k3 : w.frozen? ⟨K, 2, none⟩ = false := by simp [World.frozen?, hK]
  have hw : IntKind.i64.wrap ((n : Int) + 1) = (n : Int) + 1 := IntWalk.i64_in _ (by omega)
  have hset : (w.setCell ⟨K, 0, none⟩ (.int .i64 ((n : Int) + 1))).heap[K]? = some (.cells (bookC ((n : Int) + 1) tv iv) 44 (0, 0)) := by
    simp [World.setCell, Array.getElem?_modify, hK, bookC]
  have HS := Lib.hid hset
  have HO := Lib.hid hown
  have HK := Lib.hid hK
  have hKlt : K < w.heap.size := (Array.getElem?_eq_some_iff.1 hK).1
  clear hset hown hK
  go_enter Tryz.func83, Tryz.ntmps83
  go_wp2_with fail
  obtain ⟨w1, hw1⟩ : ∃ x, x = w.setCell ⟨K, 0, none⟩ (.int .i64 ((n : Int) + 1)) := ⟨_, rfl⟩
  rw [← hw1]
  have hg1 : w.grownBy w1 (some K) := by rw [hw1]; exact grown_set _ _ _ _
  have hK1 : w1.heap[K]? = some (.cells (bookC ((n : Int) + 1) tv iv) 44 (0, 0)) := by rw [hw1]; exact HS.out
  have hown1 : w1.ownsRow B 80 3 tv n xs := HO.out.kept hg1 (.inr (own_ne HO.out HK.out (by decide)))
  have hBw1 : B ≤ w1.heap.size := Nat.le_trans hBw hg1.size
  have hKlt1 : K < w1.heap.size := Nat.lt_of_lt_of_le hKlt hg1.size
  have hneK : tv.ownBlock ≠ some K := own_ne HO.out HK.out (by decide)
  clear hw1 k0 k1 k2 k3
  have m0 : w1.cell? ⟨K, 0, none⟩ = some (.int .i64 ((n : Int) + 1)) := by rw [Lib.cell_of_heap hK1]; rfl
  have m2 : w1.cell? ⟨K, 2, none⟩ = some tv := by rw [Lib.cell_of_heap hK1]; rfl
  have HK1 := Lib.hid hK1
  have HO1 := Lib.hid hown1
  have HG1 := Lib.hid hg1
  have HNE := Lib.hid hneK
  clear hK1 hown1 hg1 hneK
  go_region_law (refine step_append_lies _ rfl (.tmp 15) (.tmp 22) 27 rfl B 80 i0 (.agg #[nilV, nilV, .int .i64 0]) 3 56 Tryz.underlying27 hi0 hz0 hz1 hz2 rfl (by decide) tv n xs (by simp [Act.eval]) ((show w1.drew.ownsRow B 80 3 tv n xs from HO1.out).alloc _) ⟨w1.heap.size, 0, none⟩ 1 1 [.slice a nl cl, nilV, .int .i64 ((n : Int) + 1)] (by simp [Act.eval]) rfl (cell_three_new w1.drew _ _ _ _) (by simp [Value.oneCell']) (by decide) (by unfold maxLen; omega) (by omega) (by simp; omega) _ rfl ?_; intro g' cap' w2 hown' hgrow hat hlt; have f2 := hgrow.block K (by simp; omega) (fun e => HNE.out e.symm); have f3 := f2.trans ((heap_alloc_old w1.drew _ hKlt1).trans HK1.out); have m4 : w2.cell? ⟨K, 2, none⟩ = some tv := (by rw [Lib.cell_of_heap f3]; rfl); have m5 : w2.frozen? ⟨K, 2, none⟩ = false := (by simp [World.frozen?, f3]); have F3 := Lib.hid f3; have HOW := Lib.hid hown'; have HGR := Lib.hid hgrow; clear f2 f3 hown' hgrow)
  all_goals
    go_end0
    exact ⟨rfl, _, by simp [World.setCell, Array.getElem?_modify, F3.out, bookC], HOW.out.kept (grown_set w2 K 2 _) (.inr (own_ne HOW.out F3.out (by decide))),
      ((((KeptBut.refl w _).grown HG1.out (fun k e _ => .inl (by injection e with e; exact e.symm))).grown (row := none) (grown_below (((Below.refl _ _).alloc (Nat.le_refl _) _).drew)) (fun k e _ => by cases e)).grown HGR.out (fun k e _ => .inr e)).grown (grown_set _ _ _ _) (fun k e _ => .inl (by injection e with e; exact e.symm))⟩
set_option maxHeartbeats 1000000 in
theorem intsB_any (K n B : Nat) (iv tv : Value) (a : Option Addr) (nl cl : Nat) (xs : List Value) (w : World) (hn : n ≤ 100) (hBw : B ≤ w.heap.size)
    (hK : w.heap[K]? = some (.cells (bookC n tv iv) 44 (0, 0))) (hown : w.ownsRow B 80 3 tv n xs) :
    Calls Tryz.prog 20 #[.pointer (some ⟨K, 0, none⟩), .slice a nl cl] w fun e w' => e = .returned (.tuple #[]) ∧ ∃ tv', w'.heap[K]? = some (.cells (bookC ((n : Int) + 1) tv' iv) 44 (0, 0)) ∧
      w'.ownsRow B 80 3 tv' (n + 1) (xs ++ [.slice a nl cl, nilV, .int .i64 ((n : Int) + 1)]) ∧ KeptBut w w' (fun k => k = K ∨ tv.ownBlock = some k) := by
  have H := Lib.hid (keepInt_any K n B iv tv a nl cl xs w hn hBw hK hown)
  clear hK hown
  go_enter Tryz.func20, Tryz.ntmps20
  go_wp2_with fail
  refine H.out.mono ?_
  rintro e w1 ⟨rfl, h⟩
  go_wp2_with fail
  go_end0
  exact ⟨rfl, h⟩
end Go.Proofs.YtidccanfjcanoaaGreatDoor

/-
  Book.Apart: keepText, the walk.
-/
import Derived.Test.YtidccanfjcanoaaGreatDoorAptK
import Derived.Deep.AppendLies
import Derived.Deep.RegionLaw
namespace Go.Proofs.YtidccanfjcanoaaGreatDoor
open Go.RowKit
set_option linter.unusedVariables false

abbrev nilV : Value := .slice none 0 0
/-- A book: its number, its rows of ints and of texts; of the other kinds it holds none. -/
def bookC (n : Int) (iv tv : Value) : Array Value := #[.int .i64 n, nilV, iv, tv, nilV, nilV, nilV, nilV, nilV, nilV, nilV, nilV, nilV, nilV, nilV, nilV, nilV, nilV]
theorem infoHeldText : (Tryz.prog.info? 74).map (fun i => (i.zero, i.size, i.bytes)) = some (some (.agg #[nilV, nilV, .int .i64 0]), 3, 56) := by kernel_rfl
theorem KeptBut.trans {w w1 w2 : World} {P Q : Nat → Prop} (h : KeptBut w w1 P) (g : KeptBut w1 w2 Q) (hq : ∀ k, k < w.heap.size → Q k → P k) : KeptBut w w2 P :=
  ⟨g.os.trans h.os, g.tape.trans h.tape, g.output.trans h.output, Nat.le_trans h.size g.size, fun k hk hP => (g.block k (Nat.lt_of_lt_of_le hk h.size) (fun e => hP (hq k hk e))).trans (h.block k hk hP)⟩
theorem KeptBut.own {w w' : World} {P : Nat → Prop} {B e sz n : Nat} {v : Value} {xs : List Value} (h : KeptBut w w' P) (ho : w.ownsRow B e sz v n xs) (hP : ∀ g, v.ownBlock = some g → ¬ P g) : w'.ownsRow B e sz v n xs := by
  rcases ho with ⟨hl, ⟨rfl, h0⟩ | ⟨g, cap, cur, rfl, hb, hg, rest⟩⟩
  · exact ⟨hl, .inl ⟨rfl, h0⟩⟩
  · exact ⟨hl, .inr ⟨g, cap, cur, rfl, hb, (h.block g (Array.getElem?_eq_some_iff.1 hg).1 (hP g rfl)).trans hg, rest⟩⟩
theorem own_succ3 {W : World} {base e k : Nat} {v : Value} {xs : List Value} (h : W.ownsRow base e 3 v (k + 1) xs) : ∃ g cap, v = .slice (some ⟨g, 0, none⟩) (k + 1) cap := by
  rcases h.2 with ⟨_, h0⟩ | ⟨g, cap, _, rfl, _⟩
  · omega
  · exact ⟨g, cap, rfl⟩
theorem cell_three_new (w : World) (x y z : Value) (t : TypeId) : ∀ j u, [x, y, z][j]? = some u → (w.alloc (.cells #[x, y, z] t)).cell? ((⟨w.heap.size, 0, none⟩ : Addr).add j) = some u := by
  intro j u hj
  match j, hj with
  | 0, hj => simp at hj; subst hj; simp [Addr.add]
  | 1, hj => simp at hj; subst hj; simp [Addr.add]
  | 2, hj => simp at hj; subst hj; simp [Addr.add]

set_option maxHeartbeats 4000000 in
set_option maxRecDepth 100000 in
theorem keepText_any (K n B : Nat) (iv tv : Value) (a : Option Addr) (nl cl : Nat) (xs : List Value) (w : World) (hn : n ≤ 100) (hBw : B ≤ w.heap.size)
    (hK : w.heap[K]? = some (.cells (bookC n iv tv) 44 (0, 0))) (hown : w.ownsRow B 74 3 tv n xs) :
    Calls Tryz.prog 29 #[.pointer (some ⟨K, 0, none⟩), .slice a nl cl] w fun e w' => e = .returned (.tuple #[]) ∧ ∃ tv', w'.heap[K]? = some (.cells (bookC ((n : Int) + 1) iv tv') 44 (0, 0)) ∧
      w'.ownsRow B 74 3 tv' (n + 1) (xs ++ [.slice a nl cl, nilV, .int .i64 ((n : Int) + 1)]) ∧ KeptBut w w' (fun k => k = K ∨ tv.ownBlock = some k) := by
  obtain ⟨i0, hi0, hz0, hz1, hz2⟩ := info_parts infoHeldText
  have k0 : w.cell? ⟨K, 0, none⟩ = some (.int .i64 n) := by rw [Lib.cell_of_heap hK]; rfl
  have k1 : w.frozen? ⟨K, 0, none⟩ = false := by simp [World.frozen?, hK]
  have k2 : w.cell? ⟨K, 3, none⟩ = some tv := by rw [Lib.cell_of_heap hK]; rfl
  have k3 : w.frozen? ⟨K, 3, none⟩ = false := by simp [World.frozen?, hK]
  have hw : IntKind.i64.wrap ((n : Int) + 1) = (n : Int) + 1 := IntWalk.i64_in _ (by omega)
  have hset : (w.setCell ⟨K, 0, none⟩ (.int .i64 ((n : Int) + 1))).heap[K]? = some (.cells (bookC ((n : Int) + 1) iv tv) 44 (0, 0)) := by
    simp [World.setCell, Array.getElem?_modify, hK, bookC]
  have HS := Lib.hid hset
  have HO := Lib.hid hown
  have HK := Lib.hid hK
  have hKlt : K < w.heap.size := (Array.getElem?_eq_some_iff.1 hK).1
  clear hset hown hK
  go_enter Tryz.func29, Tryz.ntmps29
  go_wp2_with fail
  obtain ⟨w1, hw1⟩ : ∃ x, x = w.setCell ⟨K, 0, none⟩ (.int .i64 ((n : Int) + 1)) := ⟨_, rfl⟩
  rw [← hw1]
  have hg1 : w.grownBy w1 (some K) := by rw [hw1]; exact grown_set _ _ _ _
  have hK1 : w1.heap[K]? = some (.cells (bookC ((n : Int) + 1) iv tv) 44 (0, 0)) := by rw [hw1]; exact HS.out
  have hown1 : w1.ownsRow B 74 3 tv n xs := HO.out.kept hg1 (.inr (own_ne HO.out HK.out (by decide)))
  have hBw1 : B ≤ w1.heap.size := Nat.le_trans hBw hg1.size
  have hKlt1 : K < w1.heap.size := Nat.lt_of_lt_of_le hKlt hg1.size
  have hneK : tv.ownBlock ≠ some K := own_ne HO.out HK.out (by decide)
  clear hw1 k0 k1 k2 k3
  have m0 : w1.cell? ⟨K, 0, none⟩ = some (.int .i64 ((n : Int) + 1)) := by rw [Lib.cell_of_heap hK1]; rfl
  have m2 : w1.cell? ⟨K, 3, none⟩ = some tv := by rw [Lib.cell_of_heap hK1]; rfl
  have HK1 := Lib.hid hK1
  have HO1 := Lib.hid hown1
  have HG1 := Lib.hid hg1
  have HNE := Lib.hid hneK
  clear hK1 hown1 hg1 hneK
  go_region_law (refine step_append_lies _ rfl (.tmp 15) (.tmp 22) 28 rfl B 74 i0 (.agg #[nilV, nilV, .int .i64 0]) 3 56 Tryz.underlying28 hi0 hz0 hz1 hz2 rfl (by decide) tv n xs (by simp [Act.eval]) ((show w1.drew.ownsRow B 74 3 tv n xs from HO1.out).alloc _) ⟨w1.heap.size, 0, none⟩ 1 1 [.slice a nl cl, nilV, .int .i64 ((n : Int) + 1)] (by simp [Act.eval]) rfl (cell_three_new w1.drew _ _ _ _) (by simp [Value.oneCell']) (by decide) (by unfold maxLen; omega) (by omega) (by simp; omega) _ rfl ?_; intro g' cap' w2 hown' hgrow hat hlt; have f2 := hgrow.block K (by simp; omega) (fun e => HNE.out e.symm); have f3 := f2.trans ((heap_alloc_old w1.drew _ hKlt1).trans HK1.out); have m4 : w2.cell? ⟨K, 3, none⟩ = some tv := (by rw [Lib.cell_of_heap f3]; rfl); have m5 : w2.frozen? ⟨K, 3, none⟩ = false := (by simp [World.frozen?, f3]); have F3 := Lib.hid f3; have HOW := Lib.hid hown'; have HGR := Lib.hid hgrow; clear f2 f3 hown' hgrow)
  all_goals
    go_end0
    exact ⟨rfl, _, by simp [World.setCell, Array.getElem?_modify, F3.out, bookC], HOW.out.kept (grown_set w2 K 3 _) (.inr (own_ne HOW.out F3.out (by decide))),
      ((((KeptBut.refl w _).grown HG1.out (fun k e _ => .inl (by injection e with e; exact e.symm))).grown (row := none) (grown_below (((Below.refl _ _).alloc (Nat.le_refl _) _).drew)) (fun k e _ => by cases e)).grown HGR.out (fun k e _ => .inr e)).grown (grown_set _ _ _ _) (fun k e _ => .inl (by injection e with e; exact e.symm))⟩
set_option maxHeartbeats 1000000 in
theorem texts_any (K n B : Nat) (iv tv : Value) (a : Option Addr) (nl cl : Nat) (xs : List Value) (w : World) (hn : n ≤ 100) (hBw : B ≤ w.heap.size)
    (hK : w.heap[K]? = some (.cells (bookC n iv tv) 44 (0, 0))) (hown : w.ownsRow B 74 3 tv n xs) :
    Calls Tryz.prog 11 #[.pointer (some ⟨K, 0, none⟩), .slice a nl cl] w fun e w' => e = .returned (.tuple #[]) ∧ ∃ tv', w'.heap[K]? = some (.cells (bookC ((n : Int) + 1) iv tv') 44 (0, 0)) ∧
      w'.ownsRow B 74 3 tv' (n + 1) (xs ++ [.slice a nl cl, nilV, .int .i64 ((n : Int) + 1)]) ∧ KeptBut w w' (fun k => k = K ∨ tv.ownBlock = some k) := by
  have H := Lib.hid (keepText_any K n B iv tv a nl cl xs w hn hBw hK hown)
  clear hK hown
  go_enter Tryz.func11, Tryz.ntmps11
  go_wp2_with fail
  refine H.out.mono ?_
  rintro e w1 ⟨rfl, h⟩
  go_wp2_with fail
  go_end0
  exact ⟨rfl, h⟩
end Go.Proofs.YtidccanfjcanoaaGreatDoor

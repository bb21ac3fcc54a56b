/-
  FILL: some answers that the document fixes ('alive').
-/
import Derived.Test.YtlgodkjbilkloaaCenW
import Derived.Test.YtlgodkjbilkloaaFilC
namespace Go.Proofs.Ytlgodkjbilkloaa
open Go.RowKit
set_option linter.unusedVariables false

theorem lbsInj : ∀ {xs ys : List ByteArray}, xs.map lb = ys.map lb → xs = ys
  | [], [], _ => rfl
  | [], _ :: _, h => by cases h
  | _ :: _, [], h => by cases h
  | x :: xs, y :: ys, h => by
    simp only [List.map_cons, List.cons.injEq] at h
    rw [bytes_ext h.1, lbsInj h.2]
theorem fill_is (s : ByteArray) (hs : s.size ≤ 1000000) (wd : Nat) (h1 : 1 ≤ wd) (h2 : wd ≤ 200) (ls : List ByteArray) (h : Fi.linesOf wd (Pl.words (lb s)) = ls.map lb) (w : World) :
    Calls Try.prog 9 #[.string s, .int .i64 (wd : Int)] w fun e w' => ∃ a c, e = .returned (.tuple #[.slice a ls.length c, .int .i64 0]) ∧ w'.ownsRow w.heap.size 9 1 (.slice a ls.length c) ls.length (ls.map Value.string) ∧ Below w.heap.size w w' := by
  refine (fill_yes s hs wd h1 h2 w).mono ?_
  rintro e w' ⟨v, xs, rfl, hown, hx, hb⟩
  obtain rfl : xs = ls := lbsInj (hx.trans h)
  obtain ⟨a, c, rfl⟩ := lenOf hown
  exact ⟨a, c, rfl, hown, hb⟩
theorem k1 : Fi.linesOf 4 (Pl.words (lb ⟨#[97, 32, 98, 98, 32, 99, 99, 99]⟩)) = ([⟨#[97, 32, 98, 98]⟩, ⟨#[99, 99, 99]⟩] : List ByteArray).map lb := by decide +kernel
theorem k2 : Fi.linesOf 3 (Pl.words (lb ⟨#[97, 98, 99, 100, 101, 102, 32, 103]⟩)) = ([⟨#[97, 98, 99, 100, 101, 102]⟩, ⟨#[103]⟩] : List ByteArray).map lb := by decide +kernel
theorem k3 : Fi.linesOf 3 (Pl.words (lb ⟨#[195, 169, 32, 195, 169]⟩)) = ([⟨#[195, 169, 32, 195, 169]⟩] : List ByteArray).map lb := by decide +kernel

theorem own_below {A A' : World} {B e sz n : Nat} {v : Value} {xs : List Value} (h : A.ownsRow B e sz v n xs) (hb : Below A.heap.size A A') : A'.ownsRow B e sz v n xs := own_same h (fun g hg => hb.block g (h.lt g hg).2)
theorem same_lit (A : Option Addr) (c B : Nat) (xs ys : List ByteArray) (w : World) (h : w.ownsRow B 9 1 (.slice A xs.length c) xs.length (xs.map Value.string)) (hx : xs.length ≤ 1000) (hxy : xs = ys) :
    Calls Try.prog 12 #[.slice A xs.length c, .slice (some ⟨w.heap.size, 0, none⟩) ys.length ys.length] (w.alloc (.cells (ys.map Value.string).toArray 9)) fun e w' => e = .returned (.bool true) ∧ Below w.heap.size w w' := by
  subst hxy
  refine (sameTexts_any A (some ⟨w.heap.size, 0, none⟩) xs.length xs.length c xs.length xs xs _ rfl rfl (by omega) (by omega) ((TR.of_own h).2.below ((Below.refl _ w).alloc (Nat.le_refl _) _)) (TR.of_lit w _ xs)).mono ?_
  rintro e w' ⟨rfl, q, rfl⟩
  exact ⟨by simp, below_drewN ((Below.refl _ w).alloc (Nat.le_refl _) _) q⟩
theorem indent_lit (xs ys : List ByteArray) (k : Nat) (x : Int) (hk : clN x = k) (w : World) (hx : xs.length ≤ 1000) (hs : ∀ i, (xs.getD i ByteArray.empty).size ≤ 1000) (h : (xs.map (indB k)).map lb = ys.map lb) :
    Calls Try.prog 14 #[.slice (some ⟨w.heap.size, 0, none⟩) xs.length xs.length, .int .i64 x] (w.alloc (.cells (xs.map Value.string).toArray 9)) fun e w' => ∃ a c, e = .returned (.slice a ys.length c) ∧ w'.ownsRow w.heap.size 9 1 (.slice a ys.length c) ys.length (ys.map Value.string) ∧ Below w.heap.size w w' := by
  subst hk
  refine (indent_any _ xs.length xs.length xs x _ rfl (by omega) (TR.of_lit w _ xs) (fun i => by have := hs i; omega)).mono ?_
  rintro e w' ⟨v, rfl, ho, hb⟩
  obtain rfl : xs.map (indB (clN x)) = ys := lbsInj h
  rw [List.length_map]
  obtain ⟨a, c, rfl⟩ := lenOf ho
  exact ⟨a, c, rfl, ownsRow_base ho (by simp), ((Below.refl _ w).alloc (Nat.le_refl _) _).trans (hb.mono (by simp))⟩
theorem k4 : (([⟨#[97]⟩, ⟨#[]⟩] : List ByteArray).map (indB 2)).map lb = ([⟨#[32, 32, 97]⟩, ⟨#[]⟩] : List ByteArray).map lb := by decide +kernel
theorem k5 : spcs ((7 - Fi.sigs (lb ⟨#[97, 98]⟩)) / 2) ++ lb ⟨#[97, 98]⟩ = lb ⟨#[32, 32, 97, 98]⟩ := by decide +kernel
theorem k6 : List.replicate (Fi.sigs (lb ⟨#[195, 169, 33]⟩)) (61 : UInt8) = lb ⟨#[61, 61]⟩ := by decide +kernel

set_option maxHeartbeats 4000000 in
set_option maxRecDepth 100000 in
theorem alive_any (w : World) :
    Calls Try.prog 8 #[] w fun e w' => e = .returned (.bool true) ∧ Below w.heap.size w w' := by
  go_enter Try.func8, Try.ntmps8
  go_wp2_with fail
  refine (fill_is _ (by decide) 4 (by decide) (by decide) _ k1 w).mono ?_
  rintro e w1 ⟨a1, c1, rfl, o1, b1⟩
  have O1 := Lib.hid o1
  have B1 := Lib.hid b1
  clear o1 b1
  go_wp2_with fail
  refine (fill_is _ (by decide) 3 (by decide) (by decide) _ k2 w1).mono ?_
  rintro e w2 ⟨a2, c2, rfl, o2, b2⟩
  have O1' := Lib.hid (own_same O1.out (fun g hg => b2.block g (O1.out.lt g hg).2))
  have O2 := Lib.hid o2
  have B2 := Lib.hid (B1.out.trans (b2.mono B1.out.size))
  clear O1 o2 b2
  go_wp2_with fail
  refine (fill_no _ 0 (.inl (by decide)) w2).mono ?_
  rintro e w3 ⟨rfl, b3⟩
  have O1 := Lib.hid (own_same O1'.out (fun g hg => b3.block g (O1'.out.lt g hg).2))
  have O2' := Lib.hid (own_same O2.out (fun g hg => b3.block g (O2.out.lt g hg).2))
  have B3 := Lib.hid (B2.out.trans (b3.mono B2.out.size))
  clear O1' O2 b3
  go_wp2_with fail
  refine (fill_is _ (by decide) 3 (by decide) (by decide) _ k3 w3).mono ?_
  rintro e w4 ⟨a4, c4, rfl, o4, b4⟩
  have O1' := Lib.hid (own_same O1.out (fun g hg => b4.block g (O1.out.lt g hg).2))
  have O2 := Lib.hid (own_same O2'.out (fun g hg => b4.block g (O2'.out.lt g hg).2))
  have B4 := Lib.hid (B3.out.trans (b4.mono B3.out.size))
  clear O1 O2' b4 o4
  go_wp2_with fail
  refine (same_lit a1 c1 _ _ [⟨#[97, 32, 98, 98]⟩, ⟨#[99, 99, 99]⟩] w4 O1'.out (by decide) rfl).mono ?_
  rintro e w5 ⟨rfl, b5⟩
  have O2' := Lib.hid (own_below O2.out b5)
  have B5 := Lib.hid (B4.out.trans (b5.mono B4.out.size))
  clear O1' O2 b5
  go_wp2_with fail
  refine (same_lit a2 c2 _ _ [⟨#[97, 98, 99, 100, 101, 102]⟩, ⟨#[103]⟩] w5 O2'.out (by decide) rfl).mono ?_
  rintro e w6 ⟨rfl, b6⟩
  have B6 := Lib.hid (B5.out.trans (b6.mono B5.out.size))
  clear O2' b6
  go_wp2_with fail
  refine (indent_lit [⟨#[97]⟩, ⟨#[]⟩] [⟨#[32, 32, 97]⟩, ⟨#[]⟩] 2 2 (by decide) w6 (by decide) (fun i => by
    match i with
    | 0 => decide
    | 1 => decide
    | i + 2 => exact Nat.zero_le _) k4).mono ?_
  rintro e w7 ⟨a7, c7, rfl, o7, b7⟩
  have O7 := Lib.hid o7
  have B7 := Lib.hid (B6.out.trans (b7.mono B6.out.size))
  clear o7 b7
  go_wp2_with fail
  refine (same_lit a7 c7 _ _ [⟨#[32, 32, 97]⟩, ⟨#[]⟩] w7 O7.out (by decide) rfl).mono ?_
  rintro e w8 ⟨rfl, b8⟩
  have B8 := Lib.hid (B7.out.trans (b8.mono B7.out.size))
  clear O7 b8
  go_wp2_with fail
  refine (center_any ⟨#[97, 98]⟩ (by decide) 7 (by decide) w8).mono ?_
  rintro e w9 ⟨⟨y, rfl, hy⟩, b9⟩
  obtain rfl : y = ⟨#[32, 32, 97, 98]⟩ := bytes_ext (hy.trans k5)
  have B9 := Lib.hid (B8.out.trans (b9.mono B8.out.size))
  clear hy b9
  go_wp2_with fail
  refine (under_any ⟨#[195, 169, 33]⟩ (by decide) 61 w9).mono ?_
  rintro e w10 ⟨g, y, rfl, o10, hy, b10⟩
  obtain rfl : y = ⟨#[61, 61]⟩ := bytes_ext (hy.trans k6)
  have O10 := Lib.hid o10
  have B10 := Lib.hid (B9.out.trans (b10.mono B9.out.size))
  clear hy b10 o10
  go_wp2_with fail
  refine (same_lit (some ⟨g, 0, none⟩) 2 _ [⟨#[195, 169, 33]⟩, ⟨#[61, 61]⟩] [⟨#[195, 169, 33]⟩, ⟨#[61, 61]⟩] w10 O10.out (by decide) rfl).mono ?_
  rintro e w11 ⟨rfl, b11⟩
  have B11 := Lib.hid (B10.out.trans (b11.mono B10.out.size))
  clear b11
  go_wp2_with fail
  go_ret
  exact ⟨ret_bool (by simp), B11.out⟩
end Go.Proofs.Ytlgodkjbilkloaa

/-
  LETTERS: alive (some answers that the document fixes), plain, by contract.
-/
import Derived.Test.YtdjfbhdkfdkjnaaRefO
import Derived.Test.YtdjfbhdkfdkjnaaWordsX
namespace Go.Proofs.Ytdjfbhdkfdkjnaa
open Go.RowKit

theorem lb_inj {x y : ByteArray} (h : lb x = lb y) : x = y := bytes_ext h
theorem map_lb_inj : ∀ {xs ys : List ByteArray}, xs.map lb = ys.map lb → xs = ys
  | [], [], _ => rfl
  | [], _ :: _, h => by simp at h
  | _ :: _, [], h => by simp at h
  | x :: xs, y :: ys, h => by
    simp only [List.map_cons, List.cons.injEq] at h
    rw [lb_inj h.1, map_lb_inj h.2]

theorem lower_c {s r : ByteArray} (hs : s.size ≤ 140737488351232) (h : (⟨(Pl.lower s.data.toList).toArray⟩ : ByteArray) = r) (w : World) :
    Calls Try.prog 17 #[.string s] w fun e w' => e = .returned (.string r) ∧ Below w.heap.size w w' := by
  rw [← h]; exact lower_any s hs w
theorem order_c {a b : ByteArray} {c : Int} (ha : a.size ≤ 1099511627776) (hb : b.size ≤ 1099511627776) (h : Pl.order a.data.toList b.data.toList = c) (w : World) :
    Calls Try.prog 21 #[.string a, .string b] w fun e w' => e = .returned (.int .i64 c) ∧ Below w.heap.size w w' := by
  rw [← h]; exact order_any a b ha hb w
theorem name_c {s : ByteArray} {c : Bool} (hs : s.size ≤ 140737488351232) (h : Pl.name s.data.toList = c) (w : World) :
    Calls Try.prog 19 #[.string s] w fun e w' => e = .returned (.bool c) ∧ w = w' := by
  rw [← h]; exact name_any s hs w
theorem words_c {s : ByteArray} {ys : List ByteArray} (hs : s.size ≤ 1099511627776) (h : Pl.words (lb s) = ys.map lb) (w : World) (hy : 0 < ys.length) :
    Calls Try.prog 25 #[.string s] w fun e w' => ∃ g cap, e = .returned (.slice (some ⟨g, 0, none⟩) ys.length cap) ∧ TR w' (some ⟨g, 0, none⟩) ys ∧ Below w.heap.size w w' := by
  refine (words_any s hs w).mono ?_
  rintro e w' ⟨v, xs, rfl, hown, hxs, _, hb⟩
  obtain rfl := map_lb_inj (hxs.trans h)
  obtain ⟨g, cap, rfl, _, _⟩ := hown.form hy
  exact ⟨g, cap, rfl, (TR.of_own hown).2, hb⟩

set_option maxHeartbeats 2000000 in
set_option maxRecDepth 100000 in
theorem alive_any (w : World) : Calls Try.prog 23 #[] w fun e w' => e = .returned (.bool true) ∧ Below w.heap.size w w' := by
  go_enter Try.func23, Try.ntmps23
  go_wp2_with fail
  refine (lower_c (r := ⟨#[97, 98, 99, 45]⟩) (by decide) (by decide +kernel) _).mono ?_
  rintro e w1 ⟨rfl, b1⟩
  go_wp2_with fail
  refine (order_c (c := -1) (by decide) (by decide) (by decide +kernel) _).mono ?_
  rintro e w2 ⟨rfl, b2⟩
  go_wp2_with fail
  refine (order_c (c := -1) (by decide) (by decide) (by decide +kernel) _).mono ?_
  rintro e w3 ⟨rfl, b3⟩
  go_wp2_with fail
  refine (order_c (c := -1) (by decide) (by decide) (by decide +kernel) _).mono ?_
  rintro e w4 ⟨rfl, b4⟩
  go_wp2_with fail
  refine (order_c (c := 0) (by decide) (by decide) (by decide +kernel) _).mono ?_
  rintro e w5 ⟨rfl, b5⟩
  go_wp2_with fail
  refine (order_c (c := 1) (by decide) (by decide) (by decide +kernel) _).mono ?_
  rintro e w6 ⟨rfl, b6⟩
  go_wp2_with fail
  refine (name_c (c := true) (by decide) (by decide +kernel) _).mono ?_
  rintro e w' ⟨rfl, rfl⟩
  go_wp2_with fail
  refine (name_c (c := false) (by decide) (by decide +kernel) _).mono ?_
  rintro e w' ⟨rfl, rfl⟩
  go_wp2_with fail
  refine (words_c (ys := [⟨#[97]⟩, ⟨#[98]⟩, ⟨#[99]⟩]) (by decide) (by decide +kernel) _ (by decide)).mono ?_
  rintro e w7 ⟨g, cap, rfl, hT, b7⟩
  have hT2 := TR.of_lit w7 9 [⟨#[97]⟩, ⟨#[98]⟩, ⟨#[99]⟩]
  have hT1 := hT.below ((Below.refl w7.heap.size w7).alloc (Nat.le_refl _) (.cells ([⟨#[97]⟩, ⟨#[98]⟩, ⟨#[99]⟩].map Value.string).toArray 9))
  have H1 := Lib.hid hT1
  have H2 := Lib.hid hT2
  clear hT hT1 hT2
  go_wp2_with fail
  refine (sameTexts_any _ _ 3 3 _ _ [⟨#[97]⟩, ⟨#[98]⟩, ⟨#[99]⟩] [⟨#[97]⟩, ⟨#[98]⟩, ⟨#[99]⟩] _ rfl rfl (by decide) (by decide) H1.out H2.out).mono ?_
  rintro e w8 ⟨rfl, q, rfl⟩
  go_wp2_with fail
  go_ret
  refine ⟨ret_bool (by simp), ?_⟩
  have c1 := b1.trans (b2.mono b1.size)
  have c2 := c1.trans (b3.mono c1.size)
  have c3 := c2.trans (b4.mono c2.size)
  have c4 := c3.trans (b5.mono c3.size)
  have c5 := c4.trans (b6.mono c4.size)
  have c6 := c5.trans (b7.mono c5.size)
  exact below_drewN (c6.alloc c6.size _) q

end Go.Proofs.Ytdjfbhdkfdkjnaa

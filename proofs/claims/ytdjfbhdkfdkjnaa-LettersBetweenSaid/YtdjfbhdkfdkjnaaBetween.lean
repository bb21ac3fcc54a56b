/-
  LettersBetween: the walk.
-/
import Derived.Test.YtdjfbhdkfdkjnaaNamed
namespace Go.Proofs.Ytdjfbhdkfdkjnaa
open Go.RowKit

theorem mod_byte (x : Int) : ∃ c : UInt8, x % 256 = (c.toNat : Int) := by
  refine ⟨UInt8.ofNat (x % 256).toNat, ?_⟩
  rw [UInt8.toNat_ofNat']
  have : (x % 256).toNat % 2 ^ 8 = (x % 256).toNat := Nat.mod_eq_of_lt (by omega)
  rw [this]; omega
theorem mod_place (x : Int) (n : Nat) : ∃ k : Nat, k ≤ n ∧ x % ((n : Int) + 1) = (k : Int) := by
  have h1 := Int.emod_nonneg x (show (n : Int) + 1 ≠ 0 by omega)
  have h2 := Int.emod_lt_of_pos x (show (0 : Int) < (n : Int) + 1 by omega)
  exact ⟨(x % ((n : Int) + 1)).toNat, by omega, by omega⟩
theorem conv_one_drew {P : Program} {src e dst : TypeId} (hs : P.underlying src = some (.slice e)) (he : P.underlying e = some (.int .u8)) (hd : P.underlying dst = some .string)
    (c : UInt8) (W : World) (n : Nat) (hn : n = W.heap.size) :
    (convert src dst (.slice (some ⟨n, 0, none⟩) 1 1)).run P (W.alloc (.cells #[.int .u8 (c.toNat : Int)] e)).drew = .ok (.string ⟨#[c]⟩) (W.alloc (.cells #[.int .u8 (c.toNat : Int)] e)).drew := by
  subst hn
  refine conv_row hs he hd _ _ 1 1 [c] rfl ?_
  intro j hj
  obtain rfl : j = 0 := by simpa using hj
  refine ⟨?_, ?_⟩
  · show (W.alloc (.cells #[.int .u8 (c.toNat : Int)] e)).cell? _ = _
    rw [World.cell?_alloc_at (hn := rfl)]; rfl
  · show (W.alloc (.cells #[.int .u8 (c.toNat : Int)] e)).frozen? _ = _
    rw [World.frozen?_alloc_at (hn := rfl)]
/-- The text with a byte laid in. -/
def more (a : ByteArray) (k : Nat) (c : UInt8) : ByteArray := a.extract 0 k ++ ⟨#[c]⟩ ++ a.extract k a.size
theorem lb_more (a : ByteArray) (k : Nat) (c : UInt8) : lb (more a k c) = (lb a).take k ++ [c] ++ (lb a).drop k := by
  unfold more
  rw [lb_append, lb_append, lb_extract, lb_extract, lb_one]
  have : (lb a).length = a.size := (Lib.size_eq a).symm
  simp only [List.drop_zero, Nat.sub_zero]
  congr 1
  rw [List.take_of_length_le (by rw [List.length_drop]; omega)]
theorem more_size (a : ByteArray) (k : Nat) (c : UInt8) (h : k ≤ a.size) : (more a k c).size = a.size + 1 := by
  have : (lb a).length = a.size := (Lib.size_eq a).symm
  rw [Lib.size_eq]
  show (lb (more a k c)).length = _
  rw [lb_more]
  simp; omega

theorem lower_some (s : ByteArray) (hs : s.size ≤ 140737488351232) (w : World) :
    Calls Try.prog 17 #[.string s] w fun e w' => ∃ x : ByteArray, e = .returned (.string x) ∧ lb x = Pl.lower (lb s) ∧ Below w.heap.size w w' :=
  (lower_any s hs w).mono fun _ _ h => ⟨_, h.1, rfl, h.2⟩
theorem beq_of_lb {x y : ByteArray} {a b : List UInt8} (hx : lb x = a) (hy : lb y = b) : (x.toList == y.toList) = decide (a = b) := by
  rw [Lib.toList_data, Lib.toList_data, Bool.eq_iff_iff, ← hx, ← hy]
  simp

def Same3 (p0 p1 le : Bool) (o2 o3 : Int) : Prop := p0 = true → p1 = true → le = false → o3 = o2

set_option maxHeartbeats 8000000 in
theorem between_walk (a0 a1 : ByteArray) (x0 x1 : Int) (c : UInt8) (k : Nat) (o1 o2 o3 : Int) (p0 p1 le : Bool) (s0 : a0.size ≤ 1048576) (s1 : a1.size ≤ 1048576) (hb : beyond [(a0.size : Int), a1.size] = false)
    (hx1a : 0 ≤ x1) (hx1b : x1 ≤ 65535) (hc : x0 % 256 = (c.toNat : Int)) (hk : k ≤ a0.size) (hkm : x1 % ((a0.size : Int) + 1) = (k : Int))
    (hr : (c.toNat : Int) < 48 ∨ (57 < (c.toNat : Int) ∧ (c.toNat : Int) < 65) ∨ (90 < (c.toNat : Int) ∧ (c.toNat : Int) < 97) ∨ 122 < (c.toNat : Int))
    (HSz : Hid ((a0.extract 0 k ++ ⟨#[c]⟩ ++ a0.extract k a0.size).size = a0.size + 1)) (HO1 : Hid (Pl.order (lb (a0.extract 0 k ++ ⟨#[c]⟩ ++ a0.extract k a0.size)) (lb a0) = o1)) (ho1 : (o1 == 0) = false)
    (HP0 : Hid (plainB (lb a0) = p0)) (HP1 : Hid (plainB (lb a1) = p1)) (HLe : Hid (decide (Pl.lower (lb a0) = Pl.lower (lb a1)) = le))
    (HO2 : Hid (Pl.order (lb (a0.extract 0 k ++ ⟨#[c]⟩ ++ a0.extract k a0.size)) (lb a1) = o2)) (HO3 : Hid (Pl.order (lb a0) (lb a1) = o3)) (H23 : Same3 p0 p1 le o2 o3) (w : World) :
    Calls Try.prog 9 #[.string a0, .string a1, .agg #[.int .u16 x0, .int .u16 x1]] w fun e w' => e = .returned (.bool true) ∧ Below w.heap.size w w' := by
  have hcv := conv_one_drew (P := Try.prog) Try.underlying32 Try.underlying5 Try.underlying9 c
  rcases hr with h | h | h | h
  all_goals
    go_enter Try.func9, Try.ntmps9
    go_wp2_with fail
    refine (alive_any _).mono ?_
    rintro e w1 ⟨rfl, b1⟩
    have hbx : w1.heap[w.heap.size]? = some (.cells #[.int .u16 x0, .int .u16 x1] 31 (0, 0)) := (b1.block _ (by simp)).trans (heap_alloc_new w _)
    have hcx := cell_of_row w1 w.heap.size 1 _ _ _ hbx
    have hlt := (Array.getElem?_eq_some_iff.1 hbx).1
    have hbw : Below w.heap.size w w1 := ((Below.refl _ w).alloc (Nat.le_refl _) _).trans (b1.mono (by simp))
    have c2 : Below w.heap.size w ((w1.alloc (.cells #[.int .i64 (a0.size : Int), .int .i64 (a1.size : Int)] 3)).alloc (.cells #[.int .u8 (c.toNat : Int)] 5)).drew := ((hbw.alloc hbw.size _).alloc (by have := hbw.size; simp; omega) _).drew
    clear hbx
    go_wp2_with fail
    refine (beyond2 _ _ _ (by omega) (by omega)).mono ?_
    rintro e w' ⟨rfl, rfl⟩
    go_wp2_with fail
    go_region
    clear hcx hcv
    generalize ((w1.alloc (.cells #[.int .i64 (a0.size : Int), .int .i64 (a1.size : Int)] 3)).alloc (.cells #[.int .u8 (c.toNat : Int)] 5)).drew = w2 at *
    clear h hlt hbw b1 hc hk hkm hx1a hx1b
    go_wp2_with fail
    refine (order_c (by rw [HSz.out]; omega) (by omega) HO1.out _).mono ?_
    rintro e w3 ⟨rfl, b3⟩
    go_wp2_with fail
    refine (plain_c (by omega) HP0.out _).mono ?_
    rintro e w' ⟨rfl, rfl⟩
    have c3 := c2.trans (b3.mono c2.size)
    cases p0
    · go_wp2_with fail
      go_ret
      exact ⟨ret_bool (by simp), c3⟩
    go_wp2_with fail
    refine (plain_c (by omega) HP1.out _).mono ?_
    rintro e w' ⟨rfl, rfl⟩
    cases p1
    · go_wp2_with fail
      go_ret
      exact ⟨ret_bool (by simp), c3⟩
    go_wp2_with fail
    refine (lower_some a0 (by omega) _).mono ?_
    rintro e w4 ⟨x, rfl, hx, b4⟩
    have HX := Lib.hid hx
    clear hx
    go_wp2_with fail
    refine (lower_some a1 (by omega) _).mono ?_
    rintro e w5 ⟨y, rfl, hy, b5⟩
    have hq := beq_of_lb HX.out hy
    rw [HLe.out] at hq
    clear hy
    have c4 := c3.trans (b4.mono c3.size)
    have c5 := c4.trans (b5.mono c4.size)
    cases le
    · have h32 := H23 rfl rfl rfl
      subst h32
      go_wp2_with fail
      refine (order_c (by rw [HSz.out]; omega) (by omega) HO2.out _).mono ?_
      rintro e w6 ⟨rfl, b6⟩
      have c6 := c5.trans (b6.mono c5.size)
      go_wp2_with fail
      refine (order_c (by omega) (by omega) HO3.out _).mono ?_
      rintro e w7 ⟨rfl, b7⟩
      go_wp2_with fail
      go_ret
      exact ⟨ret_bool (by simp), c6.trans (b7.mono c6.size)⟩
    · go_wp2_with fail
      go_ret
      exact ⟨ret_bool (by simp), c5⟩

set_option maxHeartbeats 1000000 in
theorem lettersBetween_walk (a0 a1 : ByteArray) (x0 x1 : Int) (z0 : a0.size ≤ 140737488351232) (z1 : a1.size ≤ 140737488351232) (w2 : (Lit.int .u16 x0).wf = true) (w3 : (Lit.int .u16 x1).wf = true) (w : World) :
    Calls Try.prog 9 #[.string a0, .string a1, .agg #[.int .u16 x0, .int .u16 x1]] w fun e w' => e = .returned (.bool true) ∧ Below w.heap.size w w' := by
  obtain ⟨hx0a, hx0b⟩ := bounds_u16 w2
  obtain ⟨hx1a, hx1b⟩ := bounds_u16 w3
  clear w2 w3
  obtain ⟨c, hc⟩ := mod_byte x0
  obtain ⟨k, hk, hkm⟩ := mod_place x1 a0.size
  rcases hb : beyond [(a0.size : Int), a1.size]
  · have hsum := beyond_no hb
    simp only [sumI, List.foldr_cons, List.foldr_nil] at hsum
    have s0 : a0.size ≤ 1048576 := by omega
    have s1 : a1.size ≤ 1048576 := by omega
    rcases isLD_cases (c.toNat : Int) with ⟨h0, h⟩ | ⟨h0, h⟩
    · rcases h with h | h | h
      all_goals
        clear hsum h0 hk hkm
        go_enter Try.func9, Try.ntmps9
        go_wp2_with fail
        refine (alive_any _).mono ?_
        rintro e w1 ⟨rfl, b1⟩
        have hbw : Below w.heap.size w w1 := ((Below.refl _ w).alloc (Nat.le_refl _) _).trans (b1.mono (by simp))
        go_wp2_with fail
        refine (beyond2 _ _ _ (by omega) (by omega)).mono ?_
        rintro e w' ⟨rfl, rfl⟩
        go_wp2_with fail
        refine (alive_any _).mono ?_
        rintro e w2 ⟨rfl, b2⟩
        go_wp2_with fail
        go_ret
        exact ⟨rfl, (hbw.alloc hbw.size _).trans (b2.mono (by have := hbw.size; simp; omega))⟩
    · have hm := Pl.order_between (lb a0) (lb a1) c k h0
      rw [← lb_more] at hm
      have H1 := Lib.hid (more_size a0 k c hk)
      have ho1 : (Pl.order (lb (more a0 k c)) (lb a0) == 0) = false := by simpa using hm.1
      refine between_walk a0 a1 x0 x1 c k _ _ _ _ _ _ s0 s1 hb hx1a hx1b hc hk hkm h H1 (Lib.hid rfl) ho1 (Lib.hid rfl) (Lib.hid rfl) (Lib.hid rfl) (Lib.hid rfl) (Lib.hid rfl) ?_ w
      intro hp0 hp1 hle
      exact (hm.2 hp0 hp1 (of_decide_eq_false hle)).symm
  · clear hk hkm hc
    go_enter Try.func9, Try.ntmps9
    go_wp2_with fail
    refine (alive_any _).mono ?_
    rintro e w1 ⟨rfl, b1⟩
    have hbw : Below w.heap.size w w1 := ((Below.refl _ w).alloc (Nat.le_refl _) _).trans (b1.mono (by simp))
    go_wp2_with fail
    refine (beyond2 _ _ _ (by omega) (by omega)).mono ?_
    rintro e w' ⟨rfl, rfl⟩
    go_wp2_with fail
    refine (alive_any _).mono ?_
    rintro e w2 ⟨rfl, b2⟩
    go_wp2_with fail
    go_ret
    exact ⟨rfl, (hbw.alloc hbw.size _).trans (b2.mono (by have := hbw.size; simp; omega))⟩

end Go.Proofs.Ytdjfbhdkfdkjnaa

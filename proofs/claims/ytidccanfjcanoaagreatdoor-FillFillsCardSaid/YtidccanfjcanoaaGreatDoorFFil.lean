/-
  FillFills: the walk.
-/
import Derived.Test.YtidccanfjcanoaaGreatDoorFInd
import Derived.Test.YtidccanfjcanoaaGreatDoorRefF
namespace Go.Proofs.YtidccanfjcanoaaGreatDoor
open Go.RowKit
set_option linter.unusedVariables false

/-! ### what both answer -/
def fillL (s : ByteArray) (x : Int) : List (List UInt8) := if 1 ≤ x ∧ x ≤ 200 then Fi.linesOf x.toNat (Pl.words (lb s)) else []
def fillE (x : Int) : Int := if 1 ≤ x ∧ x ≤ 200 then 0 else 1
def FillAns (s : ByteArray) (x : Int) (w : World) (e : Ending) (w' : World) : Prop :=
  ∃ (v : Value) (xs : List ByteArray), e = .returned (.tuple #[v, .int .i64 (fillE x)]) ∧ w'.ownsRow w.heap.size 9 1 v xs.length (xs.map Value.string) ∧ xs.map lb = fillL s x ∧ Below w.heap.size w w'
theorem fill_ans (s : ByteArray) (hs : s.size ≤ 1000000) (x : Int) (w : World) : Calls Tryz.prog 21 #[.string s, .int .i64 x] w (FillAns s x w) := by
  by_cases h : 1 ≤ x ∧ x ≤ 200
  · have h0 := fill_yes s hs x.toNat (by omega) (by omega) w
    rw [show ((x.toNat : Nat) : Int) = x by omega] at h0
    refine h0.mono ?_
    rintro e w' ⟨v, xs, h1, h2, h3, h4⟩
    exact ⟨v, xs, by rw [h1, fillE, if_pos h], h2, by rw [h3, fillL, if_pos h], h4⟩
  · refine (fill_no s x (by omega) w).mono ?_
    rintro e w' ⟨h1, h4⟩
    exact ⟨_, [], by rw [h1, fillE, if_neg h], World.ownsRow_nil _ _ _ _, by rw [fillL, if_neg h]; rfl, h4⟩
theorem refFill_ans (s : ByteArray) (hs : s.size ≤ 1000000) (x : Int) (w : World) : Calls Tryz.prog 22 #[.string s, .int .i64 x] w (FillAns s x w) := by
  by_cases h : 1 ≤ x ∧ x ≤ 200
  · have h0 := refFill_yes s hs x.toNat (by omega) (by omega) w
    rw [show ((x.toNat : Nat) : Int) = x by omega] at h0
    refine h0.mono ?_
    rintro e w' ⟨v, xs, h1, h2, h3, h4⟩
    exact ⟨v, xs, by rw [h1, fillE, if_pos h], h2, by rw [h3, fillL, if_pos h], h4⟩
  · refine (refFill_no s x (by omega) w).mono ?_
    rintro e w' ⟨h1, h4⟩
    exact ⟨_, [], by rw [h1, fillE, if_neg h], World.ownsRow_nil _ _ _ _, by rw [fillL, if_neg h]; rfl, h4⟩
theorem fillL_len (s : ByteArray) (x : Int) : (fillL s x).length ≤ s.size + 2 := by
  rw [fillL]
  split
  · have h3 := lines_len x.toNat (Pl.words (lb s))
    have h4 := length_wt (Pl.words (lb s))
    have h5 := wt_words (lb s)
    rw [sg_len] at h5
    omega
  · simp

theorem lb_map_inj : ∀ (xs ys : List ByteArray), xs.map lb = ys.map lb → xs = ys
  | [], [], _ => rfl
  | x :: xs, y :: ys, h => by
    simp only [List.map_cons, List.cons.injEq] at h
    rw [show x = y from bytes_ext h.1, lb_map_inj xs ys h.2]

set_option maxHeartbeats 8000000 in
set_option maxRecDepth 100000 in
theorem fillFills_walk (s : ByteArray) (x : Int) (hs : s.size ≤ 140737488351232) (hx : (Lit.int .i64 x).wf = true) (w : World) (hP : Pow10 w) :
    Calls Tryz.prog 5 #[.string s, .int .i64 x] w fun e w' => e = .returned (.bool true) ∧ Below w.heap.size w w' := by
  have HP := Lib.hid hP
  have hgp := hP.lt gPow
  clear hP
  by_cases hz : s.size ≤ 3000
  · have hzi : decide ((3000 : Int) < (s.size : Int)) = false := by simp; omega
    go_enter Tryz.func5, Tryz.ntmps5
    go_wp2_with fail
    refine (fill_ans s (by omega) x w).mono ?_
    rintro e w1 ⟨v1, l1, rfl, own1, hl1, b1⟩
    obtain ⟨a1, c1, hv1⟩ := own_lenV own1
    subst hv1
    have n1 : l1.length ≤ s.size + 2 := by have h := congrArg List.length hl1; rw [List.length_map] at h; have := fillL_len s x; omega
    have L1 := Lib.hid hl1
    have C1 := Lib.hid b1
    have O1 := Lib.hid own1
    have hs1 := b1.size
    clear own1 b1 hl1
    go_wp2_with fail
    refine (fill_ans s (by omega) x w1).mono ?_
    rintro e w2 ⟨v2, l2, rfl, own2, hl2, b2⟩
    obtain ⟨a2, c2, hv2⟩ := own_lenV own2
    subst hv2
    have n2 : l2.length ≤ s.size + 2 := by have h := congrArg List.length hl2; rw [List.length_map] at h; have := fillL_len s x; omega
    have L2 := Lib.hid hl2
    have C2 := Lib.hid (C1.out.trans (b2.mono C1.out.size))
    have O1' := Lib.hid (own_keep O1.out b2)
    have O2 := Lib.hid own2
    have hs2 := b2.size
    have HL1 := Lib.hid (fun g (h : (Value.slice a1 l1.length c1).ownBlock = some g) => (O1.out.lt g h).2)
    clear own2 b2 hl2 O1
    go_wp2_with fail
    refine (refFill_ans s (by omega) x w2).mono ?_
    rintro e w3 ⟨v3, l3, rfl, own3, hl3, b3⟩
    obtain ⟨a3, c3, hv3⟩ := own_lenV own3
    subst hv3
    have n3 : l3.length ≤ s.size + 2 := by have h := congrArg List.length hl3; rw [List.length_map] at h; have := fillL_len s x; omega
    have C3 := Lib.hid (C2.out.trans (b3.mono C2.out.size))
    have O1 := Lib.hid (own_keep O1'.out b3)
    have O2' := Lib.hid (own_keep O2.out b3)
    have O3 := Lib.hid own3
    have hs3 := b3.size
    have E1 := Lib.hid (decide_eq_true (lb_map_inj l1 l3 (L1.out.trans hl3.symm)))
    have E2 := Lib.hid (decide_eq_true (lb_map_inj l2 l3 (L2.out.trans hl3.symm)))
    clear own3 b3 hl3 O1' O2 L1 L2
    go_wp2_with fail
    refine (sameTexts_any a1 a3 l1.length l3.length c1 c3 l1 l3 w3 rfl rfl (by omega) (by omega) (TR.of_own O1.out).2 (TR.of_own O3.out).2).mono ?_
    rintro e w4 ⟨rfl, q4, hq4⟩
    rw [E1.out]
    have b4 : Below w3.heap.size w3 w4 := by rw [← hq4]; exact below_drewN (Below.refl _ _) q4
    have C4 := Lib.hid (C3.out.trans (b4.mono C3.out.size))
    have O1' := Lib.hid (own_keep O1.out b4)
    have O2 := Lib.hid (own_keep O2'.out b4)
    have O3' := Lib.hid (own_keep O3.out b4)
    have hs4 := b4.size
    clear b4 O1 O2' O3 hq4
    go_wp2_with fail
    refine (sameTexts_any a2 a3 l2.length l3.length c2 c3 l2 l3 w4 rfl rfl (by omega) (by omega) (TR.of_own O2.out).2 (TR.of_own O3'.out).2).mono ?_
    rintro e w6 ⟨rfl, q6, hq6⟩
    rw [E2.out]
    have b6 : Below w4.heap.size w4 w6 := by rw [← hq6]; exact below_drewN (Below.refl _ _) q6
    have C6 := Lib.hid (C4.out.trans (b6.mono C4.out.size))
    have P1 := Lib.hid (own_keep O1'.out b6)
    have P2 := Lib.hid (ownsRow_base (own_keep O2.out b6) (show w.heap.size ≤ w1.heap.size from hs1))
    have N12 := Lib.hid (rows_apart P1.out (own_keep O2.out b6) (fun g e => HL1.out g e))
    have hs6 := b6.size
    clear b6 O1' O2 O3' hq6
    have hs06 : w.heap.size ≤ w6.heap.size := C6.out.size
    have hbx := heap_alloc_new w6 (.cells (bookC 0 nilV nilV) 44)
    have HBX := Lib.hid hbx
    clear hbx
    go_wp2_with fail
    refine (texts_any w6.heap.size 0 w.heap.size nilV nilV a1 l1.length c1 [] _ (by decide) (by simp; omega) HBX.out (World.ownsRow_nil _ _ _ _)).mono ?_
    rintro e w7 ⟨rfl, tv7, hK7, own7, k7⟩
    have b7 : Below w.heap.size w w7 := (C6.out.alloc hs06 _).trans (k7.belowK (B := w.heap.size) (by simp; omega) (fun k hk => by
      rcases hk with rfl | hk
      · exact hs06
      · cases hk))
    have K7 := Lib.hid hK7
    have OW7 := Lib.hid own7
    have KB7 := Lib.hid k7
    have B7 := Lib.hid b7
    have hs7 : w.heap.size ≤ w7.heap.size := b7.size
    clear hK7 own7 k7 b7
    go_wp2_with fail
    refine (texts_any w6.heap.size 1 w.heap.size nilV tv7 a2 l2.length c2 _ _ (by decide) hs7 K7.out OW7.out).mono ?_
    rintro e w9 ⟨rfl, tv9, hK9, own9, k9⟩
    have b9 : Below w.heap.size w w9 := B7.out.trans (k9.belowK (B := w.heap.size) hs7 (fun k hk => by
      rcases hk with rfl | hk
      · exact hs06
      · exact own_from OW7.out hk))
    have keep : ∀ {v : Value} {m : Nat} {ys : List Value}, w6.ownsRow w.heap.size 9 1 v m ys → w9.ownsRow w.heap.size 9 1 v m ys := fun {v m ys} ho => by
      have h7 := KB7.out.own (ho.alloc _) (fun g hg hk => by
        rcases hk with rfl | hk
        · exact Nat.lt_irrefl _ (own_lt ho hg)
        · cases hk)
      refine k9.own h7 (fun g hg hk => ?_)
      rcases hk with rfl | hk
      · exact Nat.lt_irrefl _ (own_lt ho hg)
      · obtain ⟨cur, hc⟩ := own_at OW7.out hk
        exact own_ne h7 hc (by decide) hg
    have hA := apart_2 w6.heap.size w.heap.size 1 gPow hgp tv9 (.slice a1 l1.length c1) (.slice a2 l2.length c2) l1.length l2.length _ _ w9 b9.size hs06 (HP.out.below gPow b9 hgp) (by omega) (by omega) hK9 own9 (keep P1.out) (keep P2.out) N12.out
    have HAp := Lib.hid hA
    have B9 := Lib.hid b9
    clear hA hK9 own9 k9 b9 keep
    go_wp2_with fail
    refine HAp.out.mono ?_
    rintro e w10 ⟨rfl, b10⟩
    go_wp2_with fail
    go_ret
    exact ⟨rfl, B9.out.trans b10⟩
  · have hzi : (3000 : Int) < (s.size : Int) := by omega
    go_enter Tryz.func5, Tryz.ntmps5
    go_wp2_with fail
    go_ret
    exact ⟨rfl, Below.refl _ _⟩
end Go.Proofs.YtidccanfjcanoaaGreatDoor

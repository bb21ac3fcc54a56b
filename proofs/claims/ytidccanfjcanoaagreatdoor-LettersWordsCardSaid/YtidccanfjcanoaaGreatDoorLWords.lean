/-
  LettersWords: the walk.
-/
import Derived.Test.YtidccanfjcanoaaGreatDoorApt
import Derived.Test.YtidccanfjcanoaaGreatDoorRefWo
import Derived.Test.YtidccanfjcanoaaGreatDoorFlat
import Derived.Test.YtidccanfjcanoaaGreatDoorRows
namespace Go.Proofs.YtidccanfjcanoaaGreatDoor
open Go.RowKit
set_option linter.unusedVariables false

theorem gPow : Pow10At 1 := by unfold Pow10At; kernel_rfl
theorem gPowType : (Tryz.prog.globals[1]?).map (·.type) = some 213 := by kernel_rfl
theorem gPowFlat : flatT Tryz.prog 4 213 = true := by kernel_rfl
theorem pow_flat : flat 4 (Rows.laid_internal_strconv_uint64pow10 (H := Unit)) = Lib.pow10Tab.map (Value.int .u64) := by
  simp [flat, Rows.laid_internal_strconv_uint64pow10, Lib.pow10Tab, List.range, List.range.loop]
theorem pow_of {W : World} {l : List (String × DataW Unit)} (h : laidMet Tryz.prog l W) (h2 : ("internal/strconv.uint64pow10", Rows.laid_internal_strconv_uint64pow10) ∈ l) : Pow10 W :=
  tabIs_of_laid h h2 gPow gPowType gPowFlat pow_flat
theorem beyondNo1 {a : Nat} (h : beyond [(a : Int)] = false) : a ≤ 1048576 := by
  unfold beyond sumI at h
  simp at h
  omega
theorem lbs_inj : ∀ {xs ys : List ByteArray}, xs.map lb = ys.map lb → xs = ys
  | [], [], _ => rfl
  | [], _ :: _, h => by cases h
  | _ :: _, [], h => by cases h
  | x :: xs, y :: ys, h => by
    simp only [List.map_cons, List.cons.injEq] at h
    rw [bytes_ext h.1, lbs_inj h.2]
set_option maxHeartbeats 4000000 in
set_option maxRecDepth 100000 in
theorem lettersWords_walk (s : ByteArray) (hs : s.size ≤ 140737488351232) (w : World) (hP : Pow10 w) :
    Calls Tryz.prog 3 #[.string s] w fun e w' => e = .returned (.bool true) ∧ Below w.heap.size w w' := by
  rcases hb : beyond [(s.size : Int)]
  · have hz := beyondNo1 hb
    go_enter Tryz.func3, Tryz.ntmps3
    go_wp2_with fail
    refine (beyond1 w s.size (by omega)).mono ?_
    rintro e w' ⟨rfl, rfl⟩
    have c1 : Below w.heap.size w (w.alloc (.cells #[.int .i64 (s.size : Int)] 3)) := (Below.refl _ _).alloc (Nat.le_refl _) _
    have C1 := Lib.hid c1
    clear c1
    go_wp2_with fail
    refine (words_any s (by omega) _).mono ?_
    rintro e w1 ⟨v1, xs1, rfl, own1, eq1, len1, b1⟩
    have C2 := Lib.hid (C1.out.trans (b1.mono C1.out.size))
    have OWN1 := Lib.hid own1
    have EQ1 := Lib.hid eq1
    have s1 := C1.out.size
    clear own1 eq1 b1
    go_wp2_with fail
    refine (words_any s (by omega) _).mono ?_
    rintro e w2 ⟨v2, xs2, rfl, own2, eq2, len2, b2⟩
    have C3 := Lib.hid (C2.out.trans (b2.mono C2.out.size))
    have OWN2 := Lib.hid own2
    have B2 := Lib.hid b2
    clear own2 eq2 b2
    go_wp2_with fail
    refine (refWords_any s (by omega) _).mono ?_
    rintro e w3 ⟨v3, xs3, rfl, own3, eq3, len3, b3⟩
    have C4 := Lib.hid (C3.out.trans (b3.mono C3.out.size))
    obtain rfl : xs1 = xs3 := lbs_inj (EQ1.out.trans eq3.symm)
    have o1 := (OWN1.out.kept (row := none) (grown_below B2.out) (none_or _)).kept (row := none) (grown_below b3) (none_or _)
    have o2 := OWN2.out.kept (row := none) (grown_below b3) (none_or _)
    obtain ⟨a1, p1, hv1⟩ := own_lenOf o1
    obtain ⟨a3, p3, hv3⟩ := own_lenOf own3
    obtain ⟨a2, p2, hv2⟩ := own_lenOf o2
    subst hv1 hv2 hv3
    have t1 := TR.of_own o1
    have t3 := TR.of_own own3
    have hne : (Value.slice a1 xs1.length p1).ownBlock = none ∨ (Value.slice a1 xs1.length p1).ownBlock ≠ (Value.slice a2 xs2.length p2).ownBlock := by
      cases a2 with
      | none =>
        cases a1 with
        | none => exact .inl rfl
        | some a1 => exact .inr (by simp [Value.ownBlock])
      | some q2 =>
        refine .inr (fun e => ?_)
        have h1 := own_lt OWN1.out (g := q2.block) (by rw [e]; rfl)
        rcases OWN2.out.2 with ⟨h, _⟩ | ⟨g, cap, cur, h, hb, _⟩
        · cases h
        · injection h with h; injection h with h
          subst h
          simp at h1
          omega
    have O1 := Lib.hid o1
    have O2 := Lib.hid o2
    have NE := Lib.hid hne
    have B3 := Lib.hid b3
    have T1 := Lib.hid t1
    have T3 := Lib.hid t3
    clear o1 o2 own3 eq3 hne b3 t1 t3
    go_wp2_with fail
    refine (sameTexts_any a1 a3 _ _ p1 p3 xs1 xs1 w3 rfl rfl (by omega) (by omega) T1.out.2 T3.out.2).mono ?_
    rintro e w4 ⟨rfl, q, hq⟩
    have hd : decide (xs1 = xs1) = true := decide_eq_true rfl
    have c5 : Below w.heap.size w w4 := by rw [← hq]; exact below_drewN C4.out q
    have o1 : w4.ownsRow w.heap.size 9 1 (.slice a1 xs1.length p1) xs1.length (xs1.map Value.string) := by rw [← hq]; exact ownsRow_base O1.out (by simp)
    have o2 : w4.ownsRow w.heap.size 9 1 (.slice a2 xs2.length p2) xs2.length (xs2.map Value.string) := by rw [← hq]; exact ownsRow_base O2.out C2.out.size
    have hbx := heap_alloc_new w4 (.cells (bookC 0 nilV nilV) 44)
    have HBX := Lib.hid hbx
    have C5 := Lib.hid c5
    have P1 := Lib.hid o1
    have P2 := Lib.hid o2
    have hs4 : w.heap.size ≤ w4.heap.size := c5.size
    clear hbx hq c5 o1 o2
    go_wp2_with fail
    refine (texts_any w4.heap.size 0 w.heap.size nilV nilV a1 xs1.length p1 [] _ (by decide) (by simp; omega) HBX.out (World.ownsRow_nil _ _ _ _)).mono ?_
    rintro e w5 ⟨rfl, tv, hK5, own5, k5⟩
    have b5 : Below w.heap.size w w5 := (C5.out.alloc hs4 _).trans (k5.below (B := w.heap.size) (by simp; omega) (fun k hk => by
      rcases hk with rfl | hk
      · exact hs4
      · cases hk))
    have K5 := Lib.hid hK5
    have OW5 := Lib.hid own5
    have KB5 := Lib.hid k5
    have B5 := Lib.hid b5
    have hs5 : w.heap.size ≤ w5.heap.size := b5.size
    clear hK5 own5 k5 b5
    go_wp2_with fail
    refine (texts_any w4.heap.size 1 w.heap.size nilV tv a2 xs2.length p2 _ _ (by decide) hs5 K5.out OW5.out).mono ?_
    rintro e w6 ⟨rfl, tv2, hK6, own6, k6⟩
    have b6 : Below w.heap.size w w6 := B5.out.trans (k6.below (B := w.heap.size) hs5 (fun k hk => by
      rcases hk with rfl | hk
      · exact hs4
      · rcases OW5.out.2 with ⟨h, _⟩ | ⟨g, cap, cur, h, hb, _⟩
        · rw [h] at hk; cases hk
        · rw [h] at hk
          injection hk with hk
          simp at hk
          omega))
    have keep : ∀ {v : Value} {n : Nat} {ys : List Value}, w4.ownsRow w.heap.size 9 1 v n ys → w6.ownsRow w.heap.size 9 1 v n ys := fun {v n ys} ho => by
      have h5 := KB5.out.own (ho.alloc _) (fun g hg hk => by
        rcases hk with rfl | hk
        · exact Nat.lt_irrefl _ (own_lt ho hg)
        · cases hk)
      refine k6.own h5 (fun g hg hk => ?_)
      rcases hk with rfl | hk
      · exact Nat.lt_irrefl _ (own_lt ho hg)
      · obtain ⟨cur, hc⟩ := own_at OW5.out hk
        exact own_ne h5 hc (by decide) hg
    have hA := apart_two w4.heap.size w.heap.size 1 gPow (hP.lt gPow) tv2 (.slice a1 xs1.length p1) (.slice a2 xs2.length p2) xs1.length xs2.length _ _ w6 b6.size hs4 (hP.below gPow b6 (hP.lt gPow)) (by omega) (by omega) hK6 own6 (keep P1.out) (keep P2.out) NE.out
    have HA := Lib.hid hA
    have B6 := Lib.hid b6
    clear hA hK6 own6 k6 b6 keep
    go_wp2_with fail
    refine HA.out.mono ?_
    rintro e w7 ⟨rfl, b7⟩
    go_wp2_with fail
    go_ret
    exact ⟨rfl, B6.out.trans b7⟩
  · go_enter Tryz.func3, Tryz.ntmps3
    go_wp2_with fail
    refine (beyond1 w s.size (by omega)).mono ?_
    rintro e w' ⟨rfl, rfl⟩
    go_wp2_with fail
    go_ret
    exact ⟨rfl, (Below.refl _ _).alloc (Nat.le_refl _) _⟩
end Go.Proofs.YtidccanfjcanoaaGreatDoor

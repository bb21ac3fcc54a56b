/-
  NumbersDotted: the walk.
-/
import Derived.Test.YtidccanfjcanoaaGreatDoorPowR
import Derived.Test.YtidccanfjcanoaaGreatDoorNxtR
import Derived.Test.YtidccanfjcanoaaGreatDoorDotR
import Derived.Test.YtidccanfjcanoaaGreatDoorOpenJ
namespace Go.Proofs.YtidccanfjcanoaaGreatDoor
open Go.RowKit
set_option linter.unusedVariables false

theorem own_lenV {w : World} {B e sz n : Nat} {v : Value} {xs : List Value} (h : w.ownsRow B e sz v n xs) : ∃ a c, v = .slice a n c := by
  rcases h.2 with ⟨rfl, rfl⟩ | ⟨g, cap, cur, rfl, _⟩
  · exact ⟨_, _, rfl⟩
  · exact ⟨_, _, rfl⟩
theorem own_keep {A A' : World} {B e sz n : Nat} {v : Value} {xs : List Value} (h : A.ownsRow B e sz v n xs) (hb : Below A.heap.size A A') : A'.ownsRow B e sz v n xs :=
  h.kept (row := none) (grown_below hb) (none_or _)
/-- An elder row and one that was made behind it. -/
theorem rows_apart {w : World} {B B' e e' n n' : Nat} {v v' : Value} {xs ys : List Value} (h : w.ownsRow B e 1 v n xs) (h' : w.ownsRow B' e' 1 v' n' ys) (hlt : ∀ g, v.ownBlock = some g → g < B') : v.ownBlock = none ∨ v.ownBlock ≠ v'.ownBlock := by
  cases hv : v.ownBlock with
  | none => exact .inl rfl
  | some g =>
    refine .inr (fun e => ?_)
    have h1 := hlt g hv
    have h2 := (h'.lt g e.symm).1
    omega
theorem KeptBut.belowK {w w' : World} {P : Nat → Prop} {B : Nat} (h : KeptBut w w' P) (hB : B ≤ w.heap.size) (hP : ∀ k, P k → B ≤ k) : Below B w w' :=
  ⟨h.os, h.tape, h.output, h.size, fun k hk => h.block k (by omega) (fun e => by have := hP k e; omega)⟩
theorem own_from {w : World} {B e sz n g : Nat} {v : Value} {xs : List Value} (h : w.ownsRow B e sz v n xs) (hg : v.ownBlock = some g) : B ≤ g := (h.lt g hg).1
theorem nxL_len (l : List Int) (v : Int) : (nxL l v).length ≤ 3 := by
  unfold nxL
  split
  · simp
  · split
    · simp
    · rw [List.length_set, pad, List.length_take]
      rename_i h _
      unfold nxBad at h
      omega

set_option maxHeartbeats 8000000 in
set_option maxRecDepth 100000 in
theorem numbersDotted_walk (w : World) (A : Option Addr) (n c : Nat) (l : List Int) (x : Int) (hl : l.length = n) (hA : IA w A c l) (hi : Rm.inI l) (hx : (Lit.int .i64 x).wf = true) (hP : Pow10 w) :
    Calls Tryz.prog 4 #[.slice A n c, .int .i64 x] w fun e w' => e = .returned (.bool true) ∧ Below w.heap.size w w' := by
  have HA := Lib.hid hA.ir
  have HI := Lib.hid hi
  have HP := Lib.hid hP
  have hgp := hP.lt gPow
  clear hA hi hP
  by_cases hz : n ≤ 1000
  · have hzi : decide ((1000 : Int) < (n : Int)) = false := by simp; omega
    go_enter Tryz.func4, Tryz.ntmps4
    go_wp2_with fail
    refine (twinInts_any A n c l w hl (by omega) HA.out).mono ?_
    rintro e w1 ⟨g1, cp1, rfl, own1, b1⟩
    have C1 := Lib.hid b1
    have O1 := Lib.hid own1
    have T1 := Lib.hid (HA.out.below b1)
    have hs1 := b1.size
    clear own1 b1
    have R1 : Hid (IR w1 (some ⟨g1, 0, none⟩) l) := Lib.hid (IR.of_own (own_take O1.out (by rw [List.length_map, hl]))).2
    go_wp2_with fail
    refine (next_ans (some ⟨g1, 0, none⟩) n cp1 l x hl w1 R1.out).mono ?_
    rintro e w2 ⟨v2, rfl, own2, b2⟩
    obtain ⟨a2, c2, hv2⟩ := own_lenV own2
    subst hv2
    have C2 := Lib.hid (C1.out.trans (b2.mono C1.out.size))
    have O1' := Lib.hid (own_keep O1.out b2)
    have O2 := Lib.hid own2
    have R2 := Lib.hid (R1.out.below b2)
    have T2 := Lib.hid (T1.out.below b2)
    have hs2 := b2.size
    have hg1 : g1 < w1.heap.size := (O1.out.lt g1 rfl).2
    have hL := nxL_len l x
    generalize hnl : nxL l x = nl at *
    generalize hnE : nxE l x = ne at *
    clear own2 b2
    go_wp2_with fail
    refine (next_ans (some ⟨g1, 0, none⟩) n cp1 l x hl w2 R2.out).mono ?_
    rintro e w3 ⟨v3, rfl, own3, b3⟩
    rw [hnl] at own3
    obtain ⟨a3, c3, hv3⟩ := own_lenV own3
    subst hv3
    have C3 := Lib.hid (C2.out.trans (b3.mono C2.out.size))
    have O1 := Lib.hid (own_keep O1'.out b3)
    have O2' := Lib.hid (own_keep O2.out b3)
    have O3 := Lib.hid own3
    have R3 := Lib.hid (R2.out.below b3)
    have T3 := Lib.hid (T2.out.below b3)
    have hs3 := b3.size
    have HL2 := Lib.hid (fun g (h : (Value.slice a2 nl.length c2).ownBlock = some g) => (O2.out.lt g h).2)
    clear own3 b3 O1'
    go_wp2_with fail
    refine (refNext_ans A n c l x hl w3 T3.out).mono ?_
    rintro e w4 ⟨v4, rfl, own4, b4⟩
    rw [hnl] at own4
    obtain ⟨a4, c4, hv4⟩ := own_lenV own4
    subst hv4
    have C4 := Lib.hid (C3.out.trans (b4.mono C3.out.size))
    have O1' := Lib.hid (own_keep O1.out b4)
    have O2 := Lib.hid (own_keep O2'.out b4)
    have O3' := Lib.hid (own_keep O3.out b4)
    have O4 := Lib.hid own4
    have R4 := Lib.hid (R3.out.below b4)
    have T4 := Lib.hid (T3.out.below b4)
    have hs4 := b4.size
    rw [hnE]
    clear own4 b4 O1 O2' O3
    go_wp2_with fail
    refine (dotted_any (some ⟨g1, 0, none⟩) n cp1 1 l hl (by omega) HI.out w4 R4.out (HP.out.below gPow C4.out hgp) gPow).mono ?_
    rintro e w5 ⟨⟨y, rfl, hy⟩, b5⟩
    have HY := Lib.hid hy
    have C5 := Lib.hid (C4.out.trans (b5.mono C4.out.size))
    have O1 := Lib.hid (own_keep O1'.out b5)
    have O2' := Lib.hid (own_keep O2.out b5)
    have O3 := Lib.hid (own_keep O3'.out b5)
    have O4' := Lib.hid (own_keep O4.out b5)
    have T5 := Lib.hid (T4.out.below b5)
    have hs5 := b5.size
    clear b5 O1' O2 O3' O4 hy
    go_wp2_with fail
    refine (refDotted_any A n c l hl (by omega) HI.out w5 T5.out).mono ?_
    rintro e w6 ⟨⟨y', rfl, hy'⟩, q6, hq6⟩
    obtain rfl : y = y' := bytes_ext (HY.out.trans hy'.symm)
    have b6 : Below w5.heap.size w5 w6 := by rw [hq6]; exact below_drewN (Below.refl _ _) q6
    have C6 := Lib.hid (C5.out.trans (b6.mono C5.out.size))
    have O1' := Lib.hid (own_keep O1.out b6)
    have O2 := Lib.hid (own_keep O2'.out b6)
    have O3' := Lib.hid (own_keep O3.out b6)
    have O4 := Lib.hid (own_keep O4'.out b6)
    have T6 := Lib.hid (T5.out.below b6)
    have hs6 := b6.size
    have hyy : (y.toList == y.toList) = true := by simp
    clear b6 O1 O2' O3 O4' hy' hq6
    go_wp2_with fail
    refine (sameInts_any a2 a4 nl.length nl.length c2 c4 nl nl w6 rfl rfl (by omega) (by omega) (IR.of_own O2.out).2 (IR.of_own O4.out).2).mono ?_
    rintro e w7 ⟨rfl, q7, hq7⟩
    rw [show decide (nl = nl) = true from decide_eq_true rfl]
    have b7 : Below w6.heap.size w6 w7 := by rw [← hq7]; exact below_drewN (Below.refl _ _) q7
    have C7 := Lib.hid (C6.out.trans (b7.mono C6.out.size))
    have O1 := Lib.hid (own_keep O1'.out b7)
    have O2' := Lib.hid (own_keep O2.out b7)
    have O3 := Lib.hid (own_keep O3'.out b7)
    have O4' := Lib.hid (own_keep O4.out b7)
    have T7 := Lib.hid (T6.out.below b7)
    have hs7 := b7.size
    clear b7 O1' O2 O3' O4 hq7
    go_wp2_with fail
    refine (sameInts_any a3 a4 nl.length nl.length c3 c4 nl nl w7 rfl rfl (by omega) (by omega) (IR.of_own O3.out).2 (IR.of_own O4'.out).2).mono ?_
    rintro e w8 ⟨rfl, q8, hq8⟩
    rw [show decide (nl = nl) = true from decide_eq_true rfl]
    have b8 : Below w7.heap.size w7 w8 := by rw [← hq8]; exact below_drewN (Below.refl _ _) q8
    have C8 := Lib.hid (C7.out.trans (b8.mono C7.out.size))
    have O1' := Lib.hid (own_keep O1.out b8)
    have O2 := Lib.hid (own_keep O2'.out b8)
    have O3' := Lib.hid (own_keep O3.out b8)
    have T8 := Lib.hid (T7.out.below b8)
    have hs8 := b8.size
    clear b8 O1 O2' O3 O4' hq8
    go_wp2_with fail
    refine (leftInts_any w.heap.size g1 n cp1 A c l w8 hl (by omega) T8.out O1'.out).mono ?_
    rintro e w9 ⟨rfl, q9, hq9⟩
    have b9 : Below w8.heap.size w8 w9 := by rw [← hq9]; exact below_drewN (Below.refl _ _) q9
    have C9 := Lib.hid (C8.out.trans (b9.mono C8.out.size))
    have P1 := Lib.hid (own_take (own_keep O1'.out b9) (by rw [List.length_map, hl]))
    have P2 := Lib.hid (ownsRow_base (own_keep O2.out b9) (show w.heap.size ≤ w1.heap.size from hs1))
    have P3 := Lib.hid (ownsRow_base (own_keep O3'.out b9) (show w.heap.size ≤ w2.heap.size from Nat.le_trans hs1 hs2))
    have N12 := Lib.hid (rows_apart P1.out (own_keep O2.out b9) (fun g e => by
      have : g1 = g := by simpa [Value.ownBlock] using e
      omega))
    have N13 := Lib.hid (rows_apart P1.out (own_keep O3'.out b9) (fun g e => by
      have : g1 = g := by simpa [Value.ownBlock] using e
      omega))
    have N23 := Lib.hid (rows_apart P2.out (own_keep O3'.out b9) (fun g e => by have := HL2.out g e; omega))
    have hs9 := b9.size
    clear b9 O1' O2 O3' hq9
    have hs09 : w.heap.size ≤ w9.heap.size := C9.out.size
    have hbx := heap_alloc_new w9 (.cells (bookC 0 nilV nilV) 44)
    have HBX := Lib.hid hbx
    clear hbx
    go_wp2_with fail
    refine (intsB_any w9.heap.size 0 w.heap.size nilV nilV (some ⟨g1, 0, none⟩) n cp1 [] _ (by decide) (by simp; omega) HBX.out (World.ownsRow_nil _ _ _ _)).mono ?_
    rintro e w10 ⟨rfl, tv10, hK10, own10, k10⟩
    have b10 : Below w.heap.size w w10 := (C9.out.alloc hs09 _).trans (k10.belowK (B := w.heap.size) (by simp; omega) (fun k hk => by
      rcases hk with rfl | hk
      · exact hs09
      · cases hk))
    have K10 := Lib.hid hK10
    have OW10 := Lib.hid own10
    have KB10 := Lib.hid k10
    have B10 := Lib.hid b10
    have hs10 : w.heap.size ≤ w10.heap.size := b10.size
    clear hK10 own10 k10 b10
    go_wp2_with fail
    refine (intsB_any w9.heap.size 1 w.heap.size nilV tv10 a2 nl.length c2 _ _ (by decide) hs10 K10.out OW10.out).mono ?_
    rintro e w11 ⟨rfl, tv11, hK11, own11, k11⟩
    have b11 : Below w.heap.size w w11 := B10.out.trans (k11.belowK (B := w.heap.size) hs10 (fun k hk => by
      rcases hk with rfl | hk
      · exact hs09
      · exact own_from OW10.out hk))
    have K11 := Lib.hid hK11
    have OW11 := Lib.hid own11
    have KB11 := Lib.hid k11
    have B11 := Lib.hid b11
    have hs11 : w.heap.size ≤ w11.heap.size := b11.size
    clear hK11 own11 k11 b11
    go_wp2_with fail
    refine (intsB_any w9.heap.size 2 w.heap.size nilV tv11 a3 nl.length c3 _ _ (by decide) hs11 K11.out OW11.out).mono ?_
    rintro e w12 ⟨rfl, tv12, hK12, own12, k12⟩
    have b12 : Below w.heap.size w w12 := B11.out.trans (k12.belowK (B := w.heap.size) hs11 (fun k hk => by
      rcases hk with rfl | hk
      · exact hs09
      · exact own_from OW11.out hk))
    have keep : ∀ {v : Value} {m : Nat} {ys : List Value}, w9.ownsRow w.heap.size 3 1 v m ys → w12.ownsRow w.heap.size 3 1 v m ys := fun {v m ys} ho => by
      have h7 := KB10.out.own (ho.alloc _) (fun g hg hk => by
        rcases hk with rfl | hk
        · exact Nat.lt_irrefl _ (own_lt ho hg)
        · cases hk)
      have h8 := KB11.out.own h7 (fun g hg hk => by
        rcases hk with rfl | hk
        · exact Nat.lt_irrefl _ (own_lt ho hg)
        · obtain ⟨cur, hc⟩ := own_at OW10.out hk
          exact own_ne h7 hc (by decide) hg)
      refine k12.own h8 (fun g hg hk => ?_)
      rcases hk with rfl | hk
      · exact Nat.lt_irrefl _ (own_lt ho hg)
      · obtain ⟨cur, hc⟩ := own_at OW11.out hk
        exact own_ne h8 hc (by decide) hg
    have hA := apartI_3 w9.heap.size w.heap.size 1 gPow hgp tv12 (.slice (some ⟨g1, 0, none⟩) n cp1) (.slice a2 nl.length c2) (.slice a3 nl.length c3) n nl.length nl.length _ _ _ w12 b12.size hs09 (HP.out.below gPow b12 hgp) (by omega) (by omega) (by omega) hK12 own12 (keep P1.out) (keep P2.out) (keep P3.out) N12.out N13.out N23.out
    have HAp := Lib.hid hA
    have B12 := Lib.hid b12
    clear hA hK12 own12 k12 b12 keep
    go_wp2_with fail
    refine HAp.out.mono ?_
    rintro e w13 ⟨rfl, b13⟩
    go_wp2_with fail
    go_ret
    exact ⟨rfl, B12.out.trans b13⟩
  · have hzi : (1000 : Int) < (n : Int) := by omega
    go_enter Tryz.func4, Tryz.ntmps4
    go_wp2_with fail
    go_ret
    exact ⟨rfl, Below.refl _ _⟩
end Go.Proofs.YtidccanfjcanoaaGreatDoor

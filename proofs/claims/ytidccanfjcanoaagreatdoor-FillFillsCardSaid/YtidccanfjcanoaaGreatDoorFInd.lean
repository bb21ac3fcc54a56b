/-
  FillIndents: the walk.
-/
import Derived.Test.YtidccanfjcanoaaGreatDoorPowR
import Derived.Test.YtidccanfjcanoaaGreatDoorLeftT
import Derived.Test.YtidccanfjcanoaaGreatDoorRefI
namespace Go.Proofs.YtidccanfjcanoaaGreatDoor
open Go.RowKit
set_option linter.unusedVariables false

theorem own_lenV {w : World} {B e sz n : Nat} {v : Value} {xs : List Value} (h : w.ownsRow B e sz v n xs) : ∃ a c, v = .slice a n c := by
  rcases h.2 with ⟨rfl, rfl⟩ | ⟨g, cap, cur, rfl, _⟩
  · exact ⟨_, _, rfl⟩
  · exact ⟨_, _, rfl⟩
theorem own_keep {A A' : World} {B e sz n : Nat} {v : Value} {xs : List Value} (h : A.ownsRow B e sz v n xs) (hb : Below A.heap.size A A') : A'.ownsRow B e sz v n xs :=
  h.kept (row := none) (grown_below hb) (none_or _)
/-- An elder row and one that was made behind it. -/
theorem rows_apart {w : World} {B B' e e' n n' : Nat} {v v' : Value} {xs ys : List Value} (h : w.ownsRow B e 1 v n xs) (h' : w.ownsRow B' e' 1 v' n' ys) (hlt : ∀ g, v.ownBlock = some g → g < B') : v.ownBlock = none ∨ v.ownBlock ≠ v'.ownBlock := by
  cases hv : v.ownBlock with
  | none => exact .inl rfl
  | some g =>
    refine .inr (fun e => ?_)
    have h1 := hlt g hv
    have h2 := (h'.lt g e.symm).1
    omega
theorem KeptBut.belowK {w w' : World} {P : Nat → Prop} {B : Nat} (h : KeptBut w w' P) (hB : B ≤ w.heap.size) (hP : ∀ k, P k → B ≤ k) : Below B w w' :=
  ⟨h.os, h.tape, h.output, h.size, fun k hk => h.block k (by omega) (fun e => by have := hP k e; omega)⟩
theorem own_from {w : World} {B e sz n g : Nat} {v : Value} {xs : List Value} (h : w.ownsRow B e sz v n xs) (hg : v.ownBlock = some g) : B ≤ g := (h.lt g hg).1

set_option maxHeartbeats 8000000 in
set_option maxRecDepth 100000 in
theorem fillIndents_walk (w : World) (A : Option Addr) (n c : Nat) (xs : List ByteArray) (x : Int) (hl : xs.length = n) (hA : TR w A xs) (hn : n ≤ 8796093022208) (hs : ∀ i, (xs.getD i ByteArray.empty).size ≤ 140737488351232) (hx : (Lit.int .i64 x).wf = true) (hP : Pow10 w) :
    Calls Tryz.prog 6 #[.slice A n c, .int .i64 x] w fun e w' => e = .returned (.bool true) ∧ Below w.heap.size w w' := by
  have HA := Lib.hid hA
  have HS := Lib.hid hs
  have HP := Lib.hid hP
  have hgp := hP.lt gPow
  clear hA hs hP
  by_cases hz : n ≤ 500
  · have hzi : decide ((500 : Int) < (n : Int)) = false := by simp; omega
    go_enter Tryz.func6, Tryz.ntmps6
    go_wp2_with fail
    refine (textsSize_any A n c xs w hl (by omega) HA.out HS.out).mono ?_
    rintro e w' ⟨r, rfl, HR, rfl⟩
    by_cases hr : r ≤ 100000
    · have hri : decide ((100000 : Int) < r) = false := by simp; omega
      have hsz : ∀ i, (xs.getD i ByteArray.empty).size ≤ 100000 := fun i => by
        by_cases hi : i < xs.length
        · have h1 := tsz_elem n xs i hi
          have h2 := HR.out (by omega) xs.length (Nat.le_refl _)
          omega
        · rw [List.getD_eq_getElem?_getD, List.getElem?_eq_none (by omega)]; simp
      have HZ := Lib.hid hsz
      clear hsz HR
      go_wp2_with fail
      refine (twinTexts_any A n c xs w hl (by omega) HA.out).mono ?_
      rintro e w1 ⟨g1, cp1, rfl, own1, b1⟩
      have C1 := Lib.hid b1
      have O1 := Lib.hid own1
      have T1 := Lib.hid (HA.out.below b1)
      have hs1 := b1.size
      clear own1 b1
      have R1 : Hid (TR w1 (some ⟨g1, 0, none⟩) xs) := Lib.hid (TR.of_own (own_take O1.out (by rw [List.length_map, hl]))).2
      go_wp2_with fail
      refine (indent_any (some ⟨g1, 0, none⟩) n cp1 xs x w1 hl (by omega) R1.out (fun i => by have := HZ.out i; omega)).mono ?_
      rintro e w2 ⟨v2, rfl, own2, b2⟩
      obtain ⟨a2, c2, hv2⟩ := own_lenV own2
      subst hv2
      have C2 := Lib.hid (C1.out.trans (b2.mono C1.out.size))
      have O1' := Lib.hid (own_keep O1.out b2)
      have O2 := Lib.hid own2
      have R2 := Lib.hid (R1.out.below b2)
      have T2 := Lib.hid (T1.out.below b2)
      have hs2 := b2.size
      have hg1 : g1 < w1.heap.size := (O1.out.lt g1 rfl).2
      clear own2 b2
      go_wp2_with fail
      refine (indent_any (some ⟨g1, 0, none⟩) n cp1 xs x w2 hl (by omega) R2.out (fun i => by have := HZ.out i; omega)).mono ?_
      rintro e w3 ⟨v3, rfl, own3, b3⟩
      obtain ⟨a3, c3, hv3⟩ := own_lenV own3
      subst hv3
      have C3 := Lib.hid (C2.out.trans (b3.mono C2.out.size))
      have O1 := Lib.hid (own_keep O1'.out b3)
      have O2' := Lib.hid (own_keep O2.out b3)
      have O3 := Lib.hid own3
      have T3 := Lib.hid (T2.out.below b3)
      have hs3 := b3.size
      have HL2 := Lib.hid (fun g (h : (Value.slice a2 n c2).ownBlock = some g) => (O2.out.lt g h).2)
      clear own3 b3 O1'
      go_wp2_with fail
      refine (refIndent_any A n c xs x w3 hl (by omega) T3.out (fun i => by have := HZ.out i; omega)).mono ?_
      rintro e w4 ⟨v4, rfl, own4, b4⟩
      obtain ⟨a4, c4, hv4⟩ := own_lenV own4
      subst hv4
      have C4 := Lib.hid (C3.out.trans (b4.mono C3.out.size))
      have O1' := Lib.hid (own_keep O1.out b4)
      have O2 := Lib.hid (own_keep O2'.out b4)
      have O3' := Lib.hid (own_keep O3.out b4)
      have O4 := Lib.hid own4
      have T4 := Lib.hid (T3.out.below b4)
      have hs4 := b4.size
      clear own4 b4 O1 O2' O3
      go_wp2_with fail
      refine (sameTexts_any a2 a4 n n c2 c4 (xs.map (indB (clN x))) (xs.map (indB (clN x))) w4 (by rw [List.length_map, hl]) (by rw [List.length_map, hl]) (by omega) (by omega) (TR.of_own O2.out).2 (TR.of_own O4.out).2).mono ?_
      rintro e w5 ⟨rfl, q5, hq5⟩
      have hd : decide (xs.map (indB (clN x)) = xs.map (indB (clN x))) = true := decide_eq_true rfl
      rw [hd]
      have b5 : Below w4.heap.size w4 w5 := by rw [← hq5]; exact below_drewN (Below.refl _ _) q5
      have C5 := Lib.hid (C4.out.trans (b5.mono C4.out.size))
      have O1 := Lib.hid (own_keep O1'.out b5)
      have O2' := Lib.hid (own_keep O2.out b5)
      have O3 := Lib.hid (own_keep O3'.out b5)
      have T5 := Lib.hid (T4.out.below b5)
      have hs5 := b5.size
      clear b5 O1' O2 O3' O4 hq5 hd
      go_wp2_with fail
      refine (leftTexts_any w.heap.size g1 n cp1 A c xs w5 hl (by omega) T5.out O1.out).mono ?_
      rintro e w6 ⟨rfl, q6, hq6⟩
      have b6 : Below w5.heap.size w5 w6 := by rw [← hq6]; exact below_drewN (Below.refl _ _) q6
      have C6 := Lib.hid (C5.out.trans (b6.mono C5.out.size))
      have P1 := Lib.hid (own_take (own_keep O1.out b6) (by rw [List.length_map, hl]))
      have P2 := Lib.hid (ownsRow_base (own_keep O2'.out b6) (show w.heap.size ≤ w1.heap.size from hs1))
      have P3 := Lib.hid (ownsRow_base (own_keep O3.out b6) (show w.heap.size ≤ w2.heap.size from Nat.le_trans hs1 hs2))
      have N12 := Lib.hid (rows_apart P1.out (own_keep O2'.out b6) (fun g e => by
        have : g1 = g := by simpa [Value.ownBlock] using e
        omega))
      have N13 := Lib.hid (rows_apart P1.out (own_keep O3.out b6) (fun g e => by
        have : g1 = g := by simpa [Value.ownBlock] using e
        omega))
      have N23 := Lib.hid (rows_apart P2.out (own_keep O3.out b6) (fun g e => by have := HL2.out g e; omega))
      have hs6 := b6.size
      clear b6 O1 O2' O3 hq6
      have hs06 : w.heap.size ≤ w6.heap.size := C6.out.size
      have hbx := heap_alloc_new w6 (.cells (bookC 0 nilV nilV) 44)
      have HBX := Lib.hid hbx
      clear hbx
      go_wp2_with fail
      refine (texts_any w6.heap.size 0 w.heap.size nilV nilV (some ⟨g1, 0, none⟩) n cp1 [] _ (by decide) (by simp; omega) HBX.out (World.ownsRow_nil _ _ _ _)).mono ?_
      rintro e w7 ⟨rfl, tv7, hK7, own7, k7⟩
      have b7 : Below w.heap.size w w7 := (C6.out.alloc hs06 _).trans (k7.belowK (B := w.heap.size) (by simp; omega) (fun k hk => by
        rcases hk with rfl | hk
        · exact hs06
        · cases hk))
      have K7 := Lib.hid hK7
      have OW7 := Lib.hid own7
      have KB7 := Lib.hid k7
      have B7 := Lib.hid b7
      have hs7 : w.heap.size ≤ w7.heap.size := b7.size
      clear hK7 own7 k7 b7
      go_wp2_with fail
      refine (texts_any w6.heap.size 1 w.heap.size nilV tv7 a2 n c2 _ _ (by decide) hs7 K7.out OW7.out).mono ?_
      rintro e w8 ⟨rfl, tv8, hK8, own8, k8⟩
      have b8 : Below w.heap.size w w8 := B7.out.trans (k8.belowK (B := w.heap.size) hs7 (fun k hk => by
        rcases hk with rfl | hk
        · exact hs06
        · exact own_from OW7.out hk))
      have K8 := Lib.hid hK8
      have OW8 := Lib.hid own8
      have KB8 := Lib.hid k8
      have B8 := Lib.hid b8
      have hs8 : w.heap.size ≤ w8.heap.size := b8.size
      clear hK8 own8 k8 b8
      go_wp2_with fail
      refine (texts_any w6.heap.size 2 w.heap.size nilV tv8 a3 n c3 _ _ (by decide) hs8 K8.out OW8.out).mono ?_
      rintro e w9 ⟨rfl, tv9, hK9, own9, k9⟩
      have b9 : Below w.heap.size w w9 := B8.out.trans (k9.belowK (B := w.heap.size) hs8 (fun k hk => by
        rcases hk with rfl | hk
        · exact hs06
        · exact own_from OW8.out hk))
      have keep : ∀ {v : Value} {m : Nat} {ys : List Value}, w6.ownsRow w.heap.size 9 1 v m ys → w9.ownsRow w.heap.size 9 1 v m ys := fun {v m ys} ho => by
        have h7 := KB7.out.own (ho.alloc _) (fun g hg hk => by
          rcases hk with rfl | hk
          · exact Nat.lt_irrefl _ (own_lt ho hg)
          · cases hk)
        have h8 := KB8.out.own h7 (fun g hg hk => by
          rcases hk with rfl | hk
          · exact Nat.lt_irrefl _ (own_lt ho hg)
          · obtain ⟨cur, hc⟩ := own_at OW7.out hk
            exact own_ne h7 hc (by decide) hg)
        refine k9.own h8 (fun g hg hk => ?_)
        rcases hk with rfl | hk
        · exact Nat.lt_irrefl _ (own_lt ho hg)
        · obtain ⟨cur, hc⟩ := own_at OW8.out hk
          exact own_ne h8 hc (by decide) hg
      have hA := apart_3 w6.heap.size w.heap.size 1 gPow hgp tv9 (.slice (some ⟨g1, 0, none⟩) n cp1) (.slice a2 n c2) (.slice a3 n c3) n n n _ _ _ w9 b9.size hs06 (HP.out.below gPow b9 hgp) (by omega) (by omega) (by omega) hK9 own9 (keep P1.out) (keep P2.out) (keep P3.out) N12.out N13.out N23.out
      have HAp := Lib.hid hA
      have B9 := Lib.hid b9
      clear hA hK9 own9 k9 b9 keep
      go_wp2_with fail
      refine HAp.out.mono ?_
      rintro e w10 ⟨rfl, b10⟩
      go_wp2_with fail
      go_ret
      exact ⟨rfl, B9.out.trans b10⟩
    · have hri : (100000 : Int) < r := by omega
      clear HR
      go_wp2_with fail
      go_ret
      exact ⟨rfl, Below.refl _ _⟩
  · have hzi : (500 : Int) < (n : Int) := by omega
    go_enter Tryz.func6, Tryz.ntmps6
    go_wp2_with fail
    go_ret
    exact ⟨rfl, Below.refl _ _⟩
end Go.Proofs.YtidccanfjcanoaaGreatDoor

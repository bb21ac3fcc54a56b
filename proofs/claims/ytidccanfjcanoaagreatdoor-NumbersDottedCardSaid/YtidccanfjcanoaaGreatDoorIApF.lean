/-
  Book.Apart for rows of ints: fillInt (printed by gen_iapt.py).
-/
import Derived.Test.YtidccanfjcanoaaGreatDoorAptG
namespace Go.Proofs.YtidccanfjcanoaaGreatDoor
open Go.RowKit
set_option linter.unusedVariables false

def mkN (n : Nat) : Int := -1000 - (n : Int)
set_option maxHeartbeats 400000 in
theorem markInt_i (i : Nat) (hi : i ≤ 999) (w : World) (hP : Pow10 w) :
    Calls Tryz.prog 89 #[.int .i64 ((i : Int) + 1)] w fun e w' => e = .returned (.int .i64 (mkN (i + 1))) ∧ Below w.heap.size w w' := by
  have h1 : IntKind.i64.wrap (-1000 - ((i : Int) + 1)) = -1000 - ((i : Int) + 1) := IntWalk.i64_in _ (by omega)
  have HE := Lib.hid (show mkN (i + 1) = -1000 - ((i : Int) + 1) by unfold mkN; omega)
  clear hP
  go_enter Tryz.func89, Tryz.ntmps89
  go_wp2
  go_ret
  rw [HE.out]
  exact ⟨rfl, Below.refl _ _⟩
set_option maxHeartbeats 400000 in
theorem isInt_i (i : Nat) (hi : i ≤ 999) (w : World) :
    Calls Tryz.prog 106 #[.int .i64 (mkN (i + 1)), .int .i64 ((i : Int) + 1)] w fun e w' => e = .returned (.bool true) ∧ Below w.heap.size w w' := by
  have h1 : IntKind.i64.wrap (-1000 - ((i : Int) + 1)) = -1000 - ((i : Int) + 1) := IntWalk.i64_in _ (by omega)
  rw [show mkN (i + 1) = -1000 - ((i : Int) + 1) by unfold mkN; omega]
  go_enter Tryz.func106, Tryz.ntmps106
  go_wp2
  go_ret
  exact ⟨by simp, Below.refl _ _⟩
set_option maxHeartbeats 2000000 in
set_option maxRecDepth 100000 in
theorem fillInt_any (K H m cap B : Nat) (V : Nat → Value) (N : Nat → Nat) (xs : Nat → List Value) (w : World) (hm : m ≤ 999) (hN : ∀ j, j < m → N j ≤ 17592186044416)
    (hH : Held K H m cap 2 44 80 V (fun _ => .slice none 0 0) w) (hA : ApartV m V) (hx : ∀ j, j < m → w.ownsRow B 3 1 (V j) (N j) (xs j)) (hP : Pow10 w)
    (hPk : ∀ w', KeptBut w w' (fun k => ∃ j, j < m ∧ (V j).ownBlock = some k) → Pow10 w') :
    Calls Tryz.prog 31 #[.pointer (some ⟨K, 0, none⟩)] w fun e w' => e = .returned (.tuple #[]) ∧ KeptBut w w' (fun k => ∃ j, j < m ∧ (V j).ownBlock = some k) ∧ ∀ j, j < m → w'.ownsRow B 3 1 (V j) (N j) (List.replicate (N j) (.int .i64 (mkN (j + 1)))) := by
  have h0 : FillSt B 3 (fun n => .int .i64 (mkN n)) m V N xs 0 w := fun j hj => by rw [if_neg (by omega)]; exact hx j hj
  have hNK : ∀ j, j < m → (V j).ownBlock ≠ some K := fun j hj => by obtain ⟨c, f, e⟩ := hH.kb; exact own_ne (hx j hj) e (by decide)
  have hNH : ∀ j, j < m → (V j).ownBlock ≠ some H := fun j hj => by obtain ⟨c, e⟩ := hH.hb; exact own_ne (hx j hj) e (by decide)
  have HX := Lib.hid hx
  have HH := Lib.hid hH
  have HA := Lib.hid hA
  have HNK := Lib.hid hNK
  have HNH := Lib.hid hNH
  have HPK := Lib.hid hPk
  have HN := Lib.hid hN
  have HF := Lib.hid h0
  clear hx hH hA hNK hNH hPk hN h0
  go_enter Tryz.func31, Tryz.ntmps31
  go_wp2_with fail
  go_loopw [2] (fun i wr => ∃ k : Nat, k ≤ m ∧ i = .int .i64 k ∧ KeptBut w wr (fun k => ∃ j, j < m ∧ (V j).ownBlock = some k) ∧ FillSt B 3 (fun n => .int .i64 (mkN n)) m V N xs k wr) (fun i _ => m - (intOf i).toNat)
  case atStart => exact ⟨0, by omega, rfl, KeptBut.refl _ _, HF.out⟩
  case round =>
    obtain ⟨wo, rfl⟩ : ∃ x, x = wr := ⟨wr, rfl⟩
    obtain ⟨i, hi, rfl, hkb, hst⟩ := hrel
    have hpow := HPK.out _ hkb
    have hheld := HH.out.same (hkb.block K HH.out.ltK (fun ⟨j, hj, e⟩ => HNK.out j hj e)) (hkb.block H HH.out.ltH (fun ⟨j, hj, e⟩ => HNH.out j hj e))
    have cb := hheld.book
    have HST := Lib.hid hst
    have HKB := Lib.hid hkb
    have HHE := Lib.hid hheld
    have HPW := Lib.hid hpow
    clear hst hkb hheld hpow
    by_cases hc : i < m
    · have hoi := HST.out i hc
      rw [if_neg (by omega)] at hoi
      have hNi := HN.out i hc
      have hlen := own_len hoi
      obtain ⟨a, cp, hv⟩ := own_lenOf hoi
      have c0 := HHE.out.l i hc
      have c1 := HHE.out.long i hc
      have c2 := HHE.out.n i hc
      rw [hv] at c0
      have hbx := heap_alloc_new wo (.cells #[.slice a (N i) cp, .slice none 0 0, .int .i64 ((i : Int) + 1)] 80)
      have HBX := Lib.hid hbx
      have HOI := Lib.hid hoi
      have HV := Lib.hid hv
      clear hbx hoi hv
      go_wp2_with fail
      go_loopw [4] (fun y w2 => ∃ k : Nat, k ≤ N i ∧ y = .int .i64 k ∧ w2.heap[wo.heap.size]? = some (.cells #[.slice a (N i) cp, .slice none 0 0, .int .i64 ((i : Int) + 1)] 80 (0, 0)) ∧ w2.ownsRow B 3 1 (V i) (N i) (mixed (.int .i64 (mkN (i + 1))) k (xs i)) ∧ wo.grownBy w2 (V i).ownBlock) (fun y _ => N i - (intOf y).toNat)
      case atStart => exact ⟨0, by omega, rfl, HBX.out, by rw [mixed_zero]; exact HOI.out.alloc _, grown_below ((Below.refl _ _).alloc (Nat.le_refl _) _)⟩
      case round =>
        obtain ⟨k, hk, rfl, hb2, ho2, hg2⟩ := hrel
        have hlt2 : wo.heap.size < wr.heap.size := (Array.getElem?_eq_some_iff.1 hb2).1
        have d0 : wr.cell? ⟨wo.heap.size, 0, none⟩ = some (.slice a (N i) cp) := by rw [Lib.cell_of_heap hb2]; rfl
        by_cases hk2 : k < N i
        · obtain ⟨g, cp', e1, hBg, hgl, hcell, hfro⟩ := own_cell ho2 k hk2
          have hne : ∀ G, (V i).ownBlock = some G → G ≠ wo.heap.size := fun G e => by have := own_lt HOI.out e; omega
          rw [e1] at hne
          have hne2 : g ≠ wo.heap.size := hne g rfl
          clear hne
          have e2 := HV.out.symm.trans e1
          injection e2 with e3 e5 e4
          subst e3 e4
          have d2 : wr.cell? ⟨wo.heap.size, 2, none⟩ = some (.int .i64 ((i : Int) + 1)) := by rw [Lib.cell_of_heap hb2]; rfl
          have hpow : Pow10 wr := HPK.out _ (HKB.out.grown hg2 (fun k e _ => ⟨i, hc, e⟩))
          have HB2 := Lib.hid hb2
          have HO2 := Lib.hid ho2
          have HG2 := Lib.hid hg2
          have HPO := Lib.hid hpow
          clear hb2 ho2 hg2 hpow e5
          go_wp2_with fail
          go_region_with (first
            | (go_at_call 89; go_loud (refine (markInt_i i (by omega) _ (show Pow10 wr.drew from HPO.out)).mono ?_; rintro e w3 ⟨rfl, b3⟩; have f3 := b3.block wo.heap.size hlt2; have f4 := b3.block g hgl; have g0 : w3.cell? ⟨wo.heap.size, 0, none⟩ = some (.slice (some ⟨g, 0, none⟩) (N i) cp) := (by rw [Lib.cell_of_heap (f3.trans HB2.out)]; rfl); have g2 : w3.cell? ⟨wo.heap.size, 2, none⟩ = some (.int .i64 ((i : Int) + 1)) := (by rw [Lib.cell_of_heap (f3.trans HB2.out)]; rfl); have g3 : w3.cell? ⟨g, k, none⟩ = _ := (World.cell?_of_block f4).trans hcell; have g4 : w3.frozen? ⟨g, k, none⟩ = false := (World.frozen?_of_block f4).trans hfro; have F3 := Lib.hid f3; clear f3 f4)))
          all_goals
            go_wp2_with fail
            go_roundw
            case rel => exact ⟨k + 1, by omega, by go_num, by rw [Below.heap_setCell _ _ _ _ (fun e => hne2 e.symm)]; exact F3.out.trans HB2.out, by
                have h1 := (HO2.out.kept (row := none) (grown_belowd b3) (.inr (by rw [e1]; simp [Value.ownBlock])))
                have h2 := own_set (by rw [e1] at h1; exact h1) k hk2 (.int .i64 (mkN (i + 1)))
                rw [mixed_set _ _ _ (by omega)] at h2
                rw [e1]
                exact h2, (HG2.out.andThen (grown_belowd (row := none) b3) (fun _ e => by cases e)).andThen (grown_set _ _ _ _) (fun j e => .inr (by rw [e1]; exact e))⟩
            case measure => simp [intOf]; omega
        · obtain rfl : k = N i := by omega
          have HO2 := Lib.hid ho2
          have HG2 := Lib.hid hg2
          clear ho2 hg2 hb2
          go_wp2_with fail
          go_roundw
          case rel => exact ⟨i + 1, by omega, by go_num, HKB.out.grown HG2.out (fun k e _ => ⟨i, hc, e⟩), fillSt_next hc HA.out HST.out HG2.out (by have h := HO2.out; rw [← hlen, mixed_all, hlen] at h; exact h)⟩
          case measure => simp [intOf]; omega
    · obtain rfl : i = m := by omega
      go_wp2_with fail
      go_end0
      exact ⟨rfl, HKB.out, fun j hj => by have h := HST.out j hj; rw [if_pos hj] at h; exact h⟩
end Go.Proofs.YtidccanfjcanoaaGreatDoor

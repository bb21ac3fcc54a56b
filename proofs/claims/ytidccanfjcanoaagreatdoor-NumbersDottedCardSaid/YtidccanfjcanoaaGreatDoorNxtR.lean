/-
  The reference's Next, by contract.
-/
import Derived.Test.YtidccanfjcanoaaGreatDoorNxtC
namespace Go.Proofs.YtidccanfjcanoaaGreatDoor
open Go.RowKit
set_option linter.unusedVariables false

theorem take_oneP (l : List Int) (k : Nat) (h : k < l.length) : (l.take (k + 1)).map (Value.int .i64) = (l.take k).map (Value.int .i64) ++ [.int .i64 (l.getD k 0)] := by
  rw [List.take_succ_eq_append_getElem h, List.map_append, getDI l k h]
  rfl
set_option maxHeartbeats 4000000 in
set_option maxRecDepth 100000 in
theorem refNext_good (A : Option Addr) (n c L : Nat) (l : List Int) (hl : l.length = n) (hn : n ≤ 3) (h1 : 1 ≤ L) (h3 : L ≤ 3) (hx : ∀ x ∈ l, 0 ≤ x ∧ x ≤ 3999) (w : World) (hA : IR w A l) (hnb : ¬ nxBad l (L : Int)) :
    Calls Tryz.prog 15 #[.slice A n c, .int .i64 L] w (NxtAns l (L : Int) w) := by
  obtain ⟨i0, hi, hz0, hz1, hz2⟩ := info_parts infoInt
  have d1 : ¬ (L : Int) < 1 := by omega
  have d2 : ¬ (3 : Int) < (L : Int) := by omega
  have d3 : ¬ (3 : Int) < (n : Int) := by omega
  have hpl := pad_length l L h3
  have hrange := pad_range hx L (L - 1)
  have e1 : nxLast l (L : Int) = (pad l L).getD (L - 1) 0 := by unfold nxLast; rw [Int.toNat_natCast]
  have HB0 := Lib.hid (fun (w' : World) (e : Ending) (h : 3999 ≤ (pad l L).getD (L - 1) 0) (he : e = .returned (.tuple #[.slice none 0 0, .int .i64 3])) (hb : Below w.heap.size w w') => nxtAns_big hnb (by rw [e1]; exact h) he hb)
  have HO0 := Lib.hid (fun (w' : World) (e : Ending) (r : Value) (h : ¬ 3999 ≤ (pad l L).getD (L - 1) 0) (he : e = .returned (.tuple #[r, .int .i64 0])) (hr) (hb : Below w.heap.size w w') => nxtAns_ok (r := r) (L := L) rfl hnb (by rw [e1]; exact h) he hr hb)
  have HIn := Lib.hid (fun k (h : k < l.length) (hk : k < L) => pad_in (l := l) (L := L) h hk)
  have HOut := Lib.hid (fun k (h : ¬ k < l.length) => pad_out (l := l) (L := L) h)
  clear e1 hnb
  generalize pad l L = P at *
  have HA := Lib.hid hA
  have HX := Lib.hid hx
  have HL := Lib.hid hl
  clear hA hx hl
  go_enter Tryz.func15, Tryz.ntmps15
  go_wp2_with fail
  go_loop [6] (fun i => ∃ k : Nat, k ≤ n ∧ i = .int .i64 k) (fun i => n - (intOf i).toNat)
  case atStart => exact ⟨0, Nat.zero_le _, rfl⟩
  case round =>
    obtain ⟨k, hk, rfl⟩ := hrel
    by_cases hlt : k < n
    · obtain ⟨b, o, rfl, hbl, hc⟩ := HA.out (by intro h0; have := HL.out; rw [h0] at this; simp at this; omega)
      have c1 := hc k (by rw [HL.out]; exact hlt)
      have hx := HX.out (l.getD k 0) (by rw [getDI l k (by rw [HL.out]; exact hlt)]; exact List.getElem_mem _)
      clear hc
      generalize l.getD k 0 = x at *
      obtain ⟨hx0, hx1⟩ := hx
      have b1 : ¬ x < 0 := by omega
      have b2 : ¬ 3999 < x := by omega
      go_wp2_with fail
      go_round
      case rel => exact ⟨k + 1, by omega, by go_num⟩
      case measure => simp [intOf]; omega
    · obtain rfl : k = n := by omega
      go_wp2_with fail
      go_loopw [7, 8] (fun v i wr => ∃ j : Nat, j ≤ L ∧ i = .int .i64 j ∧ wr.ownsRow w.heap.size 3 1 v j ((P.take j).map (Value.int .i64)) ∧ Below w.heap.size w wr) (fun _ i _ => L - (intOf i).toNat)
      case atStart => exact ⟨0, Nat.zero_le _, rfl, World.ownsRow_nil _ _ _ _, Below.refl _ _⟩
      case round =>
        obtain ⟨j, hj, rfl, hown, hb⟩ := hrel
        have HO := Lib.hid hown
        have HB := Lib.hid hb
        have hsz := hb.size
        clear hown hb
        by_cases hjL : j < L
        · have HT := Lib.hid (take_oneP P j (by omega))
          have j1 : (j : Int) < (L : Int) := by omega
          by_cases hjn : j < k
          · obtain ⟨b, o, rfl, hbl, hc⟩ := HA.out (by intro h0; have := HL.out; rw [h0] at this; simp at this; omega)
            have c1 : wr.cell? ⟨b, o + j, none⟩ = some (.int .i64 (P.getD j 0)) := by
              rw [HIn.out j (by rw [HL.out]; exact hjn) hjL]
              exact (HB.out.cell (p := ⟨b, o + j, none⟩) hbl).trans (hc j (by rw [HL.out]; exact hjn))
            have j2 : (j : Int) < (k : Int) := by omega
            clear hc
            generalize P.getD j 0 = x at *
            go_wp2_with (at_builtin; go_must (refine wpList_append_own _ rfl _ _ 48 rfl w.heap.size 3 i0 (.int .i64 0) 1 8 Tryz.underlying48 hi hz0 hz1 hz2 rfl (by decide) _ j _ rfl (HO.out.alloc _) ⟨wr.heap.size, 0, none⟩ 1 1 [.int .i64 x] rfl rfl (cell_one_new _ _ _) (by simp [Value.oneCell']) (by unfold maxLen; omega) (by omega) (by simp; omega) ?_; intro v' w2 hown' hgrow _))
            have hb2 := (HB.out.alloc hsz _).grown hgrow (by simp; omega) (fun i hi => (HO.out.lt i hi).1)
            go_roundw
            case rel => exact ⟨j + 1, by omega, by go_num, by rw [HT.out]; exact hown', hb2⟩
            case measure => simp [intOf]; omega
          · have hp0 := HOut.out j (by rw [HL.out]; exact hjn)
            rw [hp0] at HT
            have j2 : ¬ (j : Int) < (k : Int) := by omega
            clear hp0
            go_wp2_with (at_builtin; go_must (refine wpList_append_own _ rfl _ _ 48 rfl w.heap.size 3 i0 (.int .i64 0) 1 8 Tryz.underlying48 hi hz0 hz1 hz2 rfl (by decide) _ j _ rfl (HO.out.alloc _) ⟨wr.heap.size, 0, none⟩ 1 1 [.int .i64 0] rfl rfl (cell_one_new _ _ _) (by simp [Value.oneCell']) (by unfold maxLen; omega) (by omega) (by simp; omega) ?_; intro v' w2 hown' hgrow _))
            have hb2 := (HB.out.alloc hsz _).grown hgrow (by simp; omega) (fun i hi => (HO.out.lt i hi).1)
            go_roundw
            case rel => exact ⟨j + 1, by omega, by go_num, by rw [HT.out]; exact hown', hb2⟩
            case measure => simp [intOf]; omega
        · obtain rfl : j = L := by omega
          have hown := HO.out
          rw [List.take_of_length_le (by omega)] at hown
          obtain ⟨g, cp, rfl, hBg, hgl, hcell, hfro⟩ := own_cell hown (j - 1) (by omega)
          have HP := Lib.hid hown
          rw [show (P.map (Value.int .i64)).getD (j - 1) undef = .int .i64 (P.getD (j - 1) 0) by
            rw [List.getD_eq_getElem?_getD, List.getElem?_map, List.getD_eq_getElem?_getD, List.getElem?_eq_getElem (by omega)]; rfl] at hcell
          clear hown
          obtain ⟨x, hxe⟩ : ∃ x, x = P.getD (j - 1) 0 := ⟨_, rfl⟩
          rw [← hxe] at hcell hrange HB0 HO0
          obtain ⟨hx0, hx1⟩ := hrange
          have r3 : IntKind.i64.wrap ((j : Int) - 1) = (j : Int) - 1 := IntWalk.i64_in _ (by omega)
          have r4 : (0 : Int) ≤ (j : Int) - 1 := by omega
          have r5 : (j : Int) - 1 < (j : Int) := by omega
          have r6 : ((j : Int) - 1).toNat = j - 1 := by omega
          have r7 : IntKind.i64.wrap (x + 1) = x + 1 := IntWalk.i64_in _ (by omega)
          clear hxe
          have HPS := Lib.hid (own_set HP.out (j - 1) (by omega) (.int .i64 (x + 1)))
          have HBS := Lib.hid (HB.out.setCell (p := ⟨g, j - 1, none⟩) hBg (.int .i64 (x + 1)))
          by_cases hbig : 3999 ≤ x
          · have r8 : 3999 < x + 1 := by omega
            go_wp2_with fail
            go_ret2
            exact HB0.out _ _ hbig rfl HBS.out
          · have r8 : ¬ 3999 < x + 1 := by omega
            go_wp2_with fail
            go_ret2
            exact HO0.out _ _ _ hbig rfl HPS.out HBS.out
theorem refNext_ans (A : Option Addr) (n c : Nat) (l : List Int) (v : Int) (hl : l.length = n) (w : World) (hA : IR w A l) : Calls Tryz.prog 15 #[.slice A n c, .int .i64 v] w (NxtAns l v w) := by
  rcases nx_cases l v with h | ⟨h1, h2, h3⟩ | ⟨h1, h2, h3, h4⟩ | ⟨h1, h2, h3, h4⟩
  · refine (refNext_level A n c v h w).mono ?_
    rintro e w' ⟨he, hb⟩
    exact nxtAns_bad (h.elim .inl (fun h => .inr (.inl h))) he hb
  · refine (refNext_long A n c v h1 h2 (by omega) w).mono ?_
    rintro e w' ⟨he, hb⟩
    exact nxtAns_bad (.inr (.inr (.inl h3))) he hb
  · refine (refNext_bad A n c l v hl h1 h2 (by omega) h4 w hA).mono ?_
    rintro e w' ⟨he, hb⟩
    exact nxtAns_bad (.inr (.inr (.inr h4))) he hb
  · obtain ⟨L, rfl⟩ : ∃ L : Nat, v = (L : Int) := ⟨v.toNat, by omega⟩
    have hnb : ¬ nxBad l (L : Int) := by
      rintro (h | h | h | ⟨x, hx, h⟩)
      · omega
      · omega
      · omega
      · have := h4 x hx; omega
    exact refNext_good A n c L l hl (by omega) (by omega) (by omega) h4 w hA hnb
end Go.Proofs.YtidccanfjcanoaaGreatDoor

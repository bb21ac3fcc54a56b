/-
  Book.Apart: lookText, the walk.
-/
import Derived.Test.YtidccanfjcanoaaGreatDoorAptH
import Derived.Lib.QuietBelow
import Derived.BigQuiet
namespace Go.Proofs.YtidccanfjcanoaaGreatDoor
open Go.RowKit Go.Sort
set_option linter.unusedVariables false

theorem isText_q (i : Nat) (hi : i ≤ 999) (g : Nat) (hg : Pow10At g) {w : World} (hP : Hid (Pow10 w)) (dd : Nat) (os : Array Obj) :
    Calls Tryz.prog 107 #[.string (mkT (i + 1)), .int .i64 ((i : Int) + 1)] (grow (redrawn w dd) os) fun e w'' => e = .returned (.bool true) ∧ ∃ p : Regrown, w'' = grow (redrawn w p.d) p.os :=
  Calls.regrown_of (isText_any (i + 1) (by omega) _ (hP.out.below hg (below_regrown w dd os) (hP.out.lt hg)))
set_option maxHeartbeats 4000000 in
set_option maxRecDepth 100000 in
theorem lookText_any (K H m cap B B1 gp : Nat) (hgp : Pow10At gp) (V LL : Nat → Value) (N : Nat → Nat) (w : World) (hm : m ≤ 999) (hN : ∀ j, j < m → N j ≤ 1099511627776)
    (hG : GrowSt K H m cap 3 B 9 44 74 (fun n => .string (mkT n)) V LL N B1 m w)
    (hV : ∀ j, j < m → ∃ a cp, V j = .slice a (N j) cp ∧ ∀ k, k < N j → ∃ g, a = some ⟨g, 0, none⟩) (hP : Pow10 w) :
    Calls Tryz.prog 66 #[.pointer (some ⟨K, 0, none⟩)] w fun e w' => e = .returned (.bool true) ∧ Below w.heap.size w w' := by
  have HG := Lib.hid hG
  have HN := Lib.hid hN
  have HV := Lib.hid hV
  have HP := Lib.hid hP
  clear hG hN hV hP
  go_enter Tryz.func66, Tryz.ntmps66
  go_wp2_with fail
  go_loopw [3] (fun i wr => ∃ k : Nat, k ≤ m ∧ i = .int .i64 k ∧ Below w.heap.size w wr) (fun i _ => m - (intOf i).toNat)
  case atStart => exact ⟨0, by omega, rfl, Below.refl _ _⟩
  case round =>
    obtain ⟨wo, rfl⟩ : ∃ x, x = wr := ⟨wr, rfl⟩
    obtain ⟨i, hi, rfl, hb⟩ := hrel
    have hHE := HG.out.held.same (hb.block K HG.out.held.ltK) (hb.block H HG.out.held.ltH)
    have cb := hHE.book
    have HHE := Lib.hid hHE
    have HB := Lib.hid hb
    clear hHE hb
    by_cases hc : i < m
    · have hNi := HN.out i hc
      obtain ⟨a, cp, hv, hva⟩ := HV.out i hc
      obtain ⟨a2, cp2, hv2⟩ := own_lenOf (HG.out.new i hc).1
      obtain ⟨g2, cp3, hv3⟩ := own_succ (k := N i + 39) (HG.out.new i hc).1
      have e2 := hv2.symm.trans hv3
      injection e2 with e3 e5 e4
      clear e5
      subst e3 e4
      have c0 := HHE.out.l i hc
      have c1 : wo.cell? ⟨H, i * 3 + 1, none⟩ = some (LL i) := by have h := HHE.out.long i hc; rw [if_pos hc] at h; exact h
      have c2 := HHE.out.n i hc
      rw [hv] at c0
      rw [hv2] at c1
      have hown := (HG.out.new i hc).1
      have hcl : ∀ k, k < N i + 40 → w.cell? ⟨g2, k, none⟩ = some (.string (mkT (i + 1))) := fun k hk => by
        rw [hv2] at hown
        have h1 := hown.cellAt k (by simp; omega)
        rw [h1, List.getElem?_replicate, if_pos hk]
      have hall : ∀ k, k < N i → ∃ g, a = some ⟨g, 0, none⟩ ∧ w.cell? ⟨g, k, none⟩ = some (.string (mkT (i + 1))) := fun k hk => by
        obtain ⟨g, hg⟩ := hva k hk
        exact ⟨g, hg, HG.out.all i hc g cp (by rw [hv, hg]) k hk⟩
      have hbx := heap_alloc_new wo (.cells #[.slice a (N i) cp, .slice (some ⟨g2, 0, none⟩) (N i + 40) cp2, .int .i64 ((i : Int) + 1)] 74)
      have HBX := Lib.hid hbx
      have HCL := Lib.hid hcl
      have HALL := Lib.hid hall
      have hx := HB.out.size
      have hlen : decide ((((N i + 40 : Nat) : Int)) = (N i : Int) + 40) = true := by simp
      have hwrap : IntKind.i64.wrap ((N i : Int) + 40) = (N i : Int) + 40 := IntWalk.i64_in _ (by omega)
      clear hbx hcl hall hv hv2 hv3 hva hown
      go_wp2_with fail
      go_loopw [5] (fun y wr => ∃ k : Nat, k ≤ N i + 40 ∧ y = .int .i64 k ∧ wr.heap[wo.heap.size]? = some (.cells #[.slice a (N i) cp, .slice (some ⟨g2, 0, none⟩) (N i + 40) cp2, .int .i64 ((i : Int) + 1)] 74 (0, 0)) ∧ Below w.heap.size w wr) (fun y _ => N i + 40 - (intOf y).toNat)
      case atStart => exact ⟨0, by omega, rfl, HBX.out, HB.out.alloc HB.out.size _⟩
      case round =>
        obtain ⟨k, hk, rfl, hb2, hbw⟩ := hrel
        have hlt2 : wo.heap.size < wr.heap.size := (Array.getElem?_eq_some_iff.1 hb2).1
        have d0 : wr.cell? ⟨wo.heap.size, 0, none⟩ = some (.slice a (N i) cp) := by rw [Lib.cell_of_heap hb2]; rfl
        have d1 : wr.cell? ⟨wo.heap.size, 1, none⟩ = some (.slice (some ⟨g2, 0, none⟩) (N i + 40) cp2) := by rw [Lib.cell_of_heap hb2]; rfl
        have d2 : wr.cell? ⟨wo.heap.size, 2, none⟩ = some (.int .i64 ((i : Int) + 1)) := by rw [Lib.cell_of_heap hb2]; rfl
        have HB2 := Lib.hid hb2
        have HBW := Lib.hid hbw
        have hpow : Pow10 wr := HP.out.below hgp hbw (HP.out.lt hgp)
        have HPW := Lib.hid hpow
        clear hb2 hbw hpow
        by_cases hk2 : k < N i + 40
        · have q0 := cell_regrown d0
          have q1 := cell_regrown d1
          have q2 := cell_regrown d2
          have hcl := HCL.out k hk2
          have q3 := cell_regrown ((HBW.out.cell (block_lt_of_cell hcl)).trans hcl)
          clear hcl
          by_cases hk3 : k < N i
          · obtain ⟨g, rfl, hcl⟩ := HALL.out k hk3
            have q4 := cell_regrown ((HBW.out.cell (block_lt_of_cell hcl)).trans hcl)
            clear hcl
            have hd1 : decide (k < N i) = true := decide_eq_true hk3
            have hd2 : decide ((k : Int) < (N i : Int)) = true := decide_eq_true (by omega)
            go_wp2_with fail
            refine wp_region_quiet_below (by kernel_rfl) (by kernel_rfl) ?_
            repeat (any_goals (first | go_big_quiet_step ((go_at_call 107; exact isText_q i (by omega) gp hgp HPW _ _)) | quiet_step ((go_at_call 107; exact isText_q i (by omega) gp hgp HPW _ _))))
            refine wpQuiet_nil ?_
            intro _ hw'
            obtain ⟨⟨dq, osq⟩, rfl⟩ := hw'
            have b5 := below_regrown wr dq osq
            have B5 := Lib.hid b5
            clear b5
            go_wp2_with fail
            go_roundw
            case rel => exact ⟨k + 1, by omega, by go_num, (B5.out.block _ hlt2).trans HB2.out, HBW.out.trans (B5.out.mono HBW.out.size)⟩
            case measure => simp [intOf]; omega
          · have hd1 : decide (k < N i) = false := decide_eq_false hk3
            have hd2 : decide ((k : Int) < (N i : Int)) = false := decide_eq_false (by omega)
            go_wp2_with fail
            refine wp_region_quiet_below (by kernel_rfl) (by kernel_rfl) ?_
            repeat (any_goals (first | go_big_quiet_step ((go_at_call 107; exact isText_q i (by omega) gp hgp HPW _ _)) | quiet_step ((go_at_call 107; exact isText_q i (by omega) gp hgp HPW _ _))))
            refine wpQuiet_nil ?_
            intro _ hw'
            obtain ⟨⟨dq, osq⟩, rfl⟩ := hw'
            have b5 := below_regrown wr dq osq
            have B5 := Lib.hid b5
            clear b5
            go_wp2_with fail
            go_roundw
            case rel => exact ⟨k + 1, by omega, by go_num, (B5.out.block _ hlt2).trans HB2.out, HBW.out.trans (B5.out.mono HBW.out.size)⟩
            case measure => simp [intOf]; omega
        · go_wp2_with fail
          go_roundw
          case rel => exact ⟨i + 1, by omega, by go_num, HBW.out⟩
          case measure => simp [intOf]; omega
    · obtain rfl : i = m := by omega
      go_wp2_with fail
      go_ret
      exact ⟨rfl, HB.out⟩
end Go.Proofs.YtidccanfjcanoaaGreatDoor

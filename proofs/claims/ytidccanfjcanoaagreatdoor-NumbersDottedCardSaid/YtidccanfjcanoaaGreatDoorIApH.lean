/-
  Book.Apart for rows of ints: growInt (printed by gen_iapt.py).
-/
import Derived.Test.YtidccanfjcanoaaGreatDoorIApF
namespace Go.Proofs.YtidccanfjcanoaaGreatDoor
open Go.RowKit
set_option linter.unusedVariables false

theorem infoIntI : (Tryz.prog.info? 3).map (fun i => (i.zero, i.size, i.bytes)) = some (some (.int .i64 0), 1, 8) := by kernel_rfl
set_option maxHeartbeats 2000000 in
set_option maxRecDepth 100000 in
theorem growInt_any (K H m cap B : Nat) (V : Nat → Value) (N : Nat → Nat) (w : World) (hm : m ≤ 999) (hN : ∀ j, j < m → N j ≤ 1099511627776) (hBw : B ≤ w.heap.size)
    (hH : Held K H m cap 2 44 80 V (fun _ => .slice none 0 0) w) (hA : ApartV m V) (hx : ∀ j, j < m → w.ownsRow B 3 1 (V j) (N j) (List.replicate (N j) (.int .i64 (mkN (j + 1)))))
    (hPk : ∀ w', KeptBut w w' (fun k => k = H ∨ ∃ j, j < m ∧ (V j).ownBlock = some k) → Pow10 w') :
    Calls Tryz.prog 48 #[.pointer (some ⟨K, 0, none⟩)] w fun e w' => e = .returned (.tuple #[]) ∧ KeptBut w w' (fun k => k = H ∨ ∃ j, j < m ∧ (V j).ownBlock = some k) ∧
      ∃ LL, GrowSt K H m cap 2 B 3 44 80 (fun n => .int .i64 (mkN n)) V LL N w.heap.size m w' := by
  obtain ⟨i0, hi0, hz0, hz1, hz2⟩ := info_parts infoIntI
  have hNK : ∀ j, j < m → (V j).ownBlock ≠ some K := fun j hj => by obtain ⟨c, f, e⟩ := hH.kb; exact own_ne (hx j hj) e (by decide)
  have hNH : ∀ j, j < m → (V j).ownBlock ≠ some H := fun j hj => by obtain ⟨c, e⟩ := hH.hb; exact own_ne (hx j hj) e (by decide)
  have hKH : K ≠ H := fun e => by
    obtain ⟨c, f, e1⟩ := hH.kb
    obtain ⟨c2, e2⟩ := hH.hb
    rw [e, e2] at e1
    injection e1 with e1
    injection e1 with _ e1 _
    exact absurd e1 (by decide)
  have hVB : ∀ j, j < m → ∀ g, (V j).ownBlock = some g → g < w.heap.size := fun j hj g e => own_lt (hx j hj) e
  have hG0 : GrowSt K H m cap 2 B 3 44 80 (fun n => .int .i64 (mkN n)) V (fun _ => .slice none 0 0) N w.heap.size 0 w :=
    ⟨⟨hH.book, hH.kb, hH.hb, hH.l, fun j hj => by rw [if_neg (by omega)]; exact hH.long j hj, hH.n⟩, Nat.le_refl _, fun j hj => by omega, fun j _ hj => hx j hj, fun j hj => AllIs.of_own (hx j hj)⟩
  have HA := Lib.hid hA
  have HNK := Lib.hid hNK
  have HNH := Lib.hid hNH
  have HPK := Lib.hid hPk
  have HN := Lib.hid hN
  have HVB := Lib.hid hVB
  have HKH := Lib.hid hKH
  have HG0 := Lib.hid hG0
  clear hx hH hA hNK hNH hPk hN hG0 hVB hKH
  go_enter Tryz.func48, Tryz.ntmps48
  go_wp2_with fail
  go_loopw [2] (fun i wr => ∃ k : Nat, k ≤ m ∧ i = .int .i64 k ∧ KeptBut w wr (fun k => k = H ∨ ∃ j, j < m ∧ (V j).ownBlock = some k) ∧ ∃ LL, GrowSt K H m cap 2 B 3 44 80 (fun n => .int .i64 (mkN n)) V LL N w.heap.size k wr) (fun i _ => m - (intOf i).toNat)
  case atStart => exact ⟨0, by omega, rfl, KeptBut.refl _ _, _, HG0.out⟩
  case round =>
    obtain ⟨wo, rfl⟩ : ∃ x, x = wr := ⟨wr, rfl⟩
    obtain ⟨i, hi, rfl, hkb, LL, hg⟩ := hrel
    have hpow := HPK.out _ hkb
    have cb := hg.held.book
    have HG := Lib.hid hg
    have HKB := Lib.hid hkb
    have HPW := Lib.hid hpow
    clear hg hkb hpow
    by_cases hc : i < m
    · have hoi := HG.out.old i (Nat.le_refl _) hc
      have hNi := HN.out i hc
      obtain ⟨a, cp, hv⟩ := own_lenOf hoi
      have c0 := HG.out.held.l i hc
      have c1 : wo.cell? ⟨H, i * 3 + 1, none⟩ = some (.slice none 0 0) := by have h := HG.out.held.long i hc; rw [if_neg (by omega)] at h; exact h
      have c2 := HG.out.held.n i hc
      rw [hv] at c0
      have hbx := heap_alloc_new wo (.cells #[.slice a (N i) cp, .slice none 0 0, .int .i64 ((i : Int) + 1)] 80)
      have HBX := Lib.hid hbx
      have HOI := Lib.hid hoi
      have HV := Lib.hid hv
      have HALL := Lib.hid (HG.out.all i hc)
      have HSZ := Lib.hid HG.out.size
      clear hbx hoi hv
      go_wp2_with fail
      go_loopw [4, 5] (fun v y wr => ∃ k : Nat, k ≤ 40 ∧ y = .int .i64 k ∧ GrowIn B 3 80 (.int .i64 (mkN (i + 1))) (N i) k (V i) #[.slice a (N i) cp, .slice none 0 0, .int .i64 ((i : Int) + 1)] wo v wr) (fun v y _ => 40 - (intOf y).toNat)
      case atStart => exact ⟨0, by omega, rfl, HBX.out, by rw [← HV.out]; exact HOI.out.alloc _, .inl (by rw [← HV.out]), HALL.out.kept (row := none) (grown_below ((Below.refl _ _).alloc (Nat.le_refl _) _)) (none_or _) (fun g e => Nat.lt_of_lt_of_le (HVB.out i hc g e) HSZ.out), grown_below ((Below.refl _ _).alloc (Nat.le_refl _) _)⟩
      case round =>
        obtain ⟨k, hk, rfl, hin⟩ := hrel
        have d2 : wr.cell? ⟨wo.heap.size, 2, none⟩ = some (.int .i64 ((i : Int) + 1)) := by rw [Lib.cell_of_heap hin.blk]; rfl
        have hpow : Pow10 wr := HPK.out _ (HKB.out.grown hin.grown (fun k e _ => .inr ⟨i, hc, e⟩))
        have hsz3 : wo.heap.size ≤ wr.heap.size := hin.grown.size
        have HIN := Lib.hid hin
        have HPO := Lib.hid hpow
        clear hin hpow
        by_cases hk2 : k < 40
        · go_wp2_with fail
          refine (markInt_i i (by omega) _ HPO.out).mono ?_
          rintro e w3 ⟨rfl, b3⟩
          have ho3 := HIN.out.own.kept (row := none) (grown_below b3) (none_or _)
          have hs3 := b3.size
          have hg3 : wr.grownBy (w3.alloc (.cells #[.int .i64 (mkN (i + 1))] 3)) none := (grown_below b3).trans (grown_below ((Below.refl _ _).alloc (Nat.le_refl _) _))
          have HG3 := Lib.hid hg3
          clear hg3
          go_wp2_with (at_builtin; go_must (refine wpList_append_keep rfl _ _ 48 rfl B 3 i0 (.int .i64 0) 8 Tryz.underlying48 hi0 hz0 hz1 hz2 rfl u4 (N i + k) _ rfl (ho3.alloc _) ⟨w3.heap.size, 0, none⟩ 1 (.int .i64 (mkN (i + 1))) rfl (cell_one_new _ _ _) (by simp [Value.oneCell']) (by unfold maxLen; omega) (by omega) (by have := HSZ.out; simp; omega) ?_; intro v' w4 hown' hkeep))
          go_roundw
          case rel => exact ⟨k + 1, by omega, by go_num, HIN.out.next (by decide) (fun g e => Nat.lt_of_lt_of_le (HVB.out i hc g e) HSZ.out) HG3.out hown' hkeep⟩
          case measure => simp [intOf]; omega
        · obtain rfl : k = 40 := by omega
          have cK : wr.cell? ⟨K, 2, none⟩ = some (.slice (some ⟨H, 0, none⟩) m cap) := by
            rw [← cb]
            exact World.cell?_of_block (HIN.out.grown.block K HG.out.held.ltK (fun e => HNK.out i hc e.symm))
          have hHb : wr.heap[H]? = wo.heap[H]? := HIN.out.grown.block H HG.out.held.ltH (fun e => HNH.out i hc e.symm)
          have cH : wr.cell? ⟨H, i * 3 + 1, none⟩ = some (.slice none 0 0) := by
            rw [← c1]
            exact World.cell?_of_block hHb
          have fH : wr.frozen? ⟨H, i * 3 + 1, none⟩ = false := by
            obtain ⟨cur, hcur⟩ := HG.out.held.hb
            rw [hcur] at hHb
            simp [World.frozen?, hHb]
          obtain ⟨a', cp', hv'⟩ := own_lenOf HIN.out.own
          have HHb := Lib.hid hHb
          subst hv'
          clear hHb
          go_wp2_with fail
          go_roundw
          case rel => exact ⟨i + 1, by omega, by go_num, (HKB.out.grown HIN.out.grown (fun k e _ => .inr ⟨i, hc, e⟩)).grown (grown_set _ _ _ _) (fun k e _ => .inl (by injection e with e; exact e.symm)), _, GrowSt.next HKH.out (by decide) hc HA.out HVB.out HG.out HNH.out HNK.out HIN.out.grown HIN.out.own (by
              rcases HIN.out.near with e | ⟨g, hg1, e⟩
              · exact .inl e
              · exact .inr ⟨g, Nat.le_trans HSZ.out hg1, e⟩) HIN.out.all⟩
          case measure => simp [intOf]; omega
    · obtain rfl : i = m := by omega
      go_wp2_with fail
      go_end0
      exact ⟨rfl, HKB.out, LL, HG.out⟩
end Go.Proofs.YtidccanfjcanoaaGreatDoor

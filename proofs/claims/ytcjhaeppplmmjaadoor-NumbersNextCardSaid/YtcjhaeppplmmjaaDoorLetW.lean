/-
  numbers.Letter: the walk.
-/
import Derived.Test.YtcjhaeppplmmjaaDoorRomR
import Derived.Test.YtcjhaeppplmmjaaDoorRowB
namespace Go.Proofs.YtcjhaeppplmmjaaDoor
open Go.RowKit

theorem own_slice {w : World} {base e size n : Nat} {v : Value} {xs : List Value} (h : w.ownsRow base e size v n xs) : ∃ A c, v = .slice A n c := by
  rcases h.2 with ⟨rfl, h0⟩ | ⟨g, cap, cur, rfl, _⟩
  · exact ⟨none, 0, by rw [h0]⟩
  · exact ⟨_, _, rfl⟩

theorem bv_letter (k : Nat) (h : 1 ≤ k) : bv (UInt8.ofNat (97 + (k - 1) % 26)) = .int .u8 (97 + ((k : Int) - 1) % 26) := by
  have h1 : (97 + (k - 1) % 26) < 256 := by omega
  unfold bv
  rw [UInt8.toNat_ofNat', Nat.mod_eq_of_lt h1]
  congr 1
  omega
theorem drop_rev (ys : List UInt8) (j : Nat) (h : j < ys.length) : (ys.drop j).reverse = (ys.drop (j + 1)).reverse ++ [ys.getD j 0] := by
  rw [List.drop_eq_getElem_cons h, List.reverse_cons]
  simp [h]
theorem infoByte : (Tryd.prog.info? 5).map (fun i => (i.zero, i.size, i.bytes)) = some (some (.int .u8 0), 1, 1) := by kernel_rfl

set_option maxHeartbeats 4000000 in
set_option maxRecDepth 100000 in
theorem letter_good (n : Nat) (h1 : 1 ≤ n) (h2 : n ≤ 3999) (w : World) :
    Calls Tryd.prog 12 #[.int .i64 n] w fun e w' => (∃ x, e = .returned (.tuple #[.string x, .int .i64 0]) ∧ lb x = Rm.letter n) ∧ Below w.heap.size w w' := by
  obtain ⟨i0, hi, hz0, hz1, hz2⟩ := info_parts infoByte
  go_enter Tryd.func12, Tryd.ntmps12
  go_wp2_with fail
  go_loopw [0, 4] (fun i v wr => ∃ (k : Nat) (ys : List UInt8), k ≤ 3999 ∧ i = .int .i64 k ∧ wr.ownsRow w.heap.size 5 1 v ys.length (ys.map bv) ∧ ys.length + k ≤ 3999 ∧ Rm.letter k ++ ys.reverse = Rm.letter n ∧ Below w.heap.size w wr) (fun i _ _ => (intOf i).toNat)
  case atStart => exact ⟨n, [], h2, rfl, World.ownsRow_nil _ _ _ _, by show 0 + n ≤ 3999; omega, by simp, Below.refl _ _⟩
  case round =>
    obtain ⟨k, ys, hk, rfl, hown, hyl, hn, hbel⟩ := hrel
    have HN := Lib.hid hn
    clear hn
    by_cases h0 : k = 0
    · subst h0
      obtain ⟨wo, hwo⟩ : ∃ wo, wo = wr := ⟨_, rfl⟩
      subst hwo
      have hne : ys.length ≠ 0 := by
        intro h
        have h2' := HN.out
        rw [List.eq_nil_of_length_eq_zero h, Rm.letter_pos n (by omega), show Rm.letter 0 = [] by rw [Rm.letter]] at h2'
        simp at h2'
      have hown0 := hown
      have hlt := hown.lt
      obtain ⟨g, cap, rfl⟩ : ∃ g cap, u4 = .slice (some ⟨g, 0, none⟩) ys.length cap := by
        rcases hown.2 with ⟨_, h0⟩ | ⟨g, cap, cur, hv, _⟩
        · exact absurd h0 hne
        · exact ⟨g, cap, hv⟩
      have hg := (hlt g rfl).2
      have hC : ∀ j, j < ys.length → wo.cell? ⟨g, j, none⟩ = some (bv (ys.getD j 0)) := by
        intro j hj
        have := hown0.cells (g := g) rfl j (bv (ys.getD j 0)) (by simp [hj])
        rwa [Addr.add_lit, Nat.zero_add] at this
      have HC := Lib.hid hC
      clear hown0 hlt hC hown
      go_wp2_with (at_make; go_must (refine wpList_make_own _ rfl _ _ 45 rfl wo.heap.size 5 i0 (.int .u8 0) 1 Tryd.underlying45 hi hz0 hz1 .i64 .i64 _ ys.length rfl rfl rfl (by rw [hz2]; omega) (by unfold maxLen; omega) (Nat.le_refl _) ?_; intro w1 hown1 hgrow1))
      have hb1 : Below wo.heap.size wo w1 := (Below.refl _ _).grown hgrow1 (Nat.le_refl _) (fun k h => by cases h)
      clear hgrow1
      go_loopw [5, 6] (fun v i wr => ∃ j : Nat, j ≤ ys.length ∧ i = .int .i64 ((j : Int) - 1) ∧ wr.ownsRow wo.heap.size 5 1 v (ys.drop j).reverse.length ((ys.drop j).reverse.map bv) ∧ Below wo.heap.size wo wr) (fun _ i _ => (intOf i + 1).toNat)
      case atStart =>
        refine ⟨ys.length, Nat.le_refl _, by simp, ?_, hb1⟩
        simpa using hown1
      case round =>
        obtain ⟨j, hj, rfl, hown, hb⟩ := hrel
        rcases j with _ | j
        · rw [show (((0 : Nat) : Int) - 1) = -1 by rfl]
          rw [List.drop_zero] at hown
          have hconv := conv_own (P := Tryd.prog) Tryd.underlying45 Tryd.underlying5 Tryd.underlying9 wr wo.heap.size _ _ _ hown
          clear hown
          go_wp2_with fail
          go_ret2
          refine ⟨⟨_, rfl, ?_⟩, hbel.trans (hb.mono hbel.size)⟩
          have := HN.out
          rw [show Rm.letter 0 = [] by rw [Rm.letter], List.nil_append] at this
          simpa using this
        · rw [show (((j + 1 : Nat) : Int) - 1) = (j : Int) by omega]
          have c : wr.cell? ⟨g, j, none⟩ = some (.int .u8 ((ys.getD j 0).toNat : Int)) := (hb.cell hg).trans (HC.out j (by omega))
          have hd := List.length_drop (i := j + 1) (l := ys)
          have hl1 : (ys.drop (j + 1)).reverse.length ≤ 3999 := by rw [List.length_reverse, hd]; omega
          have HD := Lib.hid (drop_rev ys j (by omega))
          clear hd
          generalize ys.getD j 0 = y at *
          generalize (ys.drop (j + 1)).reverse = zs at *
          go_wp2_with (at_builtin; go_must (refine wpList_append_own _ rfl _ _ 45 rfl wo.heap.size 5 i0 (.int .u8 0) 1 1 Tryd.underlying45 hi hz0 hz1 hz2 rfl (by decide) _ _ _ rfl (hown.alloc _) ⟨wr.heap.size, 0, none⟩ 1 1 [_] rfl rfl (cell_one_new _ _ _) (by simp [Value.oneCell']) (by unfold maxLen; omega) (by omega) (by have := hb.size; simp; omega) ?_; intro v' w2 hown' hgrow _))
          have hb2 := (hb.alloc hb.size _).grown hgrow (by have := hb.size; simp; omega) (fun i hi => (hown.lt i hi).1)
          go_roundw
          case rel =>
            refine ⟨j, by omega, by go_num, ?_, hb2⟩
            rw [HD.out, List.length_append, List.map_append]
            exact hown'
          case measure => simp [intOf]
    · go_wp2_with (at_builtin; go_must (refine wpList_append_own _ rfl _ _ 45 rfl w.heap.size 5 i0 (.int .u8 0) 1 1 Tryd.underlying45 hi hz0 hz1 hz2 rfl (by decide) _ _ _ rfl (hown.alloc _) ⟨wr.heap.size, 0, none⟩ 1 1 [_] rfl rfl (cell_one_new _ _ _) (by simp [Value.oneCell']) (by unfold maxLen; omega) (by omega) (by have := hbel.size; simp; omega) ?_; intro v' w2 hown' hgrow _))
      have hb2 := (hbel.alloc hbel.size _).grown hgrow (by have := hbel.size; simp; omega) (fun i hi => (hown.lt i hi).1)
      go_roundw
      case rel =>
        refine ⟨(k - 1) / 26, ys ++ [UInt8.ofNat (97 + (k - 1) % 26)], by omega, by go_num, ?_, ?_, ?_, hb2⟩
        · rw [List.length_append, List.map_append, show [UInt8.ofNat (97 + (k - 1) % 26)].map bv = [.int .u8 (97 + ((k : Int) - 1) % 26)] by rw [List.map_cons, List.map_nil, bv_letter k (by omega)]]
          exact hown'
        · rw [List.length_append]; simp; omega
        · rw [← HN.out, Rm.letter_pos k (by omega)]; simp
      case measure => simp [intOf]; omega

set_option maxHeartbeats 1000000 in
set_option maxRecDepth 100000 in
theorem letter_bad (n : Int) (h : n < 1 ∨ 3999 < n) (w : World) :
    Calls Tryd.prog 12 #[.int .i64 n] w fun e w' => e = .returned (.tuple #[.string ⟨#[]⟩, .int .i64 1]) ∧ w' = w := by
  rcases h with h | h
  all_goals
    go_enter Tryd.func12, Tryd.ntmps12
    go_wp2
    go_ret2
    exact ⟨rfl, rfl⟩
end Go.Proofs.YtcjhaeppplmmjaaDoor

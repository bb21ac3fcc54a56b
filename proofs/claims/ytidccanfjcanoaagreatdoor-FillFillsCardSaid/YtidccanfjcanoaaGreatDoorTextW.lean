/-
  ROWS OF TEXTS: reading one; SameTexts, by contract.
-/
import Derived.Test.YtidccanfjcanoaaGreatDoorRowB
import Derived.Deep.QuietTactic
import Derived.BigQuiet
import Derived.RangeFuncBox
namespace Go.Proofs.YtidccanfjcanoaaGreatDoor
open Go.RowKit

theorem Tryz.info9 : (Tryz.prog.info? 9).map (fun i => (i.zero, i.size, i.bytes)) = some (some (.string ByteArray.empty), 1, 16) := by kernel_rfl

/-- A slice's address leads to the texts xs. -/
def TR (w : World) (A : Option Addr) (xs : List ByteArray) : Prop := xs ≠ [] → ∃ b off, A = some ⟨b, off, none⟩ ∧ b < w.heap.size ∧ ∀ j, j < xs.length → w.cell? ⟨b, off + j, none⟩ = some (.string (xs.getD j ByteArray.empty))

theorem TR.below {w w' : World} {A : Option Addr} {xs : List ByteArray} (h : TR w A xs) (hb : Below w.heap.size w w') : TR w' A xs := by
  intro hn
  obtain ⟨b, off, rfl, hlt, hc⟩ := h hn
  exact ⟨b, off, rfl, Nat.lt_of_lt_of_le hlt hb.size, fun j hj => (hb.cell (p := ⟨b, off + j, none⟩) hlt).trans (hc j hj)⟩
theorem TR.nil (w : World) (A : Option Addr) : TR w A [] := fun h => absurd rfl h
theorem below_drewN {B : Nat} {a w : World} (h : Below B a w) (n : Nat) : Below B a (w.drewN n) := ⟨h.os, h.tape, h.output, h.size, h.block⟩
theorem TR.drewN {w : World} {A : Option Addr} {xs : List ByteArray} (h : TR w A xs) (q : Nat) : TR (w.drewN q) A xs := h.below (below_drewN (Below.refl _ _) q)
/-- What the call owns reads as texts. -/
theorem TR.of_own {w : World} {base e n c : Nat} {A : Option Addr} {xs : List ByteArray} (h : w.ownsRow base e 1 (.slice A n c) n (xs.map Value.string)) : xs.length = n ∧ TR w A xs := by
  have hn : xs.length = n := by have := h.1; simpa using this
  refine ⟨hn, fun hne => ?_⟩
  have hpos : 0 < n := by
    rcases Nat.eq_zero_or_pos n with h0 | h0
    · exact absurd (List.eq_nil_of_length_eq_zero (hn.trans h0)) hne
    · exact h0
  have h0 := h
  rcases h.2 with ⟨_, h1⟩ | ⟨g, cap, cur, hv, _, hg, _⟩
  · omega
  · injection hv with hA hn' hc
    subst hA
    refine ⟨g, 0, rfl, (Array.getElem?_eq_some_iff.1 hg).1, fun j hj => ?_⟩
    rw [Nat.zero_add, h0.cellAt j (by omega)]
    simp [List.getD_eq_getElem?_getD, List.getElem?_eq_getElem hj]
/-- A row written out where it was laid. -/
theorem TR.of_lit (w : World) (t : Nat) (xs : List ByteArray) : TR (w.alloc (.cells (xs.map Value.string).toArray t)) (some ⟨w.heap.size, 0, none⟩) xs := by
  intro _
  refine ⟨w.heap.size, 0, rfl, by simp, fun j hj => ?_⟩
  rw [Nat.zero_add, World.cell?_alloc_at (hn := rfl)]
  simp [List.getD_eq_getElem?_getD, List.getElem?_eq_getElem hj]

theorem getD_lt (xs : List ByteArray) (k : Nat) (h : k < xs.length) : xs.getD k ByteArray.empty = xs[k] := by
  rw [List.getD_eq_getElem?_getD, List.getElem?_eq_getElem h]; rfl
theorem ba_ne {x y : ByteArray} (h : x ≠ y) : (x.toList == y.toList) = false := by
  simp only [beq_eq_false_iff_ne]
  intro he
  rw [Lib.toList_data, Lib.toList_data] at he
  exact h (bytes_ext he)

set_option maxHeartbeats 1000000 in
theorem sameTexts_any (A B : Option Addr) (n m c d : Nat) (xs ys : List ByteArray) (w : World) (hx : xs.length = n) (hy : ys.length = m) (hn : n ≤ 1099511627776) (hm : m ≤ 1099511627776) (ha : TR w A xs) (hb : TR w B ys) :
    Calls Tryz.prog 9 #[.slice A n c, .slice B m d] w fun e w' => e = .returned (.bool (decide (xs = ys))) ∧ ∃ q, w.drewN q = w' := by
  by_cases hnm : n = m
  · subst hnm
    have hbn : ((n : Int) != n) = false := by simp
    have HA := Lib.hid ha
    have HB := Lib.hid hb
    have HX := Lib.hid hx
    have HY := Lib.hid hy
    clear ha hb hx hy
    go_enter Tryz.func9, Tryz.ntmps9
    go_wp2_with fail
    go_loopw [5] (fun i wr => ∃ k : Nat, k ≤ n ∧ i = .int .i64 k ∧ xs.take k = ys.take k ∧ ∃ q, w.drewN q = wr) (fun i _ => n - (intOf i).toNat)
    case atStart => exact ⟨0, Nat.zero_le _, rfl, rfl, 0, rfl⟩
    case round =>
      obtain ⟨k, hk, rfl, heq, q, rfl⟩ := hrel
      by_cases hlt : k < n
      · obtain ⟨b1, o1, rfl, _, hc1⟩ := HA.out (by intro h0; rw [h0] at HX; have := HX.out; simp at this; omega)
        obtain ⟨b2, o2, rfl, _, hc2⟩ := HB.out (by intro h0; rw [h0] at HY; have := HY.out; simp at this; omega)
        have c1 := hc1 k (by rw [HX.out]; exact hlt)
        have c2 := hc2 k (by rw [HY.out]; exact hlt)
        have HE := Lib.hid heq
        clear hc1 hc2 heq
        have hi0 : (0 : Int) ≤ (k : Int) := Int.natCast_nonneg _
        have hi1 : (k : Int) < (n : Int) := by omega
        have e1 := Lib.hid (getD_lt xs k (by rw [HX.out]; exact hlt))
        have e2 := Lib.hid (getD_lt ys k (by rw [HY.out]; exact hlt))
        have s1 : Hid (xs.take (k + 1) = xs.take k ++ [xs.getD k ByteArray.empty]) := Lib.hid (by rw [e1.out]; exact List.take_succ_eq_append_getElem (by rw [HX.out]; exact hlt))
        have s2 : Hid (ys.take (k + 1) = ys.take k ++ [ys.getD k ByteArray.empty]) := Lib.hid (by rw [e2.out]; exact List.take_succ_eq_append_getElem (by rw [HY.out]; exact hlt))
        generalize xs.getD k ByteArray.empty = x at *
        generalize ys.getD k ByteArray.empty = y at *
        clear e1 e2
        by_cases hxy : x = y
        · subst hxy
          have hbb : (x.toList == x.toList) = true := by simp
          have hbn' : (x.toList != x.toList) = false := by simp
          go_wp2_with fail
          go_quiet (fail)
          go_wp2_with fail
          go_roundw
          case rel => exact ⟨k + 1, by omega, by go_num, by rw [s1.out, s2.out, HE.out], _, rfl⟩
          case measure => simp [intOf]; omega
        · have hbb := ba_ne hxy
          have hbn' : (x.toList != y.toList) = true := by rw [bne, hbb]; rfl
          have HN := Lib.hid hxy
          clear hxy
          go_wp2_with fail
          go_quiet (fail)
          go_wp2_with fail
          go_ret
          refine ⟨ret_bool ?_, _, (World.drewN_drewN _ _ _).symm⟩
          symm
          rw [decide_eq_false_iff_not]
          rintro rfl
          have := s1.out.symm.trans s2.out
          simp at this
          exact HN.out this
      · have hkn : k = n := by omega
        subst hkn
        have HE := Lib.hid heq
        clear heq
        go_wp2_with fail
        go_ret
        refine ⟨ret_bool ?_, _, rfl⟩
        symm
        rw [decide_eq_true_eq]
        have := HE.out
        rw [List.take_of_length_le (by rw [HX.out]; exact Nat.le_refl _), List.take_of_length_le (by rw [HY.out]; exact Nat.le_refl _)] at this
        exact this
  · have hbn : ((n : Int) != m) = true := by simp; omega
    have H : Hid (¬ xs = ys) := Lib.hid (by rintro rfl; omega)
    clear ha hb hx hy hnm
    go_enter Tryz.func9, Tryz.ntmps9
    go_wp2_with fail
    go_ret
    exact ⟨ret_bool (decide_eq_false H.out).symm, 0, rfl⟩

end Go.Proofs.YtidccanfjcanoaaGreatDoor

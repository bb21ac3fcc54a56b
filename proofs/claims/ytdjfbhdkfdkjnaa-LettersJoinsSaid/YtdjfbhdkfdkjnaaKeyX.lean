/-
  LETTERS: key, by contract: the bytes that order a text.
-/
import Derived.Test.YtdjfbhdkfdkjnaaKeyW
namespace Go.Proofs.Ytdjfbhdkfdkjnaa
open Go.RowKit Go.Shelf
attribute [local go_sem] Oper.semAt_some
attribute [local go_sem] wide_depth wide_round wide_fn

theorem key_of (l : List UInt8) : (Pl.lower l).filter Pl.ldB = Pl.key l := rfl
theorem lower_size (s : ByteArray) : (⟨(Pl.lower s.data.toList).toArray⟩ : ByteArray).size = s.size := by
  rw [Lib.size_eq]
  show (Pl.lower s.data.toList).length = _
  rw [Pl.lower_length, ← Lib.size_eq]
theorem filter_le (l : List UInt8) : (l.filter Pl.ldB).length ≤ l.length := List.length_filter_le _ _
theorem map_bv_snoc (l : List UInt8) (x : UInt8) : (l ++ [x]).map bv = l.map bv ++ [bv x] := by simp

set_option maxRecDepth 100000 in
set_option maxHeartbeats 2000000 in
theorem key_any (s : ByteArray) (hs : s.size ≤ 1099511627776) (w : World) :
    Calls Try.prog 33 #[.string s] w fun e W' => ∃ v, e = .returned v ∧ W'.ownsRow w.heap.size 5 1 v (Pl.key s.data.toList).length ((Pl.key s.data.toList).map bv) ∧ Below w.heap.size w W' := by
  obtain ⟨i0, hi, hz0, hz1, hz2⟩ := info_parts Try.info5
  refine (callsIn_wide (n := 3)).1 ?_
  refine callsIn_of_wp_marks Try.func33 rfl trivial ?_ rfl
  simp only [Try.ntmps33, List.size_toArray, List.length_cons, List.length_nil, Nat.reduceAdd, Nat.reduceSub, Array.replicate_succ, Array.replicate_zero, List.push_toArray, List.append_toArray, List.nil_append, List.cons_append]
  gi_wp2_with (gi_at_call 17; refine (callsIn_wide.2 (lower_any s (by omega) _)).mono ?_; rintro e w1 ⟨rfl, hb1⟩)
  have bO : Boxed w1 w.heap.size 32 (.slice none 0 0) := (hb1.block _ (by simp)).trans (Boxed.new w 32 (.slice none 0 0))
  have hB1 : Below w.heap.size w w1 := ((Below.refl _ w).alloc (Nat.le_refl _) _).trans (hb1.mono (by simp))
  have hz1' : w.heap.size < w1.heap.size := bO.lt
  have HSz := Lib.hid (lower_size s)
  have HKey := Lib.hid (key_of s.data.toList)
  have hlo : (⟨(Pl.lower s.data.toList).toArray⟩ : ByteArray).data.toList = Pl.lower s.data.toList := rfl
  have HLo := Lib.hid hlo
  have HKL : Hid ((Pl.key s.data.toList).length ≤ s.size) := Lib.hid (by rw [Lib.size_eq, ← key_of]; exact Nat.le_trans (filter_le _) (by rw [Pl.lower_length]; exact Nat.le_refl _))
  clear hlo hb1
  generalize (⟨(Pl.lower s.data.toList).toArray⟩ : ByteArray) = lo at *
  gi_wp2_with (gi_at_call 39; refine (callsIn_wide.2 (only_any lo _)).mono ?_; rintro e w' ⟨rfl, rfl⟩)
  have bS := (Boxed.new w1 9 (.string lo)).alloc (.cells #[.func (.func 40) #[] #[]] 42)
  have bK := Boxed.new (w1.alloc (.cells #[.string lo] 9)) 42 (.func (.func 40) #[] #[])
  rw [World.size_alloc] at bK
  have bO2 := (bO.alloc (.cells #[.string lo] 9)).alloc (.cells #[.func (.func 40) #[] #[]] 42)
  have hB2 : Below w.heap.size w ((w1.alloc (.cells #[.string lo] 9)).alloc (.cells #[.func (.func 40) #[] #[]] 42)) := (hB1.alloc hB1.size _).alloc (by have := hB1.size; simp; omega) _
  refine wpIn_rangeFunc_ownG rfl (by omega) (gf := 42) (lb := #[.pointer (some ⟨w1.heap.size, 0, none⟩), .pointer (some ⟨w1.heap.size + 1, 0, none⟩)]) rfl trivial (enters_of Try.func42 (by kernel_rfl) rfl)
    (only_stops _ (by omega) w1.heap.size (w1.heap.size + 1) lo (by rw [HSz.out]; omega) _ bS bK) KpB_t (KpB_b (by simp; omega) (by simp)) (Below.refl _ _) (fun _ => rfl)
    (fun pre W => (∃ v, Boxed W w.heap.size 32 v ∧ W.ownsRow w.heap.size 5 1 v pre.length (pre.map bv) ∧ True) ∧ Below w.heap.size w W ∧ (Boxed W w1.heap.size 9 (.string lo) ∧ Boxed W (w1.heap.size + 1) 42 (.func (.func 40) #[] #[])))
    (fun _ _ _ => False)
    ?hI
    (fun _ _ _ _ _ hs _ _ => hs)
    ⟨⟨_, bO2, World.ownsRow_nil _ _ _ _, trivial⟩, hB2, bS, bK⟩
    (fun x => { tmps := #[.string s, undef, .slice none 0 0, .pointer (some ⟨w.heap.size, 0, none⟩), bv x, .string s, .string lo, .func (.func 42) #[] #[.pointer (some ⟨w1.heap.size, 0, none⟩), .pointer (some ⟨w1.heap.size + 1, 0, none⟩)], bv x, undef, undef, undef, undef, undef], defers := [] }) ?assign ?body ?done ?stop
  case hI =>
    refine OwnFrom.and (Own.from (holdsRow_own w.heap.size w.heap.size 32 5 1 (fun pre : List UInt8 => pre.length) (fun pre => pre.map bv) (fun _ _ => True)) _) (OwnFrom.and (ownFrom_below (Nat.le_refl _) (by simp; omega)) (Own.from ?_ _))
    rintro p X Y row ⟨h1, h2⟩ hg hr
    exact ⟨h1.kept hg (fun e => by obtain ⟨o, ho, hc⟩ := hr _ e.symm; rw [show X.heap[_]? = _ from h1] at ho; cases ho; cases hc), h2.kept hg (fun e => by obtain ⟨o, ho, hc⟩ := hr _ e.symm; rw [show X.heap[_]? = _ from h2] at ho; cases ho; cases hc)⟩
  case assign =>
    intro l x W K hK
    gi_wp2
    exact hK
  case body =>
    rintro l pre x W ⟨⟨v, hv, hrow, _⟩, hB, hs1, hk1⟩ hlt
    have hc := hv.cell
    have hpl : pre.length < 1099511627776 := by
      have := HKL.out
      rw [HLo.out, HKey.out] at hlt
      omega
    have hnr1 := hs1.not_row (by decide) hrow
    have hnr2 := hk1.not_row (by decide) hrow
    unfold bv
    gi_wp2_with (gi_at_builtin; refine wpListIn_append_own _ rfl _ _ 32 rfl w.heap.size 5 i0 (.int .u8 0) 1 1 Try.underlying32 hi hz0 hz1 hz2 rfl (by decide) _ _ _ rfl (hrow.alloc _) ⟨W.heap.size, 0, none⟩ 1 1 [.int .u8 (x.toNat : Int)] rfl rfl (cell_one_new _ _ _) (by simp [Value.oneCell']) (by unfold maxLen; omega) (by omega) (by have := hB.size; simp; omega) ?_; intro v' w2 hown' hgrow _; obtain ⟨g', cap', rfl⟩ := ownsRow_succ hown'; obtain ⟨hv1, hv2, hr2, hk2, hb2⟩ := hv.appended (by decide) hrow hB.size (Nat.le_refl _) hown' hgrow; have hc1 := hv1.cell; have hf1 := hv1.frozen; have hs2 := ((hs1.alloc (.cells #[.int .u8 (x.toNat : Int)] 5)).kept hgrow hnr1).kept (grownBy_setCell' w2 w.heap.size (.slice (some ⟨g', 0, none⟩) (pre.length + 1) cap')) (by simp; omega); have hk3 := ((hk1.alloc (.cells #[.int .u8 (x.toNat : Int)] 5)).kept hgrow hnr2).kept (grownBy_setCell' w2 w.heap.size (.slice (some ⟨g', 0, none⟩) (pre.length + 1) cap')) (by simp; omega))
    refine ⟨hk2.from _, ⟨hs2.trans hs1.symm, hk3.trans hk1.symm⟩, ⟨_, hv2, ?_, trivial⟩, hB.trans hb2, hs2, hk3⟩
    change World.ownsRow _ _ _ _ _ _ ((pre ++ [x]).map bv)
    rw [map_bv_snoc, List.length_append]
    exact hr2
  case done =>
    rintro D ys W hD rfl ⟨⟨v, hv, hrow, _⟩, hB, _, _⟩ hK
    have hc := hv.cell
    gi_wp2
    refine ⟨by simp, .inl ⟨_, _, rfl, run_takeDeferred hK, ?_⟩⟩
    refine ⟨_, results_tmp rfl _ _ _, v, rfl, ?_, hB.trans (belowK_b (w := w) (Nat.le_refl _) W D _ _ (by simp at hD; omega) hK rfl rfl)⟩
    rw [HLo.out, HKey.out] at hrow
    exact ownsRow_putObj hrow _ hK rfl
  case stop =>
    rintro D c pre W _ _ h _
    exact h.elim

end Go.Proofs.Ytdjfbhdkfdkjnaa

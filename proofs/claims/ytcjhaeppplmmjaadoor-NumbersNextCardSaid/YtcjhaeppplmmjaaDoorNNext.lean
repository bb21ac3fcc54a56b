/-
  NumbersNext: the walk.
-/
import Derived.Test.YtcjhaeppplmmjaaDoorAliveN
import Derived.IntWalk
import Derived.Maps.AppendAt
import Derived.BigQuiet
namespace Go.Proofs.YtcjhaeppplmmjaaDoor
open Go.RowKit
set_option linter.unusedVariables false

/-- The first k of three numbers, each as it is counted. -/
def wasOf (a b c : Int) (k : Nat) : List Int := ([a % 4000, b % 4000, c % 4000]).take k
theorem wasOf_len (a b c : Int) (k : Nat) (h : k ≤ 3) : (wasOf a b c k).length = k := by
  unfold wasOf; rw [List.length_take]; simp; omega
theorem wasOf_succ (a b c : Int) (k : Nat) (h : k < 3) : wasOf a b c (k + 1) = wasOf a b c k ++ [([a, b, c].getD k 0) % 4000] := by
  rcases (by omega : k = 0 ∨ k = 1 ∨ k = 2) with rfl | rfl | rfl <;> simp [wasOf]

theorem wasOf_bd (a b c : Int) (k : Nat) (a0 : 0 ≤ a) (b0 : 0 ≤ b) (c0 : 0 ≤ c) : ∀ x ∈ wasOf a b c k, 0 ≤ x ∧ x ≤ 3999 := by
  intro x hx
  have := List.mem_of_mem_take hx
  simp at this
  rcases this with rfl | rfl | rfl <;> omega
theorem pad_at (l : List Int) (M i : Nat) (hM : M ≤ 2) (hi : i ≤ M) (hl : l.length ≤ 3) : (pad l (M + 1)).getD i 0 = if i < l.length then l.getD i 0 else 0 := by
  unfold pad
  rw [List.getD_eq_getElem?_getD, List.getElem?_take_of_lt (by omega)]
  by_cases h : i < l.length
  · rw [if_pos h, List.getElem?_append_left h, List.getD_eq_getElem?_getD]
  · rw [if_neg h, List.getElem?_append_right (by omega)]
    have h3 : i - l.length < 3 := by omega
    rcases (by omega : i - l.length = 0 ∨ i - l.length = 1 ∨ i - l.length = 2) with h | h | h <;> rw [h] <;> rfl
theorem row_at (l : List Int) (M i : Nat) (hM : M ≤ 2) (v : Int) (hi : i ≤ M) (hl : l.length ≤ 3) : (((pad l (M + 1)).map (Value.int .i64)).set M (.int .i64 v))[i]? = some (.int .i64 (if i = M then v else if i < l.length then l.getD i 0 else 0)) := by
  have hlen : (pad l (M + 1)).length = M + 1 := pad_length l (M + 1) (by omega)
  rw [List.getElem?_set]
  by_cases h : M = i
  · subst h
    rw [if_pos rfl, if_pos (by rw [List.length_map, hlen]; omega), if_pos rfl]
  · rw [if_neg h, if_neg (fun e => h e.symm), List.getElem?_map]
    have := pad_at l M i hM hi hl
    rw [List.getD_eq_getElem?_getD, List.getElem?_eq_getElem (by omega)] at this
    rw [List.getElem?_eq_getElem (by omega)]
    simp only [Option.getD_some] at this
    rw [← this]; rfl

set_option maxHeartbeats 4000000 in
set_option maxRecDepth 100000 in
theorem numbersNext_walk (a b c m d : Int) (ha : (Lit.int .u16 a).wf = true) (hb : (Lit.int .u16 b).wf = true) (hc : (Lit.int .u16 c).wf = true) (hm : (Lit.int .u8 m).wf = true) (hd : (Lit.int .u8 d).wf = true) (w : World) (hN : NumIn w) :
    Calls Tryd.prog 9 #[.agg #[.int .u16 a, .int .u16 b, .int .u16 c], .int .u8 m, .int .u8 d] w fun e w' => e = .returned (.bool true) ∧ Below w.heap.size w w' := by
  obtain ⟨i0, hi, hz0, hz1, hz2⟩ := info_parts infoInt
  obtain ⟨a0, a1⟩ := bounds_u16 ha
  obtain ⟨b0, b1⟩ := bounds_u16 hb
  obtain ⟨c0, c1⟩ := bounds_u16 hc
  have HN := Lib.hid hN
  have hm2 : 0 ≤ m ∧ m ≤ 255 := by
    simp only [Lit.wf, Bool.and_eq_true, decide_eq_true_eq] at hm
    exact hm
  have hd2 : 0 ≤ d ∧ d ≤ 255 := by
    simp only [Lit.wf, Bool.and_eq_true, decide_eq_true_eq] at hd
    exact hd
  obtain ⟨n, hn⟩ : ∃ n : Nat, m % 4 = n := ⟨(m % 4).toNat, by omega⟩
  obtain ⟨M, hL⟩ : ∃ M : Nat, d % 3 = M := ⟨(d % 3).toNat, by omega⟩
  have hn3 : n ≤ 3 := by omega
  have hM2 : M ≤ 2 := by omega
  have HMn := Lib.hid hn
  have HLd := Lib.hid hL
  obtain ⟨m0, m1⟩ := hm2
  obtain ⟨d0, d1⟩ := hd2
  clear hN ha hb hc hm hd hn hL
  go_enter Tryd.func9, Tryd.ntmps9
  go_wp2_with fail
  go_loopw [7, 8] (fun v i wr => ∃ k : Nat, k ≤ n ∧ i = .int .i64 k ∧ wr.ownsRow (w.heap.size + 1) 3 1 v k ((wasOf a b c k).map (Value.int .i64)) ∧ wr.heap[w.heap.size]? = some (.cells #[.int .u16 a, .int .u16 b, .int .u16 c] 39 (0, 0)) ∧ Below w.heap.size w wr ∧ w.heap.size + 1 ≤ wr.heap.size) (fun _ i _ => n - (intOf i).toNat)
  case atStart =>
    refine ⟨0, by omega, rfl, World.ownsRow_nil _ _ _ _, heap_alloc_new w _, (Below.refl _ _).alloc (Nat.le_refl _) _, by simp⟩
  case round =>
    obtain ⟨k, hk, rfl, hown, hblk, hbl, hsz⟩ := hrel
    have HO := Lib.hid hown
    have HB := Lib.hid hblk
    have k0 : wr.cell? ⟨w.heap.size, 0, none⟩ = some (.int .u16 a) := by rw [Lib.cell_of_heap hblk]; rfl
    have k1 : wr.cell? ⟨w.heap.size, 1, none⟩ = some (.int .u16 b) := by rw [Lib.cell_of_heap hblk]; rfl
    have k2 : wr.cell? ⟨w.heap.size, 2, none⟩ = some (.int .u16 c) := by rw [Lib.cell_of_heap hblk]; rfl
    clear hblk
    by_cases hlt : k < n
    · have hcell : wr.cell? ⟨w.heap.size, k, none⟩ = some (.int .u16 ([a, b, c].getD k 0)) := by
        rcases (by omega : k = 0 ∨ k = 1 ∨ k = 2) with rfl | rfl | rfl
        · exact k0
        · exact k1
        · exact k2
      have hxb : 0 ≤ [a, b, c].getD k 0 ∧ [a, b, c].getD k 0 ≤ 65535 := by
        rcases (by omega : k = 0 ∨ k = 1 ∨ k = 2) with rfl | rfl | rfl
        · exact ⟨a0, a1⟩
        · exact ⟨b0, b1⟩
        · exact ⟨c0, c1⟩
      have HS := Lib.hid (wasOf_succ a b c k (by omega))
      have hk3 : (k : Int) < 3 := by omega
      have hkm : (k : Int) < m % 4 := by rw [HMn.out]; omega
      clear hown k0 k1 k2
      generalize [a, b, c].getD k 0 = x at *
      obtain ⟨x0, x1⟩ := hxb
      go_wp2_with (at_builtin; go_must (refine wpList_append_own _ rfl _ _ 36 rfl (w.heap.size + 1) 3 i0 (.int .i64 0) 1 8 Tryd.underlying36 hi hz0 hz1 hz2 rfl (by decide) _ _ _ rfl (HO.out.alloc _) ⟨wr.heap.size, 0, none⟩ 1 1 [_] rfl rfl (cell_one_new _ _ _) (by simp [Value.oneCell']) (by unfold maxLen; omega) (by omega) (by simp; omega) ?_; intro v' w2 hown' hgrow _))
      have hb2 := (hbl.alloc hbl.size _).grown hgrow (by have := hbl.size; simp; omega) (fun i hi => by have := (HO.out.lt i hi).1; omega)
      have hs2 : w.heap.size + 1 ≤ w2.heap.size := by have := hgrow.size; simp at this; omega
      have hbk2 : w2.heap[w.heap.size]? = some (.cells #[.int .u16 a, .int .u16 b, .int .u16 c] 39 (0, 0)) := by
        rw [hgrow.block w.heap.size (by simp; omega) (fun e => by have := (HO.out.lt w.heap.size e.symm).1; omega)]
        exact (Below.heap_alloc wr _ _ (by omega)).trans HB.out
      have HO2 := Lib.hid hown'
      clear hown' hgrow
      go_roundw
      case rel =>
        refine ⟨k + 1, by omega, by go_num, ?_, hbk2, hb2, hs2⟩
        rw [HS.out, List.map_append]
        exact HO2.out
      case measure => simp [intOf]; omega
    · obtain rfl : k = n := by omega
      obtain ⟨A, cp, hv⟩ := own_slice hown
      subst hv
      have hkm : ¬ ((k : Int) < m % 4) := by rw [HMn.out]; omega
      have HI := Lib.hid (IR.of_own hown).2
      clear hown k0 k1 k2
      go_wp2_with fail
      rw [HLd.out]
      have hlen := wasOf_len a b c k hn3
      have hbd := wasOf_bd a b c k a0 b0 c0
      generalize wasOf a b c k = l at *
      have hgood := next_good A k cp (M + 1) l hlen hn3 (by omega) (by omega) hbd wr HI.out
      rw [show M + 1 - 1 = M by omega, pad_at l M M hM2 (Nat.le_refl _) (by omega), hlen] at hgood
      have HG := Lib.hid hgood
      have HBD := Lib.hid hbd
      have HLen := Lib.hid hlen
      clear hgood hbd hlen HB HO hlt hkm a0 a1 b0 b1 c0 c1 hi hz0 hz1 hz2 m0 m1 d0 d1
      by_cases hkM : M < k
      · have hlast : (l.getD M 0) = (if M < k then l.getD M 0 else 0) := by rw [if_pos hkM]
        rw [← hlast] at HG
        have hlb : 0 ≤ l.getD M 0 ∧ l.getD M 0 ≤ 3999 := by
          refine HBD.out _ ?_
          rw [List.getD_eq_getElem?_getD, List.getElem?_eq_getElem (by rw [HLen.out]; exact hkM)]
          exact List.getElem_mem _
        have hge : (M : Int) + 1 ≤ (k : Int) := by omega
        clear hlast
        refine HG.out.mono ?_
        rintro e w3 ⟨hp, b3⟩
        obtain ⟨g, o, rfl, hg, hcl⟩ := HI.out (by intro h0; have := HLen.out; rw [h0] at this; simp at this; omega)
        have hw : ∀ i, i < k → w3.cell? ⟨g, o + i, none⟩ = some (.int .i64 (l.getD i 0)) := fun i hi => (b3.cell (p := ⟨g, o + i, none⟩) hg).trans (hcl i (by rw [HLen.out]; exact hi))
        have cM := hw M hkM
        have c3 := hbl.trans (b3.mono hbl.size)
        have H3 := Lib.hid (HN.out.below c3)
        have HW := Lib.hid hw
        obtain ⟨lst, hlst⟩ : ∃ lst, lst = l.getD M 0 := ⟨_, rfl⟩
        rw [← hlst] at hp hlb cM
        obtain ⟨l0, l1⟩ := hlb
        clear hcl hw HG b3
        rcases hp with ⟨h39, rfl⟩ | ⟨h39, rfl, hrow⟩
        · have hl39 : (lst == 3999) = true := by simp; omega
          clear hlst
          go_wp2_with fail
          refine (alive_any _ H3.out).mono ?_
          rintro e w4 ⟨rfl, b4⟩
          go_wp2_with fail
          go_ret
          exact ⟨ret_bool (by simp), c3.trans (b4.mono c3.size)⟩
        · have hl39 : (lst == 3999) = false := by simp; omega
          have xM := hrow.cell M _ (row_at l M M hM2 (lst + 1) (Nat.le_refl _) (by rw [HLen.out]; exact hn3))
          rw [if_pos rfl] at xM
          clear hlst
          have hx : ∀ i, i < M → w3.cell? ⟨wr.heap.size, i, none⟩ = some (.int .i64 (if i < k then l.getD i 0 else 0)) := fun i hi => by
            have := hrow.cell i _ (row_at l M i hM2 (lst + 1) (by omega) (by rw [HLen.out]; exact hn3))
            rw [if_neg (by omega), HLen.out] at this
            exact this
          have HX := Lib.hid hx
          clear hx hrow
          go_wp2_with fail
          go_loopw [13] (fun i wq => ∃ i' : Nat, i' ≤ M ∧ i = .int .i64 i' ∧ ∃ q, w3.drewN q = wq) (fun i _ => M - (intOf i).toNat)
          case atStart => exact ⟨0, by omega, rfl, 0, rfl⟩
          case round =>
            obtain ⟨i, hiM, rfl, q, rfl⟩ := hrel
            by_cases hlt : i < M
            · have xi := HX.out i hlt
              have hi0 : (0 : Int) ≤ (i : Int) := Int.natCast_nonneg _
              have hi1 : (i : Int) < (M : Int) + 1 := by omega
              have hi2 : (i : Int) + 1 < (M : Int) + 1 := by omega
              have hik : i < k := by omega
              have hiki : (i : Int) < (k : Int) := by omega
              have hikb : decide ((k : Int) ≤ (i : Int)) = false := by simp; omega
              have hikb3 : decide (k ≤ i) = false := by simp; omega
              have hikb2 : decide ((i : Int) < (k : Int)) = true := by simp; omega
              rw [if_pos hik] at xi
              have wi := HW.out i hik
              generalize l.getD i 0 = v at *
              have hvv : (v != v) = false := by simp
              clear hik
              go_wp2_with fail
              go_quiet (fail)
              go_wp2_with fail
              go_roundw
              case rel => exact ⟨i + 1, by omega, by go_num, _, rfl⟩
              case measure => simp [intOf]; omega
            · obtain rfl : i = M := by omega
              have c4 : Below w.heap.size w (w3.drewN q) := below_drewN c3 q
              have H4 := Lib.hid (HN.out.below c4)
              go_wp2_with fail
              refine (alive_any _ H4.out).mono ?_
              rintro e w4 ⟨rfl, b4⟩
              go_wp2_with fail
              go_ret
              exact ⟨rfl, c4.trans (b4.mono c4.size)⟩
      · rw [if_neg hkM] at HG
        have hge : ¬ (M : Int) + 1 ≤ (k : Int) := by omega
        refine HG.out.mono ?_
        rintro e w3 ⟨hp, b3⟩
        have c3 := hbl.trans (b3.mono hbl.size)
        have H3 := Lib.hid (HN.out.below c3)
        have B3 := Lib.hid b3
        clear HG b3
        rcases hp with ⟨h39, rfl⟩ | ⟨h39, rfl, hrow⟩
        · exact absurd h39 (by decide)
        · obtain ⟨lst, hlst⟩ : ∃ lst : Int, lst = 0 := ⟨_, rfl⟩
          rw [← hlst] at hrow
          have xM := hrow.cell M _ (row_at l M M hM2 (lst + 1) (Nat.le_refl _) (by rw [HLen.out]; exact hn3))
          rw [if_pos rfl, hlst] at xM
          clear hlst
          have hx : ∀ i, i < M → w3.cell? ⟨wr.heap.size, i, none⟩ = some (.int .i64 (if i < k then l.getD i 0 else 0)) := fun i hi => by
            have := hrow.cell i _ (row_at l M i hM2 (lst + 1) (by omega) (by rw [HLen.out]; exact hn3))
            rw [if_neg (by omega), HLen.out] at this
            exact this
          have HX := Lib.hid hx
          clear hx hrow
          go_wp2_with fail
          go_loopw [13] (fun i wq => ∃ i' : Nat, i' ≤ M ∧ i = .int .i64 i' ∧ ∃ q, w3.drewN q = wq) (fun i _ => M - (intOf i).toNat)
          case atStart => exact ⟨0, by omega, rfl, 0, rfl⟩
          case round =>
            obtain ⟨i, hiM, rfl, q, rfl⟩ := hrel
            by_cases hlt : i < M
            · have xi := HX.out i hlt
              have hi0 : (0 : Int) ≤ (i : Int) := Int.natCast_nonneg _
              have hi1 : (i : Int) < (M : Int) + 1 := by omega
              have hi2 : (i : Int) + 1 < (M : Int) + 1 := by omega
              by_cases hik : i < k
              · have hiki : (i : Int) < (k : Int) := by omega
                have hikb : decide ((k : Int) ≤ (i : Int)) = false := by simp; omega
                have hikb3 : decide (k ≤ i) = false := by simp; omega
                have hikb2 : decide ((i : Int) < (k : Int)) = true := by simp; omega
                rw [if_pos hik] at xi
                obtain ⟨g, o, rfl, hg, hcl⟩ := HI.out (by intro h0; have := HLen.out; rw [h0] at this; simp at this; omega)
                have wi : w3.cell? ⟨g, o + i, none⟩ = some (.int .i64 (l.getD i 0)) := (B3.out.cell (p := ⟨g, o + i, none⟩) hg).trans (hcl i (by rw [HLen.out]; exact hik))
                clear hcl
                generalize l.getD i 0 = v at *
                have hvv : (v != v) = false := by simp
                clear hik
                go_wp2_with fail
                go_quiet (fail)
                go_wp2_with fail
                go_roundw
                case rel => exact ⟨i + 1, by omega, by go_num, _, rfl⟩
                case measure => simp [intOf]; omega
              · have hikb : decide ((i : Int) < (k : Int)) = false := by simp; omega
                have hikb3 : decide (i < k) = false := by simp; omega
                have hikb4 : decide (k ≤ i) = true := by simp; omega
                have hiki : (k : Int) ≤ (i : Int) := by omega
                have hikb2 : decide ((k : Int) ≤ (i : Int)) = true := by simp; omega
                rw [if_neg hik] at xi
                clear hik
                go_wp2_with fail
                go_quiet (fail)
                go_wp2_with fail
                go_roundw
                case rel => exact ⟨i + 1, by omega, by go_num, _, rfl⟩
                case measure => simp [intOf]; omega
            · obtain rfl : i = M := by omega
              have c4 : Below w.heap.size w (w3.drewN q) := below_drewN c3 q
              have H4 := Lib.hid (HN.out.below c4)
              go_wp2_with fail
              refine (alive_any _ H4.out).mono ?_
              rintro e w4 ⟨rfl, b4⟩
              go_wp2_with fail
              go_ret
              exact ⟨rfl, c4.trans (b4.mono c4.size)⟩
end Go.Proofs.YtcjhaeppplmmjaaDoor

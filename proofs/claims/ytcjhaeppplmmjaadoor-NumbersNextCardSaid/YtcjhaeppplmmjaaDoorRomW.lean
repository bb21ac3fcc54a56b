/-
  numbers.Roman: the walk.
-/
import Derived.Test.YtcjhaeppplmmjaaDoorRomB
import Derived.Test.YtcjhaeppplmmjaaDoorBld
import Derived.Test.YtcjhaeppplmmjaaDoorFlat
import Derived.Test.YtcjhaeppplmmjaaDoorBase
namespace Go.Proofs.YtcjhaeppplmmjaaDoor
open Go.RowKit

theorem gRoman : Tryd.prog.globalNamed "bindery/numbers.roman" = some 0 := by kernel_rfl
theorem gRomanType : (Tryd.prog.globals[0]?).map (·.type) = some 53 := by kernel_rfl
theorem gRomanFlat : flatT Tryd.prog 4 53 = true := by kernel_rfl

/-- The table of great letters lies where the program has it. -/
def RomanIn (w : World) : Prop := ∀ k d, k < 4 → d < 10 → w.cell? ⟨0, k * 10 + d, none⟩ = some (.string ⟨(Rm.row k d).toArray⟩)
theorem tab_flat : ∀ k d, k < 4 → d < 10 → (flat 4 (Rows.laid_bindery_numbers_roman (H := Unit)))[k * 10 + d]? = some (.string ⟨(Rm.row k d).toArray⟩) := by
  intro k d hk hd
  rcases (by omega : k = 0 ∨ k = 1 ∨ k = 2 ∨ k = 3) with rfl | rfl | rfl | rfl <;>
    rcases (by omega : d = 0 ∨ d = 1 ∨ d = 2 ∨ d = 3 ∨ d = 4 ∨ d = 5 ∨ d = 6 ∨ d = 7 ∨ d = 8 ∨ d = 9) with rfl | rfl | rfl | rfl | rfl | rfl | rfl | rfl | rfl | rfl <;> rfl
theorem romanIn_of {W : World} {l : List (String × DataW Unit)} (h : laidMet Tryd.prog l W) (hm : ("bindery/numbers.roman", Rows.laid_bindery_numbers_roman) ∈ l) : RomanIn W :=
  fun k d h1 h2 => (laid_cells h hm gRoman gRomanType gRomanFlat (k * 10 + d)).trans (tab_flat k d h1 h2)
theorem RomanIn.tab {w : World} (h : RomanIn w) (k d : Nat) (h1 : k < 4) (h2 : d < 10) (h3 : k = 0 → d < 4) : w.cell? ⟨0, k * 10 + d, none⟩ = some (.string ⟨(Rm.tab k d).toArray⟩) := by
  rw [← Rm.row_tab k d h3]; exact h k d h1 h2
theorem RomanIn.pos {w : World} (h : RomanIn w) : 0 < w.heap.size := by
  have := h 0 0 (by decide) (by decide)
  rcases Nat.eq_zero_or_pos w.heap.size with h0 | h0
  · have : w.heap[0]? = none := by simp [h0]
    simp [World.cell?, this] at *
  · exact h0
theorem RomanIn.below {w w' : World} {B : Nat} (h : RomanIn w) (hb : Below B w w') (hB : 0 < B) : RomanIn w' :=
  fun k d h1 h2 => (hb.cell (by exact hB)).trans (h k d h1 h2)

theorem run_index4 (a b c d : Int) (w : World) :
    (Instr.index 43 (.agg #[.int .i64 a, .int .i64 b, .int .i64 c, .int .i64 d]) (.int .i64 0)).run Tryd.prog w = .ok (.int .i64 a) w ∧
    (Instr.index 43 (.agg #[.int .i64 a, .int .i64 b, .int .i64 c, .int .i64 d]) (.int .i64 1)).run Tryd.prog w = .ok (.int .i64 b) w ∧
    (Instr.index 43 (.agg #[.int .i64 a, .int .i64 b, .int .i64 c, .int .i64 d]) (.int .i64 2)).run Tryd.prog w = .ok (.int .i64 c) w ∧
    (Instr.index 43 (.agg #[.int .i64 a, .int .i64 b, .int .i64 c, .int .i64 d]) (.int .i64 3)).run Tryd.prog w = .ok (.int .i64 d) w := by
  refine ⟨?_, ?_, ?_, ?_⟩ <;> simp [Instr.index, asIntOf, go_sem, part]

theorem upTo_all (n k : Nat) (h : k = 4) : Rm.upTo n k = Rm.roman n := by rw [h]; rfl

set_option maxHeartbeats 4000000 in
set_option maxRecDepth 100000 in
theorem roman_good (n : Nat) (h1 : 1 ≤ n) (h2 : n ≤ 3999) (w : World) (hR : RomanIn w) :
    Calls Tryd.prog 10 #[.int .i64 n] w fun e w' => e = .returned (.tuple #[.string ⟨(Rm.roman n).toArray⟩, .int .i64 0]) ∧ Below w.heap.size w w' := by
  have hp := hR.pos
  have e0 : (n : Int) / 1000 = (Rm.digit n 0 : Nat) := by show _ = ((n / 1000 : Nat) : Int); omega
  have e1 : (n : Int) / 100 % 10 = (Rm.digit n 1 : Nat) := by show _ = ((n / 100 % 10 : Nat) : Int); omega
  have e2 : (n : Int) / 10 % 10 = (Rm.digit n 2 : Nat) := by show _ = ((n / 10 % 10 : Nat) : Int); omega
  have e3 : (n : Int) % 10 = (Rm.digit n 3 : Nat) := by show _ = ((n % 10 : Nat) : Int); omega
  have f0 := Rm.digit_lt4 n h2
  have f1 := Rm.digit_lt n 1 h2
  have f2 := Rm.digit_lt n 2 h2
  have f3 := Rm.digit_lt n 3 h2
  have E := Lib.hid (And.intro e0 (And.intro e1 (And.intro e2 e3)))
  clear e0 e1 e2 e3
  go_enter Tryd.func10, Tryd.ntmps10
  go_wp2_with fail
  obtain ⟨e0, e1, e2, e3⟩ := E.out
  rw [e0, e1, e2, e3]
  clear e0 e1 e2 e3 E
  have HR := Lib.hid hR
  clear hR
  have B0 : Below w.heap.size w ((w.alloc (Obj.cells #[Value.int IntKind.i64 (Rm.digit n 0 : Nat), Value.int IntKind.i64 (Rm.digit n 1 : Nat), Value.int IntKind.i64 (Rm.digit n 2 : Nat), Value.int IntKind.i64 (Rm.digit n 3 : Nat)] 43)).alloc (Obj.cells #[Value.pointer none, Value.slice none 0 0] 47)) :=
    ((Below.refl w.heap.size w).alloc (Nat.le_refl _) _).alloc (by simp) _
  have N0 := Bld.new (w.alloc (Obj.cells #[Value.int IntKind.i64 (Rm.digit n 0 : Nat), Value.int IntKind.i64 (Rm.digit n 1 : Nat), Value.int IntKind.i64 (Rm.digit n 2 : Nat), Value.int IntKind.i64 (Rm.digit n 3 : Nat)] 43))
  rw [show (w.alloc (Obj.cells #[Value.int IntKind.i64 (Rm.digit n 0 : Nat), Value.int IntKind.i64 (Rm.digit n 1 : Nat), Value.int IntKind.i64 (Rm.digit n 2 : Nat), Value.int IntKind.i64 (Rm.digit n 3 : Nat)] 43)).heap.size = w.heap.size + 1 by simp] at N0
  go_loopw [26] (fun i wr => ∃ k : Nat, k ≤ 4 ∧ i = .int .i64 k ∧ Bld (w.heap.size + 1) (Rm.upTo n k) wr ∧ Below w.heap.size w wr) (fun i _ => 4 - (intOf i).toNat)
  case atStart => exact ⟨0, by omega, rfl, N0, B0⟩
  case round =>
    obtain ⟨k, hk, rfl, hB, hb⟩ := hrel
    have hT := HR.out.below hb hp
    have hl := Rm.upTo_length n k h2
    rcases (by omega : k = 0 ∨ k = 1 ∨ k = 2 ∨ k = 3 ∨ k = 4) with rfl | rfl | rfl | rfl | rfl
    · have c : wr.cell? ⟨0, Rm.digit n 0, none⟩ = some (.string ⟨(Rm.tab 0 (Rm.digit n 0)).toArray⟩) := by have := hT.tab 0 (Rm.digit n 0) (by omega) (by omega) (fun _ => by omega); rwa [Nat.zero_mul, Nat.zero_add] at this
      have hs := Rm.tab_length 0 _ (Rm.digit_lt n 0 h2)
      have hz := bld_size (Rm.tab 0 (Rm.digit n 0))
      clear hT
      go_wp2_with fail
      rw [(run_index4 _ _ _ _ _).1]
      simp only [Result.andThen]
      rw [Oper.upon_value]
      go_wp2_with fail
      refine (bld_write _ _ ⟨(Rm.tab 0 (Rm.digit n 0)).toArray⟩ _ hB (by omega)).mono ?_
      rintro e w1 ⟨rfl, hB1, hb1, _⟩
      have hb2 := hb.trans (hb1.mono (by omega))
      go_wp2_with fail
      go_roundw
      case rel => exact ⟨1, by omega, by go_num, hB1, hb2⟩
      case measure => simp [intOf]
    · have c : wr.cell? ⟨0, 10 + Rm.digit n 1, none⟩ = some (.string ⟨(Rm.tab 1 (Rm.digit n 1)).toArray⟩) := hT.tab 1 (Rm.digit n 1) (by omega) (by omega) (fun _ => by omega)
      have hs := Rm.tab_length 1 _ (Rm.digit_lt n 1 h2)
      have hz := bld_size (Rm.tab 1 (Rm.digit n 1))
      clear hT
      go_wp2_with fail
      rw [(run_index4 _ _ _ _ _).2.1]
      simp only [Result.andThen]
      rw [Oper.upon_value]
      go_wp2_with fail
      refine (bld_write _ _ ⟨(Rm.tab 1 (Rm.digit n 1)).toArray⟩ _ hB (by omega)).mono ?_
      rintro e w1 ⟨rfl, hB1, hb1, _⟩
      have hb2 := hb.trans (hb1.mono (by omega))
      go_wp2_with fail
      go_roundw
      case rel => exact ⟨2, by omega, by go_num, hB1, hb2⟩
      case measure => simp [intOf]
    · have c : wr.cell? ⟨0, 20 + Rm.digit n 2, none⟩ = some (.string ⟨(Rm.tab 2 (Rm.digit n 2)).toArray⟩) := hT.tab 2 (Rm.digit n 2) (by omega) (by omega) (fun _ => by omega)
      have hs := Rm.tab_length 2 _ (Rm.digit_lt n 2 h2)
      have hz := bld_size (Rm.tab 2 (Rm.digit n 2))
      clear hT
      go_wp2_with fail
      rw [(run_index4 _ _ _ _ _).2.2.1]
      simp only [Result.andThen]
      rw [Oper.upon_value]
      go_wp2_with fail
      refine (bld_write _ _ ⟨(Rm.tab 2 (Rm.digit n 2)).toArray⟩ _ hB (by omega)).mono ?_
      rintro e w1 ⟨rfl, hB1, hb1, _⟩
      have hb2 := hb.trans (hb1.mono (by omega))
      go_wp2_with fail
      go_roundw
      case rel => exact ⟨3, by omega, by go_num, hB1, hb2⟩
      case measure => simp [intOf]
    · have c : wr.cell? ⟨0, 30 + Rm.digit n 3, none⟩ = some (.string ⟨(Rm.tab 3 (Rm.digit n 3)).toArray⟩) := hT.tab 3 (Rm.digit n 3) (by omega) (by omega) (fun _ => by omega)
      have hs := Rm.tab_length 3 _ (Rm.digit_lt n 3 h2)
      have hz := bld_size (Rm.tab 3 (Rm.digit n 3))
      clear hT
      go_wp2_with fail
      rw [(run_index4 _ _ _ _ _).2.2.2]
      simp only [Result.andThen]
      rw [Oper.upon_value]
      go_wp2_with fail
      refine (bld_write _ _ ⟨(Rm.tab 3 (Rm.digit n 3)).toArray⟩ _ hB (by omega)).mono ?_
      rintro e w1 ⟨rfl, hB1, hb1, _⟩
      have hb2 := hb.trans (hb1.mono (by omega))
      go_wp2_with fail
      go_roundw
      case rel => exact ⟨4, by omega, by go_num, hB1, hb2⟩
      case measure => simp [intOf]
    · clear hT
      go_wp2_with fail
      refine (bld_string _ _ _ hB).mono ?_
      rintro e w1 ⟨rfl, _, hb1, _⟩
      have hb2 := hb.trans (hb1.mono (by omega))
      go_wp2_with fail
      go_ret2
      exact ⟨rfl, hb2⟩

set_option maxHeartbeats 1000000 in
set_option maxRecDepth 100000 in
theorem roman_bad (n : Int) (h : n < 1 ∨ 3999 < n) (w : World) :
    Calls Tryd.prog 10 #[.int .i64 n] w fun e w' => e = .returned (.tuple #[.string ⟨#[]⟩, .int .i64 1]) ∧ w' = w := by
  rcases h with h | h
  all_goals
    go_enter Tryd.func10, Tryd.ntmps10
    go_wp2
    go_ret2
    exact ⟨rfl, rfl⟩
end Go.Proofs.YtcjhaeppplmmjaaDoor

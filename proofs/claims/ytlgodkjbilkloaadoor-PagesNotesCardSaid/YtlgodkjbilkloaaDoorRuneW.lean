/-
  strings.Builder's WriteRune at a sign of one byte.
-/
import Derived.Test.YtlgodkjbilkloaaDoorBld
import Derived.Lib.FrozenHead2
import Derived.Lib.Hide
import Derived.Maps.AppendAt
namespace Go.Proofs.YtlgodkjbilkloaaDoor
open Go.RowKit
set_option linter.unusedVariables false

set_option maxHeartbeats 1000000 in
set_option maxRecDepth 100000 in
theorem appendRune_low (c : UInt8) (hc : c.toNat < 128) (base n : Nat) (v : Value) (xs : List Value) (w : World) (hown : w.ownsRowF base 5 1 v n xs) (hn : n ≤ 140737488350000) (hbase : base ≤ w.heap.size) :
    Calls Tryd.prog 21 #[v, .int .i32 (c.toNat : Int)] w fun e w' => ∃ v', e = .returned v' ∧ w'.ownsRowF base 5 1 v' (n + 1) (xs ++ [.int .u8 (c.toNat : Int)]) ∧ (w.alloc (.cells #[.int .u8 (c.toNat : Int)] 5)).grownBy w' v.ownBlock := by
  obtain ⟨i0, hi, hz0, hz1, hz2⟩ := info_parts bldByte
  have h0 : (0 : Int) ≤ (c.toNat : Int) := by omega
  have h1 : (c.toNat : Int) ≤ 127 := by omega
  generalize (c.toNat : Int) = z at *
  have ho2 := hown.alloc (.cells #[.int .u8 z] 5)
  have HO := Lib.hid ho2
  clear ho2 hown hc
  go_enter Tryd.func21, Tryd.ntmps21
  go_wp2_with (at_builtin; refine wpList_append_ownF _ rfl _ _ 52 rfl base 5 i0 (.int .u8 0) 1 1 Tryd.underlying52 hi hz0 hz1 hz2 rfl (by decide) v n xs rfl HO.out ⟨w.heap.size, 0, none⟩ 1 1 [.int .u8 z] rfl rfl (cell_one_new _ _ _) (by simp [Value.oneCell']) (by unfold maxLen; omega) (by omega) (by simp; omega) ?_; intro v' w2 hown' hgrow _)
  have HO2 := Lib.hid hown'
  have HG := Lib.hid hgrow
  clear hown' hgrow
  go_wp2_with fail
  go_ret
  exact ⟨_, rfl, HO2.out, HG.out⟩

set_option maxHeartbeats 2000000 in
set_option maxRecDepth 100000 in
theorem writeRune_low (c : UInt8) (hc : c.toNat < 128) (B b : Nat) (bs : List Value) (w : World) (h : Lib.IsBuilderF 54 5 B b bs w) (hlen : bs.length ≤ 140737488350000) (hBw : B ≤ w.heap.size) :
    Calls Tryd.prog 14 #[.pointer (some ⟨b, 0, none⟩), .int .i32 (c.toNat : Int)] w fun e w' => (∃ v, e = .returned v) ∧ (Lib.BuilderAtF 54 5 B b (.pointer (some ⟨b, 0, none⟩)) (bs ++ [.int .u8 (c.toNat : Int)]) w' ∧ Below B w w' ∧ Lib.OthersKept 5 (some b) w w') := by
  go_enter Tryd.func14, Tryd.ntmps14
  go_wp2_with fail
  refine (copyCheck_k B b bs _ h).mono ?_
  rintro e w1 ⟨rfl, h1, hb1, hk1⟩
  obtain ⟨hB, v, hbk, hown, hne⟩ := h1
  have c0 : w1.cell? ⟨b, 0, none⟩ = some (.pointer (some ⟨b, 0, none⟩)) := by rw [Lib.cell_of_heap hbk]; rfl
  have c1 : w1.cell? ⟨b, 1, none⟩ = some v := by rw [Lib.cell_of_heap hbk]; rfl
  obtain ⟨ao, n', cap, rfl⟩ : ∃ ao n' cap, v = .slice ao n' cap := by
    rcases hown.2 with ⟨hv, _⟩ | ⟨g, cap, cur, fz, hv, _⟩
    · exact ⟨_, _, _, hv⟩
    · exact ⟨_, _, _, hv⟩
  have HOwn := Lib.hid hown
  clear hown
  go_wp2_with fail
  refine (appendRune_low c hc B bs.length _ bs w1 HOwn.out hlen (by have := hb1.size; omega)).mono ?_
  rintro e w2 ⟨v', rfl, hown', hgrow⟩
  have hlt : b < w1.heap.size := by
    rcases Nat.lt_or_ge b w1.heap.size with h' | h'
    · exact h'
    · simp [Array.getElem?_eq_none h'] at hbk
  have hbk0 : (w1.alloc (.cells #[.int .u8 (c.toNat : Int)] 5)).heap[b]? = some (.cells #[.pointer (some ⟨b, 0, none⟩), .slice ao n' cap] 54 (0, 0)) := (Below.heap_alloc w1 _ _ hlt).trans hbk
  have hb2 : w2.heap[b]? = some (.cells #[.pointer (some ⟨b, 0, none⟩), .slice ao n' cap] 54 (0, 0)) := by
    rw [hgrow.block b (by simp; omega) (fun e => hne e.symm)]
    exact hbk0
  have d0 : w2.cell? ⟨b, 0, none⟩ = some (.pointer (some ⟨b, 0, none⟩)) := by rw [Lib.cell_of_heap hb2]; rfl
  have d1 : w2.cell? ⟨b, 1, none⟩ = some (.slice ao n' cap) := by rw [Lib.cell_of_heap hb2]; rfl
  have f1 : w2.frozen? ⟨b, 1, none⟩ = false := Lib.frozen_of_heap hb2 1
  obtain ⟨ao2, n2, cap2, rfl⟩ : ∃ ao n' cap, v' = .slice ao n' cap := by
    rcases hown'.2 with ⟨hv, _⟩ | ⟨g, cap, cur, fz, hv, _⟩
    · exact ⟨_, _, _, hv⟩
    · exact ⟨_, _, _, hv⟩
  have hk2 := (hk1.alloc (.cells #[.int .u8 (c.toNat : Int)] 5)).grown hgrow (Lib.ownsRowF_kind (HOwn.out.alloc _))
  have hb3 := (hb1.alloc (by have := hb1.size; omega) (.cells #[.int .u8 (c.toNat : Int)] 5)).grown hgrow (by have := hb1.size; simp; omega) (fun k hk => (HOwn.out.lt k hk).1)
  have HO2 := Lib.hid hown'
  have HK2 := Lib.hid hk2
  have HB2 := Lib.hid hb2
  clear hown' hgrow hk2 hbk0 hb2 c0 c1 hbk hk1
  go_wp2
  go_ret2
  refine ⟨⟨_, rfl⟩, ?_, hb3.setCell (p := ⟨b, 1, none⟩) hB _, HK2.out.setCell ⟨b, 1, none⟩ rfl _⟩
  exact Lib.BuilderAtF.put (T := 54) (e := 5) hB HB2.out (bs' := bs ++ [.int .u8 (c.toNat : Int)]) (by simpa using HO2.out) (by decide)

theorem bld_rune (c : UInt8) (hc : c.toNat < 128) (b : Nat) (l : List UInt8) (w : World) (h : Bld b l w) (hlen : l.length ≤ 140737488350000) :
    Calls Tryd.prog 14 #[.pointer (some ⟨b, 0, none⟩), .int .i32 (c.toNat : Int)] w fun e w' => (∃ v, e = .returned v) ∧ Bld b (l ++ [c]) w' ∧ Below b w w' ∧ Lib.OthersKept 5 (some b) w w' := by
  refine (writeRune_low c hc b b (Lib.byteCells l) w h (by rw [Lib.byteCells_length]; exact hlen) (Nat.le_of_lt h.lt)).mono ?_
  rintro e w' ⟨he, h1, h2, h3⟩
  refine ⟨he, .inr ?_, h2, h3⟩
  have : Lib.byteCells (l ++ [c]) = Lib.byteCells l ++ [.int .u8 (c.toNat : Int)] := by simp [Lib.byteCells]
  rw [this]
  exact h1
end Go.Proofs.YtlgodkjbilkloaaDoor

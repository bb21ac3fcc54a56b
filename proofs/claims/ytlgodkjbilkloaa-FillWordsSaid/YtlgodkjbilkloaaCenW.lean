/-
  fill.Center, fill.Under; binderylaw11.signs: by contract.
-/
import Derived.Test.YtlgodkjbilkloaaIndW
namespace Go.Proofs.Ytlgodkjbilkloaa
open Go.RowKit
set_option linter.unusedVariables false

theorem infoByte : (Try.prog.info? 5).map (fun i => (i.zero, i.size, i.bytes)) = some (some (.int .u8 0), 1, 1) := by kernel_rfl

set_option maxHeartbeats 1000000 in
set_option maxRecDepth 100000 in
theorem center_any (s : ByteArray) (hs : s.size ≤ 1000000) (x : Nat) (hx : x ≤ 200) (w : World) :
    Calls Try.prog 15 #[.string s, .int .i64 (x : Int)] w fun e w' => (∃ y, e = .returned (.string y) ∧ lb y = spcs ((x - Fi.sigs (lb s)) / 2) ++ lb s) ∧ Below w.heap.size w w' := by
  have hmin : min (x : Int) 200 = (x : Int) := by omega
  have hle := Fi.sigs_le (lb s)
  rw [sg_len] at hle
  have HMin := Lib.hid hmin
  clear hmin
  go_enter Try.func15, Try.ntmps15
  go_wp2_with fail
  rw [HMin.out]
  refine (signs_any s (by omega) _).mono ?_
  rintro e w1 ⟨rfl, b1⟩
  by_cases h : Fi.sigs (lb s) < x
  · have hi : ((Fi.sigs (lb s) : Nat) : Int) < (x : Int) := by omega
    have hd : ((x : Int) - ((Fi.sigs (lb s) : Nat) : Int)) / 2 = (((x - Fi.sigs (lb s)) / 2 : Nat) : Int) := by omega
    have hk : (x - Fi.sigs (lb s)) / 2 ≤ 200 := by omega
    obtain ⟨k, hkk⟩ : ∃ k, (x - Fi.sigs (lb s)) / 2 = k := ⟨_, rfl⟩
    rw [hkk] at hd hk
    have HD := Lib.hid hd
    have HKK := Lib.hid hkk
    have hsz := spcs_size k
    clear hd hkk
    go_wp2_with fail
    rw [HD.out]
    refine (blanks_any k hk w1).mono ?_
    rintro e w2 ⟨rfl, b2⟩
    have HSz := Lib.hid hsz
    obtain ⟨bl, hbl⟩ : ∃ bl, bl = (⟨(spcs k).toArray⟩ : ByteArray) := ⟨_, rfl⟩
    rw [← hbl] at hsz ⊢
    have HBl := Lib.hid hbl
    clear hbl
    go_wp2_with fail
    go_ret
    refine ⟨⟨_, rfl, ?_⟩, b1.trans (b2.mono b1.size)⟩
    rw [lb_app, HBl.out, HKK.out]
  · have hi : decide (((Fi.sigs (lb s) : Nat) : Int) < (x : Int)) = false := by simp; omega
    have hz : x - Fi.sigs (lb s) = 0 := by omega
    have HZ := Lib.hid hz
    clear hz
    go_wp2_with fail
    go_ret
    refine ⟨⟨_, rfl, ?_⟩, b1⟩
    rw [HZ.out]
    simp [spcs]

def undRow (n k : Nat) (c : UInt8) : List UInt8 := List.replicate k c ++ List.replicate (n - k) 0
theorem undRow_len (n k : Nat) (c : UInt8) (h : k ≤ n) : (undRow n k c).length = n := by simp [undRow]; omega
theorem undRow_set (n k : Nat) (c : UInt8) (h : k < n) : (undRow n k c).set k c = undRow n (k + 1) c := by
  unfold undRow
  rw [List.set_append_right _ _ (by simp), List.length_replicate, Nat.sub_self, show n - k = (n - (k + 1)) + 1 by omega, List.replicate_succ, List.set_cons_zero, List.replicate_succ', List.append_assoc]
  rfl
theorem undRow_all (n : Nat) (c : UInt8) : undRow n n c = List.replicate n c := by simp [undRow]
theorem two_strings (w : World) (B : Nat) (hB : B ≤ w.heap.size) (a b : ByteArray) : (w.alloc (.cells #[.string a, .string b] 9)).ownsRow B 9 1 (.slice (some ⟨w.heap.size, 0, none⟩) 2 2) 2 ([a, b].map Value.string) :=
  ⟨rfl, .inr ⟨w.heap.size, 2, #[.string a, .string b], rfl, hB, World.alloc_heap_new w _, by omega, by unfold maxLen; omega, rfl, rfl⟩⟩

set_option maxHeartbeats 2000000 in
set_option maxRecDepth 100000 in
theorem under_any (s : ByteArray) (hs : s.size ≤ 1000000) (c : UInt8) (w : World) :
    Calls Try.prog 16 #[.string s, .int .u8 (c.toNat : Int)] w fun e w' => ∃ (g : Nat) (y : ByteArray), e = .returned (.slice (some ⟨g, 0, none⟩) 2 2) ∧ w'.ownsRow w.heap.size 9 1 (.slice (some ⟨g, 0, none⟩) 2 2) 2 ([s, y].map Value.string) ∧ lb y = List.replicate (Fi.sigs (lb s)) c ∧ Below w.heap.size w w' := by
  obtain ⟨i0, hi, hz0, hz1, hz2⟩ := info_parts infoByte
  have hle := Fi.sigs_le (lb s)
  rw [sg_len] at hle
  go_enter Try.func16, Try.ntmps16
  go_wp2_with fail
  refine (signs_any s (by omega) _).mono ?_
  rintro e w0 ⟨rfl, b0⟩
  have hb0 := b0.size
  have HB0 := Lib.hid b0
  obtain ⟨n, hn⟩ : ∃ n, Fi.sigs (lb s) = n := ⟨_, rfl⟩
  rw [hn] at hle ⊢
  have HN := Lib.hid hn
  clear hn b0
  go_wp2_with (first
    | (at_make; refine wpList_make_full _ rfl _ _ 41 rfl w.heap.size 5 i0 (.int .u8 0) 1 Try.underlying41 hi hz0 hz1 .i64 .i64 _ _ n rfl rfl rfl rfl (by rw [hz2]; omega) (by unfold maxLen; omega) (by omega) ?_; intro w1 hown hgrow)
    | fail)
  have hrow := BRow.of_own (l := List.replicate n 0) (by simpa [bv, Value.cells, toList_madeCells_one] using hown)
  have hb1 : Below w.heap.size w w1 := HB0.out.grown hgrow hb0 (fun k h => by cases h)
  have hsz1 : w0.heap.size < w1.heap.size := (hown.lt w0.heap.size rfl).2
  clear hown hgrow
  go_loopw [12] (fun i wr => ∃ k : Nat, k ≤ n ∧ i = .int .i64 k ∧ BRow wr w0.heap.size (undRow n k c) ∧ Below w.heap.size w wr) (fun i _ => n - (intOf i).toNat)
  case atStart => exact ⟨0, Nat.zero_le _, rfl, by simpa [undRow] using hrow, hb1⟩
  case round =>
    obtain ⟨k, hk, rfl, hr, hbel⟩ := hrel
    have HR := Lib.hid hr
    by_cases hlt : k < n
    · have hc := (hr k (by rw [undRow_len n k c hk]; exact hlt)).1
      have hf := (hr k (by rw [undRow_len n k c hk]; exact hlt)).2
      have HS := Lib.hid (undRow_set n k c hlt)
      have HL := Lib.hid (undRow_len n k c hk)
      clear hr
      go_wp2_with fail
      go_roundw
      case rel =>
        refine ⟨k + 1, by omega, by go_num, ?_, hbel.setCell (p := ⟨w0.heap.size, k, none⟩) hb0 _⟩
        rw [← HS.out]
        exact BRow.set HR.out k (by rw [HL.out]; exact hlt) c
      case measure => simp [intOf]; omega
    · obtain rfl : k = n := by omega
      have hconv := conv_row (P := Try.prog) Try.underlying41 Try.underlying5 Try.underlying9 wr w0.heap.size k k _ (undRow_len k k c (Nat.le_refl _)) hr
      have HC := Lib.hid (undRow_all k c)
      clear hr
      go_wp2_with fail
      go_ret
      refine ⟨wr.heap.size, _, rfl, two_strings wr w.heap.size hbel.size s _, ?_, hbel.alloc hbel.size _⟩
      rw [HN.out, HC.out]
end Go.Proofs.Ytlgodkjbilkloaa

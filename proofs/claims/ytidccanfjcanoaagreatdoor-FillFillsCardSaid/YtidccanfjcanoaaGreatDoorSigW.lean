/-
  SIGNS: a range over a text that counts its signs (fill.signs), by contract.
-/
import Derived.Test.YtidccanfjcanoaaGreatDoorBase0
import Derived.Test.YtidccanfjcanoaaGreatDoorFillP
import Derived.Lib.RuneCountTail
import Derived.Lib.OthersKept
namespace Go.Proofs.YtidccanfjcanoaaGreatDoor
open Go.RowKit
set_option linter.unusedVariables false

theorem sg_len (s : ByteArray) : (lb s).length = s.size := (Lib.size_eq s).symm
theorem sg_drop (s : ByteArray) (pos k : Nat) : ((lb s).drop pos).getD k 0 = s.get! (pos + k) := by
  rw [← Lib.getD_get!']
  simp [List.getD, List.getElem?_drop]
theorem decode_sgw (s : ByteArray) (pos : Nat) : (Utf8.decode s pos).2 = Fi.sgw ((lb s).drop pos) := by
  rw [Lib.decode_at]
  unfold Fi.sgw Fi.decW
  rw [sg_drop, sg_drop, sg_drop, sg_drop, List.length_drop, sg_len]
  rfl
theorem sigs_at (s : ByteArray) (pos : Nat) (h : pos < s.size) : Fi.sigs ((lb s).drop pos) = 1 + Fi.sigs ((lb s).drop (pos + (Utf8.decode s pos).2)) := by
  rw [Fi.sigs_step _ (by
    intro e
    have := congrArg List.length e
    rw [List.length_drop, sg_len] at this
    simp at this
    omega), List.drop_drop, ← decode_sgw]
theorem decode_in (s : ByteArray) (pos : Nat) (h : pos < s.size) : 1 ≤ (Utf8.decode s pos).2 ∧ pos + (Utf8.decode s pos).2 ≤ s.size := by
  have hne : (lb s).drop pos ≠ [] := by
    intro e
    have := congrArg List.length e
    rw [List.length_drop, sg_len] at this
    simp at this
    omega
  rw [decode_sgw]
  refine ⟨Fi.sgw_pos _, ?_⟩
  have := Fi.sgw_le _ hne
  rw [List.length_drop, sg_len] at this
  omega

/-- Where a count of signs stands. -/
structure SigAt (w : World) (s : ByteArray) (n pos : Nat) (wr : World) : Prop where
  le : pos ≤ s.size
  cnt : n + Fi.sigs ((lb s).drop pos) = Fi.sigs (lb s)
  iter : wr.heap[w.heap.size]? = some (.stringIter s pos)
  below : Below w.heap.size w wr
theorem SigAt.start (w : World) (s : ByteArray) : SigAt w s 0 0 (w.iter s 0) :=
  ⟨Nat.zero_le _, by simp, World.iter_heap w s 0, (Below.refl _ _).alloc (Nat.le_refl _) _⟩

set_option maxHeartbeats 1000000 in
set_option maxRecDepth 100000 in
theorem signs_any (s : ByteArray) (hs : s.size ≤ 1099511627776) (w : World) :
    Calls Tryz.prog 128 #[.string s] w fun e w' => e = .returned (.int .i64 (Fi.sigs (lb s) : Nat)) ∧ Below w.heap.size w w' := by
  have HT := Lib.hid (SigAt.start w s)
  have hle := Fi.sigs_le (lb s)
  rw [sg_len] at hle
  go_enter Tryz.func128, Tryz.ntmps128
  go_wp2_with fail
  go_loopw [3] (fun fr wr => ∃ (n pos : Nat), fr = .int .i64 n ∧ SigAt w s n pos wr) (fun _ wr => s.size - wr.iterPos w.heap.size)
  case atStart => exact ⟨0, 0, rfl, HT.out⟩
  case round =>
    obtain ⟨n, pos, rfl, hz, hcnt, hit, hb⟩ := hrel
    have hpos : wr.iterPos w.heap.size = pos := by simp only [World.iterPos, hit]
    have HPos := Lib.hid hpos
    have hn : n ≤ Fi.sigs (lb s) := by omega
    have HC := Lib.hid hcnt
    clear hpos hcnt
    by_cases hp : pos < s.size
    · have hnx : ∀ ty, (Instr.next (.pointer (some ⟨w.heap.size, 0, none⟩)) true ty).run Tryz.prog wr = _ := fun ty => Lib.run_next_any_at wr w.heap.size s pos ty hit hp
      have HD := Lib.hid (sigs_at s pos hp)
      have hd := decode_in s pos hp
      obtain ⟨r, d, hrd⟩ : ∃ r d, Utf8.decode s pos = (r, d) := ⟨_, _, rfl⟩
      rw [hrd] at hnx HD hd
      dsimp only at hnx HD hd
      have hit2 := Lib.iterAt_heap wr w.heap.size s pos (pos + d) hit
      have hb2 := Lib.below_iterAt hb (k := w.heap.size) (Nat.le_refl _) s (pos + d)
      generalize wr.iterAt w.heap.size s (pos + d) = wi at *
      have HI2 := Lib.hid hit2
      clear hit hit2 hrd hb
      have hlt : n + 1 ≤ Fi.sigs (lb s) := by have h1 := HC.out; have h2 := HD.out; omega
      obtain ⟨hd1, hd2⟩ := hd
      go_wp2_with fail
      go_roundw
      case rel => exact ⟨n + 1, pos + d, by go_num, hd2, by have h1 := HC.out; have h2 := HD.out; omega, HI2.out, hb2⟩
      case measure =>
        rw [HPos.out]
        simp only [World.iterPos, HI2.out]
        omega
    · obtain rfl : pos = s.size := by omega
      have hnx : ∀ ty, (Instr.next (.pointer (some ⟨w.heap.size, 0, none⟩)) true ty).run Tryz.prog wr = _ := fun ty => Lib.run_next_end_at wr w.heap.size s s.size ty hit hp
      have HE : Hid (n = Fi.sigs (lb s)) := Lib.hid (by
        have h1 := HC.out
        rw [List.drop_of_length_le (by rw [sg_len]; exact Nat.le_refl _), Fi.sigs_nil] at h1
        omega)
      go_wp2_with fail
      go_ret
      obtain rfl := HE.out
      exact ⟨rfl, hb⟩
end Go.Proofs.YtidccanfjcanoaaGreatDoor

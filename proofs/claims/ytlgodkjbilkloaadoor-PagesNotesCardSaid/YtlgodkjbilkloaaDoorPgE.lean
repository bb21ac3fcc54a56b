/-
  PAGES: lives.
-/
import Derived.Test.YtlgodkjbilkloaaDoorPgD
import Derived.Laws.ResultCell
namespace Go.Proofs.YtlgodkjbilkloaaDoor
open Go.RowKit
set_option linter.unusedVariables false

theorem itoa4 : Lib.itoa 4 = [52] := by
  have h := Lib.itoa_nonneg 4
  rw [Lib.decDigits_one (by decide)] at h
  exact h
def livB : List UInt8 := [97, 32, 60, 115, 116, 114, 111, 110, 103, 62, 98, 60, 47, 115, 116, 114, 111, 110, 103, 62, 32, 38, 97, 109, 112, 59, 32, 60, 115, 117, 112, 62, 60, 97, 32, 104, 114, 101, 102, 61, 34, 35, 110, 111, 116, 101, 52, 34, 32, 105, 100, 61, 34, 98, 97, 99, 107, 52, 34, 62, 52, 60, 47, 97, 62, 60, 47, 115, 117, 112, 62]
theorem liv_eq : liv 4 = livB := by
  rw [liv4, noteH, itoa4]
  decide +kernel
theorem escn : (⟨(Es.esc (lb ⟨#[110]⟩)).toArray⟩ : ByteArray) = ⟨#[110]⟩ := bytes_ext (by decide +kernel)
set_option maxHeartbeats 1000000 in
set_option maxRecDepth 100000 in
theorem chapter_none (w : World) : Calls Tryd.prog 9 #[.slice none 0 0, .int .i64 0, .slice none 0 0] w fun e w' => e = .returned (.tuple #[.agg #[.string ⟨#[]⟩, .string ⟨#[]⟩], .int .i64 1]) ∧ Below w.heap.size w w' := by
  go_enter Tryd.func9, Tryd.ntmps9
  go_wp2_with fail
  (try simp only [Exit.inBlock, Exit.then])
  refine bodyPost_ret (v := .tuple #[.agg #[.string ⟨#[]⟩, .string ⟨#[]⟩], .int .i64 1]) ?_ rfl ⟨rfl, (Below.refl _ w).alloc (Nat.le_refl _) _⟩
  rw [results_cell_tmp rfl]
  go_simp
set_option maxHeartbeats 4000000 in
set_option maxRecDepth 100000 in
theorem lives_any (gp : Nat) (hgp : Pow10At gp) (w : World) (hPw : Pow10 w) : Calls Tryd.prog 5 #[] w fun e w' => e = .returned (.bool true) ∧ Below w.heap.size w w' := by
  have hgl := hPw.lt hgp
  have b0 : Below w.heap.size w (((w.alloc (.cells (spC 0 ⟨#[98]⟩ (.slice none 0 0)) 27)).alloc (.cells (spC 0 ⟨#[110]⟩ (.slice none 0 0)) 27)).alloc (.cells (livC w.heap.size (w.heap.size + 1)) 27)) :=
    (((Below.refl _ w).alloc (Nat.le_refl _) _).alloc (by simp) _).alloc (by simp; omega) _
  obtain ⟨w1, hw1⟩ : ∃ x, x = (((w.alloc (.cells (spC 0 ⟨#[98]⟩ (.slice none 0 0)) 27)).alloc (.cells (spC 0 ⟨#[110]⟩ (.slice none 0 0)) 27)).alloc (.cells (livC w.heap.size (w.heap.size + 1)) 27)) := ⟨_, rfl⟩
  have hs1 : w1.heap.size = w.heap.size + 3 := by rw [hw1]; simp
  have hM : Mem (livM (w.heap.size + 2) w.heap.size (w.heap.size + 1)) w1 := by
    rw [hw1]
    intro p hp
    simp only [livM, List.mem_cons, List.not_mem_nil, or_false] at hp
    rcases hp with rfl | rfl | rfl
    · have := heap_alloc_new ((w.alloc (.cells (spC 0 ⟨#[98]⟩ (.slice none 0 0)) 27)).alloc (.cells (spC 0 ⟨#[110]⟩ (.slice none 0 0)) 27)) (.cells (livC w.heap.size (w.heap.size + 1)) 27)
      simpa using this
    · exact (heap_alloc_old _ _ (by simp; omega)).trans ((heap_alloc_old _ _ (by simp)).trans (heap_alloc_new w _))
    · have := heap_alloc_new (w.alloc (.cells (spC 0 ⟨#[98]⟩ (.slice none 0 0)) 27)) (.cells (spC 0 ⟨#[110]⟩ (.slice none 0 0)) 27)
      exact (heap_alloc_old _ _ (by simp)).trans (by simpa using this)
  have hlt : ∀ p ∈ livM (w.heap.size + 2) w.heap.size (w.heap.size + 1), p.1 < w1.heap.size := by
    intro p hp
    simp only [livM, List.mem_cons, List.not_mem_nil, or_false] at hp
    rcases hp with rfl | rfl | rfl <;> simp only <;> omega
  rw [← hw1] at b0
  have H := Lib.hid (spans_gen hgp (spans_liv gp (w.heap.size + 2) w.heap.size (w.heap.size + 1) 4 hgp) w1 hlt hM (hPw.below hgp b0 hgl))
  have B0 := Lib.hid b0
  clear hM hlt b0 hPw
  go_enter Tryd.func5, Tryd.ntmps5
  go_wp2_with fail
  have e2 : w.heap.size + 1 + 1 = w.heap.size + 2 := rfl
  rw [e2]
  rw [show ((w.alloc (.cells #[.int .u8 0, .string ⟨#[98]⟩, .string ⟨#[]⟩, .string ⟨#[]⟩, .slice none 0 0] 27)).alloc (.cells #[.int .u8 0, .string ⟨#[110]⟩, .string ⟨#[]⟩, .string ⟨#[]⟩, .slice none 0 0] 27)).alloc (.cells #[.int .u8 0, .string ⟨#[97, 32]⟩, .string ⟨#[]⟩, .string ⟨#[]⟩, .slice none 0 0,
  .int .u8 1, .string ⟨#[]⟩, .string ⟨#[]⟩, .string ⟨#[]⟩, .slice (some ⟨w.heap.size, 0, none⟩) 1 1,
  .int .u8 0, .string ⟨#[32, 38, 32]⟩, .string ⟨#[]⟩, .string ⟨#[]⟩, .slice none 0 0,
  .int .u8 6, .string ⟨#[]⟩, .string ⟨#[]⟩, .string ⟨#[]⟩, .slice (some ⟨w.heap.size + 1, 0, none⟩) 1 1] 27) = w1 from hw1.symm]
  refine H.out.mono ?_
  rintro e w2 ⟨a, c', rfl, hO, b2⟩
  obtain ⟨g, rfl⟩ : ∃ g, a = some ⟨g, 0, none⟩ := by
    rcases hO.2 with ⟨_, h0⟩ | ⟨g, cap, cur, hv, _⟩
    · simp at h0
    · exact ⟨g, by injection hv⟩
  have hO1 : w2.ownsRow w1.heap.size 9 1 (.slice (some ⟨g, 0, none⟩) 1 c') 1 [.string ⟨#[110]⟩] := by
    have h := hO
    rw [escn] at h
    exact h
  have n0 : w2.cell? ⟨g, 0, none⟩ = some (.string ⟨#[110]⟩) := by rw [hO1.cellAt 0 (by decide)]; rfl
  have hgl2 : g < w2.heap.size := (hO1.lt g rfl).2
  have B2 := Lib.hid (B0.out.trans (b2.mono (by omega)))
  rw [liv_eq, show [(⟨(Es.esc (lb ⟨#[110]⟩)).toArray⟩ : ByteArray)].length = 1 from rfl]
  clear hO hO1 b2
  go_wp2_with fail
  refine (chapter_none w2).mono ?_
  rintro e w3 ⟨rfl, b3⟩
  have n3 : w3.cell? ⟨g, 0, none⟩ = some (.string ⟨#[110]⟩) := (b3.cell (p := ⟨g, 0, none⟩) hgl2).trans n0
  have hs3 := b3.size
  have B3 := Lib.hid (B2.out.trans (b3.mono B2.out.size))
  have n4 : (w3.alloc (.cells #[.string ⟨#[]⟩, .string ⟨#[]⟩] 38)).cell? ⟨g, 0, none⟩ = some (.string ⟨#[110]⟩) := (((Below.refl _ w3).alloc (Nat.le_refl _) _).cell (p := ⟨g, 0, none⟩) (Nat.lt_of_lt_of_le hgl2 hs3)).trans n3
  clear b3 n0
  go_wp2_with fail
  go_ret
  refine ⟨ret_bool ?_, B3.out.alloc B3.out.size _⟩
  rfl
end Go.Proofs.YtlgodkjbilkloaaDoor

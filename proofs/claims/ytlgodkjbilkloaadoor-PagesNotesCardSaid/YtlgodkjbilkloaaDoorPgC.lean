/-
  PAGES: text and Spans, over any list whose spans are told.
-/
import Derived.Test.YtlgodkjbilkloaaDoorPgB
import Derived.BigQuiet
namespace Go.Proofs.YtlgodkjbilkloaaDoor
open Go.RowKit
set_option linter.unusedVariables false

theorem ownsRow_base {w : World} {base base' e size n : Nat} {v : Value} {xs : List Value} (h : w.ownsRow base e size v n xs) (hb : base' ≤ base) : w.ownsRow base' e size v n xs := by
  refine ⟨h.1, ?_⟩
  rcases h.2 with h2 | ⟨g, cap, cur, hv, hg, r⟩
  · exact .inl h2
  · exact .inr ⟨g, cap, cur, hv, by omega, r⟩
def guC : Array Value := #[.slice none 0 0, .map none]
def Mem (M : List (Nat × Obj)) (w : World) : Prop := ∀ p ∈ M, w.heap[p.1]? = some p.2
theorem Mem.below {M : List (Nat × Obj)} {B : Nat} {w w' : World} (h : Mem M w) (hb : Below B w w') (hM : ∀ p ∈ M, p.1 < B) : Mem M w' := fun p hp => (hb.block p.1 (hM p hp)).trans (h p hp)
/-- What the page is behind the spans. -/
def PgPost (G P b : Nat) (f : Int) (T : List UInt8) (N : List ByteArray) (w : World) (e : Ending) (w' : World) : Prop :=
  e = .returned (.tuple #[]) ∧ Bld b T w' ∧ Below G w w' ∧ ∃ nv', w'.heap[P]? = some (.cells (pgC G f nv') 47 (0, 0)) ∧ w'.ownsRow P 9 1 nv' N.length (N.map Value.string)
def SpC (M : List (Nat × Obj)) (gp g n c : Nat) (f : Int) (T : List UInt8) (N : List ByteArray) : Prop :=
  ∀ (G P b : Nat) (w : World), gp < G → (∀ p ∈ M, p.1 < G) → G < P → P < b → Bld b [] w → w.heap[G]? = some (.cells guC 45 (0, 0)) → w.heap[P]? = some (.cells (pgC G f (.slice none 0 0)) 47 (0, 0)) → Mem M w → Pow10 w →
    Calls Tryd.prog 18 #[.pointer (some ⟨P, 0, none⟩), .pointer (some ⟨b, 0, none⟩), .slice (some ⟨g, 0, none⟩) n c] w (PgPost G P b f T N w)
set_option maxHeartbeats 4000000 in
set_option maxRecDepth 100000 in
theorem text_gen {M : List (Nat × Obj)} {gp g n c : Nat} {f : Int} {T : List UInt8} {N : List ByteArray} (hgp : Pow10At gp) (h : SpC M gp g n c f T N) (G P : Nat) (w : World) (h1 : gp < G) (h2 : ∀ p ∈ M, p.1 < G) (h3 : G < P) (hPl : P < w.heap.size)
    (hG : w.heap[G]? = some (.cells guC 45 (0, 0))) (hP : w.heap[P]? = some (.cells (pgC G f (.slice none 0 0)) 47 (0, 0))) (hM : Mem M w) (hPw : Pow10 w) :
    Calls Tryd.prog 10 #[.pointer (some ⟨P, 0, none⟩), .slice (some ⟨g, 0, none⟩) n c] w fun e w' => e = .returned (.string ⟨T.toArray⟩) ∧ Below G w w' ∧
      ∃ nv', w'.heap[P]? = some (.cells (pgC G f nv') 47 (0, 0)) ∧ w'.ownsRow P 9 1 nv' N.length (N.map Value.string) := by
  have H := Lib.hid (h G P w.heap.size (w.alloc (.cells #[.pointer none, .slice none 0 0] 54)) h1 h2 h3 hPl (Bld.new w) ((heap_alloc_old w _ (by omega)).trans hG) ((heap_alloc_old w _ hPl).trans hP) (fun p hp => (heap_alloc_old w _ (by have := h2 p hp; omega)).trans (hM p hp))
    (Pow10.below hPw hgp ((Below.refl w.heap.size w).alloc (Nat.le_refl _) _) (by omega)))
  clear h hG hP hM hPw
  go_enter Tryd.func10, Tryd.ntmps10
  go_wp2_with fail
  refine H.out.mono ?_
  rintro e w1 ⟨rfl, hB, hbl, nv', hP1, hO1⟩
  have HB := Lib.hid hB
  have HBL := Lib.hid hbl
  have HP1 := Lib.hid hP1
  have HO1 := Lib.hid hO1
  obtain ⟨cs, hbk⟩ := hB.blk
  have HNE := Lib.hid (own_ne hO1 hbk (by decide))
  clear hB hbl hP1 hO1 hbk
  go_wp2_with fail
  refine (bld_string w.heap.size _ w1 HB.out).mono ?_
  rintro e w2 ⟨rfl, _, b2, k2⟩
  have HF := Lib.hid (((Below.refl G w).alloc (by omega) _).trans (HBL.out.trans (b2.mono (by omega))))
  have HP2 := Lib.hid ((b2.block P hPl).trans HP1.out)
  have HO2 := Lib.hid (own_okept HO1.out k2 HNE.out (by decide))
  clear b2 k2
  go_wp2_with fail
  go_ret
  exact ⟨rfl, HF.out, _, HP2.out, HO2.out⟩
set_option maxHeartbeats 4000000 in
set_option maxRecDepth 100000 in
theorem spans_gen {M : List (Nat × Obj)} {gp g n c : Nat} {f : Int} {T : List UInt8} {N : List ByteArray} (hgp : Pow10At gp) (h : SpC M gp g n c f T N) (w : World) (h2 : ∀ p ∈ M, p.1 < w.heap.size) (hM : Mem M w) (hPw : Pow10 w) :
    Calls Tryd.prog 6 #[.slice (some ⟨g, 0, none⟩) n c, .slice none 0 0, .int .i64 f] w fun e w' => ∃ a c', e = .returned (.tuple #[.string ⟨T.toArray⟩, .slice a N.length c']) ∧ w'.ownsRow w.heap.size 9 1 (.slice a N.length c') N.length (N.map Value.string) ∧ Below w.heap.size w w' := by
  have h1 := hPw.lt hgp
  have hb : Below w.heap.size w ((w.alloc (.cells guC 45)).alloc (.cells (pgC w.heap.size f (.slice none 0 0)) 47)) := (((Below.refl _ w).alloc (Nat.le_refl _) _).alloc (by simp) _)
  have H := Lib.hid (text_gen hgp h w.heap.size (w.heap.size + 1) ((w.alloc (.cells guC 45)).alloc (.cells (pgC w.heap.size f (.slice none 0 0)) 47)) h1 h2 (by omega) (by simp)
    ((heap_alloc_old _ _ (by simp)).trans (heap_alloc_new w _)) (by have := heap_alloc_new (w.alloc (.cells guC 45)) (.cells (pgC w.heap.size f (.slice none 0 0)) 47); simpa using this) (hM.below hb h2) (Pow10.below hPw hgp hb h1))
  have HBB := Lib.hid hb
  clear h hM hPw hb
  go_enter Tryd.func6, Tryd.ntmps6
  go_wp2_with fail
  refine H.out.mono ?_
  rintro e w1 ⟨rfl, hb1, nv', hP1, hO1⟩
  obtain ⟨a, c', rfl⟩ : ∃ a cap, nv' = .slice a N.length cap := by
    rcases hO1.2 with ⟨hv, h⟩ | ⟨g, cap, cur, hv, _⟩
    · exact ⟨none, 0, by rw [hv, h]⟩
    · exact ⟨_, _, hv⟩
  have q1 : w1.cell? ⟨w.heap.size + 1, 2, none⟩ = some (.slice a N.length c') := by rw [Lib.cell_of_heap hP1]; rfl
  have HO1 := Lib.hid hO1
  have HF := Lib.hid (HBB.out.trans hb1)
  clear hb1 hP1 hO1
  go_wp2_with fail
  go_quiet (fail)
  go_wp2_with fail
  go_ret2
  refine ⟨_, _, rfl, ?_, ⟨HF.out.os, HF.out.tape, HF.out.output, HF.out.size, HF.out.block⟩⟩
  exact (show w1.ownsRow _ _ _ _ _ _ from ownsRow_base HO1.out (by omega))
end Go.Proofs.YtlgodkjbilkloaaDoor

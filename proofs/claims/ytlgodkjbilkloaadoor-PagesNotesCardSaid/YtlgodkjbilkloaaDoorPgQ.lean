/-
  PAGES: notes of texts.
-/
import Derived.Test.YtlgodkjbilkloaaDoorPgO
import Derived.Deep.AppendLies
namespace Go.Proofs.YtlgodkjbilkloaaDoor
open Go.RowKit
set_option linter.unusedVariables false

def TR (w : World) (A : Option Addr) (xs : List ByteArray) : Prop := xs ≠ [] → ∃ b off, A = some ⟨b, off, none⟩ ∧ b < w.heap.size ∧ ∀ j, j < xs.length → w.cell? ⟨b, off + j, none⟩ = some (.string (xs.getD j ByteArray.empty))
theorem TR.below {w w' : World} {A : Option Addr} {xs : List ByteArray} (h : TR w A xs) (hb : Below w.heap.size w w') : TR w' A xs := by
  intro hn
  obtain ⟨b, off, rfl, hlt, hc⟩ := h hn
  exact ⟨b, off, rfl, Nat.lt_of_lt_of_le hlt hb.size, fun j hj => (hb.cell (p := ⟨b, off + j, none⟩) hlt).trans (hc j hj)⟩
theorem TR.at {w : World} {A : Option Addr} {xs : List ByteArray} (h : TR w A xs) (k : Nat) (hk : k < xs.length) : ∃ b off, A = some ⟨b, off, none⟩ ∧ b < w.heap.size ∧ w.cell? ⟨b, off + k, none⟩ = some (.string xs[k]) := by
  obtain ⟨b, off, e, hb, hc⟩ := h (fun e => by rw [e] at hk; exact absurd hk (by simp))
  refine ⟨b, off, e, hb, ?_⟩
  rw [hc k hk, List.getD_eq_getElem?_getD, List.getElem?_eq_getElem hk]
  rfl
theorem infoSpan : (Tryd.prog.info? 27).map (fun i => (i.zero, i.size, i.bytes)) = some (some (.agg #[.int .u8 0, .string ⟨#[]⟩, .string ⟨#[]⟩, .string ⟨#[]⟩, .slice none 0 0]), 5, 80) := by kernel_rfl
theorem cell_five_new (w : World) (a b c d e : Value) (t : TypeId) : ∀ j u, [a, b, c, d, e][j]? = some u → (w.alloc (.cells #[a, b, c, d, e] t)).cell? ((⟨w.heap.size, 0, none⟩ : Addr).add j) = some u := by
  intro j u hj
  match j, hj with
  | 0, hj => simp at hj; subst hj; simp [Addr.add]
  | 1, hj => simp at hj; subst hj; simp [Addr.add]
  | 2, hj => simp at hj; subst hj; simp [Addr.add]
  | 3, hj => simp at hj; subst hj; simp [Addr.add]
  | 4, hj => simp at hj; subst hj; simp [Addr.add]
structure NtRow (B : Nat) (xs : List ByteArray) (k : Nat) (v : Value) (hs : List Nat) (w : World) : Prop where
  len : hs.length = k
  own : w.ownsRow B 27 5 v k (ntC hs)
  kids : ∀ j (h1 : j < hs.length) (h2 : j < xs.length), B ≤ hs[j] ∧ v.ownBlock ≠ some hs[j] ∧ w.heap[hs[j]]? = some (.cells (spC 0 xs[j] (.slice none 0 0)) 27 (0, 0))
set_option maxHeartbeats 8000000 in
set_option maxRecDepth 100000 in
theorem notes_any (A : Option Addr) (n c : Nat) (xs : List ByteArray) (w : World) (hx : xs.length = n) (hn : n ≤ 1000) (hA : TR w A xs) :
    Calls Tryd.prog 8 #[.slice A n c] w fun e w' => ∃ v hs, e = .returned v ∧ (n = 0 → v = .slice none 0 0) ∧ NtRow w.heap.size xs n v hs w' ∧ Below w.heap.size w w' := by
  obtain ⟨i0, hi0, hz0, hz1, hz2⟩ := info_parts infoSpan
  have HA := Lib.hid hA
  have HX := Lib.hid hx
  clear hA hx
  go_enter Tryd.func8, Tryd.ntmps8
  go_wp2_with fail
  go_loopw [3, 4] (fun v i wr => ∃ (k : Nat) (hs : List Nat), k ≤ n ∧ i = .int .i64 k ∧ (k = 0 → v = .slice none 0 0) ∧ NtRow w.heap.size xs k v hs wr ∧ Below w.heap.size w wr) (fun _ i _ => n - (intOf i).toNat)
  case atStart => exact ⟨0, [], Nat.zero_le _, rfl, fun _ => rfl, ⟨rfl, World.ownsRow_nil _ _ _ _, fun j h1 => by simp at h1⟩, Below.refl _ _⟩
  case round =>
    obtain ⟨k, hs, hk, rfl, hv0, hrow, hb⟩ := hrel
    have HV0 := Lib.hid hv0
    have HR := Lib.hid hrow
    have HB := Lib.hid hb
    have hsz := hb.size
    clear hrow hb hv0
    by_cases hlt : k < n
    · have k2 : k < xs.length := by have := HX.out; omega
      obtain ⟨b, off, rfl, hbl, hc⟩ := HA.out.at k k2
      have c1 : wr.cell? ⟨b, off + k, none⟩ = some (.string xs[k]) := (HB.out.cell (p := ⟨b, off + k, none⟩) hbl).trans hc
      have hki : (k : Int) < (n : Int) := by omega
      clear hc
      have HXK := Lib.hid (rfl : xs[k] = xs[k])
      obtain ⟨x, hxe⟩ : ∃ x, x = xs[k] := ⟨_, rfl⟩
      rw [← hxe] at c1
      have HXE := Lib.hid hxe
      clear hxe HXK
      obtain ⟨av, cv, rfl⟩ : ∃ a cap, u3 = .slice a k cap := by
        rcases HR.out.own.2 with ⟨hv, h⟩ | ⟨g, cap, cur, hv, _⟩
        · exact ⟨none, 0, by rw [hv, h]⟩
        · exact ⟨_, _, hv⟩
      have hcf : ∀ j u, [Value.int .u8 6, .string ⟨#[]⟩, .string ⟨#[]⟩, .string ⟨#[]⟩, .slice (some ⟨wr.heap.size, 0, none⟩) 1 1][j]? = some u → ((wr.alloc (.cells #[.int .u8 0, .string x, .string ⟨#[]⟩, .string ⟨#[]⟩, .slice none 0 0] 27)).alloc (.cells #[.int .u8 6, .string ⟨#[]⟩, .string ⟨#[]⟩, .string ⟨#[]⟩, .slice (some ⟨wr.heap.size, 0, none⟩) 1 1] 27)).cell? ((⟨wr.heap.size + 1, 0, none⟩ : Addr).add j) = some u := by
        have := cell_five_new (wr.alloc (.cells #[.int .u8 0, .string x, .string ⟨#[]⟩, .string ⟨#[]⟩, .slice none 0 0] 27)) (.int .u8 6) (.string ⟨#[]⟩) (.string ⟨#[]⟩) (.string ⟨#[]⟩) (.slice (some ⟨wr.heap.size, 0, none⟩) 1 1) 27
        rw [show (wr.alloc (.cells #[.int .u8 0, .string x, .string ⟨#[]⟩, .string ⟨#[]⟩, .slice none 0 0] 27)).heap.size = wr.heap.size + 1 by simp] at this
        exact this
      have HCF := Lib.hid hcf
      clear hcf
      go_wp2_with (at_builtin; go_must (refine wpList_append_lies _ rfl _ _ 25 rfl w.heap.size 27 i0 (.agg #[.int .u8 0, .string ⟨#[]⟩, .string ⟨#[]⟩, .string ⟨#[]⟩, .slice none 0 0]) 5 80 Tryd.underlying25 hi0 hz0 hz1 hz2 rfl (by decide) _ k _ rfl ((HR.out.own.alloc _).alloc _) ⟨wr.heap.size + 1, 0, none⟩ 1 1 [Value.int .u8 6, .string ⟨#[]⟩, .string ⟨#[]⟩, .string ⟨#[]⟩, .slice (some ⟨wr.heap.size, 0, none⟩) 1 1] rfl rfl HCF.out (by simp [Value.oneCell']) (by decide) (by unfold maxLen; omega) (by omega) (by simp; omega) (wr.heap.size + 2) (by simp) ?_; intro g6 cap6 w6 hown6 hgrow6 hat6 hlt6))
      have hlen := HR.out.len
      have hvlt : ∀ g, (Value.slice av k cv).ownBlock = some g → g < wr.heap.size := fun g e => by
        rcases HR.out.own.2 with ⟨hv, h⟩ | ⟨g', cap, cur, hv, _, hg, _⟩
        · rw [hv] at e; cases e
        · rw [hv] at e
          obtain rfl : g' = g := by simpa [Value.ownBlock] using e
          exact (Array.getElem?_eq_some_iff.1 hg).1
      have hb6 := ((HB.out.alloc hsz (.cells #[.int .u8 0, .string x, .string ⟨#[]⟩, .string ⟨#[]⟩, .slice none 0 0] 27)).alloc (by simp; omega) (.cells #[.int .u8 6, .string ⟨#[]⟩, .string ⟨#[]⟩, .string ⟨#[]⟩, .slice (some ⟨wr.heap.size, 0, none⟩) 1 1] 27)).grown hgrow6 (by simp; omega) (fun i hi => (HR.out.own.lt i hi).1)
      have hold : ∀ q, q < wr.heap.size → (Value.slice av k cv).ownBlock ≠ some q → w6.heap[q]? = wr.heap[q]? := fun q hq hne =>
        (hgrow6.block q (by simp; omega) (fun e => hne e.symm)).trans ((heap_alloc_old _ _ (by simp; omega)).trans (heap_alloc_old _ _ hq))
      have hnew : w6.heap[wr.heap.size]? = some (.cells (spC 0 x (.slice none 0 0)) 27 (0, 0)) :=
        (hgrow6.block wr.heap.size (by simp; omega) (fun e => by have := hvlt _ e.symm; omega)).trans ((heap_alloc_old _ _ (by simp)).trans (heap_alloc_new wr _))
      have hN : NtRow w.heap.size xs (k + 1) (.slice (some ⟨g6, 0, none⟩) (k + 1) cap6) (hs ++ [wr.heap.size]) w6 := by
        refine ⟨by simp [hlen], ?_, fun j h1 h2 => ?_⟩
        · rw [ntC_append]
          exact hown6
        · by_cases hj : j < hs.length
          · obtain ⟨q1, q2, q3⟩ := HR.out.kids j hj h2
            have hjl := (Array.getElem?_eq_some_iff.1 q3).1
            rw [List.getElem_append_left hj]
            refine ⟨q1, fun e => ?_, (hold _ hjl q2).trans q3⟩
            obtain rfl : g6 = hs[j] := by simpa [Value.ownBlock] using e
            rcases hat6 with h | h
            · exact q2 h
            · omega
          · have hj2 : j = hs.length := by simp at h1; omega
            subst hj2
            rw [List.getElem_append_right (Nat.le_refl _)]
            simp only [Nat.sub_self, List.getElem_cons_zero]
            refine ⟨hsz, fun e => ?_, ?_⟩
            · have hg : g6 = wr.heap.size := by simpa [Value.ownBlock] using e
              rcases hat6 with h | h
              · have := hvlt _ h; omega
              · omega
            · rw [hnew, HXE.out]
              simp only [hlen]
      exact ⟨⟨k + 1, _, by omega, by go_num, fun e => absurd e (by omega), hN, hb6⟩, by simp [intOf]; omega⟩
    · obtain rfl : k = n := by omega
      go_wp2_with fail
      go_ret
      exact ⟨_, hs, rfl, HV0.out, HR.out, HB.out⟩
end Go.Proofs.YtlgodkjbilkloaaDoor

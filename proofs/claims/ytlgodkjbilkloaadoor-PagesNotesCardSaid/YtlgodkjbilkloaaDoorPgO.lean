/-
  PAGES: the spans of a row of notes.
-/
import Derived.Test.YtlgodkjbilkloaaDoorPgN
namespace Go.Proofs.YtlgodkjbilkloaaDoor
open Go.RowKit
set_option linter.unusedVariables false

theorem noteH_len (k : Int) (h0 : 0 ≤ k) (h1 : k ≤ 1000000) : (noteH k).length ≤ 104 := by
  have hi := Lib.itoa_length_le k (by omega) (by omega)
  have e1 : (lb ⟨#[60, 115, 117, 112, 62, 60, 97, 32, 104, 114, 101, 102, 61, 34, 35, 110, 111, 116, 101]⟩).length = 19 := rfl
  have e2 : (lb ⟨#[34, 32, 105, 100, 61, 34, 98, 97, 99, 107]⟩).length = 10 := rfl
  have e3 : (lb ⟨#[34, 62]⟩).length = 2 := rfl
  have e4 : (lb ⟨#[60, 47, 97, 62, 60, 47, 115, 117, 112, 62]⟩).length = 10 := rfl
  unfold noteH
  simp only [List.length_append, e1, e2, e3, e4]
  omega
theorem hdsF_len (f : Int) (h0 : 0 ≤ f) (h1 : f ≤ 1000) : ∀ n : Nat, n ≤ 1000 → (hdsF f n).length ≤ n * 104
  | 0, _ => by simp [hdsF]
  | n + 1, hn => by
    have ih := hdsF_len f h0 h1 n (by omega)
    have := noteH_len (f + n) (by omega) (by omega)
    rw [hdsF, List.length_append]
    omega
theorem spans_nil (gp : Nat) (A : Option Addr) (c : Nat) (f : Int) : SpA [] gp A 0 c f [] [] := by
  intro G P b w hG1 hM1 hGP hPb hB hG hP hM hPw
  have HB := Lib.hid hB
  have HP := Lib.hid hP
  clear hB hG hP hM hPw hM1
  go_enter Tryd.func18, Tryd.ntmps18
  go_wp2_with fail
  go_loopw [12] (fun i wr => i = .int .i64 0 ∧ wr = w) (fun i _ => 0)
  case atStart => exact ⟨rfl, rfl⟩
  case round =>
    obtain ⟨rfl, rfl⟩ := hrel
    go_wp2_with fail
    go_end0
    exact ⟨rfl, HB.out, Below.refl _ _, _, HP.out, World.ownsRow_nil _ _ _ _⟩
def ntM (g : Nat) (cur : Array Value) (hs : List Nat) (xs : List ByteArray) : List (Nat × Obj) :=
  (g, .cells cur 27 (0, 0)) :: (hs.zip xs).map (fun p => (p.1, .cells (spC 0 p.2 (.slice none 0 0)) 27 (0, 0)))
theorem ntM_at (g : Nat) (cur : Array Value) (hs : List Nat) (xs : List ByteArray) (k : Nat) (h1 : k < hs.length) (h2 : k < xs.length) : (hs[k], Obj.cells (spC 0 xs[k] (.slice none 0 0)) 27 (0, 0)) ∈ ntM g cur hs xs := by
  refine List.mem_cons_of_mem _ (List.mem_map.2 ⟨(hs[k], xs[k]), ?_, rfl⟩)
  rw [← List.getElem_zip (h := by simp; omega)]
  exact List.getElem_mem _
structure NtAt (G P b k : Nat) (f : Int) (xs : List ByteArray) (w wr : World) : Prop where
  bld : Bld b (hdsF f k) wr
  below : Below P w wr
  page : ∃ nv, wr.heap[P]? = some (.cells (pgC G f nv) 47 (0, 0)) ∧ wr.ownsRow P 9 1 nv k (((xs.take k).map escB).map Value.string)
set_option maxHeartbeats 16000000 in
set_option maxRecDepth 100000 in
theorem spans_notes (gp n c g : Nat) (hgp : Pow10At gp) (cur : Array Value) (hs : List Nat) (xs : List ByteArray) (hl : hs.length = n) (hx : xs.length = n) (hn : n ≤ 300) (hcur : ∀ i, i < n * 5 → cur[i]? = (ntC hs)[i]?) (hxs : ∀ k (h : k < xs.length), xs[k].size ≤ 100000) (f : Int) (hf : 0 ≤ f ∧ f ≤ 1000) :
    SpA (ntM g cur hs xs) gp (some ⟨g, 0, none⟩) n c f (hdsF f n) (xs.map escB) := by
  intro G P b w hG1 hM1 hGP hPb hB hG hP hM hPw
  have lg : g < P := Nat.lt_trans (hM1 _ (List.mem_cons_self ..)) hGP
  have mg : w.heap[g]? = some (.cells cur 27 (0, 0)) := hM _ (List.mem_cons_self ..)
  have H0 : Hid (NtAt G P b 0 f xs w w) := Lib.hid ⟨hB, Below.refl _ _, _, hP, World.ownsRow_nil _ _ _ _⟩
  have MG := Lib.hid mg
  have HM := Lib.hid hM
  have HM1 := Lib.hid hM1
  have HPW := Lib.hid hPw
  have HC := Lib.hid hcur
  have HXS := Lib.hid hxs
  have HL := Lib.hid hl
  have HX := Lib.hid hx
  have HF := Lib.hid hf
  obtain ⟨hf0, hf1⟩ := hf
  have hblt := hB.lt
  clear hB hG hP hM hPw mg hM1 hcur hxs hl hx
  go_enter Tryd.func18, Tryd.ntmps18
  go_wp2_with fail
  go_loopw [12] (fun i wr => ∃ k : Nat, k ≤ n ∧ i = .int .i64 k ∧ NtAt G P b k f xs w wr) (fun i _ => n - (intOf i).toNat)
  case atStart => exact ⟨0, Nat.zero_le _, rfl, H0.out⟩
  case round =>
    obtain ⟨k, hk, rfl, hst⟩ := hrel
    by_cases hlt : k < n
    · have k1 : k < hs.length := by have := HL.out; omega
      have k2 : k < xs.length := by have := HX.out; omega
      obtain ⟨nv, hpg, hown⟩ := hst.page
      have mg : wr.heap[g]? = some (.cells cur 27 (0, 0)) := (hst.below.block g lg).trans MG.out
      have hcell : ∀ j, j < 5 → wr.cell? ⟨g, k * 5 + j, none⟩ = [Value.int .u8 6, .string ⟨#[]⟩, .string ⟨#[]⟩, .string ⟨#[]⟩, .slice (some ⟨hs[k], 0, none⟩) 1 1][j]? := fun j hj => by
        rw [Lib.cell_of_heap mg, HC.out _ (by omega), ntC_at hs k k1 j hj]
      have s0 : wr.cell? ⟨g, k * 5, none⟩ = some (.int .u8 6) := hcell 0 (by decide)
      have s1 : wr.cell? ⟨g, k * 5 + 1, none⟩ = some (.string ⟨#[]⟩) := hcell 1 (by decide)
      have s2 : wr.cell? ⟨g, k * 5 + 2, none⟩ = some (.string ⟨#[]⟩) := hcell 2 (by decide)
      have s3 : wr.cell? ⟨g, k * 5 + 3, none⟩ = some (.string ⟨#[]⟩) := hcell 3 (by decide)
      have s4 : wr.cell? ⟨g, k * 5 + 4, none⟩ = some (.slice (some ⟨hs[k], 0, none⟩) 1 1) := hcell 4 (by decide)
      have mem := ntM_at g cur hs xs k k1 k2
      have lh : hs[k] < P := Nat.lt_trans (HM1.out _ mem) hGP
      have mh : wr.heap[hs[k]]? = some (.cells (spC 0 xs[k] (.slice none 0 0)) 27 (0, 0)) := (hst.below.block _ lh).trans (HM.out _ mem)
      have hsz := HXS.out k k2
      have hTK := Lib.hid (show (xs.take (k + 1)).map escB = (xs.take k).map escB ++ [escB xs[k]] by rw [List.take_succ_eq_append_getElem k2, List.map_append]; rfl)
      obtain ⟨N, hN⟩ : ∃ N, N = (xs.take k).map escB := ⟨_, rfl⟩
      have hNl : N.length = k := by rw [hN, List.length_map, List.length_take]; omega
      rw [← hN] at hown hTK
      have hLl := hdsF_len f hf0 hf1 k (by omega)
      have HST := Lib.hid hst
      have HPG := Lib.hid hpg
      have HO := Lib.hid hown
      have MH := Lib.hid mh
      have hbl := hst.bld.lt
      have hszw := hst.below.size
      have HNL := Lib.hid hNl
      have HLL := Lib.hid hLl
      clear hst hpg hown mh mg hcell mem hN hLl hNl
      generalize hs[k] = h at *
      generalize xs[k] = x at *
      go_wp2_with fail
      have hOw : wr.ownsRow P 9 1 nv N.length (N.map Value.string) := by rw [HNL.out]; exact HO.out
      refine (note_text P b h 1 G gp hgp (by omega) (hdsF f k) f ⟨hf0, hf1⟩ nv N (by rw [HNL.out]; omega) x (by omega) (by have := HLL.out; omega) _ (HST.out.bld.alloc _) hPb lh ((heap_alloc_old wr _ (by omega)).trans MH.out) ((heap_alloc_old wr _ (by omega)).trans HPG.out) (hOw.alloc _) (Pow10.below HPW.out hgp (HST.out.below.alloc (by omega) _) (by omega))).mono ?_
      rintro e w3 ⟨rfl, h1, h2, nv', h3, h4⟩
      rw [HNL.out] at h1 h4
      have HN : Hid (NtAt G P b (k + 1) f xs w w3) := Lib.hid ⟨h1, (HST.out.below.alloc (by omega) _).trans h2, nv', h3, by rw [hTK.out]; exact h4⟩
      clear h1 h2 h3 h4 hOw
      go_wp2_with fail
      go_roundw
      case rel => exact ⟨k + 1, by omega, by go_num, HN.out⟩
      case measure => simp [intOf]; omega
    · obtain rfl : k = n := by omega
      obtain ⟨nv, hpg, hown⟩ := hst.page
      have HST := Lib.hid hst
      have HPG := Lib.hid hpg
      have HO := Lib.hid hown
      clear hst hpg hown
      go_wp2_with fail
      go_end0
      refine ⟨rfl, HST.out.bld, HST.out.below.mono (by omega), nv, HPG.out, ?_⟩
      have h := HO.out
      rw [List.take_of_length_le (by have := HX.out; omega)] at h
      rw [List.length_map, HX.out]
      exact h
end Go.Proofs.YtlgodkjbilkloaaDoor

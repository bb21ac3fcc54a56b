/-
  PAGES: the spans of 'lives' (printed by gen_pgd.py).
-/
import Derived.Test.YtlgodkjbilkloaaDoorPgC
namespace Go.Proofs.YtlgodkjbilkloaaDoor
open Go.RowKit
set_option linter.unusedVariables false

/-- The four spans. -/
def livC (g1 g2 : Nat) : Array Value := #[.int .u8 0, .string ⟨#[97, 32]⟩, .string ⟨#[]⟩, .string ⟨#[]⟩, .slice none 0 0,
  .int .u8 1, .string ⟨#[]⟩, .string ⟨#[]⟩, .string ⟨#[]⟩, .slice (some ⟨g1, 0, none⟩) 1 1,
  .int .u8 0, .string ⟨#[32, 38, 32]⟩, .string ⟨#[]⟩, .string ⟨#[]⟩, .slice none 0 0,
  .int .u8 6, .string ⟨#[]⟩, .string ⟨#[]⟩, .string ⟨#[]⟩, .slice (some ⟨g2, 0, none⟩) 1 1]
def liv (k : Nat) : List UInt8 := match k with
  | 0 => []
  | 1 => [] ++ Es.esc (lb ⟨#[97, 32]⟩)
  | 2 => [] ++ Es.esc (lb ⟨#[97, 32]⟩) ++ ([60] ++ lb ⟨#[115, 116, 114, 111, 110, 103]⟩ ++ [62] ++ Es.esc (lb ⟨#[98]⟩) ++ ([60, 47] ++ lb ⟨#[115, 116, 114, 111, 110, 103]⟩ ++ [62]))
  | 3 => [] ++ Es.esc (lb ⟨#[97, 32]⟩) ++ ([60] ++ lb ⟨#[115, 116, 114, 111, 110, 103]⟩ ++ [62] ++ Es.esc (lb ⟨#[98]⟩) ++ ([60, 47] ++ lb ⟨#[115, 116, 114, 111, 110, 103]⟩ ++ [62])) ++ Es.esc (lb ⟨#[32, 38, 32]⟩)
  | _ => [] ++ Es.esc (lb ⟨#[97, 32]⟩) ++ ([60] ++ lb ⟨#[115, 116, 114, 111, 110, 103]⟩ ++ [62] ++ Es.esc (lb ⟨#[98]⟩) ++ ([60, 47] ++ lb ⟨#[115, 116, 114, 111, 110, 103]⟩ ++ [62])) ++ Es.esc (lb ⟨#[32, 38, 32]⟩) ++ noteH 4
theorem liv1 : liv 1 = liv 0 ++ Es.esc (lb ⟨#[97, 32]⟩) := rfl
theorem liv2 : liv 2 = liv 1 ++ ([60] ++ lb ⟨#[115, 116, 114, 111, 110, 103]⟩ ++ [62] ++ Es.esc (lb ⟨#[98]⟩) ++ ([60, 47] ++ lb ⟨#[115, 116, 114, 111, 110, 103]⟩ ++ [62])) := rfl
theorem liv3 : liv 3 = liv 2 ++ Es.esc (lb ⟨#[32, 38, 32]⟩) := rfl
theorem liv4 : liv 4 = liv 3 ++ noteH 4 := rfl
theorem liv_len1 : (liv 1).length = 2 := by decide +kernel
theorem liv_len2 : (liv 2).length = 20 := by decide +kernel
theorem liv_len3 : (liv 3).length = 27 := by decide +kernel
/-- How it stands behind the first k spans, k at most three. -/
structure LivAt (g g1 g2 G P b k : Nat) (w wr : World) : Prop where
  bld : Bld b (liv k) wr
  below : Below P w wr
  page : wr.heap[P]? = some (.cells (pgC G 4 (.slice none 0 0)) 47 (0, 0))
theorem LivAt.next {g g1 g2 G P b k : Nat} {w wr w' : World} (h : LivAt g g1 g2 G P b k w wr) (hPb : P < b) (hb : Below b wr w') (hB : Bld b (liv (k + 1)) w') : LivAt g g1 g2 G P b (k + 1) w w' :=
  ⟨hB, h.below.trans (hb.mono (Nat.le_of_lt hPb)), (hb.block P hPb).trans h.page⟩
def livM (g g1 g2 : Nat) : List (Nat × Obj) := [(g, .cells (livC g1 g2) 27 (0, 0)), (g1, .cells (spC 0 ⟨#[98]⟩ (.slice none 0 0)) 27 (0, 0)), (g2, .cells (spC 0 ⟨#[110]⟩ (.slice none 0 0)) 27 (0, 0))]
set_option maxHeartbeats 16000000 in
set_option maxRecDepth 100000 in
theorem spans_liv (gp g g1 g2 c : Nat) (hgp : Pow10At gp) : SpC (livM g g1 g2) gp g 4 c 4 (liv 4) [(⟨(Es.esc (lb ⟨#[110]⟩)).toArray⟩ : ByteArray)] := by
  intro G P b w hG1 hM1 hGP hPb hB hG hP hM hPw
  have lg : g < P := Nat.lt_trans (hM1 _ (List.mem_cons_self ..)) hGP
  have lg1 : g1 < P := Nat.lt_trans (hM1 _ (List.mem_cons_of_mem _ (List.mem_cons_self ..))) hGP
  have lg2 : g2 < P := Nat.lt_trans (hM1 _ (List.mem_cons_of_mem _ (List.mem_cons_of_mem _ (List.mem_cons_self ..)))) hGP
  have mg : w.heap[g]? = some (.cells (livC g1 g2) 27 (0, 0)) := hM _ (List.mem_cons_self ..)
  have mg1 : w.heap[g1]? = some (.cells (spC 0 ⟨#[98]⟩ (.slice none 0 0)) 27 (0, 0)) := hM _ (List.mem_cons_of_mem _ (List.mem_cons_self ..))
  have mg2 : w.heap[g2]? = some (.cells (spC 0 ⟨#[110]⟩ (.slice none 0 0)) 27 (0, 0)) := hM _ (List.mem_cons_of_mem _ (List.mem_cons_of_mem _ (List.mem_cons_self ..)))
  have H0 := Lib.hid (show LivAt g g1 g2 G P b 0 w w from ⟨hB, Below.refl _ _, hP⟩)
  have MG := Lib.hid mg
  have MG1 := Lib.hid mg1
  have MG2 := Lib.hid mg2
  have HPW := Lib.hid hPw
  have hblt := hB.lt
  clear hB hG hP hM hPw mg mg1 mg2 hM1
  go_enter Tryd.func18, Tryd.ntmps18
  go_wp2_with fail
  go_loopw [12] (fun i wr => (i = .int .i64 0 ∧ LivAt g g1 g2 G P b 0 w wr) ∨ (i = .int .i64 1 ∧ LivAt g g1 g2 G P b 1 w wr) ∨ (i = .int .i64 2 ∧ LivAt g g1 g2 G P b 2 w wr) ∨ (i = .int .i64 3 ∧ LivAt g g1 g2 G P b 3 w wr) ∨ (i = .int .i64 4 ∧ PgPost G P b 4 (liv 4) [(⟨(Es.esc (lb ⟨#[110]⟩)).toArray⟩ : ByteArray)] w (.returned (.tuple #[])) wr)) (fun i _ => 4 - (intOf i).toNat)
  case atStart => exact .inl ⟨rfl, H0.out⟩
  case round =>
    rcases hrel with ⟨rfl, hst⟩ | ⟨rfl, hst⟩ | ⟨rfl, hst⟩ | ⟨rfl, hst⟩ | ⟨rfl, hst⟩
    · have mg : wr.heap[g]? = some (.cells (livC g1 g2) 27 (0, 0)) := (hst.below.block g lg).trans MG.out
      have s0 : wr.cell? ⟨g, 0, none⟩ = some (.int .u8 0) := by rw [Lib.cell_of_heap mg]; rfl
      have s1 : wr.cell? ⟨g, 1, none⟩ = some (.string ⟨#[97, 32]⟩) := by rw [Lib.cell_of_heap mg]; rfl
      have s2 : wr.cell? ⟨g, 2, none⟩ = some (.string ⟨#[]⟩) := by rw [Lib.cell_of_heap mg]; rfl
      have s3 : wr.cell? ⟨g, 3, none⟩ = some (.string ⟨#[]⟩) := by rw [Lib.cell_of_heap mg]; rfl
      have s4 : wr.cell? ⟨g, 4, none⟩ = some (.slice none 0 0) := by rw [Lib.cell_of_heap mg]; rfl
      have mg1 := (hst.below.block g1 lg1).trans MG1.out
      have mg2 := (hst.below.block g2 lg2).trans MG2.out
      have HST := Lib.hid hst
      have hbl := hst.bld.lt
      have hlen : (liv 0).length ≤ 100 := by simp [liv]
      have N1 := Lib.hid mg1
      have N2 := Lib.hid mg2
      have hszw := hst.below.size
      clear hst mg mg1 mg2
      go_wp2_with fail
      refine (text_any ⟨#[97, 32]⟩ (by decide) _).mono ?_
      rintro e w2 ⟨⟨x, rfl, hx⟩, b2⟩
      have hB2 : Bld b (liv 0) w2 := (HST.out.bld.alloc _).below b2
      have hs2 := b2.size
      have f2 : Below b wr w2 := ((Below.refl b wr).alloc (Nat.le_of_lt hbl) _).trans (b2.mono (by simp; omega))
      have hbl2 := hB2.lt
      have hxl : (lb x).length ≤ 100 := by rw [hx]; decide +kernel
      have HX := Lib.hid hx
      have HB2 := Lib.hid hB2
      have F2 := Lib.hid f2
      clear hx hB2 f2 b2
      go_wp2_with fail
      refine (put_any b w2.heap.size 1 1 (liv 0) [x] rfl (by decide) (by rw [cats_one]; omega) (by omega) _ (HB2.out.alloc _) (heap_alloc_new w2 _)).mono ?_
      rintro e w3 ⟨rfl, h1, h2, h3⟩
      rw [cats_one, HX.out, ← liv1] at h1
      have HN := Lib.hid (HST.out.next hPb ((F2.out.alloc (Nat.le_of_lt hbl2) _).trans h2) h1)
      clear h1 h2 h3
      go_wp2_with fail
      go_roundw
      case rel => exact .inr (.inl ⟨by go_num, HN.out⟩)
      case measure => simp [intOf]
    · have mg : wr.heap[g]? = some (.cells (livC g1 g2) 27 (0, 0)) := (hst.below.block g lg).trans MG.out
      have s0 : wr.cell? ⟨g, 5, none⟩ = some (.int .u8 1) := by rw [Lib.cell_of_heap mg]; rfl
      have s1 : wr.cell? ⟨g, 6, none⟩ = some (.string ⟨#[]⟩) := by rw [Lib.cell_of_heap mg]; rfl
      have s2 : wr.cell? ⟨g, 7, none⟩ = some (.string ⟨#[]⟩) := by rw [Lib.cell_of_heap mg]; rfl
      have s3 : wr.cell? ⟨g, 8, none⟩ = some (.string ⟨#[]⟩) := by rw [Lib.cell_of_heap mg]; rfl
      have s4 : wr.cell? ⟨g, 9, none⟩ = some (.slice (some ⟨g1, 0, none⟩) 1 1) := by rw [Lib.cell_of_heap mg]; rfl
      have mg1 := (hst.below.block g1 lg1).trans MG1.out
      have mg2 := (hst.below.block g2 lg2).trans MG2.out
      have HST := Lib.hid hst
      have hbl := hst.bld.lt
      have hlen : (liv 1).length ≤ 100 := by rw [liv_len1]; decide
      have N1 := Lib.hid mg1
      have N2 := Lib.hid mg2
      have hszw := hst.below.size
      clear hst mg mg1 mg2
      go_wp2_with fail
      refine (within_text P b g1 1 (liv 1) ⟨#[115, 116, 114, 111, 110, 103]⟩ (by decide) 0 (.inl rfl) ⟨#[98]⟩ (by decide) (by omega) _ (HST.out.bld.alloc _) (by omega) ((heap_alloc_old wr _ (by omega)).trans N1.out)).mono ?_
      rintro e w3 ⟨rfl, h1, h2, h3⟩
      rw [← liv2] at h1
      have HN := Lib.hid (HST.out.next hPb (((Below.refl b wr).alloc (Nat.le_of_lt hbl) _).trans h2) h1)
      clear h1 h2 h3
      go_wp2_with fail
      go_roundw
      case rel => exact .inr (.inr (.inl ⟨by go_num, HN.out⟩))
      case measure => simp [intOf]
    · have mg : wr.heap[g]? = some (.cells (livC g1 g2) 27 (0, 0)) := (hst.below.block g lg).trans MG.out
      have s0 : wr.cell? ⟨g, 10, none⟩ = some (.int .u8 0) := by rw [Lib.cell_of_heap mg]; rfl
      have s1 : wr.cell? ⟨g, 11, none⟩ = some (.string ⟨#[32, 38, 32]⟩) := by rw [Lib.cell_of_heap mg]; rfl
      have s2 : wr.cell? ⟨g, 12, none⟩ = some (.string ⟨#[]⟩) := by rw [Lib.cell_of_heap mg]; rfl
      have s3 : wr.cell? ⟨g, 13, none⟩ = some (.string ⟨#[]⟩) := by rw [Lib.cell_of_heap mg]; rfl
      have s4 : wr.cell? ⟨g, 14, none⟩ = some (.slice none 0 0) := by rw [Lib.cell_of_heap mg]; rfl
      have mg1 := (hst.below.block g1 lg1).trans MG1.out
      have mg2 := (hst.below.block g2 lg2).trans MG2.out
      have HST := Lib.hid hst
      have hbl := hst.bld.lt
      have hlen : (liv 2).length ≤ 100 := by rw [liv_len2]; decide
      have N1 := Lib.hid mg1
      have N2 := Lib.hid mg2
      have hszw := hst.below.size
      clear hst mg mg1 mg2
      go_wp2_with fail
      refine (text_any ⟨#[32, 38, 32]⟩ (by decide) _).mono ?_
      rintro e w2 ⟨⟨x, rfl, hx⟩, b2⟩
      have hB2 : Bld b (liv 2) w2 := (HST.out.bld.alloc _).below b2
      have hs2 := b2.size
      have f2 : Below b wr w2 := ((Below.refl b wr).alloc (Nat.le_of_lt hbl) _).trans (b2.mono (by simp; omega))
      have hbl2 := hB2.lt
      have hxl : (lb x).length ≤ 100 := by rw [hx]; decide +kernel
      have HX := Lib.hid hx
      have HB2 := Lib.hid hB2
      have F2 := Lib.hid f2
      clear hx hB2 f2 b2
      go_wp2_with fail
      refine (put_any b w2.heap.size 1 1 (liv 2) [x] rfl (by decide) (by rw [cats_one]; omega) (by omega) _ (HB2.out.alloc _) (heap_alloc_new w2 _)).mono ?_
      rintro e w3 ⟨rfl, h1, h2, h3⟩
      rw [cats_one, HX.out, ← liv3] at h1
      have HN := Lib.hid (HST.out.next hPb ((F2.out.alloc (Nat.le_of_lt hbl2) _).trans h2) h1)
      clear h1 h2 h3
      go_wp2_with fail
      go_roundw
      case rel => exact .inr (.inr (.inr (.inl ⟨by go_num, HN.out⟩)))
      case measure => simp [intOf]
    · have mg : wr.heap[g]? = some (.cells (livC g1 g2) 27 (0, 0)) := (hst.below.block g lg).trans MG.out
      have s0 : wr.cell? ⟨g, 15, none⟩ = some (.int .u8 6) := by rw [Lib.cell_of_heap mg]; rfl
      have s1 : wr.cell? ⟨g, 16, none⟩ = some (.string ⟨#[]⟩) := by rw [Lib.cell_of_heap mg]; rfl
      have s2 : wr.cell? ⟨g, 17, none⟩ = some (.string ⟨#[]⟩) := by rw [Lib.cell_of_heap mg]; rfl
      have s3 : wr.cell? ⟨g, 18, none⟩ = some (.string ⟨#[]⟩) := by rw [Lib.cell_of_heap mg]; rfl
      have s4 : wr.cell? ⟨g, 19, none⟩ = some (.slice (some ⟨g2, 0, none⟩) 1 1) := by rw [Lib.cell_of_heap mg]; rfl
      have mg1 := (hst.below.block g1 lg1).trans MG1.out
      have mg2 := (hst.below.block g2 lg2).trans MG2.out
      have HST := Lib.hid hst
      have hbl := hst.bld.lt
      have hlen : (liv 3).length ≤ 100 := by rw [liv_len3]; decide
      have N1 := Lib.hid mg1
      have N2 := Lib.hid mg2
      have hszw := hst.below.size
      clear hst mg mg1 mg2
      go_wp2_with fail
      refine (note_text P b g2 1 G gp hgp (by omega) (liv 3) 4 (by decide) (.slice none 0 0) [] (by decide) ⟨#[110]⟩ (by decide) (by omega) _ (HST.out.bld.alloc _) hPb lg2 ((heap_alloc_old wr _ (by omega)).trans N2.out) ((heap_alloc_old wr _ (by omega)).trans HST.out.page) (World.ownsRow_nil _ _ _ _) (Pow10.below HPW.out hgp (HST.out.below.alloc (by omega) _) (by omega))).mono ?_
      rintro e w3 ⟨rfl, h1, h2, nv', h3, h4⟩
      have h1' : Bld b (liv 4) w3 := h1
      have HN : Hid (PgPost G P b 4 (liv 4) [(⟨(Es.esc (lb ⟨#[110]⟩)).toArray⟩ : ByteArray)] w (.returned (.tuple #[])) w3) := Lib.hid ⟨rfl, h1', ((HST.out.below.alloc (by omega) _).trans h2).mono (by omega), nv', h3, h4⟩
      clear h1 h1' h2 h3 h4
      go_wp2_with fail
      go_roundw
      case rel => exact .inr (.inr (.inr (.inr ⟨by go_num, HN.out⟩)))
      case measure => simp [intOf]
    · have HN := Lib.hid hst
      clear hst
      go_wp2_with fail
      go_end0
      exact HN.out
end Go.Proofs.YtlgodkjbilkloaaDoor

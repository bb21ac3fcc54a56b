/-
  PAGES: put; spans of one text or term.
-/
import Derived.Test.YtlgodkjbilkloaaDoorBld
import Derived.Test.YtlgodkjbilkloaaDoorBase0
import Derived.Lib.ItoaNum
import Derived.Lib.ItoaLen
import Derived.Lib.AppendIntMem
import Derived.BigQuiet
import Derived.Test.YtlgodkjbilkloaaDoorTextE
import Derived.Deep.RegionWith
import Derived.Maps.AppendAt
namespace Go.Proofs.YtlgodkjbilkloaaDoor
open Go.RowKit
set_option linter.unusedVariables false

theorem tabIs_below {w w' : World} {B g : Nat} {name : String} {k : IntKind} {zs : List Int} (hg : Tryd.prog.globalNamed name = some g) (h : Lib.TabIs Tryd.prog w name k zs) (hb : Below B w w') (hB : g < B) : Lib.TabIs Tryd.prog w' name k zs := by
  unfold Lib.TabIs World.var? at *
  rw [hg] at h ⊢
  simp only [Option.bind_some] at h ⊢
  rw [hb.block g hB]
  exact h
def Pow10 (w : World) : Prop := Lib.TabIs Tryd.prog w "internal/strconv.uint64pow10" .u64 Lib.pow10Tab
def Pow10At (g : Nat) : Prop := Tryd.prog.globalNamed "internal/strconv.uint64pow10" = some g
theorem Pow10.lt {w : World} {g : Nat} (h : Pow10 w) (hg : Pow10At g) : g < w.heap.size := by
  unfold Pow10 Lib.TabIs World.var? at h
  unfold Pow10At at hg
  rw [hg] at h
  simp only [Option.bind_some] at h
  rcases Nat.lt_or_ge g w.heap.size with h' | h'
  · exact h'
  · simp [Array.getElem?_eq_none h'] at h
theorem Pow10.below {w w' : World} {g B : Nat} (h : Pow10 w) (hg : Pow10At g) (hb : Below B w w') (hB : g < B) : Pow10 w' := tabIs_below hg h hb hB
theorem itoa_c (n : Int) (h : -9223372036854775808 ≤ n ∧ n ≤ 9223372036854775807) (w : World) (hP : Pow10 w) :
    Calls Tryd.prog 25 #[.int .i64 n] w fun e w' => e = .returned (.string ⟨(Lib.itoa n).toArray⟩) ∧ Below w.heap.size w w' := by
  refine (Tryd.strconv_Itoa n h.1 h.2 w hP).mono ?_
  rintro e w' ⟨rfl, k, os, rfl⟩
  exact ⟨rfl, Lib.below_grow _ w (Nat.le_refl _) k os⟩


def TX (w : World) (g : Nat) (xs : List ByteArray) : Prop := w.heap[g]? = some (.cells (xs.map Value.string).toArray 9 (0, 0))
def cats (xs : List ByteArray) : List UInt8 := (xs.map lb).flatten
theorem TX.cell {w : World} {g : Nat} {xs : List ByteArray} (h : TX w g xs) (k : Nat) (hk : k < xs.length) : w.cell? ⟨g, k, none⟩ = some (.string (xs.getD k ByteArray.empty)) := by
  rw [Lib.cell_of_heap h]
  simp [List.getD_eq_getElem?_getD, List.getElem?_eq_getElem hk]
theorem kept_other {e : TypeId} {b g : Nat} {w w' : World} {cs : Array Value} {t : TypeId} {fz : Nat × Nat} (hk : Lib.OthersKept e (some b) w w') (h : w.heap[g]? = some (.cells cs t fz)) (hne : g ≠ b) (ht : t ≠ e) : w'.heap[g]? = some (.cells cs t fz) :=
  hk g _ h (fun e => hne (Option.some.inj e)) (fun c fz' e => ht (by injection e))
theorem okept_below {e : TypeId} {bo : Option Nat} {a w w' : World} (h : Lib.OthersKept e bo a w) (hb : Below w.heap.size w w') : Lib.OthersKept e bo a w' := by
  intro k o hk hne ht
  have h1 := h k o hk hne ht
  rw [hb.block k (Array.getElem?_eq_some_iff.1 h1).1]
  exact h1
theorem cats_one (x : ByteArray) : cats [x] = lb x := by simp [cats]
theorem cats_take (xs : List ByteArray) (k : Nat) (h : k < xs.length) : cats (xs.take (k + 1)) = cats (xs.take k) ++ lb (xs.getD k ByteArray.empty) := by
  unfold cats
  rw [List.take_succ_eq_append_getElem h, List.getD_eq_getElem?_getD, List.getElem?_eq_getElem h, List.map_append, List.flatten_append]
  simp
theorem cats_mono (xs : List ByteArray) (k : Nat) (h : k < xs.length) : (cats (xs.take k)).length + (xs.getD k ByteArray.empty).size ≤ (cats xs).length := by
  have h1 := cats_take xs k h
  have h2 : cats xs = cats (xs.take (k + 1)) ++ cats (xs.drop (k + 1)) := by
    unfold cats
    rw [← List.flatten_append, ← List.map_append, List.take_append_drop]
  have h3 : (xs.getD k ByteArray.empty).size = (lb (xs.getD k ByteArray.empty)).length := Lib.size_eq _
  rw [h2, h1, h3]
  simp only [List.length_append]
  omega
set_option maxHeartbeats 2000000 in
set_option maxRecDepth 100000 in
theorem put_any (b g n c : Nat) (L : List UInt8) (xs : List ByteArray) (hl : xs.length = n) (hn : n ≤ 100) (hsz : L.length + (cats xs).length ≤ 1099511627776) (hgb : g ≠ b) (w : World) (hB : Bld b L w) (hT : TX w g xs) :
    Calls Tryd.prog 30 #[.pointer (some ⟨b, 0, none⟩), .slice (some ⟨g, 0, none⟩) n c] w fun e w' => e = .returned (.tuple #[]) ∧ Bld b (L ++ cats xs) w' ∧ Below b w w' ∧ Lib.OthersKept 5 (some b) w w' := by
  have HB := Lib.hid hB
  have HT := Lib.hid hT
  clear hB hT
  go_enter Tryd.func30, Tryd.ntmps30
  go_wp2_with fail
  go_loopw [8] (fun i wr => ∃ k : Nat, k ≤ n ∧ i = .int .i64 k ∧ Bld b (L ++ cats (xs.take k)) wr ∧ Below b w wr ∧ Lib.OthersKept 5 (some b) w wr) (fun i _ => n - (intOf i).toNat)
  case atStart => exact ⟨0, Nat.zero_le _, rfl, by rw [List.take_zero]; simpa [cats] using HB.out, Below.refl _ _, Lib.OthersKept.refl _ _ _⟩
  case round =>
    obtain ⟨k, hk, rfl, hb, hbl, hok⟩ := hrel
    have hT2 : TX wr g xs := kept_other hok HT.out hgb (by decide)
    have HBB := Lib.hid hb
    have HBL := Lib.hid hbl
    have HOK := Lib.hid hok
    clear hb hbl hok
    by_cases hlt : k < n
    · have c1 := hT2.cell k (by omega)
      have hm := cats_mono xs k (by omega)
      have HT3 := Lib.hid (cats_take xs k (by omega))
      have hki : (k : Int) < (n : Int) := by omega
      clear hT2
      generalize xs.getD k ByteArray.empty = x at *
      go_wp2_with fail
      refine (bld_write b _ x wr HBB.out (by rw [List.length_append]; omega)).mono ?_
      rintro e w2 ⟨rfl, h1, h2, h3⟩
      go_wp2_with fail
      go_roundw
      case rel => exact ⟨k + 1, by omega, by go_num, by rw [HT3.out, ← List.append_assoc]; exact h1, HBL.out.trans h2, HOK.out.trans h3⟩
      case measure => simp [intOf]; omega
    · obtain rfl : k = n := by omega
      have hfin := HBB.out
      rw [List.take_of_length_le (by omega)] at hfin
      have HF := Lib.hid hfin
      clear hfin hT2
      go_wp2_with fail
      go_end0
      exact ⟨rfl, HF.out, HBL.out, HOK.out⟩

/-- A span's five cells. -/
def spC (kd : Int) (s : ByteArray) (kids : Value) : Array Value := #[.int .u8 kd, .string s, .string ⟨#[]⟩, .string ⟨#[]⟩, kids]
set_option maxHeartbeats 4000000 in
set_option maxRecDepth 100000 in
theorem spans_text (P b g c : Nat) (L : List UInt8) (kd : Int) (hkd : kd = 0 ∨ kd = 5) (s : ByteArray) (hs : s.size ≤ 1000000) (hsz : L.length ≤ 1000000000) (w : World) (hB : Bld b L w)
    (hg : w.heap[g]? = some (.cells (spC kd s (.slice none 0 0)) 27 (0, 0))) :
    Calls Tryd.prog 18 #[.pointer (some ⟨P, 0, none⟩), .pointer (some ⟨b, 0, none⟩), .slice (some ⟨g, 0, none⟩) 1 c] w fun e w' => e = .returned (.tuple #[]) ∧ Bld b (L ++ Es.esc (lb s)) w' ∧ Below b w w' ∧ Lib.OthersKept 5 (some b) w w' := by
  have s0 : w.cell? ⟨g, 0, none⟩ = some (.int .u8 kd) := by rw [Lib.cell_of_heap hg]; rfl
  have s1 : w.cell? ⟨g, 1, none⟩ = some (.string s) := by rw [Lib.cell_of_heap hg]; rfl
  have s2 : w.cell? ⟨g, 2, none⟩ = some (.string ⟨#[]⟩) := by rw [Lib.cell_of_heap hg]; rfl
  have s3 : w.cell? ⟨g, 3, none⟩ = some (.string ⟨#[]⟩) := by rw [Lib.cell_of_heap hg]; rfl
  have s4 : w.cell? ⟨g, 4, none⟩ = some (.slice none 0 0) := by rw [Lib.cell_of_heap hg]; rfl
  have HB := Lib.hid hB
  have hblt := hB.lt
  clear hB hg
  go_enter Tryd.func18, Tryd.ntmps18
  go_wp2_with fail
  go_loopw [12] (fun i wr => (i = .int .i64 0 ∧ wr = w) ∨ (i = .int .i64 1 ∧ Bld b (L ++ Es.esc (lb s)) wr ∧ Below b w wr ∧ Lib.OthersKept 5 (some b) w wr)) (fun i _ => 1 - (intOf i).toNat)
  case atStart => exact .inl ⟨rfl, rfl⟩
  case round =>
    rcases hrel with ⟨rfl, rfl⟩ | ⟨rfl, hb, hbl, hok⟩
    · rcases hkd with rfl | rfl
      · go_wp2_with fail
        refine (text_any s (by omega) _).mono ?_
        rintro e w2 ⟨⟨x, rfl, hx⟩, b2⟩
        have hB2 : Bld b L w2 := (HB.out.alloc _).below b2
        have hs2 := b2.size
        have f2 : Below b wr w2 := ((Below.refl b wr).alloc (Nat.le_of_lt hblt) _).trans (b2.mono (by simp; omega))
        have k2 : Lib.OthersKept 5 (some b) wr w2 := okept_below ((Lib.OthersKept.refl _ (some b) wr).alloc _) b2
        have hbl2 := hB2.lt
        have hxl : (lb x).length ≤ 6000000 := by
          rw [hx]
          have h1 := Es.esc_len (lb s)
          have h2 : s.size = (lb s).length := Lib.size_eq _
          omega
        have HX := Lib.hid hx
        have HB2 := Lib.hid hB2
        have F2 := Lib.hid f2
        have K2 := Lib.hid k2
        clear hx hB2 f2 k2 b2
        go_wp2_with fail
        refine (put_any b w2.heap.size 1 1 L [x] rfl (by decide) (by rw [cats_one]; omega) (by omega) _ (HB2.out.alloc _) (heap_alloc_new w2 _)).mono ?_
        rintro e w3 ⟨rfl, h1, h2, h3⟩
        rw [cats_one, HX.out] at h1
        have HH := Lib.hid (And.intro h1 (And.intro ((F2.out.alloc (Nat.le_of_lt hbl2) _).trans h2) ((K2.out.alloc _).trans h3)))
        clear h1 h2 h3
        go_wp2_with fail
        go_roundw
        case rel => exact .inr ⟨by go_num, HH.out.1, HH.out.2.1, HH.out.2.2⟩
        case measure => simp [intOf]
      · go_wp2_with fail
        refine (text_any s (by omega) _).mono ?_
        rintro e w2 ⟨⟨x, rfl, hx⟩, b2⟩
        have hB2 : Bld b L w2 := (HB.out.alloc _).below b2
        have hs2 := b2.size
        have f2 : Below b wr w2 := ((Below.refl b wr).alloc (Nat.le_of_lt hblt) _).trans (b2.mono (by simp; omega))
        have k2 : Lib.OthersKept 5 (some b) wr w2 := okept_below ((Lib.OthersKept.refl _ (some b) wr).alloc _) b2
        have hbl2 := hB2.lt
        have hxl : (lb x).length ≤ 6000000 := by
          rw [hx]
          have h1 := Es.esc_len (lb s)
          have h2 : s.size = (lb s).length := Lib.size_eq _
          omega
        have HX := Lib.hid hx
        have HB2 := Lib.hid hB2
        have F2 := Lib.hid f2
        have K2 := Lib.hid k2
        clear hx hB2 f2 k2 b2
        go_wp2_with fail
        refine (put_any b w2.heap.size 1 1 L [x] rfl (by decide) (by rw [cats_one]; omega) (by omega) _ (HB2.out.alloc _) (heap_alloc_new w2 _)).mono ?_
        rintro e w3 ⟨rfl, h1, h2, h3⟩
        rw [cats_one, HX.out] at h1
        have HH := Lib.hid (And.intro h1 (And.intro ((F2.out.alloc (Nat.le_of_lt hbl2) _).trans h2) ((K2.out.alloc _).trans h3)))
        clear h1 h2 h3
        go_wp2_with fail
        go_roundw
        case rel => exact .inr ⟨by go_num, HH.out.1, HH.out.2.1, HH.out.2.2⟩
        case measure => simp [intOf]
    · go_wp2_with fail
      go_end0
      exact ⟨rfl, hb, hbl, hok⟩
end Go.Proofs.YtlgodkjbilkloaaDoor

/-
  ESCAPE: attributes and Tag, by contract.
-/
import Derived.Test.YtcjhaeppplmmjaaTextE
import Derived.Laws.Rows
import Derived.Deep.RegionWith
namespace Go.Proofs.Ytcjhaeppplmmjaa
open Go.RowKit Go.Maps
set_option linter.unusedVariables false

def attK (cls id : List UInt8) : Nat → List UInt8
  | 0 => []
  | 1 => Es.att [99, 108, 97, 115, 115] cls
  | _ => Es.att [99, 108, 97, 115, 115] cls ++ Es.att [105, 100] id

theorem text_c (s : ByteArray) (hs : s.size ≤ 17592186044416) (w : World) :
    Calls Try.prog 14 #[.string s] w fun e w' => ∃ x : ByteArray, e = .returned (.string x) ∧ lb x = Es.esc (lb s) ∧ x.size ≤ 6 * s.size ∧ Below w.heap.size w w' :=
  (text_any s hs w).mono fun e w' ⟨⟨x, he, hx⟩, hb⟩ => ⟨x, he, hx, by have := Es.esc_len (lb s); rw [← hx, lb_len, lb_len] at this; exact this, hb⟩
theorem isEmptyB_yes (s : ByteArray) (h : lb s = []) : s.toList.isEmpty = true := by
  rw [Lib.toList_data]; show (lb s).isEmpty = true; rw [h]; rfl
theorem isEmptyB_no (s : ByteArray) (h : lb s ≠ []) : s.toList.isEmpty = false := by
  rw [Lib.toList_data]; show (lb s).isEmpty = false
  cases hq : lb s
  · exact absurd hq h
  · rfl
theorem att_size (n x : ByteArray) : ((⟨#[32]⟩ : ByteArray) ++ n ++ ⟨#[61, 34]⟩ ++ x ++ ⟨#[34]⟩).size = n.size + x.size + 4 := by
  simp only [ByteArray.size_append]
  show 1 + n.size + 2 + x.size + 1 = _
  omega
theorem att_lb (n x : ByteArray) : lb ((⟨#[32]⟩ : ByteArray) ++ n ++ ⟨#[61, 34]⟩ ++ x ++ ⟨#[34]⟩) = [32] ++ lb n ++ [61, 34] ++ lb x ++ [34] := by simp [lb]
theorem att_len (n v : List UInt8) : (Es.att n v).length ≤ n.length + 6 * v.length + 4 := by
  unfold Es.att
  split
  · simp
  · have := Es.esc_len v
    simp only [List.length_append, List.length_cons, List.length_nil]
    omega
set_option maxHeartbeats 2000000 in
set_option maxRecDepth 100000 in
theorem attrs_any (cls id : ByteArray) (B : Nat) (w : World) (h1 : cls.size ≤ 1048576) (h2 : id.size ≤ 1048576)
    (hblk : w.heap[B]? = some (.cells #[.string ⟨#[99, 108, 97, 115, 115]⟩, .string cls, .string ⟨#[105, 100]⟩, .string id] 37 (0, 0))) :
    Calls Try.prog 17 #[.slice (some ⟨B, 0, none⟩) 2 2] w fun e w' => (∃ x : ByteArray, e = .returned (.string x) ∧ lb x = attK (lb cls) (lb id) 2) ∧ Below w.heap.size w w' := by
  have hBlt : B < w.heap.size := (Array.getElem?_eq_some_iff.1 hblk).1
  have HBK := Lib.hid hblk
  clear hblk
  go_enter Try.func17, Try.ntmps17
  go_wp2_with fail
  go_loopw [8] (fun i wr => ∃ k : Nat, k ≤ 2 ∧ i = .int .i64 k ∧ Bld w.heap.size (attK (lb cls) (lb id) k) wr ∧ Below w.heap.size w wr) (fun i _ => 2 - (intOf i).toNat)
  case atStart => exact ⟨0, by omega, rfl, Bld.new w, (Below.refl _ _).alloc (Nat.le_refl _) _⟩
  case round =>
    obtain ⟨k, hk, rfl, hB, hb⟩ := hrel
    have HB := Lib.hid hB
    have hblk := (hb.block B hBlt).trans HBK.out
    have c0 : wr.cell? ⟨B, 0, none⟩ = some (.string ⟨#[99, 108, 97, 115, 115]⟩) := by rw [Lib.cell_of_heap hblk]; rfl
    have c1 : wr.cell? ⟨B, 1, none⟩ = some (.string cls) := by rw [Lib.cell_of_heap hblk]; rfl
    have c2 : wr.cell? ⟨B, 2, none⟩ = some (.string ⟨#[105, 100]⟩) := by rw [Lib.cell_of_heap hblk]; rfl
    have c3 : wr.cell? ⟨B, 3, none⟩ = some (.string id) := by rw [Lib.cell_of_heap hblk]; rfl
    clear hblk hB
    rcases (by omega : k = 0 ∨ k = 1 ∨ k = 2) with rfl | rfl | rfl
    · by_cases hv : lb cls = []
      · have he := isEmptyB_yes cls hv
        have hA : attK (lb cls) (lb id) 1 = attK (lb cls) (lb id) 0 := by simp [attK, Es.att, hv]
        have HA := Lib.hid hA
        clear hA hv
        go_wp2_with fail
        go_roundw
        case rel => exact ⟨1, by omega, by go_num, by rw [HA.out]; exact HB.out.alloc _, hb.alloc hb.size _⟩
        case measure => simp [intOf]
      · have he := isEmptyB_no cls hv
        have hA : attK (lb cls) (lb id) 1 = attK (lb cls) (lb id) 0 ++ ([32] ++ [99, 108, 97, 115, 115] ++ [61, 34] ++ Es.esc (lb cls) ++ [34]) := by simp [attK, Es.att, hv]
        have hal : (attK (lb cls) (lb id) 0).length ≤ 6 * cls.size + 20 := by
          have := att_len [99, 108, 97, 115, 115] (lb cls)
          rw [lb_len] at this
          simp [attK] at *
          try omega
        have HA := Lib.hid hA
        have hb2 := hb.alloc hb.size (.cells #[.string ⟨#[99, 108, 97, 115, 115]⟩, .string cls] 37)
        have HB2 := Lib.hid (HB.out.alloc (.cells #[.string ⟨#[99, 108, 97, 115, 115]⟩, .string cls] 37))
        have hbx := heap_alloc_new wr (.cells #[.string ⟨#[99, 108, 97, 115, 115]⟩, .string cls] 37)
        have HBX := Lib.hid hbx
        clear hA hv hbx
        go_wp2_with fail
        go_region_with (first
          | (go_at_call 14; (refine (text_c cls (by omega) _).mono ?_; rintro e w2 ⟨x, rfl, hx, hxs, b2⟩; have HX := Lib.hid hx; clear hx; have k0 : w2.cell? ⟨wr.heap.size, 0, none⟩ = some (.string ⟨#[99, 108, 97, 115, 115]⟩) := (by rw [Lib.cell_of_heap ((b2.block wr.heap.size (by simp)).trans HBX.out)]; rfl); have k1 : w2.cell? ⟨wr.heap.size, 1, none⟩ = some (.string cls) := (by rw [Lib.cell_of_heap ((b2.block wr.heap.size (by simp)).trans HBX.out)]; rfl); have HB3 := Lib.hid ((HB2.out.drew).below b2); have b3 := hb2.drew.trans (b2.mono hb2.drew.size)))
          | (go_at_call 20; refine (bld_write _ _ _ _ HB3.out (by rw [att_size]; show _ + (5 + _ + 4) ≤ _; omega)).mono ?_; rintro e w3 ⟨rfl, hB4, b4, _⟩; have HB4 := Lib.hid hB4; have b5 := b3.trans (b4.mono (by omega)); clear hB4))
        all_goals
          go_wp2_with fail
          go_roundw
          case rel => exact ⟨1, by omega, by go_num, by rw [HA.out, ← HX.out]; have h9 := HB4.out; rw [att_lb] at h9; exact h9, b5⟩
          case measure => simp [intOf]
    · by_cases hv : lb id = []
      · have he := isEmptyB_yes id hv
        have hA : attK (lb cls) (lb id) 2 = attK (lb cls) (lb id) 1 := by simp [attK, Es.att, hv]
        have HA := Lib.hid hA
        clear hA hv
        go_wp2_with fail
        go_roundw
        case rel => exact ⟨2, by omega, by go_num, by rw [HA.out]; exact HB.out.alloc _, hb.alloc hb.size _⟩
        case measure => simp [intOf]
      · have he := isEmptyB_no id hv
        have hA : attK (lb cls) (lb id) 2 = attK (lb cls) (lb id) 1 ++ ([32] ++ [105, 100] ++ [61, 34] ++ Es.esc (lb id) ++ [34]) := by simp [attK, Es.att, hv]
        have hal : (attK (lb cls) (lb id) 1).length ≤ 6 * cls.size + 20 := by
          have := att_len [99, 108, 97, 115, 115] (lb cls)
          rw [lb_len] at this
          simp [attK] at *
          try omega
        have HA := Lib.hid hA
        have hb2 := hb.alloc hb.size (.cells #[.string ⟨#[105, 100]⟩, .string id] 37)
        have HB2 := Lib.hid (HB.out.alloc (.cells #[.string ⟨#[105, 100]⟩, .string id] 37))
        have hbx := heap_alloc_new wr (.cells #[.string ⟨#[105, 100]⟩, .string id] 37)
        have HBX := Lib.hid hbx
        clear hA hv hbx
        go_wp2_with fail
        go_region_with (first
          | (go_at_call 14; (refine (text_c id (by omega) _).mono ?_; rintro e w2 ⟨x, rfl, hx, hxs, b2⟩; have HX := Lib.hid hx; clear hx; have k0 : w2.cell? ⟨wr.heap.size, 0, none⟩ = some (.string ⟨#[105, 100]⟩) := (by rw [Lib.cell_of_heap ((b2.block wr.heap.size (by simp)).trans HBX.out)]; rfl); have k1 : w2.cell? ⟨wr.heap.size, 1, none⟩ = some (.string id) := (by rw [Lib.cell_of_heap ((b2.block wr.heap.size (by simp)).trans HBX.out)]; rfl); have HB3 := Lib.hid ((HB2.out.drew).below b2); have b3 := hb2.drew.trans (b2.mono hb2.drew.size)))
          | (go_at_call 20; refine (bld_write _ _ _ _ HB3.out (by rw [att_size]; show _ + (2 + _ + 4) ≤ _; omega)).mono ?_; rintro e w3 ⟨rfl, hB4, b4, _⟩; have HB4 := Lib.hid hB4; have b5 := b3.trans (b4.mono (by omega)); clear hB4))
        all_goals
          go_wp2_with fail
          go_roundw
          case rel => exact ⟨2, by omega, by go_num, by rw [HA.out, ← HX.out]; have h9 := HB4.out; rw [att_lb] at h9; exact h9, b5⟩
          case measure => simp [intOf]
    · go_wp2_with fail
      refine (bld_string _ _ _ HB.out).mono ?_
      rintro e w2 ⟨rfl, _, b2, _⟩
      go_wp2_with fail
      go_ret
      exact ⟨⟨_, rfl, lb_toArray _⟩, hb.trans b2⟩

theorem attK_two (a b : List UInt8) : attK a b 2 = Es.att [99, 108, 97, 115, 115] a ++ Es.att [105, 100] b := rfl
set_option maxHeartbeats 2000000 in
set_option maxRecDepth 100000 in
theorem tag_any (name cls id cont : ByteArray) (w : World) (h0 : name.size ≤ 1048576) (h1 : cls.size ≤ 1048576) (h2 : id.size ≤ 1048576) (h3 : cont.size ≤ 1048576) :
    Calls Try.prog 10 #[.string name, .string cls, .string id, .string cont] w fun e w' => (∃ x : ByteArray, e = .returned (.string x) ∧ lb x = Es.tag (lb name) (lb cls) (lb id) (lb cont)) ∧ Below w.heap.size w w' := by
  go_enter Try.func10, Try.ntmps10
  go_wp2_with fail
  refine (attrs_any cls id w.heap.size _ h1 h2 (heap_alloc_new w _)).mono ?_
  rintro e w1 ⟨⟨x, rfl, hx⟩, b1⟩
  have c1 := ((Below.refl w.heap.size w).alloc (Nat.le_refl _) (.cells #[.string ⟨#[99, 108, 97, 115, 115]⟩, .string cls, .string ⟨#[105, 100]⟩, .string id] 37)).trans (b1.mono (by simp))
  have hxs : x.size ≤ 20000000 := by
    have e1 := att_len [99, 108, 97, 115, 115] (lb cls)
    have e2 := att_len [105, 100] (lb id)
    rw [Lib.size_eq]
    show (lb x).length ≤ _
    rw [hx, attK_two, List.length_append]
    rw [lb_len] at e1 e2
    simp at e1 e2
    omega
  have HX := Lib.hid hx
  clear hx b1
  go_wp2_with fail
  go_ret
  refine ⟨⟨_, rfl, ?_⟩, c1⟩
  have := HX.out
  rw [attK_two] at this
  simp only [lb, Es.tag] at *
  simp [this]
end Go.Proofs.Ytcjhaeppplmmjaa

/-
  EscapeWhole: the walk.
-/
import Derived.Test.YtcjhaeppplmmjaaETags
import Derived.Test.YtcjhaeppplmmjaaEJoins
namespace Go.Proofs.Ytcjhaeppplmmjaa
open Go.RowKit
set_option linter.unusedVariables false

theorem tag_nil (n c k : List UInt8) : Es.tag n c [] k = [60] ++ n ++ Es.att [99, 108, 97, 115, 115] c ++ ([62] ++ k ++ [60, 47] ++ n ++ [62]) := by simp [Es.tag, Es.att]
theorem tag_id (n c i k : List UInt8) : Es.tag n c i k = [60] ++ n ++ Es.att [99, 108, 97, 115, 115] c ++ Es.att [105, 100] i ++ ([62] ++ k ++ [60, 47] ++ n ++ [62]) := by simp [Es.tag]
theorem esc_small (s x : ByteArray) (h : Es.esc (lb s) = lb x) (hs : s.size ≤ 1048576) : x.size ≤ 6291456 := by
  have := Es.esc_len (lb s)
  rw [h, lb_len, lb_len] at this
  omega
theorem tag_small (n c i k : ByteArray) (x : ByteArray) (h : Es.tag (lb n) (lb c) (lb i) (lb k) = lb x) (h0 : n.size ≤ 1048576) (h1 : c.size ≤ 1048576) (h2 : i.size ≤ 1048576) (h3 : k.size ≤ 1048576) : x.size ≤ 40000000 := by
  rw [← lb_len x, ← h, tag_id]
  have e1 := att_len [99, 108, 97, 115, 115] (lb c)
  have e2 := att_len [105, 100] (lb i)
  rw [lb_len] at e1 e2
  simp only [List.length_append, lb_len] at *
  simp at *
  omega

set_option maxHeartbeats 2000000 in
set_option maxRecDepth 100000 in
theorem whole_00 (a b c d : ByteArray) (hb : beyond [(a.size : Int), b.size, c.size, d.size] = false) (hcb : lb b = []) (hid : lb c = []) (w : World) :
    Calls Try.prog 8 #[.agg #[.string a, .string b, .string c, .string d]] w fun e w' => e = .returned (.bool true) ∧ Below w.heap.size w w' := by
  obtain ⟨z0, z1, z2, z3⟩ := beyond_no4 hb
  obtain ⟨x, hx⟩ : ∃ x : ByteArray, Es.tag (lb a) (lb b) (lb c) (lb d) = lb x := ⟨⟨(Es.tag (lb a) (lb b) (lb c) (lb d)).toArray⟩, (lb_toArray _).symm⟩
  obtain ⟨y, hy⟩ : ∃ x : ByteArray, Es.tag (lb a) (lb b) (lb ⟨#[]⟩) (lb d) = lb x := ⟨⟨(Es.tag (lb a) (lb b) (lb ⟨#[]⟩) (lb d)).toArray⟩, (lb_toArray _).symm⟩
  obtain ⟨p, hp⟩ : ∃ x : ByteArray, Es.esc (lb b) = lb x := ⟨⟨(Es.esc (lb b)).toArray⟩, (lb_toArray _).symm⟩
  obtain ⟨q, hq⟩ : ∃ x : ByteArray, Es.esc (lb c) = lb x := ⟨⟨(Es.esc (lb c)).toArray⟩, (lb_toArray _).symm⟩
  have hps := esc_small b p hp z1
  have hqs := esc_small c q hq z2
  have hxs := tag_small a b c d x hx z0 z1 z2 z3
  have hbare : (y.toList == ((⟨#[60]⟩ ++ a) ++ (⟨#[62]⟩ ++ d ++ ⟨#[60, 47]⟩ ++ a ++ ⟨#[62]⟩) : ByteArray).toList) = true := by
    refine lbs_eq ?_
    rw [← hy, show lb (⟨#[]⟩ : ByteArray) = [] from rfl, tag_nil]
    have : Es.att [99, 108, 97, 115, 115] (lb b) = [] := by unfold Es.att; rw [if_pos hcb]
    rw [this]
    simp [lb]
  have hfull : (x.toList == y.toList) = true := lbs_eq (by rw [← hx, ← hy, hid])
  have eb := isEmptyB_yes b hcb
  have ec := isEmptyB_yes c hid
  have HX := Lib.hid hx
  have HY := Lib.hid hy
  have HP := Lib.hid hp
  have HQ := Lib.hid hq
  clear hx hy hp hq hcb hid
  go_enter Try.func8, Try.ntmps8
  go_wp2_with fail
  refine (alive_any _).mono ?_
  rintro e w1 ⟨rfl, b1⟩
  have hbx := (b1.block w.heap.size (by simp)).trans (heap_alloc_new w (.cells #[.string a, .string b, .string c, .string d] 23))
  have c1 : Below w.heap.size w w1 := ((Below.refl w.heap.size w).alloc (Nat.le_refl _) _).trans (b1.mono (by simp))
  have k0 : w1.cell? ⟨w.heap.size, 0, none⟩ = some (.string a) := by rw [Lib.cell_of_heap hbx]; rfl
  have k1 : w1.cell? ⟨w.heap.size, 1, none⟩ = some (.string b) := by rw [Lib.cell_of_heap hbx]; rfl
  have k2 : w1.cell? ⟨w.heap.size, 2, none⟩ = some (.string c) := by rw [Lib.cell_of_heap hbx]; rfl
  have k3 : w1.cell? ⟨w.heap.size, 3, none⟩ = some (.string d) := by rw [Lib.cell_of_heap hbx]; rfl
  have hlt1 : w.heap.size < w1.heap.size := (Array.getElem?_eq_some_iff.1 hbx).1
  clear b1
  go_wp2_with fail
  refine (beyond4' w1 w1.heap.size rfl a.size b.size c.size d.size (by omega) (by omega) (by omega) (by omega)).mono ?_
  rintro e w' ⟨rfl, rfl⟩
  have c2 := c1.alloc c1.size (.cells #[.int .i64 (a.size : Int), .int .i64 (b.size : Int), .int .i64 (c.size : Int), .int .i64 (d.size : Int)] 3)
  have hbx2 := (Below.heap_alloc w1 (.cells #[.int .i64 (a.size : Int), .int .i64 (b.size : Int), .int .i64 (c.size : Int), .int .i64 (d.size : Int)] 3) w.heap.size hlt1).trans hbx
  clear k0 k1 k2 k3 hbx c1
  generalize w1.alloc (.cells #[.int .i64 (a.size : Int), .int .i64 (b.size : Int), .int .i64 (c.size : Int), .int .i64 (d.size : Int)] 3) = w2 at *
  have k0 : w2.cell? ⟨w.heap.size, 0, none⟩ = some (.string a) := by rw [Lib.cell_of_heap hbx2]; rfl
  have k1 : w2.cell? ⟨w.heap.size, 1, none⟩ = some (.string b) := by rw [Lib.cell_of_heap hbx2]; rfl
  have k2 : w2.cell? ⟨w.heap.size, 2, none⟩ = some (.string c) := by rw [Lib.cell_of_heap hbx2]; rfl
  have k3 : w2.cell? ⟨w.heap.size, 3, none⟩ = some (.string d) := by rw [Lib.cell_of_heap hbx2]; rfl
  have hlt2 : w.heap.size < w2.heap.size := (Array.getElem?_eq_some_iff.1 hbx2).1
  have HB2 := Lib.hid hbx2
  clear hbx2
  go_wp2_with fail
  refine (tag_is a b ⟨#[]⟩ d y HY.out z0 z1 (by decide) z3 _).mono ?_
  rintro e w3 ⟨rfl, b3⟩
  have hbx3 := (b3.block w.heap.size hlt2).trans HB2.out
  have c3 := c2.trans (b3.mono c2.size)
  clear k0 k1 k2 k3 b3 c2
  have k0 : w3.cell? ⟨w.heap.size, 0, none⟩ = some (.string a) := by rw [Lib.cell_of_heap hbx3]; rfl
  have k1 : w3.cell? ⟨w.heap.size, 1, none⟩ = some (.string b) := by rw [Lib.cell_of_heap hbx3]; rfl
  have k2 : w3.cell? ⟨w.heap.size, 2, none⟩ = some (.string c) := by rw [Lib.cell_of_heap hbx3]; rfl
  have k3 : w3.cell? ⟨w.heap.size, 3, none⟩ = some (.string d) := by rw [Lib.cell_of_heap hbx3]; rfl
  have hlt3 : w.heap.size < w3.heap.size := (Array.getElem?_eq_some_iff.1 hbx3).1
  have HB3 := Lib.hid hbx3
  clear hbx3
  go_wp2_with fail
  refine (tag_is a b c d x HX.out z0 z1 z2 z3 _).mono ?_
  rintro e w4 ⟨rfl, b4⟩
  have hbx4 := (b4.block w.heap.size hlt3).trans HB3.out
  have c4 := c3.trans (b4.mono c3.size)
  clear k0 k1 k2 k3 b4 c3
  have k0 : w4.cell? ⟨w.heap.size, 0, none⟩ = some (.string a) := by rw [Lib.cell_of_heap hbx4]; rfl
  have k1 : w4.cell? ⟨w.heap.size, 1, none⟩ = some (.string b) := by rw [Lib.cell_of_heap hbx4]; rfl
  have k2 : w4.cell? ⟨w.heap.size, 2, none⟩ = some (.string c) := by rw [Lib.cell_of_heap hbx4]; rfl
  have k3 : w4.cell? ⟨w.heap.size, 3, none⟩ = some (.string d) := by rw [Lib.cell_of_heap hbx4]; rfl
  have hlt4 : w.heap.size < w4.heap.size := (Array.getElem?_eq_some_iff.1 hbx4).1
  have HB4 := Lib.hid hbx4
  clear hbx4
  go_wp2_with fail
  go_ret
  exact ⟨ret_bool (by simp), c4⟩

set_option maxHeartbeats 2000000 in
set_option maxRecDepth 100000 in
theorem whole_01 (a b c d : ByteArray) (hb : beyond [(a.size : Int), b.size, c.size, d.size] = false) (hcb : lb b = []) (hid : lb c ≠ []) (w : World) :
    Calls Try.prog 8 #[.agg #[.string a, .string b, .string c, .string d]] w fun e w' => e = .returned (.bool true) ∧ Below w.heap.size w w' := by
  obtain ⟨z0, z1, z2, z3⟩ := beyond_no4 hb
  obtain ⟨x, hx⟩ : ∃ x : ByteArray, Es.tag (lb a) (lb b) (lb c) (lb d) = lb x := ⟨⟨(Es.tag (lb a) (lb b) (lb c) (lb d)).toArray⟩, (lb_toArray _).symm⟩
  obtain ⟨y, hy⟩ : ∃ x : ByteArray, Es.tag (lb a) (lb b) (lb ⟨#[]⟩) (lb d) = lb x := ⟨⟨(Es.tag (lb a) (lb b) (lb ⟨#[]⟩) (lb d)).toArray⟩, (lb_toArray _).symm⟩
  obtain ⟨p, hp⟩ : ∃ x : ByteArray, Es.esc (lb b) = lb x := ⟨⟨(Es.esc (lb b)).toArray⟩, (lb_toArray _).symm⟩
  obtain ⟨q, hq⟩ : ∃ x : ByteArray, Es.esc (lb c) = lb x := ⟨⟨(Es.esc (lb c)).toArray⟩, (lb_toArray _).symm⟩
  have hps := esc_small b p hp z1
  have hqs := esc_small c q hq z2
  have hxs := tag_small a b c d x hx z0 z1 z2 z3
  have hbare : (y.toList == ((⟨#[60]⟩ ++ a) ++ (⟨#[62]⟩ ++ d ++ ⟨#[60, 47]⟩ ++ a ++ ⟨#[62]⟩) : ByteArray).toList) = true := by
    refine lbs_eq ?_
    rw [← hy, show lb (⟨#[]⟩ : ByteArray) = [] from rfl, tag_nil]
    have : Es.att [99, 108, 97, 115, 115] (lb b) = [] := by unfold Es.att; rw [if_pos hcb]
    rw [this]
    simp [lb]
  have hfull : (x.toList == ((⟨#[60]⟩ ++ a) ++ ⟨#[32, 105, 100, 61, 34]⟩ ++ q ++ ⟨#[34]⟩ ++ (⟨#[62]⟩ ++ d ++ ⟨#[60, 47]⟩ ++ a ++ ⟨#[62]⟩) : ByteArray).toList) = true := by
    refine lbs_eq ?_
    rw [← hx, tag_id]
    have : Es.att [99, 108, 97, 115, 115] (lb b) = [] := by unfold Es.att; rw [if_pos hcb]
    have h2 : Es.att [105, 100] (lb c) = [32] ++ [105, 100] ++ [61, 34] ++ lb q ++ [34] := by unfold Es.att; rw [if_neg hid, hq]
    rw [this, h2]
    simp [lb]
  have eb := isEmptyB_yes b hcb
  have ec := isEmptyB_no c hid
  have HX := Lib.hid hx
  have HY := Lib.hid hy
  have HP := Lib.hid hp
  have HQ := Lib.hid hq
  clear hx hy hp hq hcb hid
  go_enter Try.func8, Try.ntmps8
  go_wp2_with fail
  refine (alive_any _).mono ?_
  rintro e w1 ⟨rfl, b1⟩
  have hbx := (b1.block w.heap.size (by simp)).trans (heap_alloc_new w (.cells #[.string a, .string b, .string c, .string d] 23))
  have c1 : Below w.heap.size w w1 := ((Below.refl w.heap.size w).alloc (Nat.le_refl _) _).trans (b1.mono (by simp))
  have k0 : w1.cell? ⟨w.heap.size, 0, none⟩ = some (.string a) := by rw [Lib.cell_of_heap hbx]; rfl
  have k1 : w1.cell? ⟨w.heap.size, 1, none⟩ = some (.string b) := by rw [Lib.cell_of_heap hbx]; rfl
  have k2 : w1.cell? ⟨w.heap.size, 2, none⟩ = some (.string c) := by rw [Lib.cell_of_heap hbx]; rfl
  have k3 : w1.cell? ⟨w.heap.size, 3, none⟩ = some (.string d) := by rw [Lib.cell_of_heap hbx]; rfl
  have hlt1 : w.heap.size < w1.heap.size := (Array.getElem?_eq_some_iff.1 hbx).1
  clear b1
  go_wp2_with fail
  refine (beyond4' w1 w1.heap.size rfl a.size b.size c.size d.size (by omega) (by omega) (by omega) (by omega)).mono ?_
  rintro e w' ⟨rfl, rfl⟩
  have c2 := c1.alloc c1.size (.cells #[.int .i64 (a.size : Int), .int .i64 (b.size : Int), .int .i64 (c.size : Int), .int .i64 (d.size : Int)] 3)
  have hbx2 := (Below.heap_alloc w1 (.cells #[.int .i64 (a.size : Int), .int .i64 (b.size : Int), .int .i64 (c.size : Int), .int .i64 (d.size : Int)] 3) w.heap.size hlt1).trans hbx
  clear k0 k1 k2 k3 hbx c1
  generalize w1.alloc (.cells #[.int .i64 (a.size : Int), .int .i64 (b.size : Int), .int .i64 (c.size : Int), .int .i64 (d.size : Int)] 3) = w2 at *
  have k0 : w2.cell? ⟨w.heap.size, 0, none⟩ = some (.string a) := by rw [Lib.cell_of_heap hbx2]; rfl
  have k1 : w2.cell? ⟨w.heap.size, 1, none⟩ = some (.string b) := by rw [Lib.cell_of_heap hbx2]; rfl
  have k2 : w2.cell? ⟨w.heap.size, 2, none⟩ = some (.string c) := by rw [Lib.cell_of_heap hbx2]; rfl
  have k3 : w2.cell? ⟨w.heap.size, 3, none⟩ = some (.string d) := by rw [Lib.cell_of_heap hbx2]; rfl
  have hlt2 : w.heap.size < w2.heap.size := (Array.getElem?_eq_some_iff.1 hbx2).1
  have HB2 := Lib.hid hbx2
  clear hbx2
  go_wp2_with fail
  refine (tag_is a b ⟨#[]⟩ d y HY.out z0 z1 (by decide) z3 _).mono ?_
  rintro e w3 ⟨rfl, b3⟩
  have hbx3 := (b3.block w.heap.size hlt2).trans HB2.out
  have c3 := c2.trans (b3.mono c2.size)
  clear k0 k1 k2 k3 b3 c2
  have k0 : w3.cell? ⟨w.heap.size, 0, none⟩ = some (.string a) := by rw [Lib.cell_of_heap hbx3]; rfl
  have k1 : w3.cell? ⟨w.heap.size, 1, none⟩ = some (.string b) := by rw [Lib.cell_of_heap hbx3]; rfl
  have k2 : w3.cell? ⟨w.heap.size, 2, none⟩ = some (.string c) := by rw [Lib.cell_of_heap hbx3]; rfl
  have k3 : w3.cell? ⟨w.heap.size, 3, none⟩ = some (.string d) := by rw [Lib.cell_of_heap hbx3]; rfl
  have hlt3 : w.heap.size < w3.heap.size := (Array.getElem?_eq_some_iff.1 hbx3).1
  have HB3 := Lib.hid hbx3
  clear hbx3
  go_wp2_with fail
  refine (tag_is a b c d x HX.out z0 z1 z2 z3 _).mono ?_
  rintro e w4 ⟨rfl, b4⟩
  have hbx4 := (b4.block w.heap.size hlt3).trans HB3.out
  have c4 := c3.trans (b4.mono c3.size)
  clear k0 k1 k2 k3 b4 c3
  have k0 : w4.cell? ⟨w.heap.size, 0, none⟩ = some (.string a) := by rw [Lib.cell_of_heap hbx4]; rfl
  have k1 : w4.cell? ⟨w.heap.size, 1, none⟩ = some (.string b) := by rw [Lib.cell_of_heap hbx4]; rfl
  have k2 : w4.cell? ⟨w.heap.size, 2, none⟩ = some (.string c) := by rw [Lib.cell_of_heap hbx4]; rfl
  have k3 : w4.cell? ⟨w.heap.size, 3, none⟩ = some (.string d) := by rw [Lib.cell_of_heap hbx4]; rfl
  have hlt4 : w.heap.size < w4.heap.size := (Array.getElem?_eq_some_iff.1 hbx4).1
  have HB4 := Lib.hid hbx4
  clear hbx4
  go_wp2_with fail
  refine (text_is c q HQ.out (by omega) _).mono ?_
  rintro e w5 ⟨rfl, b5⟩
  have hbx5 := (b5.block w.heap.size hlt4).trans HB4.out
  have c5 := c4.trans (b5.mono c4.size)
  clear k0 k1 k2 k3 b5 c4
  have k0 : w5.cell? ⟨w.heap.size, 0, none⟩ = some (.string a) := by rw [Lib.cell_of_heap hbx5]; rfl
  have k1 : w5.cell? ⟨w.heap.size, 1, none⟩ = some (.string b) := by rw [Lib.cell_of_heap hbx5]; rfl
  have k2 : w5.cell? ⟨w.heap.size, 2, none⟩ = some (.string c) := by rw [Lib.cell_of_heap hbx5]; rfl
  have k3 : w5.cell? ⟨w.heap.size, 3, none⟩ = some (.string d) := by rw [Lib.cell_of_heap hbx5]; rfl
  have hlt5 : w.heap.size < w5.heap.size := (Array.getElem?_eq_some_iff.1 hbx5).1
  have HB5 := Lib.hid hbx5
  clear hbx5
  go_wp2_with fail
  go_ret
  exact ⟨ret_bool (by simp), c5⟩

set_option maxHeartbeats 2000000 in
set_option maxRecDepth 100000 in
theorem whole_10 (a b c d : ByteArray) (hb : beyond [(a.size : Int), b.size, c.size, d.size] = false) (hcb : lb b ≠ []) (hid : lb c = []) (w : World) :
    Calls Try.prog 8 #[.agg #[.string a, .string b, .string c, .string d]] w fun e w' => e = .returned (.bool true) ∧ Below w.heap.size w w' := by
  obtain ⟨z0, z1, z2, z3⟩ := beyond_no4 hb
  obtain ⟨x, hx⟩ : ∃ x : ByteArray, Es.tag (lb a) (lb b) (lb c) (lb d) = lb x := ⟨⟨(Es.tag (lb a) (lb b) (lb c) (lb d)).toArray⟩, (lb_toArray _).symm⟩
  obtain ⟨y, hy⟩ : ∃ x : ByteArray, Es.tag (lb a) (lb b) (lb ⟨#[]⟩) (lb d) = lb x := ⟨⟨(Es.tag (lb a) (lb b) (lb ⟨#[]⟩) (lb d)).toArray⟩, (lb_toArray _).symm⟩
  obtain ⟨p, hp⟩ : ∃ x : ByteArray, Es.esc (lb b) = lb x := ⟨⟨(Es.esc (lb b)).toArray⟩, (lb_toArray _).symm⟩
  obtain ⟨q, hq⟩ : ∃ x : ByteArray, Es.esc (lb c) = lb x := ⟨⟨(Es.esc (lb c)).toArray⟩, (lb_toArray _).symm⟩
  have hps := esc_small b p hp z1
  have hqs := esc_small c q hq z2
  have hxs := tag_small a b c d x hx z0 z1 z2 z3
  have hbare : (y.toList == ((⟨#[60]⟩ ++ a ++ ⟨#[32, 99, 108, 97, 115, 115, 61, 34]⟩ ++ p ++ ⟨#[34]⟩) ++ (⟨#[62]⟩ ++ d ++ ⟨#[60, 47]⟩ ++ a ++ ⟨#[62]⟩) : ByteArray).toList) = true := by
    refine lbs_eq ?_
    rw [← hy, show lb (⟨#[]⟩ : ByteArray) = [] from rfl, tag_nil]
    have : Es.att [99, 108, 97, 115, 115] (lb b) = [32] ++ [99, 108, 97, 115, 115] ++ [61, 34] ++ lb p ++ [34] := by unfold Es.att; rw [if_neg hcb, hp]
    rw [this]
    simp [lb]
  have hfull : (x.toList == y.toList) = true := lbs_eq (by rw [← hx, ← hy, hid])
  have eb := isEmptyB_no b hcb
  have ec := isEmptyB_yes c hid
  have HX := Lib.hid hx
  have HY := Lib.hid hy
  have HP := Lib.hid hp
  have HQ := Lib.hid hq
  clear hx hy hp hq hcb hid
  go_enter Try.func8, Try.ntmps8
  go_wp2_with fail
  refine (alive_any _).mono ?_
  rintro e w1 ⟨rfl, b1⟩
  have hbx := (b1.block w.heap.size (by simp)).trans (heap_alloc_new w (.cells #[.string a, .string b, .string c, .string d] 23))
  have c1 : Below w.heap.size w w1 := ((Below.refl w.heap.size w).alloc (Nat.le_refl _) _).trans (b1.mono (by simp))
  have k0 : w1.cell? ⟨w.heap.size, 0, none⟩ = some (.string a) := by rw [Lib.cell_of_heap hbx]; rfl
  have k1 : w1.cell? ⟨w.heap.size, 1, none⟩ = some (.string b) := by rw [Lib.cell_of_heap hbx]; rfl
  have k2 : w1.cell? ⟨w.heap.size, 2, none⟩ = some (.string c) := by rw [Lib.cell_of_heap hbx]; rfl
  have k3 : w1.cell? ⟨w.heap.size, 3, none⟩ = some (.string d) := by rw [Lib.cell_of_heap hbx]; rfl
  have hlt1 : w.heap.size < w1.heap.size := (Array.getElem?_eq_some_iff.1 hbx).1
  clear b1
  go_wp2_with fail
  refine (beyond4' w1 w1.heap.size rfl a.size b.size c.size d.size (by omega) (by omega) (by omega) (by omega)).mono ?_
  rintro e w' ⟨rfl, rfl⟩
  have c2 := c1.alloc c1.size (.cells #[.int .i64 (a.size : Int), .int .i64 (b.size : Int), .int .i64 (c.size : Int), .int .i64 (d.size : Int)] 3)
  have hbx2 := (Below.heap_alloc w1 (.cells #[.int .i64 (a.size : Int), .int .i64 (b.size : Int), .int .i64 (c.size : Int), .int .i64 (d.size : Int)] 3) w.heap.size hlt1).trans hbx
  clear k0 k1 k2 k3 hbx c1
  generalize w1.alloc (.cells #[.int .i64 (a.size : Int), .int .i64 (b.size : Int), .int .i64 (c.size : Int), .int .i64 (d.size : Int)] 3) = w2 at *
  have k0 : w2.cell? ⟨w.heap.size, 0, none⟩ = some (.string a) := by rw [Lib.cell_of_heap hbx2]; rfl
  have k1 : w2.cell? ⟨w.heap.size, 1, none⟩ = some (.string b) := by rw [Lib.cell_of_heap hbx2]; rfl
  have k2 : w2.cell? ⟨w.heap.size, 2, none⟩ = some (.string c) := by rw [Lib.cell_of_heap hbx2]; rfl
  have k3 : w2.cell? ⟨w.heap.size, 3, none⟩ = some (.string d) := by rw [Lib.cell_of_heap hbx2]; rfl
  have hlt2 : w.heap.size < w2.heap.size := (Array.getElem?_eq_some_iff.1 hbx2).1
  have HB2 := Lib.hid hbx2
  clear hbx2
  go_wp2_with fail
  refine (text_is b p HP.out (by omega) _).mono ?_
  rintro e w3 ⟨rfl, b3⟩
  have hbx3 := (b3.block w.heap.size hlt2).trans HB2.out
  have c3 := c2.trans (b3.mono c2.size)
  clear k0 k1 k2 k3 b3 c2
  have k0 : w3.cell? ⟨w.heap.size, 0, none⟩ = some (.string a) := by rw [Lib.cell_of_heap hbx3]; rfl
  have k1 : w3.cell? ⟨w.heap.size, 1, none⟩ = some (.string b) := by rw [Lib.cell_of_heap hbx3]; rfl
  have k2 : w3.cell? ⟨w.heap.size, 2, none⟩ = some (.string c) := by rw [Lib.cell_of_heap hbx3]; rfl
  have k3 : w3.cell? ⟨w.heap.size, 3, none⟩ = some (.string d) := by rw [Lib.cell_of_heap hbx3]; rfl
  have hlt3 : w.heap.size < w3.heap.size := (Array.getElem?_eq_some_iff.1 hbx3).1
  have HB3 := Lib.hid hbx3
  clear hbx3
  go_wp2_with fail
  refine (tag_is a b ⟨#[]⟩ d y HY.out z0 z1 (by decide) z3 _).mono ?_
  rintro e w4 ⟨rfl, b4⟩
  have hbx4 := (b4.block w.heap.size hlt3).trans HB3.out
  have c4 := c3.trans (b4.mono c3.size)
  clear k0 k1 k2 k3 b4 c3
  have k0 : w4.cell? ⟨w.heap.size, 0, none⟩ = some (.string a) := by rw [Lib.cell_of_heap hbx4]; rfl
  have k1 : w4.cell? ⟨w.heap.size, 1, none⟩ = some (.string b) := by rw [Lib.cell_of_heap hbx4]; rfl
  have k2 : w4.cell? ⟨w.heap.size, 2, none⟩ = some (.string c) := by rw [Lib.cell_of_heap hbx4]; rfl
  have k3 : w4.cell? ⟨w.heap.size, 3, none⟩ = some (.string d) := by rw [Lib.cell_of_heap hbx4]; rfl
  have hlt4 : w.heap.size < w4.heap.size := (Array.getElem?_eq_some_iff.1 hbx4).1
  have HB4 := Lib.hid hbx4
  clear hbx4
  go_wp2_with fail
  refine (tag_is a b c d x HX.out z0 z1 z2 z3 _).mono ?_
  rintro e w5 ⟨rfl, b5⟩
  have hbx5 := (b5.block w.heap.size hlt4).trans HB4.out
  have c5 := c4.trans (b5.mono c4.size)
  clear k0 k1 k2 k3 b5 c4
  have k0 : w5.cell? ⟨w.heap.size, 0, none⟩ = some (.string a) := by rw [Lib.cell_of_heap hbx5]; rfl
  have k1 : w5.cell? ⟨w.heap.size, 1, none⟩ = some (.string b) := by rw [Lib.cell_of_heap hbx5]; rfl
  have k2 : w5.cell? ⟨w.heap.size, 2, none⟩ = some (.string c) := by rw [Lib.cell_of_heap hbx5]; rfl
  have k3 : w5.cell? ⟨w.heap.size, 3, none⟩ = some (.string d) := by rw [Lib.cell_of_heap hbx5]; rfl
  have hlt5 : w.heap.size < w5.heap.size := (Array.getElem?_eq_some_iff.1 hbx5).1
  have HB5 := Lib.hid hbx5
  clear hbx5
  go_wp2_with fail
  go_ret
  exact ⟨ret_bool (by simp), c5⟩

set_option maxHeartbeats 2000000 in
set_option maxRecDepth 100000 in
theorem whole_11 (a b c d : ByteArray) (hb : beyond [(a.size : Int), b.size, c.size, d.size] = false) (hcb : lb b ≠ []) (hid : lb c ≠ []) (w : World) :
    Calls Try.prog 8 #[.agg #[.string a, .string b, .string c, .string d]] w fun e w' => e = .returned (.bool true) ∧ Below w.heap.size w w' := by
  obtain ⟨z0, z1, z2, z3⟩ := beyond_no4 hb
  obtain ⟨x, hx⟩ : ∃ x : ByteArray, Es.tag (lb a) (lb b) (lb c) (lb d) = lb x := ⟨⟨(Es.tag (lb a) (lb b) (lb c) (lb d)).toArray⟩, (lb_toArray _).symm⟩
  obtain ⟨y, hy⟩ : ∃ x : ByteArray, Es.tag (lb a) (lb b) (lb ⟨#[]⟩) (lb d) = lb x := ⟨⟨(Es.tag (lb a) (lb b) (lb ⟨#[]⟩) (lb d)).toArray⟩, (lb_toArray _).symm⟩
  obtain ⟨p, hp⟩ : ∃ x : ByteArray, Es.esc (lb b) = lb x := ⟨⟨(Es.esc (lb b)).toArray⟩, (lb_toArray _).symm⟩
  obtain ⟨q, hq⟩ : ∃ x : ByteArray, Es.esc (lb c) = lb x := ⟨⟨(Es.esc (lb c)).toArray⟩, (lb_toArray _).symm⟩
  have hps := esc_small b p hp z1
  have hqs := esc_small c q hq z2
  have hxs := tag_small a b c d x hx z0 z1 z2 z3
  have hbare : (y.toList == ((⟨#[60]⟩ ++ a ++ ⟨#[32, 99, 108, 97, 115, 115, 61, 34]⟩ ++ p ++ ⟨#[34]⟩) ++ (⟨#[62]⟩ ++ d ++ ⟨#[60, 47]⟩ ++ a ++ ⟨#[62]⟩) : ByteArray).toList) = true := by
    refine lbs_eq ?_
    rw [← hy, show lb (⟨#[]⟩ : ByteArray) = [] from rfl, tag_nil]
    have : Es.att [99, 108, 97, 115, 115] (lb b) = [32] ++ [99, 108, 97, 115, 115] ++ [61, 34] ++ lb p ++ [34] := by unfold Es.att; rw [if_neg hcb, hp]
    rw [this]
    simp [lb]
  have hfull : (x.toList == ((⟨#[60]⟩ ++ a ++ ⟨#[32, 99, 108, 97, 115, 115, 61, 34]⟩ ++ p ++ ⟨#[34]⟩) ++ ⟨#[32, 105, 100, 61, 34]⟩ ++ q ++ ⟨#[34]⟩ ++ (⟨#[62]⟩ ++ d ++ ⟨#[60, 47]⟩ ++ a ++ ⟨#[62]⟩) : ByteArray).toList) = true := by
    refine lbs_eq ?_
    rw [← hx, tag_id]
    have : Es.att [99, 108, 97, 115, 115] (lb b) = [32] ++ [99, 108, 97, 115, 115] ++ [61, 34] ++ lb p ++ [34] := by unfold Es.att; rw [if_neg hcb, hp]
    have h2 : Es.att [105, 100] (lb c) = [32] ++ [105, 100] ++ [61, 34] ++ lb q ++ [34] := by unfold Es.att; rw [if_neg hid, hq]
    rw [this, h2]
    simp [lb]
  have eb := isEmptyB_no b hcb
  have ec := isEmptyB_no c hid
  have HX := Lib.hid hx
  have HY := Lib.hid hy
  have HP := Lib.hid hp
  have HQ := Lib.hid hq
  clear hx hy hp hq hcb hid
  go_enter Try.func8, Try.ntmps8
  go_wp2_with fail
  refine (alive_any _).mono ?_
  rintro e w1 ⟨rfl, b1⟩
  have hbx := (b1.block w.heap.size (by simp)).trans (heap_alloc_new w (.cells #[.string a, .string b, .string c, .string d] 23))
  have c1 : Below w.heap.size w w1 := ((Below.refl w.heap.size w).alloc (Nat.le_refl _) _).trans (b1.mono (by simp))
  have k0 : w1.cell? ⟨w.heap.size, 0, none⟩ = some (.string a) := by rw [Lib.cell_of_heap hbx]; rfl
  have k1 : w1.cell? ⟨w.heap.size, 1, none⟩ = some (.string b) := by rw [Lib.cell_of_heap hbx]; rfl
  have k2 : w1.cell? ⟨w.heap.size, 2, none⟩ = some (.string c) := by rw [Lib.cell_of_heap hbx]; rfl
  have k3 : w1.cell? ⟨w.heap.size, 3, none⟩ = some (.string d) := by rw [Lib.cell_of_heap hbx]; rfl
  have hlt1 : w.heap.size < w1.heap.size := (Array.getElem?_eq_some_iff.1 hbx).1
  clear b1
  go_wp2_with fail
  refine (beyond4' w1 w1.heap.size rfl a.size b.size c.size d.size (by omega) (by omega) (by omega) (by omega)).mono ?_
  rintro e w' ⟨rfl, rfl⟩
  have c2 := c1.alloc c1.size (.cells #[.int .i64 (a.size : Int), .int .i64 (b.size : Int), .int .i64 (c.size : Int), .int .i64 (d.size : Int)] 3)
  have hbx2 := (Below.heap_alloc w1 (.cells #[.int .i64 (a.size : Int), .int .i64 (b.size : Int), .int .i64 (c.size : Int), .int .i64 (d.size : Int)] 3) w.heap.size hlt1).trans hbx
  clear k0 k1 k2 k3 hbx c1
  generalize w1.alloc (.cells #[.int .i64 (a.size : Int), .int .i64 (b.size : Int), .int .i64 (c.size : Int), .int .i64 (d.size : Int)] 3) = w2 at *
  have k0 : w2.cell? ⟨w.heap.size, 0, none⟩ = some (.string a) := by rw [Lib.cell_of_heap hbx2]; rfl
  have k1 : w2.cell? ⟨w.heap.size, 1, none⟩ = some (.string b) := by rw [Lib.cell_of_heap hbx2]; rfl
  have k2 : w2.cell? ⟨w.heap.size, 2, none⟩ = some (.string c) := by rw [Lib.cell_of_heap hbx2]; rfl
  have k3 : w2.cell? ⟨w.heap.size, 3, none⟩ = some (.string d) := by rw [Lib.cell_of_heap hbx2]; rfl
  have hlt2 : w.heap.size < w2.heap.size := (Array.getElem?_eq_some_iff.1 hbx2).1
  have HB2 := Lib.hid hbx2
  clear hbx2
  go_wp2_with fail
  refine (text_is b p HP.out (by omega) _).mono ?_
  rintro e w3 ⟨rfl, b3⟩
  have hbx3 := (b3.block w.heap.size hlt2).trans HB2.out
  have c3 := c2.trans (b3.mono c2.size)
  clear k0 k1 k2 k3 b3 c2
  have k0 : w3.cell? ⟨w.heap.size, 0, none⟩ = some (.string a) := by rw [Lib.cell_of_heap hbx3]; rfl
  have k1 : w3.cell? ⟨w.heap.size, 1, none⟩ = some (.string b) := by rw [Lib.cell_of_heap hbx3]; rfl
  have k2 : w3.cell? ⟨w.heap.size, 2, none⟩ = some (.string c) := by rw [Lib.cell_of_heap hbx3]; rfl
  have k3 : w3.cell? ⟨w.heap.size, 3, none⟩ = some (.string d) := by rw [Lib.cell_of_heap hbx3]; rfl
  have hlt3 : w.heap.size < w3.heap.size := (Array.getElem?_eq_some_iff.1 hbx3).1
  have HB3 := Lib.hid hbx3
  clear hbx3
  go_wp2_with fail
  refine (tag_is a b ⟨#[]⟩ d y HY.out z0 z1 (by decide) z3 _).mono ?_
  rintro e w4 ⟨rfl, b4⟩
  have hbx4 := (b4.block w.heap.size hlt3).trans HB3.out
  have c4 := c3.trans (b4.mono c3.size)
  clear k0 k1 k2 k3 b4 c3
  have k0 : w4.cell? ⟨w.heap.size, 0, none⟩ = some (.string a) := by rw [Lib.cell_of_heap hbx4]; rfl
  have k1 : w4.cell? ⟨w.heap.size, 1, none⟩ = some (.string b) := by rw [Lib.cell_of_heap hbx4]; rfl
  have k2 : w4.cell? ⟨w.heap.size, 2, none⟩ = some (.string c) := by rw [Lib.cell_of_heap hbx4]; rfl
  have k3 : w4.cell? ⟨w.heap.size, 3, none⟩ = some (.string d) := by rw [Lib.cell_of_heap hbx4]; rfl
  have hlt4 : w.heap.size < w4.heap.size := (Array.getElem?_eq_some_iff.1 hbx4).1
  have HB4 := Lib.hid hbx4
  clear hbx4
  go_wp2_with fail
  refine (tag_is a b c d x HX.out z0 z1 z2 z3 _).mono ?_
  rintro e w5 ⟨rfl, b5⟩
  have hbx5 := (b5.block w.heap.size hlt4).trans HB4.out
  have c5 := c4.trans (b5.mono c4.size)
  clear k0 k1 k2 k3 b5 c4
  have k0 : w5.cell? ⟨w.heap.size, 0, none⟩ = some (.string a) := by rw [Lib.cell_of_heap hbx5]; rfl
  have k1 : w5.cell? ⟨w.heap.size, 1, none⟩ = some (.string b) := by rw [Lib.cell_of_heap hbx5]; rfl
  have k2 : w5.cell? ⟨w.heap.size, 2, none⟩ = some (.string c) := by rw [Lib.cell_of_heap hbx5]; rfl
  have k3 : w5.cell? ⟨w.heap.size, 3, none⟩ = some (.string d) := by rw [Lib.cell_of_heap hbx5]; rfl
  have hlt5 : w.heap.size < w5.heap.size := (Array.getElem?_eq_some_iff.1 hbx5).1
  have HB5 := Lib.hid hbx5
  clear hbx5
  go_wp2_with fail
  refine (text_is c q HQ.out (by omega) _).mono ?_
  rintro e w6 ⟨rfl, b6⟩
  have hbx6 := (b6.block w.heap.size hlt5).trans HB5.out
  have c6 := c5.trans (b6.mono c5.size)
  clear k0 k1 k2 k3 b6 c5
  have k0 : w6.cell? ⟨w.heap.size, 0, none⟩ = some (.string a) := by rw [Lib.cell_of_heap hbx6]; rfl
  have k1 : w6.cell? ⟨w.heap.size, 1, none⟩ = some (.string b) := by rw [Lib.cell_of_heap hbx6]; rfl
  have k2 : w6.cell? ⟨w.heap.size, 2, none⟩ = some (.string c) := by rw [Lib.cell_of_heap hbx6]; rfl
  have k3 : w6.cell? ⟨w.heap.size, 3, none⟩ = some (.string d) := by rw [Lib.cell_of_heap hbx6]; rfl
  have hlt6 : w.heap.size < w6.heap.size := (Array.getElem?_eq_some_iff.1 hbx6).1
  have HB6 := Lib.hid hbx6
  clear hbx6
  go_wp2_with fail
  go_ret
  exact ⟨ret_bool (by simp), c6⟩

set_option maxHeartbeats 2000000 in
set_option maxRecDepth 100000 in
theorem escapeWhole_walk (a b c d : ByteArray) (ha : a.size ≤ 140737488351232) (hb' : b.size ≤ 140737488351232) (hc : c.size ≤ 140737488351232) (hd : d.size ≤ 140737488351232) (w : World) :
    Calls Try.prog 8 #[.agg #[.string a, .string b, .string c, .string d]] w fun e w' => e = .returned (.bool true) ∧ Below w.heap.size w w' := by
  rcases hb : beyond [(a.size : Int), b.size, c.size, d.size]
  · by_cases h1 : lb b = [] <;> by_cases h2 : lb c = []
    · exact whole_00 a b c d hb h1 h2 w
    · exact whole_01 a b c d hb h1 h2 w
    · exact whole_10 a b c d hb h1 h2 w
    · exact whole_11 a b c d hb h1 h2 w
  · go_enter Try.func8, Try.ntmps8
    go_wp2_with fail
    refine (alive_any _).mono ?_
    rintro e w1 ⟨rfl, b1⟩
    have hbx := (b1.block w.heap.size (by simp)).trans (heap_alloc_new w (.cells #[.string a, .string b, .string c, .string d] 23))
    have c1 : Below w.heap.size w w1 := ((Below.refl w.heap.size w).alloc (Nat.le_refl _) _).trans (b1.mono (by simp))
    have k0 : w1.cell? ⟨w.heap.size, 0, none⟩ = some (.string a) := by rw [Lib.cell_of_heap hbx]; rfl
    have k1 : w1.cell? ⟨w.heap.size, 1, none⟩ = some (.string b) := by rw [Lib.cell_of_heap hbx]; rfl
    have k2 : w1.cell? ⟨w.heap.size, 2, none⟩ = some (.string c) := by rw [Lib.cell_of_heap hbx]; rfl
    have k3 : w1.cell? ⟨w.heap.size, 3, none⟩ = some (.string d) := by rw [Lib.cell_of_heap hbx]; rfl
    clear b1 hbx
    go_wp2_with fail
    refine (beyond4' w1 w1.heap.size rfl a.size b.size c.size d.size ha hb' hc hd).mono ?_
    rintro e w' ⟨rfl, rfl⟩
    go_wp2_with fail
    refine (alive_any _).mono ?_
    rintro e w2 ⟨rfl, b2⟩
    have c2 := (c1.alloc c1.size (.cells #[.int .i64 (a.size : Int), .int .i64 (b.size : Int), .int .i64 (c.size : Int), .int .i64 (d.size : Int)] 3)).trans (b2.mono (by have := c1.size; simp; omega))
    go_wp2_with fail
    go_ret
    exact ⟨rfl, c2⟩
end Go.Proofs.Ytcjhaeppplmmjaa

/-
  EscapeTags: the walk.
-/
import Derived.Test.YtcjhaeppplmmjaaEBack
import Derived.Test.YtcjhaeppplmmjaaRefE
import Derived.Lib.QuietBelow
import Derived.BigQuiet
namespace Go.Proofs.Ytcjhaeppplmmjaa
open Go.RowKit Go.Sort
set_option linter.unusedVariables false

theorem beyond_no4 {a b c d : Nat} (h : beyond [(a : Int), (b : Int), (c : Int), (d : Int)] = false) : a ≤ 1048576 ∧ b ≤ 1048576 ∧ c ≤ 1048576 ∧ d ≤ 1048576 := by
  unfold beyond sumI at h
  simp at h
  omega
theorem tag_q {a b c d x : ByteArray} (h : Hid (Es.tag (lb a) (lb b) (lb c) (lb d) = lb x)) (h0 : a.size ≤ 1048576) (h1 : b.size ≤ 1048576) (h2 : c.size ≤ 1048576) (h3 : d.size ≤ 1048576) {w : World} (dd : Nat) (os : Array Obj) :
    Calls Try.prog 10 #[.string a, .string b, .string c, .string d] (grow (redrawn w dd) os) fun e w'' => e = .returned (.string x) ∧ ∃ p : Regrown, w'' = grow (redrawn w p.d) p.os :=
  Calls.regrown_of (tag_is a b c d x h.out h0 h1 h2 h3 _)
theorem refTag_q {a b c d x : ByteArray} (h : Hid (Es.tag (lb a) (lb b) (lb c) (lb d) = lb x)) (h0 : a.size ≤ 1048576) (h1 : b.size ≤ 1048576) (h2 : c.size ≤ 1048576) (h3 : d.size ≤ 1048576) {w : World} (dd : Nat) (os : Array Obj) :
    Calls Try.prog 11 #[.string a, .string b, .string c, .string d] (grow (redrawn w dd) os) fun e w'' => e = .returned (.string x) ∧ ∃ p : Regrown, w'' = grow (redrawn w p.d) p.os := by
  refine Calls.regrown_of ((refTag_any a b c d _ h0 h1 h2 h3).mono ?_)
  rintro e w' ⟨⟨y, rfl, hy⟩, hb⟩
  obtain rfl : y = x := lb_inj'' (hy.trans h.out)
  exact ⟨rfl, hb⟩

theorem beyond4' (w : World) (g : Nat) (hg : g = w.heap.size) (a b c d : Nat) (ha : a ≤ 140737488351232) (hb : b ≤ 140737488351232) (hc : c ≤ 140737488351232) (hd : d ≤ 140737488351232) :
    Calls Try.prog 9 #[.slice (some ⟨g, 0, none⟩) 4 4] (w.alloc (.cells #[.int .i64 (a : Int), .int .i64 (b : Int), .int .i64 (c : Int), .int .i64 (d : Int)] 3)) fun e w' => e = .returned (.bool (beyond [(a : Int), b, c, d])) ∧ w.alloc (.cells #[.int .i64 (a : Int), .int .i64 (b : Int), .int .i64 (c : Int), .int .i64 (d : Int)] 3) = w' := by
  subst hg
  exact beyond4 w a b c d ha hb hc hd
set_option maxHeartbeats 1000000 in
set_option maxRecDepth 100000 in
theorem escapeTags_walk (a b c d : ByteArray) (ha : a.size ≤ 140737488351232) (hb' : b.size ≤ 140737488351232) (hc : c.size ≤ 140737488351232) (hd : d.size ≤ 140737488351232) (w : World) :
    Calls Try.prog 3 #[.agg #[.string a, .string b, .string c, .string d]] w fun e w' => e = .returned (.bool true) ∧ Below w.heap.size w w' := by
  rcases hb : beyond [(a.size : Int), b.size, c.size, d.size]
  · obtain ⟨z0, z1, z2, z3⟩ := beyond_no4 hb
    obtain ⟨x, hx⟩ : ∃ x : ByteArray, Es.tag (lb a) (lb b) (lb c) (lb d) = lb x := ⟨⟨(Es.tag (lb a) (lb b) (lb c) (lb d)).toArray⟩, (lb_toArray _).symm⟩
    have HX := Lib.hid hx
    clear hx
    go_enter Try.func3, Try.ntmps3
    go_wp2_with fail
    refine (beyond4' (w.alloc (.cells #[.string a, .string b, .string c, .string d] 23)) (w.heap.size + 1) (by simp) a.size b.size c.size d.size ha hb' hc hd).mono ?_
    rintro e w' ⟨rfl, rfl⟩
    have hbx := heap_alloc_new w (.cells #[.string a, .string b, .string c, .string d] 23)
    have c1 : Below w.heap.size w ((w.alloc (.cells #[.string a, .string b, .string c, .string d] 23)).alloc (.cells #[.int .i64 (a.size : Int), .int .i64 (b.size : Int), .int .i64 (c.size : Int), .int .i64 (d.size : Int)] 3)) := ((Below.refl _ _).alloc (Nat.le_refl _) _).alloc (by simp) _
    have hbx2 := (Below.heap_alloc (w.alloc (.cells #[.string a, .string b, .string c, .string d] 23)) (.cells #[.int .i64 (a.size : Int), .int .i64 (b.size : Int), .int .i64 (c.size : Int), .int .i64 (d.size : Int)] 3) w.heap.size (by simp)).trans hbx
    go_wp2_with fail
    generalize (w.alloc (.cells #[.string a, .string b, .string c, .string d] 23)).alloc (.cells #[.int .i64 (a.size : Int), .int .i64 (b.size : Int), .int .i64 (c.size : Int), .int .i64 (d.size : Int)] 3) = w1 at *
    have k0 := cell_regrown (a := ⟨w.heap.size, 0, none⟩) (v := .string a) (by rw [Lib.cell_of_heap hbx2]; rfl)
    have k1 := cell_regrown (a := ⟨w.heap.size, 1, none⟩) (v := .string b) (by rw [Lib.cell_of_heap hbx2]; rfl)
    have k2 := cell_regrown (a := ⟨w.heap.size, 2, none⟩) (v := .string c) (by rw [Lib.cell_of_heap hbx2]; rfl)
    have k3 := cell_regrown (a := ⟨w.heap.size, 3, none⟩) (v := .string d) (by rw [Lib.cell_of_heap hbx2]; rfl)
    clear hbx hbx2 hb
    have hself : (x.toList == x.toList) = true := by simp
    refine wp_region_quiet_below (by kernel_rfl) (by kernel_rfl) ?_
    repeat (any_goals (first | go_big_quiet_step (first | (go_at_call 10; exact tag_q HX z0 z1 z2 z3 _ _) | (go_at_call 11; exact refTag_q HX z0 z1 z2 z3 _ _)) | quiet_step (first | (go_at_call 10; exact tag_q HX z0 z1 z2 z3 _ _) | (go_at_call 11; exact refTag_q HX z0 z1 z2 z3 _ _))))
    refine wpQuiet_nil ?_
    intro _ hw'
    obtain ⟨⟨dq, osq⟩, rfl⟩ := hw'
    go_wp2_with fail
    go_ret
    exact ⟨ret_bool (by simp), c1.trans ((below_regrown w1 dq osq).mono c1.size)⟩
  · go_enter Try.func3, Try.ntmps3
    go_wp2_with fail
    refine (beyond4' (w.alloc (.cells #[.string a, .string b, .string c, .string d] 23)) (w.heap.size + 1) (by simp) a.size b.size c.size d.size ha hb' hc hd).mono ?_
    rintro e w' ⟨rfl, rfl⟩
    go_wp2_with fail
    go_ret
    exact ⟨rfl, ((Below.refl _ _).alloc (Nat.le_refl _) _).alloc (by simp) _⟩
end Go.Proofs.Ytcjhaeppplmmjaa

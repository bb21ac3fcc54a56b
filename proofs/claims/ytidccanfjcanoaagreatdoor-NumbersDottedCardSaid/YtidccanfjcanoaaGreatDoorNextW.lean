/-
  numbers.Next: the walk.
-/
import Derived.Test.YtidccanfjcanoaaGreatDoorIntW
import Derived.Laws.CopyOwn
namespace Go.Proofs.YtidccanfjcanoaaGreatDoor
open Go.RowKit
set_option linter.unusedVariables false

def badNum (x : Int) : Prop := x < 0 ∨ 3999 < x
/-- The numbers as far as the level, noughts behind. -/
def pad (l : List Int) (L : Nat) : List Int := (l ++ [0, 0, 0]).take L

theorem infoInt : (Tryz.prog.info? 3).map (fun i => (i.zero, i.size, i.bytes)) = some (some (.int .i64 0), 1, 8) := by kernel_rfl

/-- Block g is just these cells. -/
def RowOf (w : World) (g e : Nat) (xs : List Value) : Prop := w.heap[g]? = some (.cells xs.toArray e (0, 0))
theorem RowOf.cell {w : World} {g e : Nat} {xs : List Value} (h : RowOf w g e xs) (j : Nat) (v : Value) (hj : xs[j]? = some v) : w.cell? ⟨g, j, none⟩ = some v := by
  unfold RowOf at h
  simp [World.cell?, h, hj]
theorem RowOf.frozen {w : World} {g e : Nat} {xs : List Value} (h : RowOf w g e xs) (j : Nat) : w.frozen? ⟨g, j, none⟩ = false := by
  unfold RowOf at h
  simp [World.frozen?, h]
theorem RowOf.set {w : World} {g e : Nat} {xs : List Value} (h : RowOf w g e xs) (j : Nat) (v : Value) : RowOf (w.setCell ⟨g, j, none⟩ v) g e (xs.set j v) := by
  unfold RowOf at *
  simp [World.setCell, Array.getElem?_modify, h]
theorem RowOf.own {w : World} {g e n base : Nat} {xs : List Value} (h : RowOf w g e xs) (hb : base ≤ g) (hn : xs.length = n) (hm : n ≤ maxLen) : w.ownsRow base e 1 (.slice (some ⟨g, 0, none⟩) n n) n xs :=
  ⟨by rw [hn, Nat.mul_one], .inr ⟨g, n, xs.toArray, rfl, hb, h, Nat.le_refl _, hm, by simp [hn], by simp [← hn]⟩⟩
theorem RowOf.of_made {w : World} {g e n base : Nat} {xs : List Value} (h : w.ownsRow base e 1 (.slice (some ⟨g, 0, none⟩) n n) n xs) : RowOf w g e xs := by
  rcases h.2 with ⟨h0, _⟩ | ⟨g', cap, cur, hv, _, hg, _, _, hs, ht⟩
  · cases h0
  · injection hv with h1 _ h2
    obtain rfl : g = g' := by simpa using h1
    subst h2
    unfold RowOf
    rw [hg]
    congr 2
    rw [List.take_of_length_le (by simp [hs])] at ht
    rw [← ht]
theorem pad_length (l : List Int) (L : Nat) (h : L ≤ 3) : (pad l L).length = L := by
  unfold pad
  rw [List.length_take, List.length_append]; simp; omega
theorem take_pad (l : List Int) (L : Nat) (h : L ≤ 3) : (l.take L).map (Value.int .i64) ++ (List.replicate L (Value.int .i64 0)).drop (Nat.min l.length L) = (pad l L).map (Value.int .i64) := by
  unfold pad
  rw [List.take_append, List.map_append]
  congr 1
  rcases (by omega : L = 0 ∨ L = 1 ∨ L = 2 ∨ L = 3) with rfl | rfl | rfl | rfl <;> rcases l with _ | ⟨a, _ | ⟨b, _ | ⟨c, r⟩⟩⟩ <;> simp [List.replicate]
theorem min_take (l : List Int) (L : Nat) : ((l.take L).map (Value.int .i64)).length = Nat.min l.length L := by
  rw [List.length_map, List.length_take]; exact Nat.min_comm _ _
set_option maxRecDepth 100000 in
theorem copy_pad (w : World) (g n c L : Nat) (A : Option Addr) (l : List Int) (hl : l.length = n) (hL : L ≤ 3) (h : RowOf w g 3 (List.replicate L (.int .i64 0))) (hA : IR w A l) :
    ∃ k w', (Builtin.copy_ #[48, 48] 3 #[.slice (some ⟨g, 0, none⟩) L L, .slice A n c]).run Tryz.prog w = .ok (goInt k) w' ∧ RowOf w' g 3 ((pad l L).map (Value.int .i64)) ∧ ∀ B, B ≤ g → Below B w w' := by
  have hsz : (Tryz.prog.info? 3).map (·.size) = some 1 := by kernel_rfl
  by_cases hn : Nat.min n L = 0
  · refine ⟨0, w, run_copy_none w _ _ _ 3 _ _ _ _ _ _ Tryz.underlying48 hsz hn, ?_, fun B _ => Below.refl B w⟩
    rw [← take_pad l L hL, hl, hn, List.drop_zero]
    have : (l.take L).map (Value.int .i64) = [] := List.eq_nil_of_length_eq_zero (by rw [min_take, hl, hn])
    rw [this]
    exact h
  · have hne : l ≠ [] := by
      rintro rfl
      simp at hl
      subst hl
      simp at hn
    obtain ⟨b, o, rfl, hbl, hc⟩ := hA hne
    have hcl := min_take l L
    have hr := run_copy_row (P := Tryz.prog) w 48 48 3 3 g 0 L L ⟨b, o, none⟩ n c (List.replicate L (Value.int .i64 0)).toArray 3 ((l.take L).map (Value.int .i64)) Tryz.underlying48 hsz h (by rw [hcl, hl])
      (by
        intro j v hj
        rw [List.getElem?_map] at hj
        obtain ⟨x, hx, rfl⟩ := Option.map_eq_some_iff.1 hj
        have hjl : j < l.length := by
          have := (List.getElem?_eq_some_iff.1 hx).1
          rw [List.length_take] at this; omega
        rw [Addr.add_lit, hc j hjl]
        have hj2 : j < L := by
          have := (List.getElem?_eq_some_iff.1 hx).1
          rw [List.length_take] at this; omega
        rw [List.getElem?_take_of_lt hj2] at hx
        rw [List.getD_eq_getElem?_getD, hx]; rfl)
      (by rw [hcl]; simp [Nat.min_le_right])
      (by
        intro v hv
        obtain ⟨x, _, rfl⟩ := List.mem_map.1 hv
        rfl)
    refine ⟨_, _, hr, ?_, fun B hB => below_setRow (Below.refl B w) hB _⟩
    have := setRow_heap w g _ ((List.replicate L (Value.int .i64 0)).toArray.toList.take 0 ++ (l.take L).map (Value.int .i64) ++ (List.replicate L (Value.int .i64 0)).toArray.toList.drop (0 + ((l.take L).map (Value.int .i64)).length)).toArray 3 (0, 0) h
    unfold RowOf
    rw [this]
    congr 2
    rw [List.take_zero, List.nil_append, Nat.zero_add, hcl, ← take_pad l L hL]

/-- What Next answers: 'there is no more', or the row, its last number greater. -/
def NextPost (last : Int) (cells : List Value) (g L : Nat) (e : Ending) (w' : World) : Prop :=
  (3999 ≤ last ∧ e = .returned (.tuple #[.slice none 0 0, .int .i64 3])) ∨
  (last < 3999 ∧ e = .returned (.tuple #[.slice (some ⟨g, 0, none⟩) L L, .int .i64 0]) ∧ RowOf w' g 3 (cells.set (L - 1) (.int .i64 (last + 1))))

set_option maxHeartbeats 2000000 in
set_option maxRecDepth 100000 in
theorem next_good (A : Option Addr) (n c L : Nat) (l : List Int) (hl : l.length = n) (hn : n ≤ 3) (h1 : 1 ≤ L) (h3 : L ≤ 3) (hx : ∀ x ∈ l, 0 ≤ x ∧ x ≤ 3999) (w : World) (hA : IR w A l) :
    Calls Tryz.prog 14 #[.slice A n c, .int .i64 L] w fun e w' =>
      NextPost ((pad l L).getD (L - 1) 0) ((pad l L).map (Value.int .i64)) w.heap.size L e w' ∧ Below w.heap.size w w' := by
  have hni : ¬ (3 : Int) < (n : Int) := by omega
  obtain ⟨i0, hi, hz0, hz1, hz2⟩ := info_parts infoInt
  have hlast : ((pad l L).map (Value.int .i64))[L - 1]? = some (.int .i64 ((pad l L).getD (L - 1) 0)) := by
    have := pad_length l L h3
    rw [List.getElem?_map, List.getD_eq_getElem?_getD, List.getElem?_eq_getElem (by omega)]; rfl
  have hrange : 0 ≤ (pad l L).getD (L - 1) 0 ∧ (pad l L).getD (L - 1) 0 ≤ 3999 := by
    rw [List.getD_eq_getElem?_getD]
    cases hq : (pad l L)[L - 1]? with
    | none => constructor <;> decide
    | some x =>
      have := List.mem_of_getElem? hq
      have := List.mem_of_mem_take this
      rcases List.mem_append.1 this with h | h
      · exact hx x h
      · simp at h; subst h; constructor <;> decide
  have HC := Lib.hid (fun w1 (hm : RowOf w1 w.heap.size 3 (List.replicate L (.int .i64 0))) (hA1 : IR w1 A l) => copy_pad w1 w.heap.size n c L A l hl h3 hm hA1)
  obtain ⟨cells, hcells⟩ : ∃ cells, cells = (pad l L).map (Value.int .i64) := ⟨_, rfl⟩
  obtain ⟨last, hlastd⟩ : ∃ last, last = (pad l L).getD (L - 1) 0 := ⟨_, rfl⟩
  rw [← hcells] at hlast HC ⊢
  rw [← hlastd] at hlast hrange ⊢
  have HA := Lib.hid hA
  have HL := Lib.hid hl
  have HX := Lib.hid hx
  have HLast := Lib.hid hlast
  obtain ⟨hr0, hr1⟩ := hrange
  clear hA hl hx hcells hlastd hlast
  rcases (by omega : L = 1 ∨ L = 2 ∨ L = 3) with rfl | rfl | rfl
  · go_enter Tryz.func14, Tryz.ntmps14
    go_wp2_with fail
    go_loop [22] (fun i => ∃ k : Nat, k ≤ n ∧ i = .int .i64 k) (fun i => n - (intOf i).toNat)
    case atStart => exact ⟨0, Nat.zero_le _, rfl⟩
    case round =>
      obtain ⟨k, hk, rfl⟩ := hrel
      by_cases hlt : k < n
      · obtain ⟨b, o, rfl, hbl, hc⟩ := HA.out (by intro h0; have := HL.out; rw [h0] at this; simp at this; omega)
        have c1 := hc k (by rw [HL.out]; exact hlt)
        have hx := HX.out (l.getD k 0) (by rw [getDI l k (by rw [HL.out]; exact hlt)]; exact List.getElem_mem _)
        clear hc
        generalize l.getD k 0 = x at *
        obtain ⟨hx0, hx1⟩ := hx
        go_wp2_with fail
        go_round
        case rel => exact ⟨k + 1, by omega, by go_num⟩
        case measure => simp [intOf]; omega
      · have hkn : k = n := by omega
        subst hkn
        go_wp2_with (at_make; go_must (refine wpList_make_full _ rfl _ _ 48 rfl w.heap.size 3 i0 (.int .i64 0) 1 Tryz.underlying48 hi hz0 hz1 .i64 .i64 _ _ 1 rfl rfl rfl rfl (by rw [hz2]; omega) (by unfold maxLen; omega) (Nat.le_refl _) ?_; intro w1 hown hgrow))
        have hb1 : Below w.heap.size w w1 := (Below.refl _ _).grown hgrow (Nat.le_refl _) (fun k h => by cases h)
        obtain ⟨q, w2, hrun, hrow, hb2⟩ := HC.out w1 (RowOf.of_made (base := w.heap.size) (by simpa [Value.cells, toList_madeCells_one] using hown)) (HA.out.below hb1)
        have c2 := hb1.trans (hb2 _ (Nat.le_refl _))
        have hc := hrow.cell 0 _ HLast.out
        have hf := hrow.frozen 0
        have HR := Lib.hid hrow
        rw [hrun]
        clear hown hgrow hb1 hrun hrow hb2
        simp only [Result.andThen]
        rw [Oper.upon_value]
        by_cases hbig : 3999 ≤ last
        · go_wp2_with fail
          go_ret2
          exact ⟨.inl ⟨hbig, rfl⟩, c2⟩
        · have hsmall : last < 3999 := by omega
          go_wp2_with fail
          go_ret2
          exact ⟨.inr ⟨hsmall, rfl, HR.out.set _ _⟩, c2.setCell (p := ⟨w.heap.size, 0, none⟩) (Nat.le_refl _) _⟩
  · go_enter Tryz.func14, Tryz.ntmps14
    go_wp2_with fail
    go_loop [22] (fun i => ∃ k : Nat, k ≤ n ∧ i = .int .i64 k) (fun i => n - (intOf i).toNat)
    case atStart => exact ⟨0, Nat.zero_le _, rfl⟩
    case round =>
      obtain ⟨k, hk, rfl⟩ := hrel
      by_cases hlt : k < n
      · obtain ⟨b, o, rfl, hbl, hc⟩ := HA.out (by intro h0; have := HL.out; rw [h0] at this; simp at this; omega)
        have c1 := hc k (by rw [HL.out]; exact hlt)
        have hx := HX.out (l.getD k 0) (by rw [getDI l k (by rw [HL.out]; exact hlt)]; exact List.getElem_mem _)
        clear hc
        generalize l.getD k 0 = x at *
        obtain ⟨hx0, hx1⟩ := hx
        go_wp2_with fail
        go_round
        case rel => exact ⟨k + 1, by omega, by go_num⟩
        case measure => simp [intOf]; omega
      · have hkn : k = n := by omega
        subst hkn
        go_wp2_with (at_make; go_must (refine wpList_make_full _ rfl _ _ 48 rfl w.heap.size 3 i0 (.int .i64 0) 1 Tryz.underlying48 hi hz0 hz1 .i64 .i64 _ _ 2 rfl rfl rfl rfl (by rw [hz2]; omega) (by unfold maxLen; omega) (Nat.le_refl _) ?_; intro w1 hown hgrow))
        have hb1 : Below w.heap.size w w1 := (Below.refl _ _).grown hgrow (Nat.le_refl _) (fun k h => by cases h)
        obtain ⟨q, w2, hrun, hrow, hb2⟩ := HC.out w1 (RowOf.of_made (base := w.heap.size) (by simpa [Value.cells, toList_madeCells_one] using hown)) (HA.out.below hb1)
        have c2 := hb1.trans (hb2 _ (Nat.le_refl _))
        have hc := hrow.cell 1 _ HLast.out
        have hf := hrow.frozen 1
        have HR := Lib.hid hrow
        rw [hrun]
        clear hown hgrow hb1 hrun hrow hb2
        simp only [Result.andThen]
        rw [Oper.upon_value]
        by_cases hbig : 3999 ≤ last
        · go_wp2_with fail
          go_ret2
          exact ⟨.inl ⟨hbig, rfl⟩, c2⟩
        · have hsmall : last < 3999 := by omega
          go_wp2_with fail
          go_ret2
          exact ⟨.inr ⟨hsmall, rfl, HR.out.set _ _⟩, c2.setCell (p := ⟨w.heap.size, 1, none⟩) (Nat.le_refl _) _⟩
  · go_enter Tryz.func14, Tryz.ntmps14
    go_wp2_with fail
    go_loop [22] (fun i => ∃ k : Nat, k ≤ n ∧ i = .int .i64 k) (fun i => n - (intOf i).toNat)
    case atStart => exact ⟨0, Nat.zero_le _, rfl⟩
    case round =>
      obtain ⟨k, hk, rfl⟩ := hrel
      by_cases hlt : k < n
      · obtain ⟨b, o, rfl, hbl, hc⟩ := HA.out (by intro h0; have := HL.out; rw [h0] at this; simp at this; omega)
        have c1 := hc k (by rw [HL.out]; exact hlt)
        have hx := HX.out (l.getD k 0) (by rw [getDI l k (by rw [HL.out]; exact hlt)]; exact List.getElem_mem _)
        clear hc
        generalize l.getD k 0 = x at *
        obtain ⟨hx0, hx1⟩ := hx
        go_wp2_with fail
        go_round
        case rel => exact ⟨k + 1, by omega, by go_num⟩
        case measure => simp [intOf]; omega
      · have hkn : k = n := by omega
        subst hkn
        go_wp2_with (at_make; go_must (refine wpList_make_full _ rfl _ _ 48 rfl w.heap.size 3 i0 (.int .i64 0) 1 Tryz.underlying48 hi hz0 hz1 .i64 .i64 _ _ 3 rfl rfl rfl rfl (by rw [hz2]; omega) (by unfold maxLen; omega) (Nat.le_refl _) ?_; intro w1 hown hgrow))
        have hb1 : Below w.heap.size w w1 := (Below.refl _ _).grown hgrow (Nat.le_refl _) (fun k h => by cases h)
        obtain ⟨q, w2, hrun, hrow, hb2⟩ := HC.out w1 (RowOf.of_made (base := w.heap.size) (by simpa [Value.cells, toList_madeCells_one] using hown)) (HA.out.below hb1)
        have c2 := hb1.trans (hb2 _ (Nat.le_refl _))
        have hc := hrow.cell 2 _ HLast.out
        have hf := hrow.frozen 2
        have HR := Lib.hid hrow
        rw [hrun]
        clear hown hgrow hb1 hrun hrow hb2
        simp only [Result.andThen]
        rw [Oper.upon_value]
        by_cases hbig : 3999 ≤ last
        · go_wp2_with fail
          go_ret2
          exact ⟨.inl ⟨hbig, rfl⟩, c2⟩
        · have hsmall : last < 3999 := by omega
          go_wp2_with fail
          go_ret2
          exact ⟨.inr ⟨hsmall, rfl, HR.out.set _ _⟩, c2.setCell (p := ⟨w.heap.size, 2, none⟩) (Nat.le_refl _) _⟩

set_option maxHeartbeats 1000000 in
set_option maxRecDepth 100000 in
theorem next_level (A : Option Addr) (n c : Nat) (level : Int) (h : level < 1 ∨ 3 < level) (w : World) :
    Calls Tryz.prog 14 #[.slice A n c, .int .i64 level] w fun e w' => e = .returned (.tuple #[.slice none 0 0, .int .i64 1]) ∧ w' = w := by
  rcases h with h | h
  all_goals
    go_enter Tryz.func14, Tryz.ntmps14
    go_wp2_with fail
    go_ret2
    exact ⟨rfl, rfl⟩
end Go.Proofs.YtidccanfjcanoaaGreatDoor

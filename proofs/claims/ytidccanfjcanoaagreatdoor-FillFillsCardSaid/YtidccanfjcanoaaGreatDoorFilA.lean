/-
  fill.filled: the lines, told one by one: the closure that tells a line, by contract.
-/
import Derived.Test.YtidccanfjcanoaaGreatDoorRng
import Derived.Test.YtidccanfjcanoaaGreatDoorSigW
import Derived.Test.YtidccanfjcanoaaGreatDoorShelf
import Derived.Test.YtidccanfjcanoaaGreatDoorTextW
import Derived.Lib.Join
import Derived.Shelf.Abstract
import Derived.Shelf.RegionOpen
import Derived.TacticsInMore
import Derived.LoopNIn
import Derived.LoopIn
import Derived.Deep.RegionLaw
import Derived.Deep.AppendLies
namespace Go.Proofs.YtidccanfjcanoaaGreatDoor
open Go.RowKit Go.Shelf
set_option linter.unusedVariables false

/-! ### plain -/
/-- What a row of words weighs. -/
def wt (L : List (List UInt8)) : Nat := (L.map (fun w => w.length + 1)).sum
theorem wt_cons (w : List UInt8) (L : List (List UInt8)) : wt (w :: L) = w.length + 1 + wt L := by simp [wt]
theorem wt_append (L M : List (List UInt8)) : wt (L ++ M) = wt L + wt M := by simp [wt]
theorem wt_tail (L : List (List UInt8)) : ((L.map (32 :: ·)).flatten).length = wt L := by
  induction L with
  | nil => rfl
  | cons w L ih => rw [List.map_cons, List.flatten_cons, List.length_append, ih, wt_cons]; simp
theorem glue_wt (L : List (List UInt8)) : (Fi.glue L).length ≤ wt L := by
  cases L with
  | nil => simp [Fi.glue]
  | cons w L =>
    show (w ++ (L.map (32 :: ·)).flatten).length ≤ _
    rw [List.length_append, wt_tail, wt_cons]; omega
theorem length_wt (L : List (List UInt8)) : L.length ≤ wt L := by
  induction L with
  | nil => simp
  | cons w L ih => rw [wt_cons, List.length_cons]; omega
theorem join_glue (xs : List ByteArray) (h : xs ≠ []) : Lib.join (xs.map (·.data.toList)) ([32] : List UInt8) = Fi.glue (xs.map lb) := by
  cases xs with
  | nil => exact absurd rfl h
  | cons x r => rw [List.map_cons, Lib.join_cons]; rfl
def glueB (xs : List ByteArray) : ByteArray := ⟨(Fi.glue (xs.map lb)).toArray⟩
theorem lb_glueB (xs : List ByteArray) : lb (glueB xs) = Fi.glue (xs.map lb) := by simp [glueB, lb]

/-- strings.Join of a row of one's own, a blank between each two. -/
theorem joinRow (B g cap : Nat) (xs : List ByteArray) (w : World) (hne : xs ≠ []) (hown : w.ownsRow B 9 1 (.slice (some ⟨g, 0, none⟩) xs.length cap) xs.length (xs.map Value.string)) (hwt : wt (xs.map lb) ≤ 1099511627776) :
    Calls Tryz.prog 127 #[.slice (some ⟨g, 0, none⟩) xs.length cap, .string ⟨#[32]⟩] w fun e w' => e = .returned (.string (glueB xs)) ∧ Below w.heap.size w w' := by
  have hl := length_wt (xs.map lb)
  rw [List.length_map] at hl
  have hgl := glue_wt (xs.map lb)
  have hjg := join_glue xs hne
  obtain ⟨hcap, hglt⟩ : xs.length ≤ cap ∧ g < w.heap.size := by
    rcases hown.2 with ⟨h, _⟩ | ⟨g', cap', cur, h, _, hg, h3, _⟩
    · cases h
    · injection h with h7 _ h8
      obtain rfl : g = g' := by injection h7 with h7; injection h7
      subst h8
      exact ⟨h3, (Array.getElem?_eq_some_iff.1 hg).1⟩
  refine (Tryz.strings_Join g 0 cap xs ⟨#[32]⟩ w (fun j x hx => ?_) hglt (by omega) hcap (by
    show (Lib.join _ ([32] : List UInt8)).length ≤ _
    rw [hjg]; omega)).mono ?_
  · have hj : j < xs.length := (List.getElem?_eq_some_iff.1 hx).1
    rw [Nat.zero_add, hown.cellAt j (by omega)]
    simp [hx]
  · rintro e w' ⟨rfl, h⟩
    refine ⟨?_, h⟩
    show Ending.returned (.string ⟨(Lib.join _ ([32] : List UInt8)).toArray⟩) = _
    rw [hjg]; rfl

/-! ### the iterator's own memory: yield, line, wide in the boxes B, B + 1, B + 2 -/
structure FilS (B l : Nat) (cur : List ByteArray) (lv : Value) (A : World) : Prop where
  yield : Boxed A B 47 (.func (.yield l) #[] #[])
  line : Boxed A (B + 1) 23 lv
  wide : Boxed A (B + 2) 3 (.int .i64 ((Fi.sigs (Fi.glue (cur.map lb)) : Nat) : Int))
  own : A.ownsRow B 9 1 lv cur.length (cur.map Value.string)
/-- The body's row is none of the iterator's blocks. -/
def SepR (B : Nat) (o : Option Nat) (lv : Value) : Prop := ∀ r, o = some r → B + 3 ≤ r ∧ lv.ownBlock ≠ some r
/-- What the body's invariant J promises the iterator. -/
structure BodyR (B n1 l N : Nat) (J : List ByteArray → Option Nat → World → Prop) : Prop where
  n1B : n1 ≤ B
  lB : l < B
  ab : AbidesR B J
  lt : ∀ pre o A, J pre o A → ∀ r, o = some r → r < A.heap.size ∧ r ≠ l
  tell : ∀ pre o x A, J pre o A → pre.length < N → ∀ m, YieldAt Fence.wide m Tryz.prog l #[.string x] A fun e A' => e = .returned (.bool true) ∧ ∃ o', J (pre ++ [x]) o' A' ∧ KeepsR n1 (some l) o o' A A'

theorem own_same {A A' : World} {B e sz n : Nat} {v : Value} {xs : List Value} (h : A.ownsRow B e sz v n xs) (hs : ∀ g, v.ownBlock = some g → A'.heap[g]? = A.heap[g]?) : A'.ownsRow B e sz v n xs := by
  rcases h with ⟨hl, ⟨rfl, h0⟩ | ⟨g, cap, cur, rfl, hb, hg, rest⟩⟩
  · exact ⟨hl, .inl ⟨rfl, h0⟩⟩
  · exact ⟨hl, .inr ⟨g, cap, cur, rfl, hb, (hs g rfl).trans hg, rest⟩⟩
theorem FilS.same {B l : Nat} {cur : List ByteArray} {lv : Value} {A A' : World} (h : FilS B l cur lv A) (hs : ∀ k, B ≤ k → k < A.heap.size → (k < B + 3 ∨ lv.ownBlock = some k) → A'.heap[k]? = A.heap[k]?) : FilS B l cur lv A' :=
  ⟨(hs B (Nat.le_refl _) h.yield.lt (.inl (by omega))).trans h.yield, (hs (B + 1) (by omega) h.line.lt (.inl (by omega))).trans h.line, (hs (B + 2) (by omega) h.wide.lt (.inl (by omega))).trans h.wide,
    own_same h.own (fun g hg => hs g (h.own.lt g hg).1 (h.own.lt g hg).2 (.inr hg))⟩
theorem FilS.below {B l : Nat} {cur : List ByteArray} {lv : Value} {A A' : World} (h : FilS B l cur lv A) (hb : Below A.heap.size A A') : FilS B l cur lv A' := h.same (fun k _ hk _ => hb.block k hk)
theorem grownBelow {w w' : World} {row : Option Nat} (h : Below w.heap.size w w') : w.grownBy w' row := ⟨h.os, h.tape, h.output, h.size, fun k hk _ => h.block k hk⟩
theorem BodyR.below {B n1 l N : Nat} {J : List ByteArray → Option Nat → World → Prop} (h : BodyR B n1 l N J) {pre : List ByteArray} {o : Option Nat} {A A' : World} (hj : J pre o A) (hb : Below A.heap.size A A') : J pre o A' :=
  h.ab pre o A A' none hj (grownBelow hb) (fun r e => by cases e)
theorem BodyR.set {B n1 l N : Nat} {J : List ByteArray → Option Nat → World → Prop} (h : BodyR B n1 l N J) {pre : List ByteArray} {o : Option Nat} {A : World} (hj : J pre o A) (k : Nat) (hk : B ≤ k) (hko : some k ≠ o) (v : Value) : J pre o (A.setCell ⟨k, 0, none⟩ v) :=
  h.ab pre o A _ (some k) hj (grownBy_setCell' A k v) (fun r e => by cases e; exact ⟨hk, hko⟩)
theorem SepR.ne {B : Nat} {o : Option Nat} {lv : Value} (h : SepR B o lv) (k : Nat) (hk : k < B + 3) : some k ≠ o := fun e => by have := (h k e.symm).1; omega

/-- Behind the line's reslice and the two stores. -/
theorem tell_stored {B l g cap : Nat} {cur : List ByteArray} {A : World} (h : FilS B l cur (.slice (some ⟨g, 0, none⟩) cur.length cap) A) :
    FilS B l [] (.slice (some ⟨g, 0, none⟩) 0 cap) ((A.setCell ⟨B + 1, 0, none⟩ (.slice (some ⟨g, 0, none⟩) 0 cap)).setCell ⟨B + 2, 0, none⟩ (.int .i64 0)) := by
  have n1 := h.line.not_row (by decide) h.own
  have n2 := h.wide.not_row (by decide) h.own
  have k1 := grownBy_setCell' A (B + 1) (.slice (some ⟨g, 0, none⟩) 0 cap)
  have k2 := grownBy_setCell' (A.setCell ⟨B + 1, 0, none⟩ (.slice (some ⟨g, 0, none⟩) 0 cap)) (B + 2) (.int .i64 0)
  refine ⟨(h.yield.kept k1 (by simp)).kept k2 (by simp), (h.line.set _).kept k2 (by simp), ?_, ?_⟩
  · exact (h.wide.kept k1 (by simp)).set _
  · have := (h.own.kept k1 (.inr n1.symm)).kept k2 (.inr n2.symm)
    refine ⟨rfl, .inr ?_⟩
    rcases this.2 with ⟨hh, _⟩ | ⟨g', cap', cu, hh, hb, hg, h3, h4, h5, h6⟩
    · cases hh
    · injection hh with h7 _ h8
      obtain rfl : g = g' := by injection h7 with h7; injection h7
      subst h8
      exact ⟨g, cap, cu, rfl, hb, hg, Nat.zero_le _, h4, h5, by simp⟩

attribute [local go_sem] Oper.semAt_some
theorem wideAsked {P : Program} {o : Oper} {a : Act} {C : World → Prop} : Oper.askedIn Fence.wide P o a C ↔ True := ⟨fun _ => trivial, fun _ _ _ _ _ => trivial⟩
theorem wideDepth : Fence.wide.depth = none := rfl
theorem wideRound : Fence.wide.round = none := rfl
theorem wideFn (f : FuncId) : Fence.wide.fn f ↔ True := Iff.rfl
attribute [local go_sem ↓] wideAsked
attribute [local go_sem] wideDepth wideRound wideFn

/-- What is so behind a line that was told. -/
structure Told (B n1 l : Nat) (J : List ByteArray → Option Nat → World → Prop) (pre : List ByteArray) (A A' : World) (o : Option Nat) (lv' : Value) (o' : Option Nat) : Prop where
  st : FilS B l [] lv' A'
  j : J pre o' A'
  sep : SepR B o' lv'
  size : A.heap.size ≤ A'.heap.size
  old : ∀ k, n1 ≤ k → k < B → k ≠ l → A'.heap[k]? = A.heap[k]?
theorem told_of {B n1 l N g cap : Nat} {J : List ByteArray → Option Nat → World → Prop} (hB : BodyR B n1 l N J) {pre : List ByteArray} {A A1 A2 A3 : World} {o o' : Option Nat} (hb1 : Below A.heap.size A A1) (hBA : B + 3 ≤ A.heap.size)
    (h2 : FilS B l [] (.slice (some ⟨g, 0, none⟩) 0 cap) A2) (hs2 : A2.heap.size = A1.heap.size) (hk2 : ∀ k, k < B → A2.heap[k]? = A1.heap[k]?) (hsep : SepR B o (.slice (some ⟨g, 0, none⟩) 0 cap)) (hg : g < A2.heap.size)
    (hj3 : J pre o' A3) (hkp : KeepsR n1 (some l) o o' A2 A3) : Told B n1 l J pre A A3 o (.slice (some ⟨g, 0, none⟩) 0 cap) o' := by
  have hn1 := hB.n1B
  have hl := hB.lB
  have hs1 := hb1.size
  have hs3 := hkp.size
  refine ⟨h2.same (fun k h1 h2' h3 => hkp.block k (by omega) h2' (fun e => ?_) (fun e => by injection e with e; omega)), hj3, fun r e => ?_, by omega, fun k h1 h2' h3 => ?_⟩
  · have := hsep k e.symm
    rcases h3 with h3 | h3
    · omega
    · exact this.2 h3
  · rcases hkp.row r e with h | h
    · exact hsep r h
    · refine ⟨by omega, fun e2 => ?_⟩
      have : g = r := by simpa [Value.ownBlock] using e2
      omega
  · refine (hkp.block k h1 (by omega) (fun e => by have := (hsep k e.symm).1; omega) (fun e => h3 (by injection e))).trans ((hk2 k h2').trans (hb1.block k (by omega)))

set_option maxRecDepth 100000 in
set_option maxHeartbeats 1000000 in
theorem tell_any (B n1 l N : Nat) (J : List ByteArray → Option Nat → World → Prop) (hB : BodyR B n1 l N J) (cur : List ByteArray) (hne : cur ≠ []) (hwt : wt (cur.map lb) ≤ 1099511627776) (lv : Value) (pre : List ByteArray) (hN : pre.length < N) (o : Option Nat) (A : World)
    (hS : FilS B l cur lv A) (hj : J pre o A) (hsep : SepR B o lv) (hBA : B + 3 ≤ A.heap.size) :
    Calls Tryz.prog 126 #[.pointer (some ⟨B + 1, 0, none⟩), .pointer (some ⟨B + 2, 0, none⟩), .pointer (some ⟨B, 0, none⟩)] A fun e A' => e = .returned (.bool true) ∧ ∃ lv' o', Told B n1 l J (pre ++ [glueB cur]) A A' o lv' o' := by
  have hpos : 0 < cur.length := List.length_pos_iff.2 hne
  obtain ⟨g, cap, rfl, hglt⟩ : ∃ g cap, lv = .slice (some ⟨g, 0, none⟩) cur.length cap ∧ g < A.heap.size := by
    obtain ⟨g, cap, h1, h2, h3⟩ := hS.own.form hpos
    exact ⟨g, cap, h1, h3⟩
  have cl := hS.line.cell
  have hz : ((cur.length : Int) == 0) = false := beq_eq_false_iff_ne.2 (by omega)
  have HJ := Lib.hid (joinRow B g cap cur A hne hS.own hwt)
  have HS := Lib.hid hS
  have Hj := Lib.hid hj
  have Hsep := Lib.hid hsep
  have HBR := Lib.hid hB
  have Hne := Lib.hid hne
  clear hS hj hsep hB hwt hne
  refine (callsIn_wide (n := 3)).1 ?_
  refine callsIn_of_wp Tryz.func126 rfl trivial ?_ rfl
  simp only [Tryz.ntmps126, List.size_toArray, List.length_cons, List.length_nil, Nat.reduceAdd, Nat.reduceSub, Array.replicate_succ, Array.replicate_zero, List.push_toArray, List.append_toArray, List.nil_append, List.cons_append]
  gi_wp2_with (gi_at_call 127; refine (callsIn_wide.2 HJ.out).mono ?_; rintro e A1 ⟨rfl, hb1⟩; have hS1 := HS.out.below hb1; have cl1 := hS1.line.cell; have fl1 := hS1.line.frozen; have cw1 := hS1.wide.cell; have fw1 := hS1.wide.frozen; have st := tell_stored hS1; have cy2 := st.yield.cell; have hj2 := HBR.out.set (HBR.out.set (HBR.out.below Hj.out hb1) (B + 1) (by omega) (Hsep.out.ne _ (by omega)) (.slice (some ⟨g, 0, none⟩) 0 cap)) (B + 2) (by omega) (Hsep.out.ne _ (by omega)) (.int .i64 0); obtain ⟨fn, tmps, assign, body, hy, hR⟩ := HBR.out.tell pre o (glueB cur) _ hj2 hN 2; have HB1 := Lib.hid hb1; have Hst := Lib.hid st; clear hb1 hS1 st hj2)
  refine hR.mono ?_
  rintro e A3 ⟨rfl, o', hj3, hkp⟩
  have hT : Told B n1 l J (pre ++ [glueB cur]) A A3 o (.slice (some ⟨g, 0, none⟩) 0 cap) o' :=
    told_of HBR.out HB1.out hBA Hst.out (by simp [World.setCell]) (fun k hk => by
      exact (Below.heap_setCell _ _ _ k (by show k ≠ B + 2; omega)).trans (Below.heap_setCell _ _ _ k (by show k ≠ B + 1; omega))) (fun r e => ⟨(Hsep.out r e).1, (Hsep.out r e).2⟩) (by have := HB1.out.size; simp [World.setCell]; omega) hj3 hkp
  have HT := Lib.hid hT
  clear hT hj3 hkp
  gi_wp2
  go_ret
  exact ⟨rfl, _, _, HT.out⟩
end Go.Proofs.YtidccanfjcanoaaGreatDoor

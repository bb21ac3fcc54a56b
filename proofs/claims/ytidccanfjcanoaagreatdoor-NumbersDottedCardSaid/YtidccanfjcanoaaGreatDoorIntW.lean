/-
  Rows of ints; SameInts by contract; the table of powers of ten.
-/
import Derived.Test.YtidccanfjcanoaaGreatDoorBase
import Derived.Test.YtidccanfjcanoaaGreatDoorFlat
import Derived.Lib.ItoaNum
import Derived.Lib.ItoaLen
import Derived.Lib.AppendIntMem
import Derived.BigQuiet
namespace Go.Proofs.YtidccanfjcanoaaGreatDoor
open Go.RowKit
set_option linter.unusedVariables false

/-- A slice's address leads to the ints l. -/
def IR (w : World) (A : Option Addr) (l : List Int) : Prop := l ≠ [] → ∃ b off, A = some ⟨b, off, none⟩ ∧ b < w.heap.size ∧ ∀ j, j < l.length → w.cell? ⟨b, off + j, none⟩ = some (.int .i64 (l.getD j 0))
theorem IR.below {w w' : World} {A : Option Addr} {l : List Int} (h : IR w A l) (hb : Below w.heap.size w w') : IR w' A l := by
  intro hn
  obtain ⟨b, off, rfl, hlt, hc⟩ := h hn
  exact ⟨b, off, rfl, Nat.lt_of_lt_of_le hlt hb.size, fun j hj => (hb.cell (p := ⟨b, off + j, none⟩) hlt).trans (hc j hj)⟩
theorem IR.nil (w : World) (A : Option Addr) : IR w A [] := fun h => absurd rfl h
theorem below_drewN {B : Nat} {a w : World} (h : Below B a w) (n : Nat) : Below B a (w.drewN n) := ⟨h.os, h.tape, h.output, h.size, h.block⟩
theorem IR.drewN {w : World} {A : Option Addr} {l : List Int} (h : IR w A l) (q : Nat) : IR (w.drewN q) A l := h.below (below_drewN (Below.refl _ _) q)
theorem IR.of_own {w : World} {base e n c : Nat} {A : Option Addr} {l : List Int} (h : w.ownsRow base e 1 (.slice A n c) n (l.map (Value.int .i64))) : l.length = n ∧ IR w A l := by
  have hn : l.length = n := by have := h.1; simpa using this
  refine ⟨hn, fun hne => ?_⟩
  have hpos : 0 < n := by
    rcases Nat.eq_zero_or_pos n with h0 | h0
    · exact absurd (List.eq_nil_of_length_eq_zero (hn.trans h0)) hne
    · exact h0
  have h0 := h
  rcases h.2 with ⟨_, h1⟩ | ⟨g, cap, cur, hv, _, hg, _⟩
  · omega
  · injection hv with hA hn' hc
    subst hA
    refine ⟨g, 0, rfl, (Array.getElem?_eq_some_iff.1 hg).1, fun j hj => ?_⟩
    rw [Nat.zero_add, h0.cellAt j (by omega)]
    simp [List.getD_eq_getElem?_getD, List.getElem?_eq_getElem hj]
theorem IR.of_lit (w : World) (t : Nat) (l : List Int) : IR (w.alloc (.cells (l.map (Value.int .i64)).toArray t)) (some ⟨w.heap.size, 0, none⟩) l := by
  intro _
  refine ⟨w.heap.size, 0, rfl, by simp, fun j hj => ?_⟩
  rw [Nat.zero_add, World.cell?_alloc_at (hn := rfl)]
  simp [List.getD_eq_getElem?_getD, List.getElem?_eq_getElem hj]
theorem getDI (l : List Int) (k : Nat) (h : k < l.length) : l.getD k 0 = l[k] := by
  rw [List.getD_eq_getElem?_getD, List.getElem?_eq_getElem h]; rfl

set_option maxHeartbeats 2000000 in
set_option maxRecDepth 100000 in
theorem sameInts_any (A B : Option Addr) (n m c d : Nat) (xs ys : List Int) (w : World) (hx : xs.length = n) (hy : ys.length = m) (hn : n ≤ 1099511627776) (hm : m ≤ 1099511627776) (ha : IR w A xs) (hb : IR w B ys) :
    Calls Tryz.prog 18 #[.slice A n c, .slice B m d] w fun e w' => e = .returned (.bool (decide (xs = ys))) ∧ ∃ q, w.drewN q = w' := by
  by_cases hlen : n = m
  · subst hlen
    have HA := Lib.hid ha
    have HB := Lib.hid hb
    have HX := Lib.hid hx
    have HY := Lib.hid hy
    clear ha hb hx hy
    go_enter Tryz.func18, Tryz.ntmps18
    go_wp2_with fail
    go_loopw [5] (fun i wr => ∃ k : Nat, k ≤ n ∧ i = .int .i64 k ∧ xs.take k = ys.take k ∧ ∃ q, w.drewN q = wr) (fun i _ => n - (intOf i).toNat)
    case atStart => exact ⟨0, Nat.zero_le _, rfl, rfl, 0, rfl⟩
    case round =>
      obtain ⟨k, hk, rfl, heq, q, rfl⟩ := hrel
      by_cases hlt : k < n
      · obtain ⟨b1, o1, rfl, _, hc1⟩ := HA.out (by intro h0; rw [h0] at HX; have := HX.out; simp at this; omega)
        obtain ⟨b2, o2, rfl, _, hc2⟩ := HB.out (by intro h0; rw [h0] at HY; have := HY.out; simp at this; omega)
        have c1 := hc1 k (by rw [HX.out]; exact hlt)
        have c2 := hc2 k (by rw [HY.out]; exact hlt)
        have HE := Lib.hid heq
        clear hc1 hc2 heq
        have hi0 : (0 : Int) ≤ (k : Int) := Int.natCast_nonneg _
        have hi1 : (k : Int) < (n : Int) := by omega
        have e1 := Lib.hid (getDI xs k (by rw [HX.out]; exact hlt))
        have e2 := Lib.hid (getDI ys k (by rw [HY.out]; exact hlt))
        have s1 : Hid (xs.take (k + 1) = xs.take k ++ [xs.getD k 0]) := Lib.hid (by rw [e1.out]; exact List.take_succ_eq_append_getElem (by rw [HX.out]; exact hlt))
        have s2 : Hid (ys.take (k + 1) = ys.take k ++ [ys.getD k 0]) := Lib.hid (by rw [e2.out]; exact List.take_succ_eq_append_getElem (by rw [HY.out]; exact hlt))
        generalize xs.getD k 0 = x at *
        generalize ys.getD k 0 = y at *
        clear e1 e2
        by_cases hxy : x = y
        · subst hxy
          have hbb : (x == x) = true := by simp
          have hbn' : (x != x) = false := by simp
          go_wp2_with fail
          go_quiet (fail)
          go_wp2_with fail
          go_roundw
          case rel => exact ⟨k + 1, by omega, by go_num, by rw [s1.out, s2.out, HE.out], _, rfl⟩
          case measure => simp [intOf]; omega
        · have hbb : (x == y) = false := by simp [hxy]
          have hbn' : (x != y) = true := by rw [bne, hbb]; rfl
          have HN := Lib.hid hxy
          clear hxy
          go_wp2_with fail
          go_quiet (fail)
          go_wp2_with fail
          go_ret
          refine ⟨ret_bool ?_, _, (World.drewN_drewN _ _ _).symm⟩
          symm
          rw [decide_eq_false_iff_not]
          rintro rfl
          have := s1.out.symm.trans s2.out
          simp at this
          exact HN.out this
      · have : k = n := by omega
        subst this
        have HE := Lib.hid heq
        clear heq
        go_wp2_with fail
        go_ret
        refine ⟨ret_bool ?_, q, rfl⟩
        have := HE.out
        rw [List.take_of_length_le (by rw [HX.out]; exact Nat.le_refl _), List.take_of_length_le (by rw [HY.out]; exact Nat.le_refl _)] at this
        rw [decide_eq_true this]
  · have hne : xs ≠ ys := by rintro rfl; exact hlen (hx.symm.trans hy)
    have HNE := Lib.hid hne
    have hlen' : (n : Int) ≠ (m : Int) := by omega
    clear hne ha hb hx hy
    go_enter Tryz.func18, Tryz.ntmps18
    go_wp2_with fail
    go_ret
    exact ⟨ret_bool (by rw [decide_eq_false HNE.out]), 0, rfl⟩

/-! ### the table of powers of ten -/
theorem tabIs_below {w w' : World} {B g : Nat} {name : String} {k : IntKind} {zs : List Int} (hg : Tryz.prog.globalNamed name = some g) (h : Lib.TabIs Tryz.prog w name k zs) (hb : Below B w w') (hB : g < B) : Lib.TabIs Tryz.prog w' name k zs := by
  unfold Lib.TabIs World.var? at *
  rw [hg] at h ⊢
  simp only [Option.bind_some] at h ⊢
  rw [hb.block g hB]
  exact h
theorem tabIs_of_laid {P : Program} {W : World} {l : List (String × DataW Unit)} {n : String} {d : DataW Unit} {g m : Nat} {t : TypeId} {k : IntKind} {zs : List Int} (h : laidMet P l W) (hm : (n, d) ∈ l)
    (hg : P.globalNamed n = some g) (hty : (P.globals[g]?).map (·.type) = some t) (hp : flatT P m t = true) (hd : flat m d = zs.map (Value.int k)) : Lib.TabIs P W n k zs := by
  obtain ⟨ps, hv, _⟩ := h
  obtain ⟨g', t', cs, fuel, p, hg', ht', hvar, htr⟩ := laidVars_mem hv hm
  obtain rfl := Option.some.inj (hg.symm.trans hg')
  obtain rfl := Option.some.inj (hty.symm.trans ht')
  unfold Lib.TabIs
  have := trod_flat m fuel t cs.toList (d, p) hp htr
  rw [hvar]
  congr 1
  rw [← hd, this]
end Go.Proofs.YtidccanfjcanoaaGreatDoor

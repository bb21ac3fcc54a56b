/-
  PAGES: the spans of an own row of notes; rows of notes, one behind the other.
-/
import Derived.Test.YtlgodkjbilkloaaDoorPgQ
import Derived.Laws.AppendOwnNone
namespace Go.Proofs.YtlgodkjbilkloaaDoor
open Go.RowKit
set_option linter.unusedVariables false

theorem NtRow.below {B n : Nat} {xs : List ByteArray} {v : Value} {hs : List Nat} {w w' : World} (h : NtRow B xs n v hs w) (hb : Below w.heap.size w w') : NtRow B xs n v hs w' :=
  ⟨h.len, h.own.kept (row := none) (grown_of hb) (none_or' _), fun j h1 h2 => by
    obtain ⟨q1, q2, q3⟩ := h.kids j h1 h2
    exact ⟨q1, q2, (hb.block _ (Array.getElem?_eq_some_iff.1 q3).1).trans q3⟩⟩
theorem NtRow.base {B B' n : Nat} {xs : List ByteArray} {v : Value} {hs : List Nat} {w : World} (h : NtRow B xs n v hs w) (hb : B' ≤ B) : NtRow B' xs n v hs w :=
  ⟨h.len, ownsRow_base h.own hb, fun j h1 h2 => ⟨Nat.le_trans hb (h.kids j h1 h2).1, (h.kids j h1 h2).2⟩⟩
theorem NtRow.kid_lt {B n : Nat} {xs : List ByteArray} {v : Value} {hs : List Nat} {w : World} (h : NtRow B xs n v hs w) (hx : xs.length = n) (j : Nat) (h1 : j < hs.length) : hs[j] < w.heap.size :=
  (Array.getElem?_eq_some_iff.1 (h.kids j h1 (by rw [hx, ← h.len]; exact h1)).2.2).1
theorem NtRow.own_lt {B n : Nat} {xs : List ByteArray} {v : Value} {hs : List Nat} {w : World} (h : NtRow B xs n v hs w) (g : Nat) (e : v.ownBlock = some g) : g < w.heap.size := (h.own.lt g e).2
theorem NtRow.nil {B : Nat} (w : World) : NtRow B [] 0 (.slice none 0 0) [] w := ⟨rfl, World.ownsRow_nil _ _ _ _, fun j h1 => by simp at h1⟩
/-- Two rows, one behind the other. -/
theorem NtRow.append {B k m g cap : Nat} {zs ys : List ByteArray} {v u : Value} {hs js : List Nat} {w w' : World} (hz : NtRow B zs k v hs w) (hzl : zs.length = k) (hy : NtRow B ys m u js w) (hyl : ys.length = m)
    (hown : w'.ownsRow B 27 5 (.slice (some ⟨g, 0, none⟩) (k + m) cap) (k + m) (ntC hs ++ ntC js)) (hgrow : w.grownBy w' v.ownBlock) (hat : v.ownBlock = some g ∨ g = w.heap.size) (hne : ∀ j (h : j < js.length), v.ownBlock ≠ some js[j]) :
    NtRow B (zs ++ ys) (k + m) (.slice (some ⟨g, 0, none⟩) (k + m) cap) (hs ++ js) w' := by
  have keep : ∀ q, q < w.heap.size → v.ownBlock ≠ some q → w'.heap[q]? = w.heap[q]? := fun q hq hne => hgrow.block q hq (fun e => hne e.symm)
  have far : ∀ q, q < w.heap.size → v.ownBlock ≠ some q → (Value.slice (some ⟨g, 0, none⟩) (k + m) cap).ownBlock ≠ some q := fun q hq hne e => by
    obtain rfl : g = q := by simpa [Value.ownBlock] using e
    rcases hat with h | h
    · exact hne h
    · omega
  refine ⟨by rw [List.length_append, hz.len, hy.len], by rw [ntC_append]; exact hown, fun j h1 h2 => ?_⟩
  by_cases hj : j < hs.length
  · have hj2 : j < zs.length := by rw [hzl, ← hz.len]; exact hj
    obtain ⟨q1, q2, q3⟩ := hz.kids j hj hj2
    have hl := (Array.getElem?_eq_some_iff.1 q3).1
    rw [List.getElem_append_left hj]
    refine ⟨q1, far _ hl q2, (keep _ hl q2).trans ?_⟩
    rw [q3, List.getElem_append_left hj2]
  · have e1 : hs.length ≤ j := by omega
    have e2 : zs.length ≤ j := by rw [hzl, ← hz.len]; exact e1
    have hlen : zs.length = hs.length := by rw [hzl, hz.len]
    have hjj : j - hs.length < js.length := by rw [List.length_append] at h1; omega
    obtain ⟨q1, q2, q3⟩ := hy.kids (j - hs.length) hjj (by rw [hyl, ← hy.len]; exact hjj)
    have hl := (Array.getElem?_eq_some_iff.1 q3).1
    rw [List.getElem_append_right e1]
    refine ⟨q1, far _ hl (hne _ hjj), (keep _ hl (hne _ hjj)).trans ?_⟩
    rw [q3, List.getElem_append_right e2]
    simp only [hlen]
set_option maxRecDepth 100000 in
theorem spans_row (gp : Nat) (hgp : Pow10At gp) (B n : Nat) (xs : List ByteArray) (v : Value) (hs : List Nat) (w : World) (h : NtRow B xs n v hs w) (hx : xs.length = n) (hn : n ≤ 300) (hsz : ∀ k (h : k < xs.length), xs[k].size ≤ 100000) (f : Int) (hf : 0 ≤ f ∧ f ≤ 1000) (hPw : Pow10 w) :
    Calls Tryd.prog 6 #[v, .slice none 0 0, .int .i64 f] w fun e w' => ∃ a c', e = .returned (.tuple #[.string ⟨(hdsF f n).toArray⟩, .slice a n c']) ∧ w'.ownsRow w.heap.size 9 1 (.slice a n c') n ((xs.map escB).map Value.string) ∧ Below w.heap.size w w' := by
  rcases h.own.2 with ⟨hv, h0⟩ | ⟨g, cap, cur, hv, hg, hc, h1, h2, h3, h4⟩
  · subst h0
    obtain rfl : xs = [] := List.eq_nil_of_length_eq_zero hx
    subst hv
    exact spans_genA hgp (spans_nil gp none 0 f) w (fun p hp => by simp at hp) (fun p hp => by simp at hp) hPw
  · subst hv
    have hlg := (Array.getElem?_eq_some_iff.1 hc).1
    have hcur : ∀ i, i < n * 5 → cur[i]? = (ntC hs)[i]? := fun i hi => by
      rw [← h4, List.getElem?_take_of_lt hi, Array.getElem?_toList]
    have hk : ∀ p ∈ (hs.zip xs), p.1 < w.heap.size ∧ w.heap[p.1]? = some (.cells (spC 0 p.2 (.slice none 0 0)) 27 (0, 0)) := fun p hp => by
      obtain ⟨j, hj, e⟩ := List.getElem_of_mem hp
      rw [List.length_zip] at hj
      rw [List.getElem_zip] at e
      obtain ⟨q1, q2, q3⟩ := h.kids j (by omega) (by omega)
      rw [← e]
      exact ⟨(Array.getElem?_eq_some_iff.1 q3).1, q3⟩
    have hlt : ∀ p ∈ ntM g cur hs xs, p.1 < w.heap.size := fun p hp => by
      rcases List.mem_cons.1 hp with rfl | hp
      · exact hlg
      · obtain ⟨q, hq, rfl⟩ := List.mem_map.1 hp
        exact (hk q hq).1
    have hM : Mem (ntM g cur hs xs) w := fun p hp => by
      rcases List.mem_cons.1 hp with rfl | hp
      · exact hc
      · obtain ⟨q, hq, rfl⟩ := List.mem_map.1 hp
        exact (hk q hq).2
    have H := spans_genA hgp (spans_notes gp n cap g hgp cur hs xs h.len hx hn hcur hsz f hf) w hlt hM hPw
    have hl : (xs.map escB).length = n := by rw [List.length_map, hx]
    rw [hl] at H
    exact H

/-! ### the sizes -/
def szs (xs : List ByteArray) : Nat → Nat
  | 0 => 0
  | k + 1 => szs xs k + (xs.getD k ByteArray.empty).size
theorem szs_mono (xs : List ByteArray) : ∀ (d k : Nat), szs xs k ≤ szs xs (k + d)
  | 0, k => Nat.le_refl _
  | d + 1, k => Nat.le_trans (szs_mono xs d k) (by show szs xs (k + d) ≤ szs xs (k + d) + _; omega)
theorem szs_elem (xs : List ByteArray) (k : Nat) (h : k < xs.length) : (xs[k]).size ≤ szs xs xs.length := by
  have := szs_mono xs (xs.length - (k + 1)) (k + 1)
  rw [show k + 1 + (xs.length - (k + 1)) = xs.length by omega] at this
  have h2 : szs xs (k + 1) = szs xs k + (xs.getD k ByteArray.empty).size := rfl
  rw [List.getD_eq_getElem?_getD, List.getElem?_eq_getElem h] at h2
  have h3 : ((some xs[k]).getD ByteArray.empty) = xs[k] := rfl
  rw [h3] at h2
  omega
theorem szs_le (xs : List ByteArray) (hs : ∀ i, (xs.getD i ByteArray.empty).size ≤ 140737488351232) : ∀ k, szs xs k ≤ k * 140737488351232
  | 0 => Nat.le_refl _
  | k + 1 => by have := szs_le xs hs k; have := hs k; show szs xs k + _ ≤ _; omega

/-! ### append of a row of notes -/
theorem ntC_one (js : List Nat) : ∀ u ∈ ntC js, u.oneCell' = true := by
  intro u hu
  simp only [ntC, List.mem_flatten, List.mem_map] at hu
  obtain ⟨l, ⟨h, _, rfl⟩, hu⟩ := hu
  simp only [List.mem_cons, List.not_mem_nil, or_false] at hu
  rcases hu with rfl | rfl | rfl | rfl | rfl <;> rfl
set_option maxRecDepth 100000 in
theorem wpList_append_notes {ops : Array Oper} {rest : List Oper} {o : Oper} {a : Act} {w : World} {Q : Exit → Act → World → Prop} (hgd : o.guard = none) (s x : Operand)
    (ho : o.op = .call { callee := .builtin .append, args := #[s, x], argTypes := #[25, 25] }) (B k m : Nat) (v u : Value) (hs js : List Nat) (zs ys : List ByteArray) (hsv : a.eval s = v) (hxv : a.eval x = u)
    (hz : NtRow B zs k v hs w) (hzl : zs.length = k) (hy : NtRow B ys m u js w) (hyl : ys.length = m) (hu0 : m = 0 → u = .slice none 0 0) (hv0 : k = 0 → v = .slice none 0 0) (hne : ∀ j (h : j < js.length), v.ownBlock ≠ some js[j]) (hle : k + m ≤ 1000) (hB : B ≤ w.heap.size)
    (h : ∀ v' w', NtRow B (zs ++ ys) (k + m) v' (hs ++ js) w' → (v'.ownBlock = v.ownBlock ∨ v'.ownBlock = some w.heap.size) → w.grownBy w' v.ownBlock → (k + m = 0 → v' = .slice none 0 0) → wpList Tryd.prog ops Q rest (a.put o.dst v') w') : wpList Tryd.prog ops Q (o :: rest) a w := by
  obtain ⟨i0, hi0, hz0, hz1, hz2⟩ := info_parts infoSpan
  rcases Nat.eq_zero_or_pos m with h0 | hm
  · subst h0
    obtain rfl : ys = [] := List.eq_nil_of_length_eq_zero hyl
    obtain rfl : js = [] := List.eq_nil_of_length_eq_zero hy.len
    rw [hu0 rfl] at hxv
    refine wpList_append_own_none hgd s x 25 ho B 27 i0 5 Tryd.underlying25 hi0 v k (ntC hs) hsv hz.own hxv ?_
    refine h v w ?_ (.inl rfl) ⟨rfl, rfl, rfl, Nat.le_refl _, fun _ _ _ => rfl⟩ (fun e => hv0 (by omega))
    simpa using hz
  · rcases hy.own.2 with ⟨_, h0⟩ | ⟨g, cap, cur, hv, hg, hc, h1, h2, h3, h4⟩
    · omega
    · subst hv
      have hnews : ∀ j q, (ntC js)[j]? = some q → w.cell? ((⟨g, 0, none⟩ : Addr).add j) = some q := fun j q hq => by
        have hj : j < m * 5 := by
          have := (List.getElem?_eq_some_iff.1 hq).1
          rw [ntC_length, hy.len] at this
          exact this
        have e : (⟨g, 0, none⟩ : Addr).add j = ⟨g, j, none⟩ := by simp [Addr.add]; exact fun e => e.symm
        rw [e, Lib.cell_of_heap hc, ← hq, ← h4, List.getElem?_take_of_lt hj, Array.getElem?_toList]
      refine wpList_append_lies _ hgd s x 25 ho B 27 i0 (.agg #[.int .u8 0, .string ⟨#[]⟩, .string ⟨#[]⟩, .string ⟨#[]⟩, .slice none 0 0]) 5 80 Tryd.underlying25 hi0 hz0 hz1 hz2 rfl (by decide) v k _ hsv hz.own ⟨g, 0, none⟩ m cap (ntC js) hxv (by rw [ntC_length, hy.len]) hnews (ntC_one js) hm (by unfold maxLen; omega) (by omega) hB w.heap.size rfl ?_
      intro g6 cap6 w6 hown6 hgrow6 hat6 hlt6
      refine h _ w6 (hz.append hzl hy hyl hown6 hgrow6 hat6 hne) ?_ hgrow6 (fun e => absurd e (by omega))
      rcases hat6 with h6 | h6
      · exact .inl (by rw [h6]; rfl)
      · exact .inr (by rw [← h6]; rfl)
end Go.Proofs.YtlgodkjbilkloaaDoor

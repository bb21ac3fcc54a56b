/-
  Book.Apart: growText.
-/
import Derived.Test.YtidccanfjcanoaaGreatDoorAptF
namespace Go.Proofs.YtidccanfjcanoaaGreatDoor
open Go.RowKit
set_option linter.unusedVariables false

section
variable {P : Program} {w : World}
/-- append onto a row of one's own: what it leaves of the old block. -/
theorem run_append_keep (base : Nat) (t ty e : TypeId) (i : TypeInfo) (z : Value) (bytes : Nat) (ht : P.underlying t = some (.slice e)) (hi : P.info? e = some i) (hz : i.zero = some z)
    (hsize : i.size = 1) (hby : i.bytes = bytes) (hzs : z.cells.size = 1)
    (v : Value) (n : Nat) (xs : List Value) (hown : w.ownsRow base e 1 v n xs)
    (a : Addr) (c : Nat) (u : Value) (hnews : ∀ j x, [u][j]? = some x → w.cell? (a.add j) = some x) (h1 : ∀ x ∈ [u], x.oneCell' = true)
    (h63 : n + 1 ≤ maxLen) (hbytes : (n + 1) * bytes ≤ 140737488355328) (hbase : base ≤ w.heap.size) :
    ∃ v' w', (Builtin.append_ #[t, t] ty #[v, .slice (some a) 1 c]).run P w = .ok v' w' ∧ w'.ownsRow base e 1 v' (n + 1) (xs ++ [u]) ∧
      ((v'.ownBlock = v.ownBlock ∧ w.grownBy w' v.ownBlock) ∨ (v'.ownBlock = some w.heap.size ∧ w.grownBy w' none)) := by
  obtain ⟨v', w', hr, h2, h3, h4, h5⟩ := run_append_own_at (P := P) w base t ty e i z 1 bytes ht hi hz hsize hby hzs (by decide) v n xs hown a 1 c [u] (by simp) hnews h1 h63 hbytes hbase
  refine ⟨v', w', hr, h2, ?_⟩
  rcases h5 with h5 | h5
  · exact .inl ⟨h5, h3⟩
  rcases hown.2 with ⟨rfl, rfl⟩ | ⟨g, cap, cur, rfl, hbg, hg, hnc, hcm, hcs, htake⟩
  · exact .inr ⟨h5, h3⟩
  by_cases hroom : n + 1 ≤ cap
  · have hr2 := run_append_room (P := P) w t ty e i ht hi g n cap cur hg a 1 c [u] (by simp [hsize]) hnews h1 hroom (by rw [hsize]; simp; omega)
    rw [hr] at hr2
    injection hr2 with e1 e2
    exact .inl ⟨by rw [e1]; rfl, h3⟩
  · have hr2 := run_append_grow (P := P) w t ty e i z ht hi hz ⟨g, 0, none⟩ n cap xs (by rw [hsize]; exact hown.1) (hown.cells (g := g) rfl) a 1 c [u] (by simp [hsize]) hnews (by omega) (by simp only [maxLen] at h63; omega) (growslice_fits (by omega) (by rw [hby]; exact hbytes))
    rw [hr] at hr2
    injection hr2 with e1 e2
    subst e2
    exact .inr ⟨h5, ⟨rfl, rfl, rfl, by simp, fun k hk _ => heap_alloc_old w.drew _ hk⟩⟩
theorem wpList_append_keep {ops : Array Oper} {rest : List Oper} {o : Oper} {a : Act} {Q : Exit → Act → World → Prop} (hgd : o.guard = none) (s x : Operand) (t : TypeId)
    (ho : o.op = .call { callee := .builtin .append, args := #[s, x], argTypes := #[t, t] })
    (base : Nat) (e : TypeId) (i : TypeInfo) (z : Value) (bytes : Nat) (ht : P.underlying t = some (.slice e)) (hi : P.info? e = some i) (hz : i.zero = some z)
    (hsize : i.size = 1) (hby : i.bytes = bytes) (hzs : z.cells.size = 1)
    (v : Value) (n : Nat) (xs : List Value) (hs : a.eval s = v) (hown : w.ownsRow base e 1 v n xs)
    (ad : Addr) (c : Nat) (u : Value) (hx : a.eval x = .slice (some ad) 1 c) (hnews : ∀ j x, [u][j]? = some x → w.cell? (ad.add j) = some x) (h1 : ∀ x ∈ [u], x.oneCell' = true)
    (h63 : n + 1 ≤ maxLen) (hbytes : (n + 1) * bytes ≤ 140737488355328) (hbase : base ≤ w.heap.size)
    (h : ∀ v' w', w'.ownsRow base e 1 v' (n + 1) (xs ++ [u]) → ((v'.ownBlock = v.ownBlock ∧ w.grownBy w' v.ownBlock) ∨ (v'.ownBlock = some w.heap.size ∧ w.grownBy w' none)) → wpList P ops Q rest (a.put o.dst v') w') :
    wpList P ops Q (o :: rest) a w := by
  refine wpList_plain hgd fun K hK => ?_
  obtain ⟨v', w', hr, h2, h3⟩ := run_append_keep (P := P) base t o.type e i z bytes ht hi hz hsize hby hzs v n xs hown ad c u hnews h1 h63 hbytes hbase
  unfold Oper.wp execOp
  simp only [ho, resolve, invoke, builtin, Sem.run_bind, Sem.run_pure, Result.andThen_ok, List.map_toArray, List.map_cons, List.map_nil, hs, hx, hr]
  exact hK _ _ (h v' w' h2 h3)
end

theorem own_succ {W : World} {base e k : Nat} {v : Value} {xs : List Value} (h : W.ownsRow base e 1 v (k + 1) xs) : ∃ g cap, v = .slice (some ⟨g, 0, none⟩) (k + 1) cap := by
  rcases h.2 with ⟨_, h0⟩ | ⟨g, cap, _, rfl, _⟩
  · omega
  · exact ⟨g, cap, rfl⟩
/-- The first n cells of a row are all u. -/
def AllIs (u : Value) (n : Nat) (v : Value) (w : World) : Prop := ∀ g cp, v = .slice (some ⟨g, 0, none⟩) n cp → ∀ k, k < n → w.cell? ⟨g, k, none⟩ = some u
theorem AllIs.of_own {w : World} {base e n : Nat} {v u : Value} (h : w.ownsRow base e 1 v n (List.replicate n u)) : AllIs u n v w := by
  intro g cp hv k hk
  subst hv
  have h1 := h.cellAt k (by simp; omega)
  rw [h1, List.getElem?_replicate, if_pos hk]
theorem AllIs.kept {u : Value} {n : Nat} {v : Value} {w w' : World} {row : Option Nat} (h : AllIs u n v w) (hg : w.grownBy w' row) (hr : v.ownBlock = none ∨ v.ownBlock ≠ row) (hlt : ∀ g, v.ownBlock = some g → g < w.heap.size) : AllIs u n v w' := by
  intro g cp hv k hk
  have h1 := h g cp hv k hk
  subst hv
  rw [← h1]
  refine World.cell?_of_block (hg.block g (hlt g rfl) ?_)
  rcases hr with e | e
  · simp [Value.ownBlock] at e
  · exact fun e2 => e (by rw [← e2]; rfl)
/-- append keeps the first cells of the row that it began with. -/
theorem AllIs.appended {u : Value} {n N : Nat} {v v' V0 : Value} {w w' : World} {base e : Nat} (h : AllIs u N V0 w) (hN : N ≤ n) (hV : ∀ g, V0.ownBlock = some g → g < w.heap.size)
    (hown : w'.ownsRow base e 1 v' (n + 1) (List.replicate (n + 1) u))
    (hk : (v'.ownBlock = v.ownBlock ∧ w.grownBy w' v.ownBlock) ∨ (v'.ownBlock = some w.heap.size ∧ w.grownBy w' none)) : AllIs u N V0 w' := by
  rcases hk with ⟨hb, hg⟩ | ⟨hb, hg⟩
  · by_cases hne : V0.ownBlock = v.ownBlock
    · intro g cp hv k hk
      obtain ⟨g', cap', rfl⟩ := own_succ hown
      have e1 : g' = g := by
        rw [← hne, hv] at hb
        simpa [Value.ownBlock] using hb
      subst e1
      have := hown.cellAt k (by simp; omega)
      rw [this, List.getElem?_replicate, if_pos (by omega)]
    · exact h.kept hg (.inr hne) hV
  · refine h.kept hg ?_ hV
    cases hq : V0.ownBlock with
    | none => exact .inl rfl
    | some g => exact .inr (by simp)

/-- What stands behind the growing of the first i rows. -/
structure GrowSt (K H m cap F B e : Nat) (bt ht : TypeId) (mk : Nat → Value) (V LL : Nat → Value) (N : Nat → Nat) (B1 i : Nat) (w : World) : Prop where
  held : Held K H m cap F bt ht V (fun j => if j < i then LL j else .slice none 0 0) w
  size : B1 ≤ w.heap.size
  new : ∀ j, j < i → w.ownsRow B e 1 (LL j) (N j + 40) (List.replicate (N j + 40) (mk (j + 1))) ∧ ((LL j).ownBlock = (V j).ownBlock ∨ ∃ g, B1 ≤ g ∧ (LL j).ownBlock = some g)
  old : ∀ j, i ≤ j → j < m → w.ownsRow B e 1 (V j) (N j) (List.replicate (N j) (mk (j + 1)))
  all : ∀ j, j < m → AllIs (mk (j + 1)) (N j) (V j) w
theorem Held.setLong {K H m cap F i : Nat} {bt ht : TypeId} {V LL : Nat → Value} {v : Value} {w : World} (hKH : K ≠ H) (hi : i < m) (h : Held K H m cap F bt ht V (fun j => if j < i then LL j else .slice none 0 0) w) :
    Held K H m cap F bt ht V (fun j => if j < i + 1 then (if j = i then v else LL j) else .slice none 0 0) (w.setCell ⟨H, i * 3 + 1, none⟩ v) := by
  have other : ∀ k, k ≠ i * 3 + 1 → (w.setCell ⟨H, i * 3 + 1, none⟩ v).cell? ⟨H, k, none⟩ = w.cell? ⟨H, k, none⟩ := fun k hk => World.cell?_setCell_other _ _ _ _ (fun e => hk (by injection e with _ e _; exact e.symm))
  refine ⟨?_, ?_, ?_, fun j hj => ?_, fun j hj => ?_, fun j hj => ?_⟩
  · rw [World.cell?_setCell_other _ _ _ _ (fun e => hKH (by injection e with e _ _; exact e.symm))]; exact h.book
  · rw [Below.heap_setCell _ _ _ _ hKH]; exact h.kb
  · obtain ⟨cur, hc⟩ := h.hb
    exact ⟨cur.setIfInBounds (i * 3 + 1) v, by simp [World.setCell, Array.getElem?_modify, hc]⟩
  · rw [other _ (by omega)]; exact h.l j hj
  · by_cases hij : j = i
    · subst hij
      have h1 : j < j + 1 := by omega
      simp only [h1, if_true]
      exact World.cell?_setCell_same _ _ _ (h.long j hj)
    · rw [other _ (by omega), h.long j hj]
      simp only [hij, if_false]
      by_cases h2 : j < i
      · rw [if_pos h2, if_pos (by omega)]
      · rw [if_neg h2, if_neg (by omega)]
  · rw [other _ (by omega)]; exact h.n j hj
theorem GrowSt.next {K H m cap F B e : Nat} {bt ht : TypeId} {mk : Nat → Value} {V LL : Nat → Value} {N : Nat → Nat} {B1 i : Nat} {w w2 : World} {v : Value} (hKH : K ≠ H) (hne : e ≠ ht) (hi : i < m) (hA : ApartV m V) (hVB : ∀ j, j < m → ∀ g, (V j).ownBlock = some g → g < B1)
    (h : GrowSt K H m cap F B e bt ht mk V LL N B1 i w) (hVH : ∀ j, j < m → (V j).ownBlock ≠ some H) (hVK : ∀ j, j < m → (V j).ownBlock ≠ some K) (hg : w.grownBy w2 (V i).ownBlock)
    (hv : w2.ownsRow B e 1 v (N i + 40) (List.replicate (N i + 40) (mk (i + 1)))) (hvb : v.ownBlock = (V i).ownBlock ∨ ∃ g, B1 ≤ g ∧ v.ownBlock = some g) (hall : AllIs (mk (i + 1)) (N i) (V i) w2) :
    GrowSt K H m cap F B e bt ht mk V (fun j => if j = i then v else LL j) N B1 (i + 1) (w2.setCell ⟨H, i * 3 + 1, none⟩ v) := by
  have held2 := h.held.same (hg.block K h.held.ltK (fun e => hVK i hi e.symm)) (hg.block H h.held.ltH (fun e => hVH i hi e.symm))
  have hset := grown_set w2 H (i * 3 + 1) v
  have keepH : ∀ {c : Value} {n : Nat} {ys : List Value}, w2.ownsRow B e 1 c n ys → (w2.setCell ⟨H, i * 3 + 1, none⟩ v).ownsRow B e 1 c n ys := fun ho => by
    obtain ⟨cur, hc⟩ := held2.hb
    exact ho.kept hset (.inr (own_ne ho hc hne))
  refine ⟨held2.setLong hKH hi, Nat.le_trans (Nat.le_trans h.size hg.size) hset.size, fun j hj => ?_, fun j hj hjm => ?_, fun j hj => ?_⟩
  · by_cases hij : j = i
    · subst hij
      simp only [if_true]
      exact ⟨keepH hv, hvb⟩
    · simp only [hij, if_false]
      obtain ⟨ho, hb⟩ := h.new j (by omega)
      refine ⟨keepH (ho.kept hg ?_), hb⟩
      rcases hb with hb | ⟨g, hg1, hb⟩
      · rw [hb]; exact hA j i (by omega) hi hij
      · refine .inr (fun e2 => ?_)
        have := hVB i hi g (by rw [← e2]; exact hb)
        omega
  · exact keepH ((h.old j (by omega) hjm).kept hg (hA j i hjm hi (by omega)))
  · have hlt2 : ∀ g, (V j).ownBlock = some g → g < w2.heap.size := fun g e2 => Nat.lt_of_lt_of_le (hVB j hj g e2) (Nat.le_trans h.size hg.size)
    refine AllIs.kept (row := some H) ?_ hset (.inr (hVH j hj)) hlt2
    by_cases hij : j = i
    · subst hij; exact hall
    · exact (h.all j hj).kept hg (hA j i hj hi hij) (fun g e2 => Nat.lt_of_lt_of_le (hVB j hj g e2) h.size)

/-- Within the growing of one row. -/
structure GrowIn (B e tH : Nat) (mk : Value) (n k : Nat) (V0 : Value) (cont : Array Value) (wo : World) (v : Value) (w : World) : Prop where
  blk : w.heap[wo.heap.size]? = some (.cells cont tH (0, 0))
  own : w.ownsRow B e 1 v (n + k) (List.replicate (n + k) mk)
  near : v.ownBlock = V0.ownBlock ∨ ∃ g, wo.heap.size ≤ g ∧ v.ownBlock = some g
  all : AllIs mk n V0 w
  grown : wo.grownBy w V0.ownBlock
theorem none_or (v : Value) : v.ownBlock = none ∨ v.ownBlock ≠ (none : Option Nat) := by cases v.ownBlock <;> simp
theorem GrowIn.next {B e tH : Nat} {mk : Value} {n k : Nat} {V0 : Value} {cont : Array Value} {wo w w3 w4 : World} {v v' : Value} (h : GrowIn B e tH mk n k V0 cont wo v w) (hne : e ≠ tH) (hV : ∀ g, V0.ownBlock = some g → g < wo.heap.size)
    (hg : w.grownBy w3 none) (hown : w4.ownsRow B e 1 v' (n + k + 1) (List.replicate (n + k) mk ++ [mk]))
    (hk : (v'.ownBlock = v.ownBlock ∧ w3.grownBy w4 v.ownBlock) ∨ (v'.ownBlock = some w3.heap.size ∧ w3.grownBy w4 none)) : GrowIn B e tH mk n (k + 1) V0 cont wo v' w4 := by
  have hlt : wo.heap.size < w.heap.size := (Array.getElem?_eq_some_iff.1 h.blk).1
  have blk3 : w3.heap[wo.heap.size]? = some (.cells cont tH (0, 0)) := (hg.block _ hlt (by simp)).trans h.blk
  have own3 : w3.ownsRow B e 1 v (n + k) (List.replicate (n + k) mk) := h.own.kept hg (none_or v)
  have own4 : w4.ownsRow B e 1 v' (n + k + 1) (List.replicate (n + k + 1) mk) := by rw [List.replicate_succ']; exact hown
  have hV3 : ∀ g, V0.ownBlock = some g → g < w3.heap.size := fun g e1 => Nat.lt_of_lt_of_le (hV g e1) (Nat.le_trans h.grown.size hg.size)
  have hlt3 : wo.heap.size < w3.heap.size := Nat.lt_of_lt_of_le hlt hg.size
  have all3 : AllIs mk n V0 w3 := h.all.kept hg (none_or V0) (fun g e1 => Nat.lt_of_lt_of_le (hV g e1) h.grown.size)
  have grown3 : wo.grownBy w3 V0.ownBlock := h.grown.andThen hg (fun _ e1 => by cases e1)
  refine ⟨?_, own4, ?_, all3.appended (by omega) hV3 own4 hk, ?_⟩
  · rcases hk with ⟨_, hk⟩ | ⟨_, hk⟩
    · exact (hk.block _ hlt3 (fun e1 => own_ne own3 blk3 hne e1.symm)).trans blk3
    · exact (hk.block _ hlt3 (by simp)).trans blk3
  · rcases hk with ⟨hb, _⟩ | ⟨hb, _⟩
    · rw [hb]; exact h.near
    · exact .inr ⟨_, Nat.le_of_lt hlt3, hb⟩
  · rcases hk with ⟨_, hk⟩ | ⟨_, hk⟩
    · refine grown3.andThen hk (fun j e1 => ?_)
      rcases h.near with e2 | ⟨g, hg1, e2⟩
      · exact .inr (by rw [← e2]; exact e1)
      · left
        rw [e1] at e2
        injection e2 with e2
        omega
    · exact grown3.andThen hk (fun _ e1 => by cases e1)
end Go.Proofs.YtidccanfjcanoaaGreatDoor

/-
  A RANGE OVER A FUNCTION THAT KEEPS STATE OF ITS OWN IN CELLS: the law of the walk (turned out of the kit's 'wpIn_rangeFunc_ownF', which serves iterators that turn no cells). The footprint of the loop's body is one block, o: the row that it gathers in; beside it the body writes below n1 alone.
-/
import Derived.RangeFuncBox
import Derived.RangeFuncNested
import Derived.RangeFuncBound
import Derived.RangeFuncCalls
import Derived.RangeFuncLeaves
import Derived.OwnWalkIn
import Derived.Deep.AppendLies
import Derived.Test.YtidccanfjcanoaaGreatDoorBase0
namespace Go.Proofs.YtidccanfjcanoaaGreatDoor
open Go.RowKit
set_option linter.unusedVariables false

/-- What a round of the body keeps for the iterator: whatever lies from n1 on, but for the body's own row (and the loop's record l). -/
structure KeepsR (n1 : Nat) (l : Option Nat) (o o' : Option Nat) (A B : World) : Prop where
  size : A.heap.size ≤ B.heap.size
  block : ∀ k, n1 ≤ k → k < A.heap.size → some k ≠ o → some k ≠ l → B.heap[k]? = A.heap[k]?
  row : ∀ r, o' = some r → o = some r ∨ A.heap.size ≤ r

/-- What the body's invariant abides: a turn of a block from B on that is not the body's row; new blocks. -/
def AbidesR {α : Type} (B : Nat) (J : List α → Option Nat → World → Prop) : Prop :=
  ∀ pre o A W row, J pre o A → A.grownBy W row → (∀ r, row = some r → B ≤ r ∧ some r ≠ o) → J pre o W

/-- AN ITERATOR's CONTRACT: called in whatever later world, with whatever invariant of the caller's that abides its steps: it returns; xs have come, in that order. -/
def SeqTells {α : Type} (P : Program) (g : Nat) (lb : Array Value) (enc : α → Value) (n1 : Nat) (S : List α → Prop) (N : Nat) (w : World) : Prop :=
  ∀ (l : Nat) (J : List α → Option Nat → World → Prop) (W : World), Below w.heap.size w W → w.heap.size ≤ l → l < W.heap.size → AbidesR W.heap.size J →
    (∀ pre o A, J pre o A → ∀ r, o = some r → r < A.heap.size ∧ r ≠ l) →
    (∀ pre o x A, J pre o A → pre.length < N → ∀ m, YieldAt Fence.wide m P l #[enc x] A fun e B => e = .returned (.bool true) ∧ ∃ o', J (pre ++ [x]) o' B ∧ KeepsR n1 (some l) o o' A B) →
    J [] none W →
    Calls P g (#[.func (.yield l) #[] #[]] ++ lb) W fun e W' => (∃ v, e = .returned v) ∧ ∃ xs o, S xs ∧ J xs o W'

/-- How a round's body ends: it goes on. -/
def tellPost {α : Type} (n1 : Nat) (o : Option Nat) (I : List α → Option Nat → World → Prop) (xs : List α) (W : World) : Exit → Act → World → Prop
  | .normal, _, W' => ∃ o', I xs o' W' ∧ KeepsR n1 none o o' W W'
  | _, _, _ => False

theorem wpIn_rangeTells {α : Type} {n : Nat} {P : Program} {g : Operand} {ps : Array Tmp} {assign body : Code} {Q : Exit → Act → World → Prop} {a : Act} {w : World}
    {gf : Nat} {lb : Array Value} (hg : a.eval g = .func (.func gf) #[] lb) (eg : ∀ args w, (callFunc gf args).run P w = .ok (.enter gf args) w)
    {enc : α → Value} {n1 : Nat} {S : List α → Prop} {N : Nat} (hseq : SeqTells P gf lb enc n1 S N w) (hn1 : n1 ≤ w.heap.size) (hps : ps.size = 1)
    (I : List α → Option Nat → World → Prop) (hI : AbidesR w.heap.size I) (hIo : ∀ pre o A, I pre o A → ∀ r, o = some r → ∃ c : Obj, A.heap[r]? = some c ∧ c.isCells = true) (h0 : I [] none w) (a₁ : α → Act)
    (hassign : ∀ (l m : Nat) (x : α) (W : World) (K : Act → World → Prop), K (a₁ x) W →
      assign.wpIn (Fence.wide.inRound l) m P (Exit.then K (fun _ _ _ => False)) { tmps := (ps.zip #[enc x]).foldl (fun t (p, v) => t.setIfInBounds p v) a.tmps, defers := [] } W)
    (hbody : ∀ (l m : Nat) (pre : List α) (o : Option Nat) (x : α) (W : World), I pre o W → pre.length < N → w.heap.size ≤ W.heap.size → body.wpIn (Fence.wide.inRound l) m P (tellPost n1 o I (pre ++ [x]) W) (a₁ x) W)
    (hdone : ∀ (D : Nat) (xs : List α) (o : Option Nat) (W : World), w.heap.size ≤ D → S xs → I xs o W → W.heap[D]? = some (.deferred (some [])) → Q .normal { a with defers := { target := .collected D, args := #[] } :: a.defers } W) :
    (Code.rangeFunc g ps assign body).wpIn Fence.wide n P Q a w := by
  refine wpIn_rangeFunc ?_
  intro fn hfn
  obtain ⟨rec, hrec⟩ : ∃ rec : LoopState → Option Code → Loop, rec = fun st pe => { state := st, pending := pe, fn, tmps := a.tmps, params := ps, assign, body, defers := w.heap.size } := ⟨_, rfl⟩
  obtain ⟨W1, hW1⟩ : ∃ W1, (w.alloc (.deferred (some []))).alloc (.loop (rec .ready none)) = W1 := ⟨_, rfl⟩
  have hL1 : W1.heap[w.heap.size + 1]? = some (.loop (rec .ready none)) := by
    rw [← hW1]; have := World.alloc_heap_new (w.alloc (.deferred (some []))) (.loop (rec .ready none)); rwa [World.size_alloc] at this
  have hK1 : W1.heap[w.heap.size]? = some (.deferred (some [])) := by
    rw [← hW1]; exact (Below.heap_alloc _ _ _ (by simp)).trans (World.alloc_heap_new w _)
  have hI1 : I [] none W1 := by
    rw [← hW1]
    exact hI _ _ _ _ none (hI _ _ _ _ none h0 (World.grownBy_alloc _ _ none) (fun r e => by cases e)) (World.grownBy_alloc _ _ none) (fun r e => by cases e)
  have hb1 : Below w.heap.size w W1 := by
    rw [← hW1]; exact (((Below.refl _ w).alloc (Nat.le_refl _) _).alloc (by simp) _)
  have hs1 : W1.heap.size = w.heap.size + 2 := by rw [← hW1]; simp
  refine ⟨w.heap.size + 1, [{ target := .collected w.heap.size, args := #[] }], W1, { target := .fn (.func gf) lb, args := #[.func (.yield (w.heap.size + 1)) #[] #[]] }, W1, gf,
    #[.func (.yield (w.heap.size + 1)) #[] #[]] ++ lb, W1, ?_, ?_, ?_, ?_, (fun h => by cases h), ?_⟩
  · rw [← hW1, hrec]; exact run_enterLoop_outer _ _ _ _ _
  · simp only [resolve, hg]
    simp [go_sem]
  · intro f' hf'; trivial
  · simp [invoke, go_sem, eg]
  · have hne : ∀ pre o A c, I pre o A → A.heap[w.heap.size + 1]? = some c → c.isCells = false → some (w.heap.size + 1) ≠ o := fun pre o A c hi hc hcc e => by
      obtain ⟨c', h1, h2⟩ := hIo pre o A hi _ e.symm
      rw [hc] at h1; cases h1; rw [hcc] at h2; cases h2
    refine callsIn_wide.2 ((hseq (w.heap.size + 1)
      (fun pre o W => I pre o W ∧ W.heap[w.heap.size + 1]? = some (.loop (rec .ready none)) ∧ W.heap[w.heap.size]? = some (.deferred (some [])))
      W1 hb1 (by omega) (by omega)
      (fun pre o A B row hs hg' hr => by
        obtain ⟨hi, hl, hk⟩ := hs
        refine ⟨hI _ _ _ _ row hi hg' (fun r e => ⟨by have := (hr r e).1; omega, (hr r e).2⟩), ?_, ?_⟩
        · exact (hg'.block _ (Array.getElem?_eq_some_iff.1 hl).1 (fun e => by have := (hr _ e.symm).1; omega)).trans hl
        · exact (hg'.block _ (Array.getElem?_eq_some_iff.1 hk).1 (fun e => by have := (hr _ e.symm).1; omega)).trans hk)
      (fun pre o A hs r e => by
        obtain ⟨hi, hl, hk⟩ := hs
        obtain ⟨c, h1, h2⟩ := hIo pre o A hi r e
        refine ⟨(Array.getElem?_eq_some_iff.1 h1).1, fun e2 => ?_⟩
        rw [e2, hl] at h1; cases h1; cases h2)
      ?_ ⟨hI1, hL1, hK1⟩).mono ?_)
    · -- ONE ROUND
      rintro pre o x W ⟨hi, hl, hk⟩ hlen m
      have hlt : w.heap.size + 1 < W.heap.size := (Array.getElem?_eq_some_iff.1 hl).1
      have hy := run_yield (P := P) (args := #[enc x]) hl (by rw [hrec]; exact hps.symm)
      rw [hrec] at hy
      refine ⟨fn, _, assign, body, hy, roundIn_of_wpIn trivial (hassign _ m x W _ ⟨_, run_beginRound hl (by rw [hrec]), ?_⟩)⟩
      have hlo := hne pre o W _ hi hl rfl
      have hl2 : (W.putObj (w.heap.size + 1) (.loop { rec .ready none with state := .busy })).heap[w.heap.size + 1]? = some (.loop { rec .ready none with state := .busy }) := World.putObj_heap_same hlt
      have hk2 : (W.putObj (w.heap.size + 1) (.loop { rec .ready none with state := .busy })).heap[w.heap.size]? = some (.deferred (some [])) := (World.putObj_heap_other (by omega)).trans hk
      have hi2 : I pre o (W.putObj (w.heap.size + 1) (.loop { rec .ready none with state := .busy })) := hI _ _ _ _ (some (w.heap.size + 1)) hi (grownBy_putObj' W _ _) (fun r e => by cases e; exact ⟨by omega, hlo⟩)
      refine wpIn_mono (hbody _ m pre o x _ hi2 hlen (by rw [World.putObj_size]; omega)) ?_
      rintro e a3 W3 hp
      cases e with
      | normal =>
        obtain ⟨o', hi3, hkp⟩ := hp
        have hko : some w.heap.size ≠ o := fun e => by
          obtain ⟨c, h1, h2⟩ := hIo pre o W hi _ e.symm
          rw [hk] at h1; cases h1; cases h2
        have hl3 := (hkp.block (w.heap.size + 1) (by omega) (by rw [World.putObj_size]; omega) hlo (by simp)).trans hl2
        have hk3 := (hkp.block w.heap.size (by omega) (by rw [World.putObj_size]; omega) hko (by simp)).trans hk2
        have hlo' : some (w.heap.size + 1) ≠ o' := hne _ o' W3 _ hi3 hl3 rfl
        have hr := run_endRound (P := P) none hl3
        have hlt3 : w.heap.size + 1 < W3.heap.size := (Array.getElem?_eq_some_iff.1 hl3).1
        rw [hrec] at hr hl3
        refine ⟨_, _, hr, rfl, o', ⟨hI _ _ _ _ (some (w.heap.size + 1)) hi3 (grownBy_putObj' W3 _ _) (fun r e => by cases e; exact ⟨by omega, hlo'⟩), ?_, (World.putObj_heap_other (by omega)).trans hk3⟩, ?_, ?_, ?_⟩
        · rw [hrec]; exact World.putObj_heap_same hlt3
        · have := hkp.size
          simp only [World.putObj_size] at this ⊢
          omega
        · intro k h1 h2 h3 h4
          have hkl : k ≠ w.heap.size + 1 := fun e => h4 (by rw [e])
          exact (World.putObj_heap_other hkl).trans ((hkp.block k h1 (by rw [World.putObj_size]; omega) h3 (by simp)).trans (World.putObj_heap_other hkl))
        · intro r e
          have := hkp.row r e
          rw [World.putObj_size] at this
          exact this
      | ret => exact hp.elim
      | exit id => exact hp.elim
      | goto t => exact hp.elim
      | panic ch => exact hp.elim
      | outgrown => exact hp.elim
    · -- BEHIND THE ITERATOR
      rintro e W2 ⟨⟨v, rfl⟩, xs, o, hS, hi, hl, hk⟩
      have hlo := hne xs o W2 _ hi hl rfl
      exact ⟨none, _, by have := run_endLoop (P := P) hl (by rw [hrec]; simp); rw [hrec] at this; exact this, hdone _ xs o _ (Nat.le_refl _) hS (hI _ _ _ _ (some (w.heap.size + 1)) hi (grownBy_putObj' W2 _ _) (fun r e => by cases e; exact ⟨by omega, hlo⟩)) ((World.putObj_heap_other (by omega)).trans hk)⟩

/-- Where the new slice lies, inside a fence. -/
theorem wpListIn_append_lies {F : Fence} {n : Nat} {P : Program} (w : World) {ops : Array Oper} {rest : List Oper} {o : Oper} {a : Act} {Q : Exit → Act → World → Prop} (hgd : o.guard = none) (s x : Operand) (t : TypeId)
    (ho : o.op = .call { callee := .builtin .append, args := #[s, x], argTypes := #[t, t] })
    (base : Nat) (e : TypeId) (i : TypeInfo) (z : Value) (size bytes : Nat) (ht : P.underlying t = some (.slice e)) (hi : P.info? e = some i) (hz : i.zero = some z)
    (hsize : i.size = size) (hby : i.bytes = bytes) (hzs : z.cells.size = size) (hsz : 0 < size)
    (v : Value) (n0 : Nat) (xs : List Value) (hs : a.eval s = v) (hown : w.ownsRow base e size v n0 xs)
    (ad : Addr) (m c : Nat) (news : List Value) (hx : a.eval x = .slice (some ad) m c) (hl : news.length = m * size) (hnews : ∀ j u, news[j]? = some u → w.cell? (ad.add j) = some u) (h1 : ∀ u ∈ news, u.oneCell' = true)
    (hm : 0 < m) (h63 : n0 + m ≤ maxLen) (hbytes : (n0 + m) * bytes ≤ 140737488355328) (hbase : base ≤ w.heap.size) (H : Nat) (hH : w.heap.size = H)
    (h : ∀ g cap w', w'.ownsRow base e size (.slice (some ⟨g, 0, none⟩) (n0 + m) cap) (n0 + m) (xs ++ news) → w.grownBy w' v.ownBlock → (v.ownBlock = some g ∨ g = H) → g < w'.heap.size → wpListIn F n P ops Q rest (a.put o.dst (.slice (some ⟨g, 0, none⟩) (n0 + m) cap)) w') :
    wpListIn F n P ops Q (o :: rest) a w := by
  refine wpListIn_plain hgd fun K hK' => ?_
  obtain ⟨g, cap, w', hrun, r1, r2, r3, r4⟩ := run_append_lies (P := P) w t o.type base e i z size bytes ht hi hz hsize hby hzs hsz v n0 xs hown ad m c news hl hnews h1 hm h63 hbytes hbase H hH
  unfold Oper.wpIn
  refine ⟨?_, ?_⟩
  · simp [Oper.about, ho, resolve, Target.leads, Sem.run_pure]
  · rw [Oper.semAt_plain F _ _ (by rw [ho]; intro c hc'; cases hc')]
    simp [execOp, ho, resolve, invoke, builtin, hs, hx, hrun, Result.andThen]
    exact hK' _ _ (h g cap w' r1 r2 r3 r4)
end Go.Proofs.YtidccanfjcanoaaGreatDoor

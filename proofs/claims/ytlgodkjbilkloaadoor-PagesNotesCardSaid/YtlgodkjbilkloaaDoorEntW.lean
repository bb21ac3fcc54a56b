/-
  ESCAPE: the table of signs: its making, a look into it, a range over it.
-/
import Derived.Test.YtlgodkjbilkloaaDoorBase0
import Derived.Test.YtlgodkjbilkloaaDoorEscP
import Derived.Maps.RangeWalk
namespace Go.Proofs.YtlgodkjbilkloaaDoor
open Go.RowKit Go.Maps
set_option linter.unusedVariables false

/-- How an entity reads. -/
def entR : Value → Option (DataW Unit × List MemPlace)
  | .agg cs => match cs.toList with
    | [.string s] => some (.lit (.string s.data.toList), [])
    | _ => none
  | _ => none
theorem entR_mk (s : ByteArray) : entR (.agg #[.string s]) = some (.lit (.string s.data.toList), []) := rfl
theorem entR_inv (v : Value) (y : DataW Unit × List MemPlace) (h : entR v = some y) : ∃ s : ByteArray, v = .agg #[.string s] ∧ y = (.lit (.string s.data.toList), []) := by
  unfold entR at h
  cases v <;> simp at h
  rename_i cs
  obtain ⟨l⟩ := cs
  match l, h with
  | [.string s], h => simp at h; exact ⟨s, rfl, h.symm⟩

theorem keyed : Keyed Tryd.prog 21 := int_keyed Tryd.underlying21
/-- The table's datum. -/
def entD : DataW Unit := .map [(.int .i32 34, .lit (.string [38, 113, 117, 111, 116, 59])), (.int .i32 38, .lit (.string [38, 97, 109, 112, 59])), (.int .i32 39, .lit (.string [38, 35, 51, 57, 59])), (.int .i32 60, .lit (.string [38, 108, 116, 59])), (.int .i32 62, .lit (.string [38, 103, 116, 59]))]
theorem entD_eq : (((((DataW.map (H := Unit) []).put (.int .i32 38) (.lit (.string [38, 97, 109, 112, 59]))).put (.int .i32 60) (.lit (.string [38, 108, 116, 59]))).put (.int .i32 62) (.lit (.string [38, 103, 116, 59]))).put (.int .i32 34) (.lit (.string [38, 113, 117, 111, 116, 59]))).put (.int .i32 39) (.lit (.string [38, 35, 51, 57, 59])) = entD := by rfl
/-- Block b is the table. -/
def Ent (b : Nat) (w : World) : Prop := w.ownsMap Tryd.prog 21 entR b 5 entD
theorem Ent.lt {b : Nat} {w : World} (h : Ent b w) : b < w.heap.size := World.ownsMap.lt h
theorem Ent.block {b : Nat} {w w' : World} (h : Ent b w) (hb : w'.heap[b]? = w.heap[b]?) : Ent b w' := by
  obtain ⟨es, clock, h1, h2⟩ := h
  exact ⟨es, clock, hb.trans h1, h2⟩
theorem Ent.below {b B : Nat} {w w' : World} (h : Ent b w) (hb : Below B w w') (hB : b < B) : Ent b w' := h.block (hb.block b hB)

theorem wpList_insert_own {H : Type} {P : Program} (w : World) {ops : Array Oper} {rest : List Oper} {o : Oper} {a : Act} {Q : Exit → Act → World → Prop}
    (hg : o.guard = none) (m x v : Operand) (t : TypeId) (hop : o.op = Op.insert t m x v)
    (k e : TypeId) (K : Keyed P k) (ht : P.underlying t = some (.map k e)) (R : Value → Option (DataW H × List MemPlace)) (b n : Nat) (D : DataW H)
    (hm : a.eval m = .map (some b)) (hown : w.ownsMap P k R b n D) (hn : n < maxLen) (key val : Value) (kl : Lit) (hx : a.eval x = key) (hv : a.eval v = val) (hkey : keyOf P k key = some kl)
    (d : DataW H) (ps : List MemPlace) (hval : R val = some (d, ps))
    (hK : ∀ w', w'.ownsMap P k R b (n + 1) (D.put kl d) → w.grownBy w' (some b) → wpList P ops Q rest (a.put o.dst undef) w') :
    wpList P ops Q (o :: rest) a w := by
  refine wpList_plain hg fun K' hK' => ?_
  obtain ⟨w', hrun, r1, r2⟩ := hown.update K ht hn hkey hval
  unfold Oper.wp
  simp [execOp, hop, hm, hx, hv, hrun, Result.andThen]
  exact hK' _ _ (hK w' r1 r2)

set_option maxHeartbeats 1000000 in
set_option maxRecDepth 100000 in
theorem entities_any (w : World) :
    Calls Tryd.prog 11 #[] w fun e w' => e = .returned (.map (some w.heap.size)) ∧ Ent w.heap.size w' ∧ Below w.heap.size w w' := by
  have hmm := @run_makeMap Tryd.prog
  have h0 := World.ownsMap_made w Tryd.prog 21 entR
  have g0 : Below w.heap.size w (w.alloc (.map #[] 0)) := (Below.refl _ _).alloc (Nat.le_refl _) _
  go_enter Tryd.func11, Tryd.ntmps11
  go_wp2_with (first
    | (refine wpList_insert_own _ rfl (.tmp 1) (.const (.int .i32 38)) (.tmp 2) 49 rfl 21 56 keyed Tryd.underlying49 entR w.heap.size 0 _ rfl h0 (by decide) _ _ _ rfl rfl (keyOf_int_mk Tryd.underlying21 (by decide)) _ [] (entR_mk _) ?_; intro w1 h1 r1; have g1 := g0.grown r1 (by simp) (fun k hk => by cases hk; exact Nat.le_refl _))
    | (refine wpList_insert_own _ rfl (.tmp 1) (.const (.int .i32 60)) (.tmp 3) 49 rfl 21 56 keyed Tryd.underlying49 entR w.heap.size 1 _ rfl h1 (by decide) _ _ _ rfl rfl (keyOf_int_mk Tryd.underlying21 (by decide)) _ [] (entR_mk _) ?_; intro w2 h2 r2; have g2 := g1.grown r2 g1.size (fun k hk => by cases hk; exact Nat.le_refl _))
    | (refine wpList_insert_own _ rfl (.tmp 1) (.const (.int .i32 62)) (.tmp 4) 49 rfl 21 56 keyed Tryd.underlying49 entR w.heap.size 2 _ rfl h2 (by decide) _ _ _ rfl rfl (keyOf_int_mk Tryd.underlying21 (by decide)) _ [] (entR_mk _) ?_; intro w3 h3 r3; have g3 := g2.grown r3 g2.size (fun k hk => by cases hk; exact Nat.le_refl _))
    | (refine wpList_insert_own _ rfl (.tmp 1) (.const (.int .i32 34)) (.tmp 5) 49 rfl 21 56 keyed Tryd.underlying49 entR w.heap.size 3 _ rfl h3 (by decide) _ _ _ rfl rfl (keyOf_int_mk Tryd.underlying21 (by decide)) _ [] (entR_mk _) ?_; intro w4 h4 r4; have g4 := g3.grown r4 g3.size (fun k hk => by cases hk; exact Nat.le_refl _))
    | (refine wpList_insert_own _ rfl (.tmp 1) (.const (.int .i32 39)) (.tmp 6) 49 rfl 21 56 keyed Tryd.underlying49 entR w.heap.size 4 _ rfl h4 (by decide) _ _ _ rfl rfl (keyOf_int_mk Tryd.underlying21 (by decide)) _ [] (entR_mk _) ?_; intro w5 h5 r5; have g5 := g4.grown r5 g4.size (fun k hk => by cases hk; exact Nat.le_refl _)))
  go_ret
  rw [entD_eq] at h5
  exact ⟨rfl, h5, g5⟩

/-! ### a look into the table -/
def sgN (r : Nat) : Bool := r == 34 || r == 38 || r == 39 || r == 60 || r == 62
def stdN (r : Nat) : List UInt8 := if r = 34 then [38, 113, 117, 111, 116, 59] else if r = 38 then [38, 97, 109, 112, 59] else if r = 39 then [38, 35, 51, 57, 59] else if r = 60 then [38, 108, 116, 59] else if r = 62 then [38, 103, 116, 59] else []
theorem sgN_cases {r : Nat} (h : sgN r = true) : r = 34 ∨ r = 38 ∨ r = 39 ∨ r = 60 ∨ r = 62 := by simpa [sgN, or_assoc] using h
theorem sgN_of (c : UInt8) : sgN c.toNat = Es.sg c := by
  have : ∀ i : Fin 256, sgN (UInt8.ofNat i.val).toNat = Es.sg (UInt8.ofNat i.val) := by decide +kernel
  have h := this ⟨c.toNat, c.toNat_lt⟩
  simpa using h
theorem stdN_of (c : UInt8) : stdN c.toNat = Es.std c := by
  have : ∀ i : Fin 256, stdN (UInt8.ofNat i.val).toNat = Es.std (UInt8.ofNat i.val) := by decide +kernel
  have h := this ⟨c.toNat, c.toNat_lt⟩
  simpa using h
theorem entD_has (r : Nat) : Maps.has entD (.int .i32 (r : Int)) = sgN r := by
  have h34 : decide ((34 : Int) = (r : Int)) = (r == 34) := by rw [Bool.eq_iff_iff]; simp; omega
  have h38 : decide ((38 : Int) = (r : Int)) = (r == 38) := by rw [Bool.eq_iff_iff]; simp; omega
  have h39 : decide ((39 : Int) = (r : Int)) = (r == 39) := by rw [Bool.eq_iff_iff]; simp; omega
  have h60 : decide ((60 : Int) = (r : Int)) = (r == 60) := by rw [Bool.eq_iff_iff]; simp; omega
  have h62 : decide ((62 : Int) = (r : Int)) = (r == 62) := by rw [Bool.eq_iff_iff]; simp; omega
  simp only [Maps.has, entD, List.any_cons, List.any_nil, Lit.sameKey, true_and, Bool.or_false, sgN]
  rw [h34, h38, h39, h60, h62]
  simp only [Bool.or_assoc]
theorem entD_at (r : Nat) : entD.atKey (.int .i32 (r : Int)) (.lit (.string [])) = .lit (.string (stdN r)) := by
  have h34 : decide ((34 : Int) = (r : Int)) = decide (r = 34) := by rw [Bool.eq_iff_iff]; simp; omega
  have h38 : decide ((38 : Int) = (r : Int)) = decide (r = 38) := by rw [Bool.eq_iff_iff]; simp; omega
  have h39 : decide ((39 : Int) = (r : Int)) = decide (r = 39) := by rw [Bool.eq_iff_iff]; simp; omega
  have h60 : decide ((60 : Int) = (r : Int)) = decide (r = 60) := by rw [Bool.eq_iff_iff]; simp; omega
  have h62 : decide ((62 : Int) = (r : Int)) = decide (r = 62) := by rw [Bool.eq_iff_iff]; simp; omega
  simp only [DataW.atKey, entD, List.find?_cons, List.find?_nil, Lit.sameKey, true_and, stdN]
  rw [h34, h38, h39, h60, h62]
  by_cases c1 : r = 34
  · simp [c1]
  by_cases c2 : r = 38
  · simp [c2]
  by_cases c3 : r = 39
  · simp [c3]
  by_cases c4 : r = 60
  · simp [c4]
  by_cases c5 : r = 62
  · simp [c5]
  simp [c1, c2, c3, c4, c5]
theorem zeroEnt (w : World) : (zeroValue 56).run Tryd.prog w = .ok (.agg #[.string ByteArray.empty]) w := by kernel_rfl
theorem i32_nat (r : Nat) (h : r ≤ 2147483647) : (Lit.int .i32 (r : Int)).wf = true := by
  have h1 : IntKind.i32.min = -2147483648 := rfl
  have h2 : IntKind.i32.max = 2147483647 := rfl
  simp only [Lit.wf, Bool.and_eq_true, decide_eq_true_eq, h1, h2]
  omega
/-- 'e, ok := table[r]'. -/
theorem wpList_look_ent (w : World) {ops : Array Oper} {rest : List Oper} {o : Oper} {a : Act} {Q : Exit → Act → World → Prop} (hg : o.guard = none) (m x : Operand) (hop : o.op = Op.lookup 49 m x true)
    (b : Nat) (hm : a.eval m = .map (some b)) (hown : Ent b w) (r : Nat) (hr : r ≤ 2147483647) (hx : a.eval x = .int .i32 (r : Int))
    (hK : wpList Tryd.prog ops Q rest (a.put o.dst (.tuple #[.agg #[.string ⟨(stdN r).toArray⟩], .bool (sgN r)])) w) :
    wpList Tryd.prog ops Q (o :: rest) a w :=
  wpList_lookup_own_ok w hg m x _ hop 21 56 keyed Tryd.underlying49 entR (zeroEnt w) (.lit (.string [])) [] rfl b 5 entD hm hown _ (.int .i32 (r : Int)) hx (keyOf_int_mk Tryd.underlying21 (i32_nat r hr)) fun v ps hv => by
    obtain ⟨s, rfl, hs⟩ := entR_inv _ _ hv
    rw [entD_at] at hs
    have h1 : s.data.toList = stdN r := by
      injection hs with h1 _
      injection h1 with h1
      injection h1 with h1
      exact h1.symm
    obtain rfl : s = ⟨(stdN r).toArray⟩ := bytes_ext (by rw [h1])
    rw [entD_has] at *
    exact hK
end Go.Proofs.YtlgodkjbilkloaaDoor

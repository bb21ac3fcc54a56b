/-
  A listed package variable of arrays of integers, bools and strings: its cells, one behind the other ('flat' of its datum). No program here.
-/
import Derived.LaidLaws
import Derived.ChangeArms
import Derived.OpenShut
import Derived.Deep.DeepHandedRow
namespace Go.Proofs.YtlgodkjbilkloaaDoor

/-- The cells of a datum of arrays. -/
def flat {H : Type} : Nat → DataW H → List Value
  | 0, _ => []
  | _ + 1, .lit (.int k z) => [.int k z]
  | _ + 1, .lit (.bool b) => [.bool b]
  | _ + 1, .lit (.string bs) => [.string ⟨bs.toArray⟩]
  | m + 1, .agg ds => (ds.map (flat m)).flatten
  | _ + 1, _ => []

def flatT (P : Program) : Nat → TypeId → Bool
  | 0, _ => false
  | m + 1, t =>
    match P.underlying t with
    | some (.int _) => true
    | some .bool => true
    | some .string => true
    | some (.array n e) => flatT P m e && decide (P.cellsOf t = n * P.cellsOf e)
    | _ => false

theorem chunks {α : Type} (c : Nat) : ∀ (n : Nat) (L : List α) (ys : List (List α)), L.length = n * c → ys.length = n → (∀ i, i < n → ys[i]? = some ((L.drop (i * c)).take c)) → ys.flatten = L
  | 0, L, ys, hl, hn, _ => by
    have h1 : L = [] := List.eq_nil_of_length_eq_zero (by simpa using hl)
    have h2 : ys = [] := List.eq_nil_of_length_eq_zero hn
    rw [h1, h2]; rfl
  | n + 1, L, ys, hl, hn, h => by
    cases ys with
    | nil => simp at hn
    | cons y ys =>
      have h0 := h 0 (by omega)
      simp only [List.getElem?_cons_zero, Nat.zero_mul, List.drop_zero, Option.some.injEq] at h0
      have hr := chunks c n (L.drop c) ys (by rw [List.length_drop, hl, Nat.succ_mul]; omega) (by simpa using hn) (fun i hi => by
        have := h (i + 1) (by omega)
        rw [List.getElem?_cons_succ] at this
        rw [this, List.drop_drop, Nat.succ_mul, Nat.add_comm])
      rw [List.flatten_cons, hr, h0]
      exact List.take_append_drop c L

theorem trod_flat {H : Type} {enc : TypeId × Value → H} {P : Program} {w : World} {base : Nat} {spare : Nat → Bool} {held : Bool} :
    ∀ (m fuel : Nat) (t : TypeId) (cs : List Value) (x : DataW H × List MemPlace), flatT P m t = true → DataW.trod enc P w base spare held fuel t cs = some x → flat m x.1 = cs
  | 0, _, _, _, _, h, _ => by simp [flatT] at h
  | m + 1, fuel, t, cs, x, h, ht => by
    unfold flatT at h
    cases hu : P.underlying t with
    | none => simp [hu] at h
    | some u =>
      cases u <;> simp only [hu] at h <;> try (exact (Bool.false_ne_true h).elim)
      case int k =>
        obtain ⟨z, rfl, rfl, _⟩ := DataW.trod_int hu ht
        rfl
      case bool =>
        obtain ⟨z, rfl, rfl⟩ := DataW.trod_bool hu ht
        rfl
      case string =>
        obtain ⟨s, rfl, rfl, _⟩ := DataW.trod_string hu ht
        rfl
      case array n e =>
        simp only [Bool.and_eq_true, decide_eq_true_eq] at h
        obtain ⟨xs, k, rfl, rfl, hl, hn, hx⟩ := DataW.trod_array hu ht
        have ih := fun (y : DataW H × List MemPlace) (c : List Value) => trod_flat (enc := enc) (P := P) (w := w) (base := base) (spare := spare) (held := held) m k e c y h.1
        show ((xs.map (·.1)).map (flat m)).flatten = cs
        refine chunks (P.cellsOf e) n cs _ (by rw [hl, h.2]) (by simp [hn]) fun i hi => ?_
        have h1 := hx i hi
        have h2 : xs[i]? = some (xs[i]'(by omega)) := List.getElem?_eq_getElem (by omega)
        rw [h2] at h1
        have h3 := ih _ _ h1
        simp only [List.map_map, List.getElem?_map, h2, Option.map_some, Function.comp]
        rw [h3]

theorem laidVars_mem {P : Program} {w : World} {n : String} {d : DataW Unit} : ∀ {l : List (String × DataW Unit)} {ps : List MemPlace}, DataW.LaidVars P w l ps → (n, d) ∈ l →
    ∃ g t cs fuel p, P.globalNamed n = some g ∧ (P.globals[g]?).map (·.type) = some t ∧ w.var? P n = some cs ∧ DataW.trod (fun _ => ()) P w 0 (fun _ => true) false fuel t cs.toList = some (d, p)
  | [], _, _, hm => by cases hm
  | (n', d') :: r, ps, h, hm => by
    obtain ⟨g, t, cs, fuel, p, q, h1, h2, h3, h4, h5, _⟩ := h
    rcases List.mem_cons.1 hm with h | h
    · obtain ⟨rfl, rfl⟩ := Prod.mk.inj h
      exact ⟨g, t, cs, fuel, p, h1, h2, h3, h4⟩
    · exact laidVars_mem h5 h

/-- WHAT A ROW's LIST GIVES: the variable's cells. -/
theorem laid_cells {P : Program} {W : World} {l : List (String × DataW Unit)} {n : String} {d : DataW Unit} {g m : Nat} {t : TypeId} (h : laidMet P l W) (hm : (n, d) ∈ l)
    (hg : P.globalNamed n = some g) (hty : (P.globals[g]?).map (·.type) = some t) (hp : flatT P m t = true) : ∀ i, W.cell? ⟨g, i, none⟩ = (flat m d)[i]? := by
  intro i
  obtain ⟨ps, hv, _⟩ := h
  obtain ⟨g', t', cs, fuel, p, hg', ht', hvar, htr⟩ := laidVars_mem hv hm
  obtain rfl := Option.some.inj (hg.symm.trans hg')
  obtain rfl := Option.some.inj (hty.symm.trans ht')
  rw [World.var?_cell hg hvar i, trod_flat m fuel t cs.toList (d, p) hp htr]
  simp

end Go.Proofs.YtlgodkjbilkloaaDoor

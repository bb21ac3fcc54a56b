/- The Go function PagesNotes returns true at every two rows of texts and every small number, and writes to nothing that was there: as many notes are told as there are, numbered from where they begin on, and one row behind the other is told as both at once. Conditions: the listed tables of the library hold what their initialisers lay. -/
import Derived.Test.YtlgodkjbilkloaaDoorPgS
import Derived.Test.YtlgodkjbilkloaaDoorPowP
import Derived.Test.YtlgodkjbilkloaaDoorCards
import Derived.Test.YtlgodkjbilkloaaDoorTie
import Derived.Test.YtlgodkjbilkloaaDoorFlat
import Derived.Deep.DeepHandedRow
import Derived.LaidLaws
import Derived.Test.YtlgodkjbilkloaaDoorRows
import Derived.WalkKit
import Derived.ProofKit
import Derived.OpenShut
import Derived.ShutString
import Derived.ChangeOld
import Derived.Below
import Derived.SizedLaws
import Derived.Test.YtlgodkjbilkloaaDoorOpenT
namespace Go.Proofs.YtlgodkjbilkloaaDoor.pagesNotesDone
open Go.ChangeShapes Go.WideShapes Go.ChangeAt Go.RowKit
open Go.ChangeMaps (open_string shut_string)
set_option linter.unusedVariables false
theorem own : ownKnob Tryd.prog.godebug = none := by kernel_rfl
theorem laidOut : laidOutB Tryd.prog = true := by kernel_rfl
/-- A world for the witness: the settled one, each listed variable holding what the row lists. -/
noncomputable def laidHeap (h0 : Array Obj) : Array Obj :=
  (Rows.pagesNotesRow.laid).foldl (fun h x => match Tryd.prog.globalNamed x.1 with
    | some g => h.modify g (fun o => match o with
      | .cells _ t frozen => .cells (flat 6 x.2).toArray t frozen
      | o => o)
    | _ => h) h0
noncomputable def laidWorld (os : Os) : World := { World.holding Tryd.prog os ⟨#[], #[], []⟩ with heap := laidHeap (World.holding Tryd.prog os ⟨#[], #[], []⟩).heap }
theorem laid_met (os : Os) : laidMet Tryd.prog Rows.pagesNotesRow.laid ((laidWorld os).forCall (fun _ _ => 0) ⟨#[], #[Value.slice none 0 0, Value.slice none 0 0, Value.int .u8 0], []⟩).memory :=
  laidMet_of_run' 8 (by kernel_rfl) (by kernel_rfl)
theorem reads (os : Os) {H : Type} (enc : TypeId × Value → H) : ∃ places, DataW.whole enc Tryd.prog ((laidWorld os).forCall (fun _ _ => 0) ⟨#[], #[Value.slice none 0 0, Value.slice none 0 0, Value.int .u8 0], []⟩).memory Tryd.f4.params.toList Rows.pagesNotesSpec.vars false (#[Value.slice none 0 0, Value.slice none 0 0, Value.int .u8 0]).toList 8 = some ([.nil, .nil, .lit (.int .u8 0)], [], places) :=
  ⟨[], by kernel_rfl⟩
set_option maxRecDepth 100000 in
theorem lifted (os : Os) (started : os.Started) (H : Type) (enc : TypeId × Value → H) (FF : Stop.Interp) :
    ReturnsInHanded {} Tryd.checked os 4 .any ((OpenSpec.ofChange Rows.pagesNotesSpec).preRow enc Tryd.prog Tryd.f4 Rows.pagesNotesRow.domain false Rows.pagesNotesRow.laid) (((OpenSpec.ofChange Rows.pagesNotesSpec).at FF).post enc Tryd.prog Tryd.f4 false true false false) := by
  obtain ⟨places, hx⟩ := reads os enc
  refine returnsInHanded_of_row (C := Tryd.checked) (s := OpenSpec.ofChange Rows.pagesNotesSpec) own started (by kernel_rfl) Tryd.func4
    (witness_row_at (enc := enc) (C := Tryd.checked) false (laidWorld os) #[Value.slice none 0 0, Value.slice none 0 0, Value.int .u8 0] rfl (by kernel_rfl) (by kernel_rfl) (by kernel_rfl)
      (OpenSpec.preRow_of_cond 8 hx (by kernel_rfl) (fun k hk => by cases hk) (by kernel_rfl) (laid_met os))) ?_
  intro W base args ds gs before hval0 hW _ _ hsz0 hL hSh _
  have hsz : (DataW.weightsEach Tryd.prog (Tryd.f4.params.toList ++ Rows.pagesNotesSpec.plain.varTypes Tryd.prog) (ds ++ gs)).all (· ≤ reachBytes) = true := hsz0
  clear hsz0
  have hval : ∀ (j : Nat) t v, Tryd.f4.params[j]? = some t → args[j]? = some v → Value.okWide Tryd.prog W .any base t v := hval0
  have hW' := hW
  obtain ⟨p, q, hA0, hV, rfl, hfz, hnd⟩ := hW
  have hA : DataW.TrodAll enc Tryd.prog W 0 (fun _ => true) true Tryd.f4.params.toList args.toList ds p := hA0
  rw [Tryd.params4] at hA hval hsz
  obtain ⟨v0, vs0, d0, ds0, p0, q0, hargs, rfl, rfl, h0, r0⟩ := trodAll_cons hA
  obtain ⟨v1, vs1, d1, ds1, p1, q1, rfl, rfl, rfl, h1, r1⟩ := trodAll_cons r0
  obtain ⟨v2, vs2, d2, ds2, p2, q2, rfl, rfl, rfl, h2, r2⟩ := trodAll_cons r1
  obtain ⟨rfl, rfl, rfl⟩ := trodAll_nil r2
  obtain rfl : args = #[v0, v1, v2] := by cases args; simp_all
  obtain ⟨rfl, rfl⟩ := trodVars_none hV
  have k0 := h0
  have lt0 : ∀ x ∈ p0, x.block < W.heap.size := by obtain ⟨m, hm⟩ := k0; exact DataW.trod_lt m _ _ _ hm
  have ws0 : ∀ m ∈ d0.weights Tryd.prog 28, m ≤ reachBytes := fun m hm => of_decide_eq_true (List.all_eq_true.1 hsz _ (DataW.weights_mem_each (j := 0) rfl rfl _ hm))
  obtain ⟨A0, n0, c0, l0, rfl, hl0, tr0, hn0, sz0⟩ := open_texts Tryd.underlying28 Tryd.underlying9 (by kernel_rfl) (by kernel_rfl) (hval 0 28 v0 rfl rfl) h0 ws0
  have k1 := h1
  have lt1 : ∀ x ∈ p1, x.block < W.heap.size := by obtain ⟨m, hm⟩ := k1; exact DataW.trod_lt m _ _ _ hm
  have ws1 : ∀ m ∈ d1.weights Tryd.prog 28, m ≤ reachBytes := fun m hm => of_decide_eq_true (List.all_eq_true.1 hsz _ (DataW.weights_mem_each (j := 1) rfl rfl _ hm))
  obtain ⟨A1, n1, c1, l1, rfl, hl1, tr1, hn1, sz1⟩ := open_texts Tryd.underlying28 Tryd.underlying9 (by kernel_rfl) (by kernel_rfl) (hval 1 28 v1 rfl rfl) h1 ws1
  obtain ⟨a2, rfl, rfl, rfl, w2⟩ := open_int Tryd.underlying5 (hval 2 5 v2 rfl rfl) h2
  clear hA0 hval0
  simp only [List.append_nil] at hW'
  refine (pagesNotes_walk W A0 n0 c0 l0 A1 n1 c1 l1 a2 hl0 tr0 hn0 sz0 hl1 tr1 hn1 sz1 w2 (pow_of (l := Rows.pagesNotesRow.laid) hL (.tail _ (.tail _ (.head _)))) 0 gPow).mono fun e W' ⟨he, bel⟩ => ?_
  subst he
  exact ⟨_, rfl, _, _, _, [], _, [], hW', trodAll_mk1 (shut_bool Tryd.underlying4 _), (trodAll_cons_mk (Below.trod laidOut (by kernel_rfl) (of_decide_eq_true (by kernel_rfl)) k0 bel lt0) (trodAll_cons_mk (Below.trod laidOut (by kernel_rfl) (of_decide_eq_true (by kernel_rfl)) k1 bel lt1) (trodAll_cons_mk (shut_int Tryd.underlying5 w2) trodAll_mk0))), rfl, bel.frame _, fun h => by cases h⟩
theorem said : Rows.PagesNotesSaid :=
  OpenClaim.holds_of_cond 4 Tryd.f4 rfl rfl rfl rfl rfl rfl rfl ⟨rfl, rfl, rfl, rfl, rfl⟩ rfl rfl rfl rfl rfl (by kernel_rfl) Tryd.func4 (by kernel_rfl)
    (of_decide_eq_true (by kernel_rfl)) (by unfold Func.isWrapper; first | (rw [if_pos (by decide +kernel)]; kernel_rfl) | (rw [if_neg (by decide +kernel)]; exact ⟨rfl, rfl⟩))
    (fun os started H enc _ FF => by rw [OpenClaim.pre_eq_preRow]; exact lifted os started H enc FF)

theorem plain (f : FuncId) (fn : Func) (hf : Tryd.pinned.checked.prog.funcNamed "bindery/binderylaw18.PagesNotes" = some f) (hfn : Tryd.pinned.checked.prog.funcs[f]? = some fn) :
    false = Tryd.pinned.checked.prog.looks [] ∧ ∀ (j : Nat) t, fn.params[j]? = some t → Tryd.pinned.checked.prog.wantsStandIn t = false := by
  obtain rfl : f = 4 := Option.some.inj ((show Tryd.prog.funcNamed "bindery/binderylaw18.PagesNotes" = some 4 by kernel_rfl).symm.trans hf) |>.symm
  obtain rfl : fn = Tryd.f4 := (Option.some.inj (Tryd.func4.symm.trans hfn)).symm
  refine ⟨by kernel_rfl, fun j t ht => ?_⟩
  rw [Tryd.params4] at ht
  cases j with
  | zero =>
    obtain rfl : 28 = t := Option.some.inj ht
    exact (show Tryd.prog.wantsStandIn 28 = false by kernel_rfl)
  | succ j =>
  cases j with
  | zero =>
    obtain rfl : 28 = t := Option.some.inj ht
    exact (show Tryd.prog.wantsStandIn 28 = false by kernel_rfl)
  | succ j =>
  cases j with
  | zero =>
    obtain rfl : 5 = t := Option.some.inj ht
    exact (show Tryd.prog.wantsStandIn 5 = false by kernel_rfl)
  | succ j =>
  simp at ht

/-- THE CARD. -/
theorem proved : Rows.PagesNotesCardSaid :=
  Claim7.holds_tied_plain_at .later [] _ _ _ _ said (fun _ h => by cases h) (by kernel_rfl) (fun _ h => by cases h) pagesNotes_row_tie rfl ⟨rfl, rfl⟩ (by kernel_rfl) rfl plain (by kernel_rfl)
#print axioms proved
end Go.Proofs.YtlgodkjbilkloaaDoor.pagesNotesDone

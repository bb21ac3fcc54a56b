/-
  PAGES: find where there are no places; spans of one reference.
-/
import Derived.Test.YtlgodkjbilkloaaDoorPgE
import Derived.StringKeys
namespace Go.Proofs.YtlgodkjbilkloaaDoor
open Go.RowKit Go.Maps
set_option linter.unusedVariables false

def plZ : Array Value := #[.string ⟨#[]⟩, .int .u8 0, .string ⟨#[]⟩, .string ⟨#[]⟩, .string ⟨#[]⟩, .string ⟨#[]⟩]
def MapN (b : Nat) (w : World) : Prop := w.ownsMap Tryd.prog 9 (plainElem (H := Unit) Tryd.prog 3) b 0 (.map [])
theorem MapN.block {b : Nat} {w w' : World} (h : MapN b w) (hb : w'.heap[b]? = w.heap[b]?) : MapN b w' := by
  obtain ⟨es, clock, h1, h2⟩ := h
  exact ⟨es, clock, hb.trans h1, h2⟩
theorem zeroInt (w : World) : (zeroValue 3).run Tryd.prog w = .ok (.int .i64 0) w := by kernel_rfl
theorem look_none (M : Nat) (s : ByteArray) (hs : s.size ≤ maxLen) (w : World) (h : MapN M w) : (Instr.lookup 43 (.map (some M)) (.string s) true).run Tryd.prog w = .ok (.tuple #[.int .i64 0, .bool false]) w := by
  obtain ⟨v, ps, hrun, hv⟩ := World.ownsMap.look_ok h (string_keyed Tryd.underlying9) Tryd.underlying43 (zeroInt w) (plainElem_int Tryd.underlying3 (by decide)) (WideMaps.keyOf_string_mk Tryd.underlying9 hs)
  obtain ⟨c, rfl, hc, _⟩ := plainElem_int_inv Tryd.underlying3 hv
  have h1 : (DataW.lit (H := Unit) (.int .i64 0)) = .lit (.int .i64 c) := congrArg Prod.fst hc
  have h2 := (Lit.int.inj (DataW.lit.inj h1)).2
  rw [← h2] at hrun
  exact hrun
theorem eqMapNil (w : World) : (binOp .eql 43 (.map none) (.map none)).run Tryd.prog w = .ok (.bool true) w := by kernel_rfl
set_option maxHeartbeats 4000000 in
set_option maxRecDepth 100000 in
theorem find_none (G : Nat) (s : ByteArray) (hs : s.size ≤ 1000000) (w : World) (hG : w.heap[G]? = some (.cells guC 45 (0, 0))) :
    Calls Tryd.prog 33 #[.pointer (some ⟨G, 0, none⟩), .string s] w fun e w' => e = .returned (.tuple #[.agg plZ, .bool false]) ∧ w.grownBy w' (some G) := by
  have g0 : w.cell? ⟨G, 0, none⟩ = some (.slice none 0 0) := by rw [Lib.cell_of_heap hG]; rfl
  have g1 : w.cell? ⟨G, 1, none⟩ = some (.map none) := by rw [Lib.cell_of_heap hG]; rfl
  have f1 : w.frozen? ⟨G, 1, none⟩ = false := by simp [World.frozen?, hG]
  have HG := Lib.hid hG
  have hlt : G < w.heap.size := (Array.getElem?_eq_some_iff.1 hG).1
  clear hG
  have hmm := @run_makeMap Tryd.prog
  have hem := eqMapNil
  go_enter Tryd.func33, Tryd.ntmps33
  go_wp2_with fail
  obtain ⟨w0, hw0⟩ : ∃ x, x = w.setCell ⟨G, 1, none⟩ (.map (some (w.heap.size + 1))) := ⟨_, rfl⟩
  have hsz0 : w0.heap.size = w.heap.size := by rw [hw0]; simp [World.setCell]
  obtain ⟨w3, hw3⟩ : ∃ x, x = (w0.alloc (.cells plZ 92)).alloc (.map #[] 0) := ⟨_, rfl⟩
  have hgr0 : w.grownBy w0 (some G) := by rw [hw0]; exact grown_set _ _ _ _
  have hb03 : Below w0.heap.size w0 w3 := by rw [hw3]; exact ((Below.refl _ w0).alloc (Nat.le_refl _) _).alloc (by simp) _
  have hgr : w.grownBy w3 (some G) := ⟨hb03.os.trans hgr0.os, hb03.tape.trans hgr0.tape, hb03.output.trans hgr0.output, Nat.le_trans hgr0.size hb03.size, fun k hk hne => (hb03.block k (by omega)).trans (hgr0.block k hk hne)⟩
  have h0G : w0.heap[G]? = some (.cells #[.slice none 0 0, .map (some (w.heap.size + 1))] 45 (0, 0)) := by
    rw [hw0]
    simp [World.setCell, Array.getElem?_modify, HG.out, guC]
  have g3 : w3.cell? ⟨G, 1, none⟩ = some (.map (some (w.heap.size + 1))) := by
    rw [Lib.cell_of_heap ((hb03.block G (by omega)).trans h0G)]; rfl
  have hmn : MapN (w.heap.size + 1) w3 := by
    have := World.ownsMap_made (w0.alloc (.cells plZ 92)) Tryd.prog 9 (plainElem (H := Unit) Tryd.prog 3)
    rw [hw3]
    simpa [MapN, hsz0] using this
  have hres : w3.heap[w.heap.size]? = some (.cells plZ 92 (0, 0)) := by
    rw [hw3, ← hsz0]
    exact (heap_alloc_old _ _ (by simp)).trans (heap_alloc_new w0 _)
  rw [show ((w.setCell ⟨G, 1, none⟩ (.map (some (w.heap.size + 1)))).alloc (.cells #[.string ⟨#[]⟩, .int .u8 0, .string ⟨#[]⟩, .string ⟨#[]⟩, .string ⟨#[]⟩, .string ⟨#[]⟩] 92)).alloc (.map #[] 0) = w3 from by rw [hw3, hw0]; rfl]
  clear hw0 hgr0 hb03 h0G
  clear hw3 g0 g1 f1 hmm hem
  go_loopw [26] (fun i wr => i = .int .i64 0 ∧ wr = w3) (fun i _ => 0)
  case atStart => exact ⟨rfl, rfl⟩
  case round =>
    obtain ⟨rfl, rfl⟩ := hrel
    have r0 : wr.cell? ⟨w.heap.size, 0, none⟩ = some (.string ⟨#[]⟩) := by rw [Lib.cell_of_heap hres]; rfl
    have z0 : wr.frozen? ⟨w.heap.size, 0, none⟩ = false := by simp [World.frozen?, hres]
    have r1 : wr.cell? ⟨w.heap.size, 1, none⟩ = some (.int .u8 0) := by rw [Lib.cell_of_heap hres]; rfl
    have z1 : wr.frozen? ⟨w.heap.size, 1, none⟩ = false := by simp [World.frozen?, hres]
    have r2 : wr.cell? ⟨w.heap.size, 2, none⟩ = some (.string ⟨#[]⟩) := by rw [Lib.cell_of_heap hres]; rfl
    have z2 : wr.frozen? ⟨w.heap.size, 2, none⟩ = false := by simp [World.frozen?, hres]
    have r3 : wr.cell? ⟨w.heap.size, 3, none⟩ = some (.string ⟨#[]⟩) := by rw [Lib.cell_of_heap hres]; rfl
    have z3 : wr.frozen? ⟨w.heap.size, 3, none⟩ = false := by simp [World.frozen?, hres]
    have r4 : wr.cell? ⟨w.heap.size, 4, none⟩ = some (.string ⟨#[]⟩) := by rw [Lib.cell_of_heap hres]; rfl
    have z4 : wr.frozen? ⟨w.heap.size, 4, none⟩ = false := by simp [World.frozen?, hres]
    have r5 : wr.cell? ⟨w.heap.size, 5, none⟩ = some (.string ⟨#[]⟩) := by rw [Lib.cell_of_heap hres]; rfl
    have z5 : wr.frozen? ⟨w.heap.size, 5, none⟩ = false := by simp [World.frozen?, hres]
    have hlk := look_none (w.heap.size + 1) s (by unfold maxLen; omega) wr hmn
    go_wp2_with fail
    (try simp only [Exit.inBlock, Exit.then])
    have hJ : ∀ j, some w.heap.size = some j → w.heap.size ≤ j ∨ some G = some j := fun j e => .inl (by injection e with e; omega)
    refine bodyPost_ret (v := .tuple #[.agg plZ, .bool false]) ?_ rfl ⟨rfl, ?_⟩
    · rw [results_cell_tmp rfl]
      go_simp
      rfl
    · exact (((((hgr.andThen (grown_set _ _ _ _) hJ).andThen (grown_set _ _ _ _) hJ).andThen (grown_set _ _ _ _) hJ).andThen (grown_set _ _ _ _) hJ).andThen (grown_set _ _ _ _) hJ).andThen (grown_set _ _ _ _) hJ

theorem find_none2 (G : Nat) (s : ByteArray) (hs : s.size ≤ 1000000) (w : World) (hG : w.heap[G]? = some (.cells guC 45 (0, 0))) :
    Calls Tryd.prog 33 #[.pointer (some ⟨G, 0, none⟩), .string s] w fun e w' => e = .returned (.tuple #[.agg #[.string ⟨#[]⟩, .int .u8 0, .string ⟨#[]⟩, .string ⟨#[]⟩, .string ⟨#[]⟩, .string ⟨#[]⟩], .bool false]) ∧ w.grownBy w' (some G) := find_none G s hs w hG
def onM (g : Nat) (kd : Int) (s : ByteArray) : List (Nat × Obj) := [(g, .cells (spC kd s (.slice none 0 0)) 27 (0, 0))]
theorem spans_one (gp g c : Nat) (kd : Int) (hkd : kd = 0 ∨ kd = 5) (s : ByteArray) (hs : s.size ≤ 1000000) (f : Int) : SpC (onM g kd s) gp g 1 c f (Es.esc (lb s)) [] := by
  intro G P b w hG1 hM1 hGP hPb hB hG hP hM hPw
  have mg := hM _ (List.mem_cons_self ..)
  refine (spans_text P b g c [] kd hkd s hs (by simp) w hB mg).mono ?_
  rintro e w' ⟨rfl, h1, h2, h3⟩
  exact ⟨rfl, h1, h2.mono (by omega), .slice none 0 0, (h2.block P hPb).trans hP, World.ownsRow_nil _ _ _ _⟩
set_option maxHeartbeats 4000000 in
set_option maxRecDepth 100000 in
theorem spans_ref (gp g c : Nat) (s : ByteArray) (hs : s.size ≤ 1000000) (f : Int) : SpC (onM g 4 s) gp g 1 c f (Es.esc (lb s)) [] := by
  intro G P b w hG1 hM1 hGP hPb hB hG hP hM hPw
  have mg : w.heap[g]? = some (.cells (spC 4 s (.slice none 0 0)) 27 (0, 0)) := hM _ (List.mem_cons_self ..)
  have s0 : w.cell? ⟨g, 0, none⟩ = some (.int .u8 4) := by rw [Lib.cell_of_heap mg]; rfl
  have s1 : w.cell? ⟨g, 1, none⟩ = some (.string s) := by rw [Lib.cell_of_heap mg]; rfl
  have s2 : w.cell? ⟨g, 2, none⟩ = some (.string ⟨#[]⟩) := by rw [Lib.cell_of_heap mg]; rfl
  have s3 : w.cell? ⟨g, 3, none⟩ = some (.string ⟨#[]⟩) := by rw [Lib.cell_of_heap mg]; rfl
  have s4 : w.cell? ⟨g, 4, none⟩ = some (.slice none 0 0) := by rw [Lib.cell_of_heap mg]; rfl
  have hblt := hB.lt
  have HB := Lib.hid hB
  have HG := Lib.hid hG
  have HP := Lib.hid hP
  have p0 : w.cell? ⟨P, 0, none⟩ = some (.pointer (some ⟨G, 0, none⟩)) := by rw [Lib.cell_of_heap hP]; rfl
  clear hB hG hP hM hPw mg hM1
  go_enter Tryd.func18, Tryd.ntmps18
  go_wp2_with fail
  go_loopw [12] (fun i wr => (i = .int .i64 0 ∧ wr = w) ∨ (i = .int .i64 1 ∧ PgPost G P b f (Es.esc (lb s)) [] w (.returned (.tuple #[])) wr)) (fun i _ => 1 - (intOf i).toNat)
  case atStart => exact .inl ⟨rfl, rfl⟩
  case round =>
    rcases hrel with ⟨rfl, rfl⟩ | ⟨rfl, hst⟩
    · obtain ⟨w1, hw1⟩ : ∃ x, x = wr.alloc (.cells #[.int .u8 4, .string s, .string ⟨#[]⟩, .string ⟨#[]⟩, .slice none 0 0] 27) := ⟨_, rfl⟩
      have hb1 : Below wr.heap.size wr w1 := by rw [hw1]; exact (Below.refl _ wr).alloc (Nat.le_refl _) _
      have hn1 : w1.heap[wr.heap.size]? = some (.cells #[.int .u8 4, .string s, .string ⟨#[]⟩, .string ⟨#[]⟩, .slice none 0 0] 27 (0, 0)) := by rw [hw1]; exact heap_alloc_new wr _
      have hs1 : w1.heap.size = wr.heap.size + 1 := by rw [hw1]; simp
      have q0 : w1.cell? ⟨P, 0, none⟩ = some (.pointer (some ⟨G, 0, none⟩)) := (hb1.cell (p := ⟨P, 0, none⟩) (by show P < _; omega)).trans p0
      have q1 : w1.cell? ⟨wr.heap.size, 1, none⟩ = some (.string s) := by rw [Lib.cell_of_heap hn1]; rfl
      have HG1 := Lib.hid ((hb1.block G (by omega)).trans HG.out)
      have HN1 := Lib.hid hn1
      have HB1 := Lib.hid hb1
      go_wp2_with fail
      rw [← hw1]
      clear hw1 hb1 hn1 p0 s0 s1 s2 s3 s4
      have HG2 := Lib.hid ((heap_alloc_old w1 (.cells #[.string ⟨#[]⟩, .int .u8 0, .string ⟨#[]⟩, .string ⟨#[]⟩, .string ⟨#[]⟩, .string ⟨#[]⟩] 92) (by omega)).trans HG1.out)
      have HN2 := Lib.hid (heap_alloc_new w1 (.cells #[.string ⟨#[]⟩, .int .u8 0, .string ⟨#[]⟩, .string ⟨#[]⟩, .string ⟨#[]⟩, .string ⟨#[]⟩] 92))
      have hG1lt : G < w1.heap.size := by omega
      have q2 : (w1.alloc (.cells #[.string ⟨#[]⟩, .int .u8 0, .string ⟨#[]⟩, .string ⟨#[]⟩, .string ⟨#[]⟩, .string ⟨#[]⟩] 92)).cell? ⟨P, 0, none⟩ = some (.pointer (some ⟨G, 0, none⟩)) := (((Below.refl _ w1).alloc (Nat.le_refl _) _).cell (p := ⟨P, 0, none⟩) (by show P < _; omega)).trans q0
      have q3 : (w1.alloc (.cells #[.string ⟨#[]⟩, .int .u8 0, .string ⟨#[]⟩, .string ⟨#[]⟩, .string ⟨#[]⟩, .string ⟨#[]⟩] 92)).cell? ⟨wr.heap.size, 1, none⟩ = some (.string s) := (((Below.refl _ w1).alloc (Nat.le_refl _) _).cell (p := ⟨wr.heap.size, 1, none⟩) (by show wr.heap.size < _; omega)).trans q1
      go_region_with (first
        | (go_at_call 33; go_loud (refine (find_none2 G s hs w1.drew HG1.out).mono ?_; rintro e w2 ⟨rfl, gr2⟩; have gr2' : w1.grownBy w2 (some G) := ⟨gr2.os, gr2.tape, gr2.output, gr2.size, gr2.block⟩; have b23 : Below w2.heap.size w2 (w2.alloc (.cells #[.string ⟨#[]⟩, .int .u8 0, .string ⟨#[]⟩, .string ⟨#[]⟩, .string ⟨#[]⟩, .string ⟨#[]⟩] 92)) := (Below.refl _ w2).alloc (Nat.le_refl _) _; have hS2 := (gr2'.block wr.heap.size (by omega) (fun e => by injection e with e; omega)).trans HN1.out; have hsz2 := gr2'.size; have q4 : (w2.alloc (.cells #[.string ⟨#[]⟩, .int .u8 0, .string ⟨#[]⟩, .string ⟨#[]⟩, .string ⟨#[]⟩, .string ⟨#[]⟩] 92)).cell? ⟨wr.heap.size, 1, none⟩ = some (.string s) := (by rw [Lib.cell_of_heap ((b23.block wr.heap.size (by omega)).trans hS2)]; rfl); obtain ⟨w3, hw3⟩ : ∃ x, x = w2.alloc (.cells #[.string ⟨#[]⟩, .int .u8 0, .string ⟨#[]⟩, .string ⟨#[]⟩, .string ⟨#[]⟩, .string ⟨#[]⟩] 92) := ⟨_, rfl⟩; have HW3 := Lib.hid hw3; have HGR : Hid (w1.grownBy w3 (some G)) := Lib.hid (by rw [hw3]; exact ⟨b23.os.trans gr2'.os, b23.tape.trans gr2'.tape, b23.output.trans gr2'.output, Nat.le_trans gr2'.size b23.size, fun k hk hne => (b23.block k (by omega)).trans (gr2'.block k hk hne)⟩); clear hw3 gr2 gr2' b23 hS2))
        | (go_at_call 33; go_loud (refine (find_none2 G s hs (w1.alloc (.cells #[.string ⟨#[]⟩, .int .u8 0, .string ⟨#[]⟩, .string ⟨#[]⟩, .string ⟨#[]⟩, .string ⟨#[]⟩] 92)).drew HG2.out).mono ?_; rintro e w2 ⟨rfl, gr2⟩; have hbk : w2.heap[wr.heap.size + 1]? = some (.cells plZ 92 (0, 0)) := (gr2.block (wr.heap.size + 1) (by simp; omega) (fun e => by injection e with e; omega)).trans (by rw [← hs1]; exact HN2.out); have r0 : w2.cell? ⟨wr.heap.size + 1, 0, none⟩ = some (.string ⟨#[]⟩) := (by rw [Lib.cell_of_heap hbk]; rfl); have z0 : w2.frozen? ⟨wr.heap.size + 1, 0, none⟩ = false := (by simp [World.frozen?, hbk]); have r1 : w2.cell? ⟨wr.heap.size + 1, 1, none⟩ = some (.int .u8 0) := (by rw [Lib.cell_of_heap hbk]; rfl); have z1 : w2.frozen? ⟨wr.heap.size + 1, 1, none⟩ = false := (by simp [World.frozen?, hbk]); have r2 : w2.cell? ⟨wr.heap.size + 1, 2, none⟩ = some (.string ⟨#[]⟩) := (by rw [Lib.cell_of_heap hbk]; rfl); have z2 : w2.frozen? ⟨wr.heap.size + 1, 2, none⟩ = false := (by simp [World.frozen?, hbk]); have r3 : w2.cell? ⟨wr.heap.size + 1, 3, none⟩ = some (.string ⟨#[]⟩) := (by rw [Lib.cell_of_heap hbk]; rfl); have z3 : w2.frozen? ⟨wr.heap.size + 1, 3, none⟩ = false := (by simp [World.frozen?, hbk]); have r4 : w2.cell? ⟨wr.heap.size + 1, 4, none⟩ = some (.string ⟨#[]⟩) := (by rw [Lib.cell_of_heap hbk]; rfl); have z4 : w2.frozen? ⟨wr.heap.size + 1, 4, none⟩ = false := (by simp [World.frozen?, hbk]); have r5 : w2.cell? ⟨wr.heap.size + 1, 5, none⟩ = some (.string ⟨#[]⟩) := (by rw [Lib.cell_of_heap hbk]; rfl); have z5 : w2.frozen? ⟨wr.heap.size + 1, 5, none⟩ = false := (by simp [World.frozen?, hbk]); have gr2' : w1.grownBy w2 (some G) := ⟨gr2.os, gr2.tape, gr2.output, Nat.le_trans (by simp) gr2.size, fun k hk hne => (gr2.block k (by simp; omega) hne).trans (heap_alloc_old w1 _ hk)⟩; have hS2 := (gr2'.block wr.heap.size (by omega) (fun e => by injection e with e; omega)).trans HN1.out; have q4 : w2.cell? ⟨wr.heap.size, 1, none⟩ = some (.string s) := (by rw [Lib.cell_of_heap hS2]; rfl); have hJ : ∀ j, some (wr.heap.size + 1) = some j → w1.heap.size ≤ j ∨ some G = some j := fun j e => .inl (by injection e with e; omega); obtain ⟨w3, hw3⟩ : ∃ x, x = ((((((w2.setCell ⟨wr.heap.size + 1, 0, none⟩ (.string ⟨#[]⟩)).setCell ⟨wr.heap.size + 1, 1, none⟩ (.int .u8 0)).setCell ⟨wr.heap.size + 1, 2, none⟩ (.string ⟨#[]⟩)).setCell ⟨wr.heap.size + 1, 3, none⟩ (.string ⟨#[]⟩)).setCell ⟨wr.heap.size + 1, 4, none⟩ (.string ⟨#[]⟩)).setCell ⟨wr.heap.size + 1, 5, none⟩ (.string ⟨#[]⟩)) := ⟨_, rfl⟩; have HW3 := Lib.hid hw3; have HGR : Hid (w1.grownBy w3 (some G)) := Lib.hid (by rw [hw3]; exact (((((gr2'.andThen (grown_set _ _ _ _) hJ).andThen (grown_set _ _ _ _) hJ).andThen (grown_set _ _ _ _) hJ).andThen (grown_set _ _ _ _) hJ).andThen (grown_set _ _ _ _) hJ).andThen (grown_set _ _ _ _) hJ); clear hw3 gr2 gr2' hS2 hJ hbk)))
      all_goals
        go_wp2_with fail
        rw [← HW3.out]
        have hs3 := HGR.out.size
        have hB3 : Bld b [] w3 := (HB.out.below HB1.out).grown HGR.out (fun g e => by
          injection e with e
          subst e
          exact ⟨_, _, _, HG1.out, by decide, by decide⟩)
        have HP3 := Lib.hid ((HGR.out.block P (by omega) (fun e => by injection e with e; omega)).trans ((HB1.out.block P (by omega)).trans HP.out))
        have HF3 : Hid (Below G wr w3) := Lib.hid ⟨HGR.out.os.trans HB1.out.os, HGR.out.tape.trans HB1.out.tape, HGR.out.output.trans HB1.out.output, by omega, fun k hk => (HGR.out.block k (by omega) (fun e => by injection e with e; omega)).trans (HB1.out.block k (by omega))⟩
        have HB3 := Lib.hid hB3
        clear hB3 HW3
        refine (text_any s (by omega) w3).mono ?_
        rintro e w4 ⟨⟨x, rfl, hx⟩, b4⟩
        have hB4 := HB3.out.below b4
        have hs4 := b4.size
        have hbl4 := hB4.lt
        have hxl : (lb x).length ≤ 6000000 := by
          rw [hx]
          have := esc_small s
          omega
        have HX := Lib.hid hx
        have HB4 := Lib.hid hB4
        have HP4 := Lib.hid ((b4.block P (by omega)).trans HP3.out)
        have HF4 := Lib.hid (HF3.out.trans (b4.mono (by omega)))
        clear hx hB4 b4
        go_wp2_with fail
        refine (put_any b w4.heap.size 1 1 [] [x] rfl (by decide) (by rw [cats_one, List.length_nil]; omega) (by omega) _ (HB4.out.alloc _) (heap_alloc_new w4 _)).mono ?_
        rintro e w5 ⟨rfl, h1, h2, h3⟩
        rw [cats_one, HX.out, List.nil_append] at h1
        have f5 : Below b w4 w5 := ((Below.refl b w4).alloc (Nat.le_of_lt hbl4) _).trans h2
        have HN : Hid (PgPost G P b f (Es.esc (lb s)) [] wr (.returned (.tuple #[])) w5) := Lib.hid ⟨rfl, h1, HF4.out.trans (f5.mono (by omega)), .slice none 0 0, (f5.block P hPb).trans HP4.out, World.ownsRow_nil _ _ _ _⟩
        clear h1 h2 h3 f5
        go_wp2_with fail
        go_roundw
        case rel => exact .inr ⟨by go_num, HN.out⟩
        case measure => simp [intOf]
    · have HN := Lib.hid hst
      clear hst
      go_wp2_with fail
      go_end0
      exact HN.out
end Go.Proofs.YtlgodkjbilkloaaDoor

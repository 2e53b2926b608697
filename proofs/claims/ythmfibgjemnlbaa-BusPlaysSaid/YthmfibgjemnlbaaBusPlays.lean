/-
  Every row of calls on a bus and its copies answers as the document says: for every list of steps 'BusPlays' returns true, and the list reads afterwards as it read before.
  Conditions: none.
-/
import Derived.Test.YthmfibgjemnlbaaRows
import Derived.Test.YthmfibgjemnlbaaB39
import Derived.ProofKit
import Derived.OpenShut
import Derived.ShutString
import Derived.ChangeOld
import Derived.Deep.Slices
import Derived.Lib.SmallJoins
namespace Go.Proofs.Ythmfibgjemnlbaa
open Go.ChangeShapes Go.WideShapes Go.ChangeAt Go.RowKit Go.Deep
open Go.ChangeMaps (open_string shut_string)
set_option linter.unusedVariables false

theorem own : ownKnob Try.prog.godebug = none := by kernel_rfl
theorem laidOut : laidOutB Try.prog = true := by kernel_rfl
theorem cells32 : Try.prog.cellsOf 32 = 11 := by kernel_rfl
theorem cells45 : Try.prog.cellsOf 45 = 14 := by kernel_rfl
theorem cells29 : Try.prog.cellsOf 29 = 1 := by kernel_rfl
theorem cells30 : Try.prog.cellsOf 30 = 8 := by kernel_rfl
theorem cells3 : Try.prog.cellsOf 3 = 1 := by kernel_rfl
theorem cells4 : Try.prog.cellsOf 4 = 1 := by kernel_rfl
theorem cells5 : Try.prog.cellsOf 5 = 1 := by kernel_rfl

section
variable {H : Type} {enc : TypeId × Value → H} {w : World} {base : Nat} {spare : Nat → Bool} {held : Bool}
theorem list11 {l : List Value} (h : l.length = 11) : ∃ c0 c1 c2 c3 c4 c5 c6 c7 c8 c9 c10, l = [c0, c1, c2, c3, c4, c5, c6, c7, c8, c9, c10] := by
  match l, h with
  | [c0, c1, c2, c3, c4, c5, c6, c7, c8, c9, c10], _ => exact ⟨c0, c1, c2, c3, c4, c5, c6, c7, c8, c9, c10, rfl⟩
theorem trod_bytes8 {fuel : Nat} {c0 c1 c2 c3 c4 c5 c6 c7 : Value} {x : DataW H × List MemPlace} (h : DataW.trod enc Try.prog w base spare held fuel 30 [c0, c1, c2, c3, c4, c5, c6, c7] = some x) :
    ∃ d0 d1 d2 d3 d4 d5 d6 d7 : Int, c0 = .int .u8 d0 ∧ c1 = .int .u8 d1 ∧ c2 = .int .u8 d2 ∧ c3 = .int .u8 d3 ∧ c4 = .int .u8 d4 ∧ c5 = .int .u8 d5 ∧ c6 = .int .u8 d6 ∧ c7 = .int .u8 d7 := by
  obtain ⟨xs, m, _, _, _, hxl, hf⟩ := DataW.trod_array Try.underlying30 h
  have g : ∀ i, i < 8 → ∃ y, DataW.trod enc Try.prog w base spare held m 5 (([c0, c1, c2, c3, c4, c5, c6, c7].drop (i * 1)).take 1) = some y := by
    intro i hi
    have := hf i hi
    rw [cells5, List.getElem?_eq_getElem (by omega)] at this
    exact ⟨_, this⟩
  have q : ∀ i (c : Value), i < 8 → ([c0, c1, c2, c3, c4, c5, c6, c7].drop (i * 1)).take 1 = [c] → ∃ d : Int, c = .int .u8 d := by
    intro i c hi hc
    obtain ⟨y, hy⟩ := g i hi
    rw [hc] at hy
    obtain ⟨n, hn, _⟩ := DataW.trod_int Try.underlying5 hy
    exact ⟨n, by simpa using hn⟩
  obtain ⟨e0, h0⟩ := q 0 c0 (by decide) rfl
  obtain ⟨e1, h1⟩ := q 1 c1 (by decide) rfl
  obtain ⟨e2, h2⟩ := q 2 c2 (by decide) rfl
  obtain ⟨e3, h3⟩ := q 3 c3 (by decide) rfl
  obtain ⟨e4, h4⟩ := q 4 c4 (by decide) rfl
  obtain ⟨e5, h5⟩ := q 5 c5 (by decide) rfl
  obtain ⟨e6, h6⟩ := q 6 c6 (by decide) rfl
  obtain ⟨e7, h7⟩ := q 7 c7 (by decide) rfl
  exact ⟨e0, e1, e2, e3, e4, e5, e6, e7, h0, h1, h2, h3, h4, h5, h6, h7⟩
/-- A frame's cells. -/
theorem trod_frame {fuel : Nat} {cs : List Value} {x : DataW H × List MemPlace} (h : DataW.trod enc Try.prog w base spare held fuel 32 cs = some x) :
    ∃ (i l d0 d1 d2 d3 d4 d5 d6 d7 : Int) (r : Bool), cs = [.int .u16 i, .int .i64 l, .int .u8 d0, .int .u8 d1, .int .u8 d2, .int .u8 d3, .int .u8 d4, .int .u8 d5, .int .u8 d6, .int .u8 d7, .bool r] := by
  obtain ⟨xs, n, _, _, hl, hxl, hf⟩ := DataW.trod_struct Try.underlying32 h
  rw [cells32] at hl
  obtain ⟨c0, c1, c2, c3, c4, c5, c6, c7, c8, c9, c10, rfl⟩ := list11 hl
  have hxl' : xs.length = 4 := hxl
  have q0 := hf 0 _ rfl
  have k0 : DataW.trod enc Try.prog w base spare held n 29 (([c0, c1, c2, c3, c4, c5, c6, c7, c8, c9, c10].drop 0).take (Try.prog.cellsOf 29)) = xs[0]? := q0
  rw [cells29, List.getElem?_eq_getElem (by omega)] at k0
  have q1 := hf 1 _ rfl
  have k1 : DataW.trod enc Try.prog w base spare held n 3 (([c0, c1, c2, c3, c4, c5, c6, c7, c8, c9, c10].drop 1).take (Try.prog.cellsOf 3)) = xs[1]? := q1
  rw [cells3, List.getElem?_eq_getElem (by omega)] at k1
  have q2 := hf 2 _ rfl
  have k2 : DataW.trod enc Try.prog w base spare held n 30 (([c0, c1, c2, c3, c4, c5, c6, c7, c8, c9, c10].drop 2).take (Try.prog.cellsOf 30)) = xs[2]? := q2
  rw [cells30, List.getElem?_eq_getElem (by omega)] at k2
  have q3 := hf 3 _ rfl
  have k3 : DataW.trod enc Try.prog w base spare held n 4 (([c0, c1, c2, c3, c4, c5, c6, c7, c8, c9, c10].drop 10).take (Try.prog.cellsOf 4)) = xs[3]? := q3
  rw [cells4, List.getElem?_eq_getElem (by omega)] at k3
  obtain ⟨i, hi, _⟩ := DataW.trod_int Try.underlying29 k0
  obtain ⟨l, hl', _⟩ := DataW.trod_int Try.underlying3 k1
  obtain ⟨e0, e1, e2, e3, e4, e5, e6, e7, g0, g1, g2, g3, g4, g5, g6, g7⟩ := trod_bytes8 (c0 := c2) (c1 := c3) (c2 := c4) (c3 := c5) (c4 := c6) (c5 := c7) (c6 := c8) (c7 := c9) k2
  obtain ⟨r, hr, _⟩ := DataW.trod_bool Try.underlying4 k3
  refine ⟨i, l, e0, e1, e2, e3, e4, e5, e6, e7, r, ?_⟩
  simp at hi hl' hr
  rw [hi, hl', hr, g0, g1, g2, g3, g4, g5, g6, g7]
theorem list14 {l : List Value} (h : l.length = 14) : ∃ c0 c1 c2 c3 c4 c5 c6 c7 c8 c9 c10 c11 c12 c13, l = [c0, c1, c2, c3, c4, c5, c6, c7, c8, c9, c10, c11, c12, c13] := by
  match l, h with
  | [c0, c1, c2, c3, c4, c5, c6, c7, c8, c9, c10, c11, c12, c13], _ => exact ⟨c0, c1, c2, c3, c4, c5, c6, c7, c8, c9, c10, c11, c12, c13, rfl⟩
/-- A step's cells. -/
theorem trod_step {fuel : Nat} {cs : List Value} {x : DataW H × List MemPlace} (h : DataW.trod enc Try.prog w base spare held fuel 45 cs = some x) :
    ∃ s : St, cs = s.cs := by
  obtain ⟨xs, n, _, _, hl, hxl, hf⟩ := DataW.trod_struct Try.underlying45 h
  rw [cells45] at hl
  obtain ⟨c0, c1, c2, c3, c4, c5, c6, c7, c8, c9, c10, c11, c12, c13, rfl⟩ := list14 hl
  have hxl' : xs.length = 4 := hxl
  have k0 : DataW.trod enc Try.prog w base spare held n 3 (([c0, c1, c2, c3, c4, c5, c6, c7, c8, c9, c10, c11, c12, c13].drop 0).take (Try.prog.cellsOf 3)) = xs[0]? := hf 0 _ rfl
  rw [cells3, List.getElem?_eq_getElem (by omega)] at k0
  have k1 : DataW.trod enc Try.prog w base spare held n 3 (([c0, c1, c2, c3, c4, c5, c6, c7, c8, c9, c10, c11, c12, c13].drop 1).take (Try.prog.cellsOf 3)) = xs[1]? := hf 1 _ rfl
  rw [cells3, List.getElem?_eq_getElem (by omega)] at k1
  have k2 : DataW.trod enc Try.prog w base spare held n 32 (([c0, c1, c2, c3, c4, c5, c6, c7, c8, c9, c10, c11, c12, c13].drop 2).take (Try.prog.cellsOf 32)) = xs[2]? := hf 2 _ rfl
  rw [cells32, List.getElem?_eq_getElem (by omega)] at k2
  have k3 : DataW.trod enc Try.prog w base spare held n 3 (([c0, c1, c2, c3, c4, c5, c6, c7, c8, c9, c10, c11, c12, c13].drop 13).take (Try.prog.cellsOf 3)) = xs[3]? := hf 3 _ rfl
  rw [cells3, List.getElem?_eq_getElem (by omega)] at k3
  obtain ⟨v0, h0, _⟩ := DataW.trod_int Try.underlying3 k0
  obtain ⟨v1, h1, _⟩ := DataW.trod_int Try.underlying3 k1
  obtain ⟨i, l, e0, e1, e2, e3, e4, e5, e6, e7, r, h2⟩ := trod_frame k2
  obtain ⟨v3, h3, _⟩ := DataW.trod_int Try.underlying3 k3
  refine ⟨⟨v0, v1, i, l, e0, e1, e2, e3, e4, e5, e6, e7, r, v3⟩, ?_⟩
  simp at h0 h1 h2 h3
  obtain ⟨g0, g1, g2, g3, g4, g5, g6, g7, g8, g9, g10⟩ := h2
  simp only [St.cs]
  rw [h0, h1, h3, g0, g1, g2, g3, g4, g5, g6, g7, g8, g9, g10]
end

section
variable {H : Type} {enc : TypeId × Value → H} {w : World}
/-- A list of steps, opened. -/
theorem sin_of_trod {fuel : Nat} {A : Option Addr} {L c : Nat} {x : DataW H × List MemPlace} (h : DataW.trod enc Try.prog w 0 (fun _ => true) true fuel 43 [.slice A L c] = some x) (hlt : ∀ y ∈ x.2, y.block < w.heap.size) :
    L ≤ 9223372036854775807 ∧ ∃ f, SIn w A L f := by
  rcases open_slice Try.underlying43 h with ⟨hcs, rfl⟩ | ⟨a, len, cap, m, n, D, Pl, hcs, _, hl, hm, hmm, rfl, hx⟩
  · simp at hcs
    obtain ⟨rfl, rfl, rfl⟩ := hcs
    exact ⟨by omega, fun _ => default, fun i hi => by omega⟩
  · simp at hcs
    obtain ⟨rfl, rfl, rfl⟩ := hcs
    simp only [if_true] at hmm
    subst hmm
    unfold maxLen at hm
    refine ⟨by omega, ?_⟩
    obtain ⟨f, hf⟩ := choose_lt (α := St) (n := L) (p := fun i v => w.cells? 0 (a.add (i * 14)) 14 = some v.cs) (fun i hi => by
      obtain ⟨cs', h1, h2⟩ := hx i (by omega)
      rw [cells45] at h1
      obtain ⟨s, rfl⟩ := trod_step h2
      exact ⟨s, h1⟩)
    refine ⟨f, fun i hi => ?_⟩
    have h0 := hf 0 (by omega)
    obtain ⟨_, _, h0c⟩ := World.cells?_some h0
    obtain ⟨b, off, spot⟩ := a
    have hspot : spot = none := by
      have := h0c 0 (by omega)
      exact World.cell?_spot (v := (.int .i64 (f 0).kind)) (by simpa [Addr.add, St.cs] using this)
    subst hspot
    obtain ⟨_, hle, hc⟩ := World.cells?_some (hf i hi)
    refine ⟨b, off, rfl, hlt (.cell b off) ?_, fun c v hv => ?_⟩
    · simp only [List.mem_append]
      left
      exact MemPlace.mem_row.2 ⟨0, by rw [cells45]; omega, by simp⟩
    · have hc14 : c < 14 := by
        rcases Nat.lt_or_ge c 14 with h | h
        · exact h
        · rw [List.getElem?_eq_none (by rw [hle]; exact h)] at hv; cases hv
      have := hc c hc14
      rw [Addr.add_lit, Addr.add_lit] at this
      rw [this, hv]
end

namespace busPlaysDone
set_option maxRecDepth 100000 in
theorem lifted (os : Os) (started : os.Started) (H : Type) (enc : TypeId × Value → H) :
    ReturnsInHanded {} Try.checked os 4 .any (Rows.busPlaysSpec.pre6 enc Try.prog Try.f4 Rows.busPlaysRow.domain false) (Rows.busPlaysSpec.post enc Try.prog Try.f4 false true false false) := by
  refine returnsInHanded_of_change (C := Try.checked) own started (by kernel_rfl) Try.func4
    (ChangeSpec.witness6 (enc := enc) (C := Try.checked) false ⟨#[], #[.slice none 0 0], []⟩ 8 (by kernel_rfl) (by kernel_rfl) (by kernel_rfl) (by kernel_rfl)) ?_
  intro W base args ds gs before hval0 hW hcnd _
  have hval : ∀ (j : Nat) t v, Try.f4.params[j]? = some t → args[j]? = some v → Value.okWide Try.prog W .any base t v := hval0
  have hW' := hW
  obtain ⟨p, q, hA0, hV, rfl, hfz, hnd⟩ := hW
  have hA : DataW.TrodAll enc Try.prog W 0 (fun _ => true) true Try.f4.params.toList args.toList ds p := hA0
  rw [Try.params4] at hA hval
  obtain ⟨v0, vs0, d0, ds0, p0, q0, hargs, rfl, rfl, h0, r0⟩ := trodAll_cons hA
  obtain ⟨rfl, rfl, rfl⟩ := trodAll_nil r0
  obtain rfl : args = #[v0] := by cases args; simp_all
  obtain ⟨rfl, rfl⟩ := trodVars_none hV
  obtain ⟨A0, L, c0, rfl⟩ := okWide_slice Try.underlying43 (hval 0 43 v0 rfl rfl)
  have k0 := h0
  have lt0 : ∀ x ∈ p0, x.block < W.heap.size := by obtain ⟨m, hm⟩ := k0; exact DataW.trod_lt m _ _ _ hm
  obtain ⟨fuel0, hf0⟩ := h0
  obtain ⟨hL, f, hf⟩ := sin_of_trod hf0 lt0
  clear hA0 hval0
  refine (busPlays4 W A0 L c0 f hL hf).mono fun e W' ⟨he, bel⟩ => ?_
  subst he
  exact ⟨_, rfl, _, _, _, [], _, [], hW', trodAll_mk1 (shut_bool Try.underlying4 _), (trodAll_cons_mk (Below.trod laidOut (by kernel_rfl) (of_decide_eq_true (by kernel_rfl)) k0 bel lt0) trodAll_mk0), rfl, bel.frame _, fun h => by cases h⟩

theorem over : Rows.busPlaysRow.holds Try.pinned (OpenSpec.ofChange Rows.busPlaysSpec) :=
  OpenClaim.holds_of_wide 4 Try.f4 rfl rfl rfl rfl rfl rfl rfl ⟨rfl, rfl, rfl, rfl, rfl⟩ rfl rfl rfl rfl rfl (by kernel_rfl) Try.func4 (by kernel_rfl)
    (of_decide_eq_true (by kernel_rfl)) (by unfold Func.isWrapper; first | (rw [if_pos (by decide +kernel)]; kernel_rfl) | (rw [if_neg (by decide +kernel)]; exact ⟨rfl, rfl⟩))
    (fun os started H enc _ => lifted os started H enc)

/-- ████ THE STATEMENT ████ -/
theorem proved : Rows.BusPlaysSaid := over
end busPlaysDone
end Go.Proofs.Ythmfibgjemnlbaa
#print axioms Go.Proofs.Ythmfibgjemnlbaa.busPlaysDone.proved

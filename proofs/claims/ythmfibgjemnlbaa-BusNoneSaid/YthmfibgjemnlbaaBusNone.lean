/-
  A bus that is not there answers so to every call: for every node and every frame 'BusNone' returns true, and both read afterwards as they read before.
  Conditions: none.
-/
import Derived.Test.YthmfibgjemnlbaaRows
import Derived.Test.YthmfibgjemnlbaaB18
import Derived.ProofKit
import Derived.OpenShut
import Derived.ShutString
import Derived.ChangeOld
import Derived.Lib.SmallJoins
namespace Go.Proofs.Ythmfibgjemnlbaa
open Go.ChangeShapes Go.WideShapes Go.ChangeAt Go.RowKit
open Go.ChangeMaps (open_string shut_string)
set_option linter.unusedVariables false

theorem own : ownKnob Try.prog.godebug = none := by kernel_rfl
theorem laidOut : laidOutB Try.prog = true := by kernel_rfl
theorem cells32 : Try.prog.cellsOf 32 = 11 := by kernel_rfl
theorem cells29 : Try.prog.cellsOf 29 = 1 := by kernel_rfl
theorem cells30 : Try.prog.cellsOf 30 = 8 := by kernel_rfl
theorem cells3 : Try.prog.cellsOf 3 = 1 := by kernel_rfl
theorem cells4 : Try.prog.cellsOf 4 = 1 := by kernel_rfl
theorem cells5 : Try.prog.cellsOf 5 = 1 := by kernel_rfl

section
variable {H : Type} {enc : TypeId × Value → H} {w : World} {base : Nat} {spare : Nat → Bool} {held : Bool}
theorem list11 {l : List Value} (h : l.length = 11) : ∃ c0 c1 c2 c3 c4 c5 c6 c7 c8 c9 c10, l = [c0, c1, c2, c3, c4, c5, c6, c7, c8, c9, c10] := by
  match l, h with
  | [c0, c1, c2, c3, c4, c5, c6, c7, c8, c9, c10], _ => exact ⟨c0, c1, c2, c3, c4, c5, c6, c7, c8, c9, c10, rfl⟩
theorem trod_bytes8 {fuel : Nat} {c0 c1 c2 c3 c4 c5 c6 c7 : Value} {x : DataW H × List MemPlace} (h : DataW.trod enc Try.prog w base spare held fuel 30 [c0, c1, c2, c3, c4, c5, c6, c7] = some x) :
    ∃ d0 d1 d2 d3 d4 d5 d6 d7 : Int, c0 = .int .u8 d0 ∧ c1 = .int .u8 d1 ∧ c2 = .int .u8 d2 ∧ c3 = .int .u8 d3 ∧ c4 = .int .u8 d4 ∧ c5 = .int .u8 d5 ∧ c6 = .int .u8 d6 ∧ c7 = .int .u8 d7 := by
  obtain ⟨xs, m, _, _, _, hxl, hf⟩ := DataW.trod_array Try.underlying30 h
  have g : ∀ i, i < 8 → ∃ y, DataW.trod enc Try.prog w base spare held m 5 (([c0, c1, c2, c3, c4, c5, c6, c7].drop (i * 1)).take 1) = some y := by
    intro i hi
    have := hf i hi
    rw [cells5, List.getElem?_eq_getElem (by omega)] at this
    exact ⟨_, this⟩
  have q : ∀ i (c : Value), i < 8 → ([c0, c1, c2, c3, c4, c5, c6, c7].drop (i * 1)).take 1 = [c] → ∃ d : Int, c = .int .u8 d := by
    intro i c hi hc
    obtain ⟨y, hy⟩ := g i hi
    rw [hc] at hy
    obtain ⟨n, hn, _⟩ := DataW.trod_int Try.underlying5 hy
    exact ⟨n, by simpa using hn⟩
  obtain ⟨e0, h0⟩ := q 0 c0 (by decide) rfl
  obtain ⟨e1, h1⟩ := q 1 c1 (by decide) rfl
  obtain ⟨e2, h2⟩ := q 2 c2 (by decide) rfl
  obtain ⟨e3, h3⟩ := q 3 c3 (by decide) rfl
  obtain ⟨e4, h4⟩ := q 4 c4 (by decide) rfl
  obtain ⟨e5, h5⟩ := q 5 c5 (by decide) rfl
  obtain ⟨e6, h6⟩ := q 6 c6 (by decide) rfl
  obtain ⟨e7, h7⟩ := q 7 c7 (by decide) rfl
  exact ⟨e0, e1, e2, e3, e4, e5, e6, e7, h0, h1, h2, h3, h4, h5, h6, h7⟩
/-- A frame's cells. -/
theorem trod_frame {fuel : Nat} {cs : List Value} {x : DataW H × List MemPlace} (h : DataW.trod enc Try.prog w base spare held fuel 32 cs = some x) :
    ∃ (i l d0 d1 d2 d3 d4 d5 d6 d7 : Int) (r : Bool), cs = [.int .u16 i, .int .i64 l, .int .u8 d0, .int .u8 d1, .int .u8 d2, .int .u8 d3, .int .u8 d4, .int .u8 d5, .int .u8 d6, .int .u8 d7, .bool r] := by
  obtain ⟨xs, n, _, _, hl, hxl, hf⟩ := DataW.trod_struct Try.underlying32 h
  rw [cells32] at hl
  obtain ⟨c0, c1, c2, c3, c4, c5, c6, c7, c8, c9, c10, rfl⟩ := list11 hl
  have hxl' : xs.length = 4 := hxl
  have q0 := hf 0 _ rfl
  have k0 : DataW.trod enc Try.prog w base spare held n 29 (([c0, c1, c2, c3, c4, c5, c6, c7, c8, c9, c10].drop 0).take (Try.prog.cellsOf 29)) = xs[0]? := q0
  rw [cells29, List.getElem?_eq_getElem (by omega)] at k0
  have q1 := hf 1 _ rfl
  have k1 : DataW.trod enc Try.prog w base spare held n 3 (([c0, c1, c2, c3, c4, c5, c6, c7, c8, c9, c10].drop 1).take (Try.prog.cellsOf 3)) = xs[1]? := q1
  rw [cells3, List.getElem?_eq_getElem (by omega)] at k1
  have q2 := hf 2 _ rfl
  have k2 : DataW.trod enc Try.prog w base spare held n 30 (([c0, c1, c2, c3, c4, c5, c6, c7, c8, c9, c10].drop 2).take (Try.prog.cellsOf 30)) = xs[2]? := q2
  rw [cells30, List.getElem?_eq_getElem (by omega)] at k2
  have q3 := hf 3 _ rfl
  have k3 : DataW.trod enc Try.prog w base spare held n 4 (([c0, c1, c2, c3, c4, c5, c6, c7, c8, c9, c10].drop 10).take (Try.prog.cellsOf 4)) = xs[3]? := q3
  rw [cells4, List.getElem?_eq_getElem (by omega)] at k3
  obtain ⟨i, hi, _⟩ := DataW.trod_int Try.underlying29 k0
  obtain ⟨l, hl', _⟩ := DataW.trod_int Try.underlying3 k1
  obtain ⟨e0, e1, e2, e3, e4, e5, e6, e7, g0, g1, g2, g3, g4, g5, g6, g7⟩ := trod_bytes8 (c0 := c2) (c1 := c3) (c2 := c4) (c3 := c5) (c4 := c6) (c5 := c7) (c6 := c8) (c7 := c9) k2
  obtain ⟨r, hr, _⟩ := DataW.trod_bool Try.underlying4 k3
  refine ⟨i, l, e0, e1, e2, e3, e4, e5, e6, e7, r, ?_⟩
  simp at hi hl' hr
  rw [hi, hl', hr, g0, g1, g2, g3, g4, g5, g6, g7]
end

namespace busNoneDone
set_option maxRecDepth 100000 in
theorem lifted (os : Os) (started : os.Started) (H : Type) (enc : TypeId × Value → H) :
    ReturnsInHanded {} Try.checked os 5 .any (Rows.busNoneSpec.pre6 enc Try.prog Try.f5 Rows.busNoneRow.domain false) (Rows.busNoneSpec.post enc Try.prog Try.f5 false true false false) := by
  refine returnsInHanded_of_change (C := Try.checked) own started (by kernel_rfl) Try.func5
    (ChangeSpec.witness6 (enc := enc) (C := Try.checked) false ⟨#[], #[.int .i64 0, .agg #[.int .u16 0, .int .i64 0, .int .u8 0, .int .u8 0, .int .u8 0, .int .u8 0, .int .u8 0, .int .u8 0, .int .u8 0, .int .u8 0, .bool false]], []⟩ 8 (by kernel_rfl) (by kernel_rfl) (by kernel_rfl) (by kernel_rfl)) ?_
  intro W base args ds gs before hval0 hW hcnd _
  have hval : ∀ (j : Nat) t v, Try.f5.params[j]? = some t → args[j]? = some v → Value.okWide Try.prog W .any base t v := hval0
  have hW' := hW
  obtain ⟨p, q, hA0, hV, rfl, hfz, hnd⟩ := hW
  have hA : DataW.TrodAll enc Try.prog W 0 (fun _ => true) true Try.f5.params.toList args.toList ds p := hA0
  rw [Try.params5] at hA hval
  obtain ⟨v0, vs0, d0, ds0, p0, q0, hargs, rfl, rfl, h0, r0⟩ := trodAll_cons hA
  obtain ⟨v1, vs1, d1, ds1, p1, q1, rfl, rfl, rfl, h1, r1⟩ := trodAll_cons r0
  obtain ⟨rfl, rfl, rfl⟩ := trodAll_nil r1
  obtain rfl : args = #[v0, v1] := by cases args; simp_all
  obtain ⟨rfl, rfl⟩ := trodVars_none hV
  obtain ⟨a0, rfl, rfl, rfl, w0⟩ := open_int Try.underlying3 (hval 0 3 v0 rfl rfl) h0
  obtain ⟨cs, rfl, hsz⟩ := okWide_struct Try.underlying32 (hval 1 32 v1 rfl rfl)
  have k1 := h1
  have lt1 : ∀ x ∈ p1, x.block < W.heap.size := by obtain ⟨m, hm⟩ := k1; exact DataW.trod_lt m _ _ _ hm
  obtain ⟨fuel, hf⟩ := h1
  obtain ⟨i, l, e0, e1, e2, e3, e4, e5, e6, e7, r, hcs⟩ := trod_frame hf
  obtain rfl : cs = #[.int .u16 i, .int .i64 l, .int .u8 e0, .int .u8 e1, .int .u8 e2, .int .u8 e3, .int .u8 e4, .int .u8 e5, .int .u8 e6, .int .u8 e7, .bool r] :=
    Array.toList_inj.1 hcs
  clear hA0 hval0
  refine (busNone5 a0 i l e0 e1 e2 e3 e4 e5 e6 e7 r W).mono fun e W' ⟨he, bel⟩ => ?_
  subst he
  exact ⟨_, rfl, _, _, _, [], _, [], hW', trodAll_mk1 (shut_bool Try.underlying4 _), (trodAll_cons_mk (shut_int Try.underlying3 w0) (trodAll_cons_mk (Below.trod laidOut (by kernel_rfl) (of_decide_eq_true (by kernel_rfl)) k1 bel lt1) trodAll_mk0)), rfl, bel.frame _, fun h => by cases h⟩

theorem over : Rows.busNoneRow.holds Try.pinned (OpenSpec.ofChange Rows.busNoneSpec) :=
  OpenClaim.holds_of_wide 5 Try.f5 rfl rfl rfl rfl rfl rfl rfl ⟨rfl, rfl, rfl, rfl, rfl⟩ rfl rfl rfl rfl rfl (by kernel_rfl) Try.func5 (by kernel_rfl)
    (of_decide_eq_true (by kernel_rfl)) (by unfold Func.isWrapper; first | (rw [if_pos (by decide +kernel)]; kernel_rfl) | (rw [if_neg (by decide +kernel)]; exact ⟨rfl, rfl⟩))
    (fun os started H enc _ => lifted os started H enc)

/-- ████ THE STATEMENT ████ -/
theorem proved : Rows.BusNoneSaid := over
end busNoneDone
end Go.Proofs.Ythmfibgjemnlbaa
#print axioms Go.Proofs.Ythmfibgjemnlbaa.busNoneDone.proved

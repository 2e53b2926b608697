/- Bus (layer 4): words on worlds, frames and what waits; frame.Before, bus.Sent.ahead. -/
import Derived.Test.YthmfibgjemnlbaaProg
import Derived.WalkKit
import Derived.WalkSpells
import Derived.WalkLawsBesides
import Derived.Sort.Grow
namespace Go.Proofs.Ythmfibgjemnlbaa
open Go.RowKit Go.Sort

/-- draws and new blocks alone -/
structure Pu (w w' : World) : Prop where
  out : ∃ q os, w' = grow (w.drewN q) os

theorem Pu.refl (w : World) : Pu w w := ⟨0, #[], by simp; rfl⟩
theorem Pu.alloc {w w' : World} (h : Pu w w') (o : Obj) : Pu w (w'.alloc o) := by
  obtain ⟨q, os, rfl⟩ := h.out
  exact ⟨q, os ++ #[o], by rw [alloc_eq_grow, grow_grow]⟩
theorem grow_drewN (w : World) (os : Array Obj) (q : Nat) : (grow w os).drewN q = grow (w.drewN q) os := rfl
theorem Pu.trans {w w1 w2 : World} (h : Pu w w1) (k : Pu w1 w2) : Pu w w2 := by
  obtain ⟨q, os, rfl⟩ := h.out
  obtain ⟨q', os', rfl⟩ := k.out
  exact ⟨q + q', os ++ os', by rw [grow_drewN, grow_grow, World.drewN_drewN]⟩
theorem Pu.drew {w w' : World} (h : Pu w w') : Pu w w'.drew := h.trans ⟨1, #[], by simp; rfl⟩
theorem Pu.below {w w' : World} (h : Pu w w') : Below w.heap.size w w' := by
  obtain ⟨q, os, rfl⟩ := h.out
  refine ⟨rfl, rfl, rfl, ?_, ?_⟩
  · simp [grow, World.drewN]
  · intro i hi
    simp only [grow, World.drewN]
    rw [Array.getElem?_append_left hi]
theorem bcell {W w1 : World} (hb : Below W.heap.size W w1) : (∀ b o, b < W.heap.size → w1.cell? ⟨b, o, none⟩ = W.cell? ⟨b, o, none⟩) ∧ (∀ b o, b < W.heap.size → w1.frozen? ⟨b, o, none⟩ = W.frozen? ⟨b, o, none⟩) :=
  ⟨fun b o h => hb.cell (p := ⟨b, o, none⟩) h, fun b o h => hb.frozen (p := ⟨b, o, none⟩) h⟩

abbrev fagg (id len d0 d1 d2 d3 d4 d5 d6 d7 : Int) (r : Bool) : Value := .agg #[.int .u16 id, .int .i64 len, .int .u8 d0, .int .u8 d1, .int .u8 d2, .int .u8 d3, .int .u8 d4, .int .u8 d5, .int .u8 d6, .int .u8 d7, .bool r]

def befB (i j : Int) (r s : Bool) : Bool := decide (i < j) || (i == j && (!r && s))

theorem ret_bool {a b : Bool} (h : a = b) : Ending.returned (.bool a) = .returned (.bool b) := by rw [h]
set_option maxHeartbeats 400000 in
theorem before36 (i l a0 a1 a2 a3 a4 a5 a6 a7 j m b0 b1 b2 b3 b4 b5 b6 b7 : Int) (r s : Bool) (w : World) :
    Calls Try.prog 36 #[fagg i l a0 a1 a2 a3 a4 a5 a6 a7 r, fagg j m b0 b1 b2 b3 b4 b5 b6 b7 s] w fun e w' => e = .returned (.bool (befB i j r s)) ∧ Pu w w' := by
  by_cases h : i = j
  · subst h
    cases r
    all_goals
      go_enter Try.func36, Try.ntmps36
      go_wp2
      go_ret
      exact ⟨ret_bool (by simp [befB]), ((Pu.refl _).alloc _).alloc _⟩
  · have h1 : (i != j) = true := by simpa using h
    go_enter Try.func36, Try.ntmps36
    go_wp2
    go_ret
    exact ⟨ret_bool (by simp [befB, h]), ((Pu.refl _).alloc _).alloc _⟩

abbrev sagg (n id len d0 d1 d2 d3 d4 d5 d6 d7 : Int) (r : Bool) (k : Int) : Value := .agg #[.int .i64 n, .int .u16 id, .int .i64 len, .int .u8 d0, .int .u8 d1, .int .u8 d2, .int .u8 d3, .int .u8 d4, .int .u8 d5, .int .u8 d6, .int .u8 d7, .bool r, .int .i64 k]

def ahB (i j : Int) (r s : Bool) (p q : Int) : Bool := befB i j r s || (!befB j i s r && decide (p < q))
set_option maxHeartbeats 400000 in
theorem ahead25 (n i l a0 a1 a2 a3 a4 a5 a6 a7 p n' j m b0 b1 b2 b3 b4 b5 b6 b7 q : Int) (r s : Bool) (w : World) :
    Calls Try.prog 25 #[sagg n i l a0 a1 a2 a3 a4 a5 a6 a7 r p, sagg n' j m b0 b1 b2 b3 b4 b5 b6 b7 s q] w fun e w' => e = .returned (.bool (ahB i j r s p q)) ∧ Pu w w' := by
  have c1 := before36 i l a0 a1 a2 a3 a4 a5 a6 a7 j m b0 b1 b2 b3 b4 b5 b6 b7 r s
  have c2 := before36 j m b0 b1 b2 b3 b4 b5 b6 b7 i l a0 a1 a2 a3 a4 a5 a6 a7 s r
  unfold ahB
  generalize befB i j r s = x at *
  generalize befB j i s r = y at *
  cases x
  · cases y
    all_goals
      go_enter Try.func25, Try.ntmps25
      go_wp2_with fail
      refine (c1 _).mono ?_
      rintro e w1 ⟨rfl, hp⟩
      obtain ⟨hc, hf⟩ := bcell hp.below
      go_wp2_with fail
      refine (c2 _).mono ?_
      rintro e w2 ⟨rfl, hp2⟩
      obtain ⟨hc2, hf2⟩ := bcell hp2.below
      have hz : w.heap.size + 1 < w1.heap.size := by have := hp.below.size; simp at this; omega
      have hz0 : w.heap.size < w1.heap.size := by omega
      go_wp2_with fail

      go_ret
      exact ⟨ret_bool (by simp), ((((Pu.refl _).alloc _).alloc _).trans hp).trans hp2⟩
  · go_enter Try.func25, Try.ntmps25
    go_wp2_with fail
    refine (c1 _).mono ?_
    rintro e w1 ⟨rfl, hp⟩
    go_wp2_with fail
    go_ret
    exact ⟨ret_bool (by simp), (((Pu.refl _).alloc _).alloc _).trans hp⟩
structure Sn where
  node : Int
  id : Int
  len : Int
  d0 : Int
  d1 : Int
  d2 : Int
  d3 : Int
  d4 : Int
  d5 : Int
  d6 : Int
  d7 : Int
  r : Bool
  num : Int
deriving DecidableEq, Inhabited
def Sn.cs (s : Sn) : List Value := [.int .i64 s.node, .int .u16 s.id, .int .i64 s.len, .int .u8 s.d0, .int .u8 s.d1, .int .u8 s.d2, .int .u8 s.d3, .int .u8 s.d4, .int .u8 s.d5, .int .u8 s.d6, .int .u8 s.d7, .bool s.r, .int .i64 s.num]
def Sn.ah (s t : Sn) : Bool := ahB s.id t.id s.r t.r s.num t.num
theorem Sn.cs_length (s : Sn) : s.cs.length = 13 := rfl
theorem aheadS (s t : Sn) (w : World) : Calls Try.prog 25 #[.agg s.cs.toArray, .agg t.cs.toArray] w fun e w' => e = .returned (.bool (s.ah t)) ∧ Pu w w' :=
  ahead25 _ _ _ _ _ _ _ _ _ _ _ _ _ _ _ _ _ _ _ _ _ _ _ _ _ _ w

end Go.Proofs.Ythmfibgjemnlbaa

/- Bus (the references of layers 3 and 4): Before and ahead tell the same as the program. -/
import Derived.Test.YthmfibgjemnlbaaB01
namespace Go.Proofs.Ythmfibgjemnlbaa
open Go.RowKit Go.Sort
set_option linter.unusedVariables false
set_option maxHeartbeats 1000000 in
set_option maxRecDepth 100000 in
theorem before50 (i l a0 a1 a2 a3 a4 a5 a6 a7 j m b0 b1 b2 b3 b4 b5 b6 b7 : Int) (r s : Bool) (w : World) :
    Calls Try.prog 50 #[fagg i l a0 a1 a2 a3 a4 a5 a6 a7 r, fagg j m b0 b1 b2 b3 b4 b5 b6 b7 s] w fun e w' => e = .returned (.bool (befB i j r s)) ∧ Pu w w' := by
  by_cases h1 : i < j
  · go_enter Try.func50, Try.ntmps50
    go_wp2
    go_ret
    exact ⟨ret_bool (by simp [befB, h1]), ((Pu.refl _).alloc _).alloc _⟩
  · have h1' : j ≤ i := by omega
    by_cases h : i = j
    · subst h
      clear h1
      cases r
      all_goals
        go_enter Try.func50, Try.ntmps50
        go_wp2
        go_ret
        exact ⟨ret_bool (by simp [befB]), ((Pu.refl _).alloc _).alloc _⟩
    · have hq : (i == j) = false := by simpa using h
      go_enter Try.func50, Try.ntmps50
      go_wp2
      go_ret
      exact ⟨ret_bool (by simp [befB, h]; omega), ((Pu.refl _).alloc _).alloc _⟩
set_option maxHeartbeats 1000000 in
theorem ahead38 (n i l a0 a1 a2 a3 a4 a5 a6 a7 p n' j m b0 b1 b2 b3 b4 b5 b6 b7 q : Int) (r s : Bool) (w : World) :
    Calls Try.prog 38 #[sagg n i l a0 a1 a2 a3 a4 a5 a6 a7 r p, sagg n' j m b0 b1 b2 b3 b4 b5 b6 b7 s q] w fun e w' => e = .returned (.bool (ahB i j r s p q)) ∧ Pu w w' := by
  have c1 := before50 i l a0 a1 a2 a3 a4 a5 a6 a7 j m b0 b1 b2 b3 b4 b5 b6 b7 r s
  have c2 := before50 j m b0 b1 b2 b3 b4 b5 b6 b7 i l a0 a1 a2 a3 a4 a5 a6 a7 s r
  unfold ahB
  generalize befB i j r s = x at *
  generalize befB j i s r = y at *
  cases x
  · cases y
    all_goals
      go_enter Try.func38, Try.ntmps38
      go_wp2_with fail
      refine (c1 _).mono ?_
      rintro e w1 ⟨rfl, hp⟩
      obtain ⟨hc, hf⟩ := bcell hp.below
      go_wp2_with fail
      refine (c2 _).mono ?_
      rintro e w2 ⟨rfl, hp2⟩
      obtain ⟨hc2, hf2⟩ := bcell hp2.below
      have hz : w.heap.size + 1 < w1.heap.size := by have := hp.below.size; simp at this; omega
      have hz0 : w.heap.size < w1.heap.size := by omega
      go_wp2_with fail
      go_ret
      exact ⟨ret_bool (by simp), ((((Pu.refl _).alloc _).alloc _).trans hp).trans hp2⟩
  · go_enter Try.func38, Try.ntmps38
    go_wp2_with fail
    refine (c1 _).mono ?_
    rintro e w1 ⟨rfl, hp⟩
    go_wp2_with fail
    go_ret
    exact ⟨ret_bool (by simp), (((Pu.refl _).alloc _).alloc _).trans hp⟩
end Go.Proofs.Ythmfibgjemnlbaa

/- Bus (layer 4): a bus that is not there answers so to every call: the walk. -/
import Derived.Test.YthmfibgjemnlbaaB17
namespace Go.Proofs.Ythmfibgjemnlbaa
open Go.RowKit Go.Sort Go.Shelf Go.Lib
set_option linter.unusedVariables false
set_option maxHeartbeats 1000000 in
set_option maxRecDepth 100000 in
theorem gone17nil (node : Int) (w : World) : Calls Try.prog 17 #[.pointer none, .int .i64 node] w fun e w' => e = .returned (.int .i64 0) ∧ Pu w w' := by
  go_enter Try.func17, Try.ntmps17
  go_wp2_with fail
  go_ret
  exact ⟨rfl, (Pu.refl w).alloc _⟩
set_option maxHeartbeats 1000000 in
set_option maxRecDepth 100000 in
theorem copy13nil (w : World) : Calls Try.prog 13 #[.pointer none] w fun e w' => e = .returned (.pointer none) ∧ Pu w w' := by
  go_enter Try.func13, Try.ntmps13
  go_wp2_with fail
  go_ret
  exact ⟨rfl, Pu.refl w⟩
set_option maxHeartbeats 2000000 in
set_option maxRecDepth 100000 in
theorem busNone5 (node id len d0 d1 d2 d3 d4 d5 d6 d7 : Int) (r : Bool) (w : World) :
    Calls Try.prog 5 #[.int .i64 node, fagg id len d0 d1 d2 d3 d4 d5 d6 d7 r] w fun e w' => e = .returned (.bool true) ∧ Below w.heap.size w w' := by
  have e30 := eq30 9996
  have H9 := Lib.hid next9nil
  unfold zS at H9
  go_enter Try.func5, Try.ntmps5
  go_wp2_with fail
  refine (H9.out _).mono ?_
  rintro e w1 ⟨rfl, hp⟩
  obtain ⟨hc, hf⟩ := bcell hp.below
  have hz : w.heap.size < w1.heap.size := by have := hp.below.size; simp at this; omega
  have HP := Lib.hid hp
  clear hp
  go_wp2_with fail
  refine (send7nil _ _ _ _ _ _ _ _ _ _ _ _ _).mono ?_
  rintro e w2 ⟨rfl, hp⟩
  obtain ⟨hc2, hf2⟩ := bcell hp.below
  have hz2 : w1.heap.size < w2.heap.size := by have := hp.below.size; simp at this; omega
  have HP2 := Lib.hid hp
  clear hp
  go_wp2_with fail
  refine (gone17nil _ _).mono ?_
  rintro e w3 ⟨rfl, hp⟩
  have HP3 := Lib.hid hp
  clear hp
  go_wp2_with fail
  refine (waits10nil _).mono ?_
  rintro e w4 ⟨rfl, rfl⟩
  go_wp2_with fail
  refine (count11nil _).mono ?_
  rintro e w5 ⟨rfl, rfl⟩
  go_wp2_with fail
  refine (copy13nil _).mono ?_
  rintro e w6 ⟨rfl, hp⟩
  have HP4 := Lib.hid hp
  clear hp
  have H12 := Lib.hid (works12 w6)
  go_wp2_with fail
  refine H12.out.mono ?_
  rintro e w7 ⟨rfl, hb⟩
  have HB := Lib.hid hb
  clear hb
  go_wp2_with fail
  go_ret
  have p6 : Pu w w6 := ((((((Pu.refl w).alloc _).trans HP.out).alloc _).trans HP2.out).trans HP3.out).trans HP4.out
  exact ⟨rfl, p6.below.trans (HB.out.mono p6.below.size)⟩
end Go.Proofs.Ythmfibgjemnlbaa

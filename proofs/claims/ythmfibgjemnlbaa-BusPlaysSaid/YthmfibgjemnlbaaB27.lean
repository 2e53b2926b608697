/- Bus (layer 4): Copy. -/
import Derived.Test.YthmfibgjemnlbaaB20
import Derived.Deep.RegionWith
import Derived.BigRegion
namespace Go.Proofs.Ythmfibgjemnlbaa
open Go.RowKit Go.Sort Go.Shelf Go.Lib
set_option linter.unusedVariables false
theorem own_form {w : World} {e : TypeId} {base size n : Nat} {v : Value} {xs : List Value} (h : w.ownsRow base e size v n xs) : ∃ A c, v = .slice A n c := by
  rcases h.2 with ⟨rfl, h0⟩ | ⟨g, cap, cur, rfl, _⟩
  · exact ⟨none, 0, by rw [h0]⟩
  · exact ⟨_, cap, rfl⟩
set_option maxHeartbeats 2000000 in
set_option maxRecDepth 100000 in
theorem copy13 {w : World} {bb : Nat} {v : Value} {d : Array Sn} {num : Int} (h : BusAt w bb v d num) (hd : d.size < 900000) :
    Calls Try.prog 13 #[.pointer (some ⟨bb, 0, none⟩)] w fun e w' => (∃ bb' v', e = .returned (.pointer (some ⟨bb', 0, none⟩)) ∧ w.heap.size ≤ bb' ∧ (∀ g, v'.ownBlock = some g → w.heap.size ≤ g) ∧ BusAt w' bb' v' d num) ∧ Below w.heap.size w w' := by
  have hlt := lt_of_block h.b
  obtain ⟨A, c, rfl⟩ := h.shape
  have hcl := clone22 (w := w.drew) h.o.drew hd
  have c0 : w.cell? ⟨bb, 0, none⟩ = some (.slice A d.size c) := by have := h.b; simp [World.cell?, this]
  have c1 : w.cell? ⟨bb, 1, none⟩ = some (.int .i64 num) := by have := h.b; simp [World.cell?, this]
  have HC := Lib.hid hcl
  clear hcl
  have H := Lib.hid h
  clear h
  have hb2 : ∀ w2 : World, Below w.drew.heap.size w.drew w2 → w2.cell? ⟨bb, 0, none⟩ = some (.slice A d.size c) ∧ w2.cell? ⟨bb, 1, none⟩ = some (.int .i64 num) := fun w2 b => ⟨((bcell b).1 bb 0 hlt).trans c0, ((bcell b).1 bb 1 hlt).trans c1⟩
  have HB := Lib.hid hb2
  clear hb2
  go_enter Try.func13, Try.ntmps13
  go_wp2_with fail
  go_region_with (go_at_call 22; refine HC.out.mono ?_; rintro e w2 ⟨v2, rfl, ho2, hfr2, hbel2⟩; obtain ⟨e0, e1⟩ := HB.out w2 hbel2; have HX := Lib.hid (And.intro ho2 (And.intro hfr2 hbel2)); clear ho2 hfr2 hbel2; obtain ⟨A2, k2, rfl⟩ := own_form HX.out.1)
  all_goals go_wp2_with fail
  all_goals go_ret
  all_goals
    obtain ⟨ho2, hfr2, hbel2⟩ := HX.out
    exact ⟨⟨w2.heap.size, _, rfl, hbel2.size, hfr2, ⟨heap_alloc_new w2 _, ho2.alloc _⟩⟩, (show Below w.heap.size w w2 from ⟨hbel2.os, hbel2.tape, hbel2.output, hbel2.size, hbel2.block⟩).alloc hbel2.size _⟩
end Go.Proofs.Ythmfibgjemnlbaa

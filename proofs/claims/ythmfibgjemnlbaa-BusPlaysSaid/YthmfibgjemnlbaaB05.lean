/- Bus (layer 4): list.Pop: the last one is told, and waits no longer. -/
import Derived.Test.YthmfibgjemnlbaaB03
import Derived.BigRegion
namespace Go.Proofs.Ythmfibgjemnlbaa
open Go.RowKit Go.Sort Go.Shelf
set_option linter.unusedVariables false

set_option maxHeartbeats 4000000 in
set_option maxRecDepth 100000 in
theorem pop74 (bb g cap m : Nat) (num : Int) (d : Array Sn) (w : World) (hb : BusB w bb g (m + 1) cap num) (hr : HoldsK Sn.cs 13 w g 0 d) (hd : d.size = m + 1) (hne : bb ≠ g) (hm : m + 1 ≤ cap) (hm2 : m < 1000000) :
    Calls Try.prog 74 #[.pointer (some ⟨bb, 0, none⟩)] w fun e w' => e = .returned (.iface 35 (.agg d[m]!.cs.toArray)) ∧ Pu (w.setCell ⟨bb, 0, none⟩ (.slice (some ⟨g, 0, none⟩) m cap)) w' := by
  have hbb : bb < w.heap.size := lt_of_block hb
  have c0 : w.cell? ⟨bb, 0, none⟩ = some (.slice (some ⟨g, 0, none⟩) (m + 1) cap) := by unfold BusB at hb; simp [World.cell?, hb]
  have f0 : w.frozen? ⟨bb, 0, none⟩ = false := by unfold BusB at hb; simp [World.frozen?, hb]
  have L := fun c v h => sn_cells hr (k := m) (by omega) c v h
  have hgl : g < w.heap.size := by
    have := L 0 (.int .i64 d[m]!.node) rfl
    exact World.block_lt_of_cell? _ _ this
  unfold Sn.cs at L ⊢
  generalize d[m]! = s at *
  have a0 : w.cell? ⟨g, m * 13, none⟩ = some (.int .i64 s.node) := L 0 _ rfl
  have a1 : w.cell? ⟨g, m * 13 + 1, none⟩ = some (.int .u16 s.id) := L 1 _ rfl
  have a2 : w.cell? ⟨g, m * 13 + 2, none⟩ = some (.int .i64 s.len) := L 2 _ rfl
  have a3 : w.cell? ⟨g, m * 13 + 3, none⟩ = some (.int .u8 s.d0) := L 3 _ rfl
  have a4 : w.cell? ⟨g, m * 13 + 4, none⟩ = some (.int .u8 s.d1) := L 4 _ rfl
  have a5 : w.cell? ⟨g, m * 13 + 5, none⟩ = some (.int .u8 s.d2) := L 5 _ rfl
  have a6 : w.cell? ⟨g, m * 13 + 6, none⟩ = some (.int .u8 s.d3) := L 6 _ rfl
  have a7 : w.cell? ⟨g, m * 13 + 7, none⟩ = some (.int .u8 s.d4) := L 7 _ rfl
  have a8 : w.cell? ⟨g, m * 13 + 8, none⟩ = some (.int .u8 s.d5) := L 8 _ rfl
  have a9 : w.cell? ⟨g, m * 13 + 9, none⟩ = some (.int .u8 s.d6) := L 9 _ rfl
  have a10 : w.cell? ⟨g, m * 13 + 10, none⟩ = some (.int .u8 s.d7) := L 10 _ rfl
  have a11 : w.cell? ⟨g, m * 13 + 11, none⟩ = some (.bool s.r) := L 11 _ rfl
  have a12 : w.cell? ⟨g, m * 13 + 12, none⟩ = some (.int .i64 s.num) := L 12 _ rfl
  clear L hr hb hd
  have hw : wrap64 (m : Int) = (m : Int) := by unfold wrap64; omega
  have hme : (m : Int) ≤ cap := by omega
  have hlt : (m : Int) < (m : Int) + 1 := by omega
  go_enter Try.func74, Try.ntmps74
  go_wp2_with fail
  go_big_region
  go_wp2_with fail
  go_big_region
  go_wp2_with fail
  go_ret
  exact ⟨rfl, (((Pu.refl _).alloc _).drew).drew⟩
end Go.Proofs.Ythmfibgjemnlbaa

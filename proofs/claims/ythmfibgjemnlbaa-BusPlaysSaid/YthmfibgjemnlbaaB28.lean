/- Bus (layer 4): the predicate of Gone; IndexFunc. -/
import Derived.Test.YthmfibgjemnlbaaB20
import Derived.Deep.LoopGhost
import Derived.BigRegion
import Derived.BigQuiet
namespace Go.Proofs.Ythmfibgjemnlbaa
open Go.RowKit Go.Sort Go.Shelf Go.Lib
set_option linter.unusedVariables false
set_option maxHeartbeats 2000000 in
set_option maxRecDepth 100000 in
theorem pred30 (s : Sn) (nb : Nat) (node : Int) (w : World) (hb : w.cell? ⟨nb, 0, none⟩ = some (.int .i64 node)) (hl : nb < w.heap.size) :
    Calls Try.prog 30 #[.agg s.cs.toArray, .pointer (some ⟨nb, 0, none⟩)] w fun e w' => e = .returned (.bool (s.node == node)) ∧ Pu w w' := by
  unfold Sn.cs
  cases s with | mk s0 s1 s2 s3 s4 s5 s6 s7 s8 s9 s10 s11 s12 => ?_
  simp only
  go_enter Try.func30, Try.ntmps30
  go_wp2_with fail
  go_ret
  exact ⟨rfl, (Pu.refl _).alloc _⟩
set_option maxHeartbeats 2000000 in
set_option maxRecDepth 100000 in
theorem index39 {w : World} {A : Option Addr} {c nb : Nat} {d : Array Sn} {node : Int} (ho : w.ownsRow 0 35 13 (.slice A d.size c) d.size (flatK Sn.cs 13 d).toList) (hb : w.cell? ⟨nb, 0, none⟩ = some (.int .i64 node)) (hl : nb < w.heap.size) (hd : d.size < 900000) :
    Calls Try.prog 39 #[.slice A d.size c, .func (.func 30) #[] #[.pointer (some ⟨nb, 0, none⟩)]] w fun e w' =>
      ((∃ i, i < d.size ∧ d[i]!.node = node ∧ (∀ j, j < i → d[j]!.node ≠ node) ∧ e = .returned (.int .i64 i)) ∨ ((∀ j, j < d.size → d[j]!.node ≠ node) ∧ e = .returned (.int .i64 (-1)))) ∧ Pu w w' := by
  have HO := Lib.hid ho
  have HB := Lib.hid hb
  clear ho hb
  go_enter Try.func39, Try.ntmps39
  go_wp2_with fail
  go_loopg [8] d.size (fun gk s8 wr => ∃ (i : Nat), s8 = .int .i64 i ∧ i ≤ d.size ∧ d.size - i ≤ gk ∧ Hid (Pu w wr ∧ ∀ j, j < i → d[j]!.node ≠ node))
  case atStart => exact ⟨0, by go_num, by omega, by omega, Pu.refl _, fun j hj => by omega⟩
  case round =>
    obtain ⟨i, rfl, hi, hgi, HU⟩ := hrel
    obtain ⟨bc, _⟩ := bcell HU.out.1.below
    by_cases hid : i < d.size
    · obtain ⟨g, cap, hv, _, hgl⟩ := HO.out.form (by omega)
      cases hv
      have hc := fun k v hv => (bc g (i * 13 + k) hgl).trans (sn_cells (holds_of_owns HO.out) hid k v hv)
      have hp := pred30 d[i]! nb node wr ((bc nb 0 hl).trans HB.out) (Nat.lt_of_lt_of_le hl HU.out.1.below.size)
      obtain ⟨S, hS⟩ : ∃ S, S = d[i]! := ⟨_, rfl⟩
      rw [← hS] at hc hp
      have HS := Lib.hid hS
      clear hS bc
      cases S with | mk s0 s1 s2 s3 s4 s5 s6 s7 s8 s9 s10 s11 s12 => ?_
      have a0 : wr.cell? ⟨g, i * 13 + 0, none⟩ = some (.int .i64 s0) := hc 0 _ rfl
      have a1 : wr.cell? ⟨g, i * 13 + 1, none⟩ = some (.int .u16 s1) := hc 1 _ rfl
      have a2 : wr.cell? ⟨g, i * 13 + 2, none⟩ = some (.int .i64 s2) := hc 2 _ rfl
      have a3 : wr.cell? ⟨g, i * 13 + 3, none⟩ = some (.int .u8 s3) := hc 3 _ rfl
      have a4 : wr.cell? ⟨g, i * 13 + 4, none⟩ = some (.int .u8 s4) := hc 4 _ rfl
      have a5 : wr.cell? ⟨g, i * 13 + 5, none⟩ = some (.int .u8 s5) := hc 5 _ rfl
      have a6 : wr.cell? ⟨g, i * 13 + 6, none⟩ = some (.int .u8 s6) := hc 6 _ rfl
      have a7 : wr.cell? ⟨g, i * 13 + 7, none⟩ = some (.int .u8 s7) := hc 7 _ rfl
      have a8 : wr.cell? ⟨g, i * 13 + 8, none⟩ = some (.int .u8 s8) := hc 8 _ rfl
      have a9 : wr.cell? ⟨g, i * 13 + 9, none⟩ = some (.int .u8 s9) := hc 9 _ rfl
      have a10 : wr.cell? ⟨g, i * 13 + 10, none⟩ = some (.int .u8 s10) := hc 10 _ rfl
      have a11 : wr.cell? ⟨g, i * 13 + 11, none⟩ = some (.bool s11) := hc 11 _ rfl
      have a12 : wr.cell? ⟨g, i * 13 + 12, none⟩ = some (.int .i64 s12) := hc 12 _ rfl
      simp only [Nat.add_zero] at a0
      clear hc
      simp only [Sn.cs] at hp
      have HPR := Lib.hid hp
      clear hp
      cases hx : (s0 == node) with
      | true =>
        go_wp2_with (go_at_call 30; refine HPR.out.mono ?_; rintro e w1 ⟨rfl, hp1⟩)
        go_ret
        exact ⟨.inl ⟨i, hid, by rw [← HS.out]; simpa using hx, HU.out.2, rfl⟩, HU.out.1.trans hp1⟩
      | false =>
        go_wp2_with (go_at_call 30; refine HPR.out.mono ?_; rintro e w1 ⟨rfl, hp1⟩)
        go_roundg (d.size - (i + 1))
        case measure => omega
        case rel =>
          refine ⟨i + 1, by go_num, by omega, by omega, HU.out.1.trans hp1, fun j hj => ?_⟩
          by_cases e : j = i
          · subst e; rw [← HS.out]; simpa using hx
          · exact HU.out.2 j (by omega)
    · go_wp2_with fail
      go_ret
      exact ⟨.inr ⟨fun j hj => HU.out.2 j (by omega), rfl⟩, HU.out.1⟩
end Go.Proofs.Ythmfibgjemnlbaa

/- Bus (layer 4): list.Push: one more waits, behind the others. -/
import Derived.Test.YthmfibgjemnlbaaB03
import Derived.Deep.RegionLaw
import Derived.Deep.AppendLies
namespace Go.Proofs.Ythmfibgjemnlbaa
open Go.RowKit Go.Sort Go.Shelf
set_option linter.unusedVariables false

theorem grownBy_drew {w w' : World} {r : Option Nat} (h : w.grownBy w' r) : w.grownBy w'.drew r := ⟨h.os, h.tape, h.output, h.size, h.block⟩
theorem Try.infoS : (Try.prog.info? 35).map (fun i => (i.zero, i.size, i.bytes)) = some (some (.agg #[.int .i64 0, .int .u16 0, .int .i64 0, .int .u8 0, .int .u8 0, .int .u8 0, .int .u8 0, .int .u8 0, .int .u8 0, .int .u8 0, .int .u8 0, .bool false, .int .i64 0]), 13, 48) := by kernel_rfl

theorem taS (v : Value) (w : World) : (Instr.typeAssert (.iface 35 v) 20 35 false).run Try.prog w = .ok v w := by kernel_rfl
def zS : Value := .agg #[.int .i64 0, .int .u16 0, .int .i64 0, .int .u8 0, .int .u8 0, .int .u8 0, .int .u8 0, .int .u8 0, .int .u8 0, .int .u8 0, .int .u8 0, .bool false, .int .i64 0]

set_option maxHeartbeats 1000000 in
set_option maxRecDepth 100000 in
theorem push75 (bb n : Nat) (num : Int) (v : Value) (xs : List Value) (s : Sn) (w : World)
    (hb : w.heap[bb]? = some (.cells #[v, .int .i64 num] 61 (0, 0))) (hv : ∃ A c, v = .slice A n c)
    (ho : w.ownsRow 0 35 13 v n xs) (hn : n < 1000000) :
    Calls Try.prog 75 #[.pointer (some ⟨bb, 0, none⟩), .iface 35 (.agg s.cs.toArray)] w fun e w' => e = .returned (.tuple #[]) ∧
      ∃ g cap w1, w' = w1.setCell ⟨bb, 0, none⟩ (.slice (some ⟨g, 0, none⟩) (n + 1) cap) ∧ w1.ownsRow 0 35 13 (.slice (some ⟨g, 0, none⟩) (n + 1) cap) (n + 1) (xs ++ s.cs) ∧ w.grownBy w1 v.ownBlock ∧ (v.ownBlock = some g ∨ w.heap.size ≤ g) := by
  obtain ⟨A, c, rfl⟩ := hv
  have hbb : bb < w.heap.size := lt_of_block hb
  have c0 : w.cell? ⟨bb, 0, none⟩ = some (.slice A n c) := by simp [World.cell?, hb]
  have f0 : w.frozen? ⟨bb, 0, none⟩ = false := by simp [World.frozen?, hb]
  obtain ⟨i0, hi, hz0, hz1, hz2⟩ := info_parts Try.infoS
  have hne : some bb ≠ (Value.slice A n c).ownBlock := by
    intro h
    rcases ho.2 with ⟨h1, _⟩ | ⟨g, cap, cur, h1, _, h2, _⟩
    · cases h1; simp [Value.ownBlock] at h
    · cases h1; simp [Value.ownBlock] at h; subst h; rw [hb] at h2; cases h2
  have HO := Lib.hid ho
  have HB := Lib.hid (And.intro hb hne)
  have HI := Lib.hid (And.intro hi (And.intro hz0 (And.intro hz1 hz2)))
  clear ho hb hi hz0 hz1 hz2 hne
  have hta := taS
  obtain ⟨cs, hcs⟩ : ∃ cs, cs = s.cs := ⟨_, rfl⟩
  rw [← hcs]
  have hpost : ∀ (w1 : World), (w.alloc (.cells cs.toArray 35)).drew.grownBy w1 (Value.slice A n c).ownBlock →
      w1.cell? ⟨bb, 0, none⟩ = some (.slice A n c) ∧ w1.frozen? ⟨bb, 0, none⟩ = false ∧ w.grownBy w1 (Value.slice A n c).ownBlock := by
    intro w1 hg
    have hg' : w.grownBy w1 (Value.slice A n c).ownBlock := World.grownBy.trans (grownBy_drew (World.grownBy_alloc w _ _)) hg
    exact ⟨(hg'.cell_far ⟨bb, 0, none⟩ hbb HB.out.2).trans c0, (hg'.frozen_far ⟨bb, 0, none⟩ hbb HB.out.2).trans f0, hg'⟩
  have hnews : ∀ j u, cs[j]? = some u → (w.alloc (.cells cs.toArray 35)).drew.cell? ((⟨w.heap.size, 0, none⟩ : Addr).add j) = some u :=
    World.news_of_block (w := (w.alloc (.cells cs.toArray 35)).drew) (cs := cs.toArray) (t := 35) (fr := (0, 0)) (heap_alloc_new w _)
  have hone : ∀ u ∈ cs, u.oneCell' = true := by rw [hcs]; exact s.cs_one
  cases s with | mk s0 s1 s2 s3 s4 s5 s6 s7 s8 s9 s10 s11 s12 => ?_
  simp only [Sn.cs] at hcs
  subst hcs
  have HP := Lib.hid hpost
  have HN := Lib.hid hnews
  have HE := Lib.hid hone
  clear hpost hnews hone
  go_enter Try.func75, Try.ntmps75
  go_wp2_with fail
  go_region_law (refine step_append_lies _ rfl (.tmp 8) (.tmp 11) 26 rfl 0 35 i0 zS 13 48 Try.underlying26 HI.out.1 HI.out.2.1 HI.out.2.2.1 HI.out.2.2.2 rfl (by decide) _ n xs rfl (HO.out.alloc _).drew ⟨w.heap.size, 0, none⟩ 1 1 [.int .i64 s0, .int .u16 s1, .int .i64 s2, .int .u8 s3, .int .u8 s4, .int .u8 s5, .int .u8 s6, .int .u8 s7, .int .u8 s8, .int .u8 s9, .int .u8 s10, .bool s11, .int .i64 s12] rfl rfl HN.out HE.out (by decide) (by unfold maxLen; omega) (by omega) (Nat.zero_le _) (w.heap.size + 1) (by simp) ?_; intro g cap w1 hown1 hg1 hat1 _; obtain ⟨hc1, hf1, hg2⟩ := HP.out w1 hg1)
  all_goals go_end0
  all_goals exact ⟨rfl, g, cap, w1, rfl, hown1, hg2, hat1.imp id (fun h => by omega)⟩
end Go.Proofs.Ythmfibgjemnlbaa

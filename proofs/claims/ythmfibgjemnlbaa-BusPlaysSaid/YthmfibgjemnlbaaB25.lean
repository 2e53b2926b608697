/- Bus (layer 4): the reference's Copy. -/
import Derived.Test.YthmfibgjemnlbaaB22
namespace Go.Proofs.Ythmfibgjemnlbaa
open Go.RowKit Go.Sort Go.Shelf Go.Lib
set_option linter.unusedVariables false
set_option maxHeartbeats 2000000 in
set_option maxRecDepth 100000 in
theorem copy14 {w : World} {rb : Nat} {A : Option Addr} {c : Nat} {L : Array Sn} {num : Int} (h : RefAt w rb A c L num) (hn : L.size < 900000) :
    Calls Try.prog 14 #[.pointer (some ⟨rb, 0, none⟩)] w fun e w' => (∃ rb' A' c', e = .returned (.pointer (some ⟨rb', 0, none⟩)) ∧ w.heap.size ≤ rb' ∧ RefAt w' rb' A' c' L num) ∧ Below w.heap.size w w' := by
  obtain ⟨i0, hi0, hi1, hi2, hi3⟩ := info_parts Try.infoR
  have HI := Lib.hid (And.intro hi0 (And.intro hi1 (And.intro hi2 hi3)))
  clear hi0 hi1 hi2 hi3
  have hlt := h.lt
  have c0 : w.cell? ⟨rb, 0, none⟩ = some (.slice A L.size c) := by have := h.b; simp [World.cell?, this]
  have c1 : w.cell? ⟨rb, 1, none⟩ = some (.int .i64 num) := by have := h.b; simp [World.cell?, this]
  have H := Lib.hid h
  have HK := Lib.hid (h.keep (Fr.pu ((Pu.refl w).alloc (.cells #[.slice none 0 0, .int .i64 num] 49))) (fun h => h) (fun _ _ _ h => h))
  have hc1 : L.size ≤ c ∧ c ≤ 9223372036854775807 := by have := h.cap; unfold maxLen at this; omega
  clear h
  have hpost : ∀ (w1 : World), (w.alloc (.cells #[.slice none 0 0, .int .i64 num] 49)).drew.grownBy w1 none →
      w1.cell? ⟨w.heap.size, 0, none⟩ = some (.slice none 0 0) ∧ w1.frozen? ⟨w.heap.size, 0, none⟩ = false ∧ RefAt w1 w.heap.size none 0 #[] num ∧ (w.alloc (.cells #[.slice none 0 0, .int .i64 num] 49)).grownBy w1 none := by
    intro w1 hg
    have hb : w1.heap[w.heap.size]? = some (.cells #[.slice none 0 0, .int .i64 num] 49) := (hg.block w.heap.size (by simp) (by simp)).trans (heap_alloc_new w _)
    exact ⟨by simp [World.cell?, hb], by simp [World.frozen?, hb], ⟨hb, by simp, .inl ⟨rfl, rfl, rfl⟩⟩, ⟨hg.os, hg.tape, hg.output, hg.size, hg.block⟩⟩
  have HP := Lib.hid hpost
  have HE := Lib.hid (flatK_one L)
  have hl : (flatK Sn.cs 13 L).toList.length = L.size * 13 := by simp
  clear hpost
  go_enter Try.func14, Try.ntmps14
  go_wp2_with fail
  go_region_law (refine step_append_src _ rfl (.tmp 14) (.tmp 18) 47 rfl 0 71 i0 zS 13 48 Try.underlying47 HI.out.1 HI.out.2.1 HI.out.2.2.1 HI.out.2.2.2 rfl (by decide) _ 0 [] rfl (World.ownsRow_nil _ 0 71 13) (.slice A L.size c) L.size (flatK Sn.cs 13 L).toList rfl HK.out.src hl HE.out (by unfold maxLen; omega) (by omega) (Nat.zero_le _) ?_; intro v1 w1 hown1 hg1 hat1; obtain ⟨hc1, hf1, hr1, hg2⟩ := HP.out w1 hg1; rw [Nat.zero_add, List.nil_append] at hown1; obtain ⟨A1, c1', rfl, hcp, hrw⟩ := ref_row hown1)
  all_goals go_wp2_with fail
  all_goals go_ret
  all_goals
    obtain ⟨h1, h2⟩ := hr1.set A1 c1' L L.size rfl hcp hrw
    refine ⟨⟨w.heap.size, A1, c1', rfl, Nat.le_refl _, h1⟩, ?_⟩
    have f1 : Fr w w1 (fun _ => False) := ((Fr.refl w _).alloc (.cells #[.slice none 0 0, .int .i64 num] 49)).trans (Fr.grown hg2) (fun i hi e => by cases e)
    exact (f1.setCell ⟨w.heap.size, 0, none⟩ _ (fun e => by simp at e)).below w.heap.size (Nat.le_refl _) (fun i e => e.elim)
end Go.Proofs.Ythmfibgjemnlbaa

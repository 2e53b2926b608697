/- Bus (layer 4): container/heap.Push over the waiting row. -/
import Derived.Test.YthmfibgjemnlbaaB06
namespace Go.Proofs.Ythmfibgjemnlbaa
open Go.RowKit Go.Sort Go.Shelf
set_option linter.unusedVariables false

set_option maxHeartbeats 400000 in
theorem len19 {w : World} {bb : Nat} {v : Value} {d : Array Sn} {num : Int} (h : BusAt w bb v d num) :
    Calls Try.prog 19 #[.pointer (some ⟨bb, 0, none⟩)] w fun e w' => e = .returned (.int .i64 d.size) ∧ w = w' := by
  obtain ⟨A, c, rfl⟩ := h.shape
  have c0 : w.cell? ⟨bb, 0, none⟩ = some (.slice A d.size c) := by have := h.b; simp [World.cell?, this]
  clear h
  go_enter Try.func19, Try.ntmps19
  go_wp2_with fail
  go_ret
  exact ⟨rfl, rfl⟩

theorem size_upL : ∀ (j : Nat) (d : Array Sn), (upL d j).size = d.size := by
  intro j
  induction j using Nat.strongRecOn with
  | _ j ih =>
    intro d
    rw [upL]
    split
    · rfl
    · split
      · rw [ih _ (by omega), size_swp]
      · rfl
theorem size_dnL (m : Nat) : ∀ (k i : Nat) (d : Array Sn), m - i ≤ k → (dnL m d i).size = d.size := by
  intro k
  induction k with
  | zero =>
    intro i d hk
    rw [dnL, dif_pos (by omega)]
  | succ k ih =>
    intro i d hk
    rw [dnL]
    split
    · rfl
    · split
      · split
        · rw [ih _ _ (by omega), size_swp]
        · rfl
      · split
        · rw [ih _ _ (by omega), size_swp]
        · rfl

theorem flatK_push (d : Array Sn) (s : Sn) : (flatK Sn.cs 13 (d.push s)).toList = (flatK Sn.cs 13 d).toList ++ s.cs := by
  apply List.ext_getElem?
  intro t
  by_cases ht : t < d.size * 13
  · rw [List.getElem?_append_left (by simpa using ht)]
    simp only [flatK, Array.toList_map, Array.toList_range, List.getElem?_map]
    rw [List.getElem?_range (by simp; omega), List.getElem?_range ht]
    simp only [Option.map_some]
    have h1 : t / 13 < d.size := by omega
    rw [getElem!_pos (d.push s) (t / 13) (by simp; omega), getElem!_pos d (t / 13) h1, Array.getElem_push_lt h1]
  · rw [List.getElem?_append_right (by simpa using ht)]
    simp only [size_flatK, Array.length_toList]
    by_cases h2 : t < d.size * 13 + 13
    · simp only [flatK, Array.toList_map, Array.toList_range, List.getElem?_map]
      rw [List.getElem?_range (by simp; omega)]
      have h3 : t / 13 = d.size := by omega
      have h4 : t % 13 = t - d.size * 13 := by omega
      simp only [Option.map_some]
      rw [h3, h4, getElem!_pos (d.push s) d.size (by simp), Array.getElem_push_eq]
      rw [getElem!_pos s.cs _ (by rw [Sn.cs_length]; omega), ← List.getElem?_eq_getElem]
    · rw [List.getElem?_eq_none (by simp; omega), List.getElem?_eq_none (by rw [Sn.cs_length]; omega)]

set_option maxHeartbeats 400000 in
theorem hpush20 {w : World} {bb : Nat} {v : Value} {d : Array Sn} {num : Int} (h : BusAt w bb v d num) (s : Sn) (hn : d.size < 900000) :
    Calls Try.prog 20 #[.iface 65 (.pointer (some ⟨bb, 0, none⟩)), .iface 35 (.agg s.cs.toArray)] w fun e w' => e = .returned (.tuple #[]) ∧ ∃ v', BusAt w' bb v' (upL (d.push s) d.size) num ∧ Step w w' bb v v' := by
  have H := Lib.hid h
  have m1 := mPush bb 0
  have m2 := mLen bb 0
  have hp := push75 bb d.size num v _ s w h.b h.shape h.o (by omega)
  have HP := Lib.hid hp
  clear h hp
  generalize s.cs.toArray = S at *
  go_enter Try.func20, Try.ntmps20
  go_wp2_with fail
  refine HP.out.mono ?_
  rintro e w2 ⟨rfl, g, cap, w1, hw2, ho, hg, hat⟩
  have hst : BusAt w2 bb (.slice (some ⟨g, 0, none⟩) (d.push s).size cap) (d.push s) num ∧ Step w w2 bb v (.slice (some ⟨g, 0, none⟩) (d.push s).size cap) := by
    have h := H.out
    have f1 : Fr w w1 (fun i => v.ownBlock = some i) := Fr.grown hg
    have hb1 := f1.heap h.b h.ne
    have hne : g ≠ bb := by
      rintro rfl
      rcases hat with e | e
      · exact h.ne e
      · have := lt_of_block h.b; omega
    subst hw2
    refine ⟨⟨?_, ?_⟩, ?_, ?_⟩
    · simp [World.setCell, Array.getElem?_modify, hb1]
    · rw [Array.size_push, flatK_push]
      refine ownsRow_setCell_other ho ?_ _
      simpa [Value.ownBlock] using hne
    · exact (f1.mono (fun _ _ e => .inr e)).setCell _ _ (fun _ => .inl rfl)
    · rcases hat with e | e
      · exact .inl e.symm
      · exact .inr fun k hk => by simp [Value.ownBlock] at hk; omega
  have HST := Lib.hid hst
  clear hst hw2 ho hg hat
  have hl := Lib.hid (len19 HST.out.1)
  go_wp2_with fail
  refine hl.out.mono ?_
  rintro e w3 ⟨rfl, rfl⟩
  have hu := up32 HST.out.1.hs (d.push s) (SWK.start (holds_of_owns HST.out.1.o)) rfl d.size (by simp) (by simp; omega)
  have HU := Lib.hid hu
  clear hu
  have hsz : (d.push s).size = d.size + 1 := by simp
  go_wp2_with fail
  refine HU.out.mono ?_
  rintro e w4 ⟨rfl, hs⟩
  go_wp2_with fail
  go_end0
  exact ⟨rfl, _, HST.out.1.back hs (size_upL _ _), HST.out.2.trans (Step.sw hs)⟩
end Go.Proofs.Ythmfibgjemnlbaa

/- Bus (layer 4): container/heap.Pop over the waiting row. -/
import Derived.Test.YthmfibgjemnlbaaB07
namespace Go.Proofs.Ythmfibgjemnlbaa
open Go.RowKit Go.Sort Go.Shelf
set_option linter.unusedVariables false

theorem dnL_far (m : Nat) : ∀ (k i : Nat) (d : Array Sn), m - i ≤ k → m ≤ d.size → ∀ j, m ≤ j → j < d.size → (dnL m d i)[j]! = d[j]! := by
  intro k
  induction k with
  | zero =>
    intro i d hk hm j hj hjd
    rw [dnL, dif_pos (by omega)]
  | succ k ih =>
    intro i d hk hm j hj hjd
    rw [dnL]
    split
    · rfl
    · split
      · split
        · rw [ih _ _ (by omega) (by rw [size_swp]; exact hm) j hj (by rw [size_swp]; exact hjd), swp_get d (by omega) (by omega), if_neg (by omega), if_neg (by omega)]
        · rfl
      · split
        · rw [ih _ _ (by omega) (by rw [size_swp]; exact hm) j hj (by rw [size_swp]; exact hjd), swp_get d (by omega) (by omega), if_neg (by omega), if_neg (by omega)]
        · rfl

theorem flatK_pop (d : Array Sn) (m : Nat) (h : d.size = m + 1) : (flatK Sn.cs 13 d.pop).toList = (flatK Sn.cs 13 d).toList.take (m * 13) := by
  have e : d = d.pop.push d[m]! := by
    apply Array.ext (by simp; omega)
    intro i h1 h2
    by_cases hi : i < m
    · rw [Array.getElem_push_lt (by simp; omega)]; simp
    · have : i = m := by omega
      subst this
      have hs : d.pop.size = i := by simp; omega
      simp [Array.getElem_push, hs, h1]
  have := flatK_push d.pop d[m]!
  rw [← e] at this
  rw [this, List.take_left' (by simp; omega)]

set_option maxHeartbeats 1000000 in
theorem hpop21 {w : World} {bb : Nat} {v : Value} {d : Array Sn} {num : Int} (h : BusAt w bb v d num) (m : Nat) (hd : d.size = m + 1) (hn : d.size < 900000) :
    Calls Try.prog 21 #[.iface 65 (.pointer (some ⟨bb, 0, none⟩))] w fun e w' => e = .returned (.iface 35 (.agg d[0]!.cs.toArray)) ∧ ∃ v', BusAt w' bb v' (dnL m (swp d 0 m) 0).pop num ∧ Step w w' bb v v' := by
  obtain ⟨g, cap, rfl, _, _⟩ := h.o.form (by omega)
  have hcap : m + 1 ≤ cap := by
    rcases h.o.2 with ⟨h1, _⟩ | ⟨g', cap', cur, hv, hb, hh, h1, h2, h3, h4⟩
    · cases h1
    · cases hv; omega
  have H := Lib.hid h
  have HD := Lib.hid hd
  have m1 := mPop bb 0
  have m2 := mLen bb 0
  have m3 := mSwap bb 0
  have HL := Lib.hid (len19 h)
  have HS0 := Lib.hid (h.hs)
  clear h
  have hb1 : m < 900000 := by omega
  go_enter Try.func21, Try.ntmps21
  go_wp2_with fail
  refine HL.out.mono ?_
  rintro e w1 ⟨rfl, rfl⟩
  rw [HD.out]
  clear hd
  have HSW := Lib.hid (swapAny HS0.out d (SWK.start (holds_of_owns H.out.o)) rfl 0 (m : Int) (by omega) (by rw [HD.out]; omega) (by omega) (by rw [HD.out]; omega))
  go_wp2_with fail
  refine HSW.out.mono ?_
  rintro e w2 ⟨rfl, hs2⟩
  have HS2 := Lib.hid hs2
  clear hs2
  have HDN := Lib.hid (down33 HS0.out (swp d 0 m) HS2.out (size_swp _ _ _) 0 m (by rw [HD.out]; omega) (by omega) (by rw [HD.out]; omega))
  go_wp2_with fail
  refine HDN.out.mono ?_
  rintro e w3 ⟨⟨b, rfl⟩, hs3⟩
  have hsz : (dnL m (swp d 0 m) 0).size = d.size := by rw [size_dnL m _ _ _ (Nat.le_refl _), size_swp]
  have hB3 := H.out.back hs3 hsz
  have HX := Lib.hid (pop74 bb g cap m num _ w3 (by have := hB3.b; rw [HD.out] at this; exact this) (by have := hB3.o; rw [← hsz] at this; exact holds_of_owns this) (by rw [hsz, HD.out]) HS0.out.ne hcap (by omega))
  have HY := Lib.hid (And.intro hs3 hB3)
  clear hs3 hB3
  go_wp2_with fail
  refine HX.out.mono ?_
  rintro e w4 ⟨rfl, hp⟩
  have HP := Lib.hid hp
  clear hp
  go_wp2_with fail
  go_ret
  have hdd := HD.out
  refine ⟨?_, .slice (some ⟨g, 0, none⟩) m cap, ⟨?_, ?_⟩, ?_⟩
  · have e1 : (dnL m (swp d 0 m) 0)[m]! = (swp d 0 m)[m]! := dnL_far m _ _ _ (Nat.le_refl _) (by rw [size_swp, HD.out]; omega) m (Nat.le_refl _) (by rw [size_swp, HD.out]; omega)
    rw [e1, swp_get d (by omega) (by omega)]
    by_cases hm : m = 0
    · subst hm; simp
    · simp
  · have f := Fr.pu HP.out
    have hb := HY.out.2.b
    refine f.heap (?_ : _ = some (Obj.cells #[.slice (some ⟨g, 0, none⟩) m cap, .int .i64 num] 61 (0, 0))) (fun h => h)
    simp [World.setCell, Array.getElem?_modify, hb]
  · have f := Fr.pu HP.out
    have ho := HY.out.2.o
    rw [hsz] at ho
    have hs1 : (dnL m (swp d 0 m) 0).pop.size = m := by simp; omega
    rw [hs1, flatK_pop _ m (by omega)]
    refine f.owns (?_ : World.ownsRow _ 0 35 13 (.slice (some ⟨g, 0, none⟩) m cap) m _) (fun _ _ h => h)
    refine ownsRow_setCell_other ?_ (by simpa [Value.ownBlock] using Ne.symm HS0.out.ne) _
    refine ⟨by simp; omega, ?_⟩
    rcases ho.2 with ⟨h1, _⟩ | ⟨g', cap', cur, hv, hb, hh, h1, h2, h3, h4⟩
    · cases h1
    · cases hv
      refine .inr ⟨g, cap, cur, rfl, hb, hh, by omega, h2, h3, ?_⟩
      rw [← h4, List.take_take]
      congr 1
      omega
  · refine (Step.sw (bb := bb) HY.out.1).trans ⟨?_, .inl rfl⟩
    exact ((Fr.refl w3 _).setCell _ _ (fun _ => .inl rfl)).trans (Fr.pu HP.out) (fun _ _ h => h.elim)
end Go.Proofs.Ythmfibgjemnlbaa

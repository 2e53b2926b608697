/- Bus (layer 4): container/heap.Init over the waiting row. -/
import Derived.Test.YthmfibgjemnlbaaB07
namespace Go.Proofs.Ythmfibgjemnlbaa
open Go.RowKit Go.Sort Go.Shelf
set_option linter.unusedVariables false

def initL (n : Nat) : Nat → Array Sn → Array Sn
  | 0, d => d
  | k + 1, d => initL n k (dnL n d k)
theorem size_initL (n : Nat) : ∀ (k : Nat) (d : Array Sn), (initL n k d).size = d.size := by
  intro k
  induction k with
  | zero => intro d; rfl
  | succ k ih => intro d; rw [initL, ih, size_dnL n _ _ _ (Nat.le_refl _)]

set_option maxHeartbeats 1000000 in
theorem init31 {w : World} {bb : Nat} {v : Value} {d : Array Sn} {num : Int} (h : BusAt w bb v d num) (hn : d.size < 900000) :
    Calls Try.prog 31 #[.iface 65 (.pointer (some ⟨bb, 0, none⟩))] w fun e w' => e = .returned (.tuple #[]) ∧ BusAt w' bb v (initL d.size (d.size / 2) d) num ∧ Step w w' bb v v := by
  have H := Lib.hid h
  have m2 := mLen bb 0
  have HL := Lib.hid (len19 h)
  clear h
  by_cases h0 : d.size ≤ 1
  · have e : d.size / 2 = 0 := by omega
    rw [e]
    have hi : (d.size : Int) / 2 - 1 < 0 := by omega
    go_enter Try.func31, Try.ntmps31
    go_wp2_with fail
    refine HL.out.mono ?_
    rintro e w1 ⟨rfl, rfl⟩
    go_wp2_with fail
    go_loopg [3] 0 (fun _ i wr => i = .int .i64 (-1) ∧ wr = w)
    case atStart => exact ⟨by congr 1; omega, rfl⟩
    case round =>
      obtain ⟨rfl, rfl⟩ := hrel
      go_wp2_with fail
      go_end0
      exact ⟨rfl, H.out, Step.pu _ _ (Pu.refl _)⟩
  · have hv : ∃ g cap, v = .slice (some ⟨g, 0, none⟩) d.size cap := by
      obtain ⟨g, cap, rfl, _⟩ := H.out.o.form (by omega)
      exact ⟨g, cap, rfl⟩
    obtain ⟨g, cap, rfl⟩ := hv
    have HS0 := Lib.hid H.out.hs
    have HR := Lib.hid (holds_of_owns H.out.o)
    go_enter Try.func31, Try.ntmps31
    go_wp2_with fail
    refine HL.out.mono ?_
    rintro e w1 ⟨rfl, rfl⟩
    go_wp2_with fail
    go_loopg [3] (d.size / 2) (fun gk i wr => ∃ (k : Nat) (d' : Array Sn), i = .int .i64 ((k : Int) - 1) ∧ k ≤ gk ∧ k ≤ d.size / 2 ∧ Hid (d'.size = d.size ∧ initL d.size k d' = initL d.size (d.size / 2) d) ∧ SW w g d' wr)
    case atStart => exact ⟨d.size / 2, d, by congr 1, by omega, by omega, ⟨rfl, rfl⟩, SWK.start HR.out⟩
    case round =>
      obtain ⟨k, d', rfl, hk, hk2, HU, hs⟩ := hrel
      cases k with
      | zero =>
        have HS2 := Lib.hid hs
        clear hs
        go_wp2_with fail
        go_end0
        have := HU.out.2
        rw [initL] at this
        exact ⟨rfl, by rw [← this]; exact H.out.back HS2.out HU.out.1, Step.sw HS2.out⟩
      | succ k =>
        have HDN := Lib.hid (down33 HS0.out d' hs HU.out.1 k d.size (Nat.le_refl _) (by omega) (by omega))
        clear hs
        have e1 : ((k + 1 : Nat) : Int) - 1 = (k : Int) := by omega
        rw [e1]
        go_wp2_with fail
        refine HDN.out.mono ?_
        rintro e w3 ⟨⟨b, rfl⟩, hs3⟩
        go_wp2_with fail
        go_roundg k
        case measure => omega
        case rel =>
          have := HU.out.2
          rw [initL] at this
          exact ⟨k, dnL d.size d' k, by go_num, by omega, by omega, ⟨by rw [size_dnL _ _ _ _ (Nat.le_refl _)]; exact HU.out.1, this⟩, hs3⟩
end Go.Proofs.Ythmfibgjemnlbaa

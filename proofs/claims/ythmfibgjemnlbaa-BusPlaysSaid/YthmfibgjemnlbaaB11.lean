/- Bus (the reference of layer 3): campanileref03.Right tells the same as frame.Right. -/
import Derived.Test.YthmfibgjemnlbaaB10
import Derived.Deep.LoopGhost
namespace Go.Proofs.Ythmfibgjemnlbaa
open Go.RowKit Go.Sort
set_option linter.unusedVariables false
def tB (l : Int) (r : Bool) : Nat → List Int → Bool
  | _, [] => true
  | k, x :: t => (x == 0 || (decide ((k : Int) < l) && !r)) && tB l r (k + 1) t
theorem rtB_tB (i l a0 a1 a2 a3 a4 a5 a6 a7 : Int) (r : Bool) : rtB i l a0 a1 a2 a3 a4 a5 a6 a7 r = (decide (i ≤ 2047) && (decide (0 ≤ l) && (decide (l ≤ 8) && tB l r 0 [a0, a1, a2, a3, a4, a5, a6, a7]))) := by
  simp [rtB, tB]
set_option maxHeartbeats 4000000 in
set_option maxRecDepth 100000 in
theorem right37i (i l a0 a1 a2 a3 a4 a5 a6 a7 : Int) (r : Bool) (hi : i ≤ 2047) (h0 : 0 ≤ l) (h8 : l ≤ 8) (w : World) :
    Calls Try.prog 37 #[fagg i l a0 a1 a2 a3 a4 a5 a6 a7 r] w fun e w' => e = .returned (.bool (tB l r 0 [a0, a1, a2, a3, a4, a5, a6, a7])) ∧ Pu w w' := by
  obtain ⟨R, hR⟩ : ∃ R, R = tB l r 0 [a0, a1, a2, a3, a4, a5, a6, a7] := ⟨_, rfl⟩
  rw [← hR]
  have HI := Lib.hid hR
  clear hR
  go_enter Try.func37, Try.ntmps37
  go_wp2_with fail
  go_loopg [3] 8 (fun gk p wr => ∃ k : Nat, p = .int .i64 k ∧ k ≤ 8 ∧ 8 - k ≤ gk ∧ wr = w.alloc (.cells #[.int .u16 i, .int .i64 l, .int .u8 a0, .int .u8 a1, .int .u8 a2, .int .u8 a3, .int .u8 a4, .int .u8 a5, .int .u8 a6, .int .u8 a7, .bool r] 32) ∧ Hid (R = tB l r k (List.drop k [a0, a1, a2, a3, a4, a5, a6, a7])))
  case atStart => exact ⟨0, rfl, by omega, by omega, rfl, HI.out⟩
  case round =>
    obtain ⟨k, rfl, hk8, hkg, rfl, HU⟩ := hrel
    clear HI
    rcases (show k = 0 ∨ k = 1 ∨ k = 2 ∨ k = 3 ∨ k = 4 ∨ k = 5 ∨ k = 6 ∨ k = 7 ∨ k = 8 from by omega) with rfl | rfl | rfl | rfl | rfl | rfl | rfl | rfl | rfl
    · have HU' := Lib.hid (show R = ((a0 == 0 || (decide ((0 : Int) < l) && !r)) && tB l r 1 (List.drop 1 [a0, a1, a2, a3, a4, a5, a6, a7])) from HU.out)
      clear HU
      by_cases hz : a0 = 0
      · have hz1 : (a0 != 0) = false := by simp [hz]
        have hn : R = tB l r 1 (List.drop 1 [a0, a1, a2, a3, a4, a5, a6, a7]) := by rw [HU'.out]; simp [hz]
        have HN := Lib.hid hn
        clear hz hn
        go_wp2_with fail
        go_roundg 7
        case measure => omega
        case rel => exact ⟨1, rfl, by omega, by omega, rfl, HN.out⟩
      · have hz1 : (a0 != 0) = true := by simp [hz]
        by_cases hl : l ≤ 0
        · have hn : R = false := by rw [HU'.out]; simp [hz]; intro; omega
          have HN := Lib.hid hn
          clear hz hn
          go_wp2_with fail
          go_ret
          exact ⟨ret_bool HN.out.symm, (Pu.refl w).alloc _⟩
        · have hl' : 0 < l := by omega
          clear hl
          cases r with
          | true =>
            have hn : R = false := by rw [HU'.out]; simp [hz]
            have HN := Lib.hid hn
            clear hz hn
            go_wp2_with fail
            go_ret
            exact ⟨ret_bool HN.out.symm, (Pu.refl w).alloc _⟩
          | false =>
            have hn : R = tB l false 1 (List.drop 1 [a0, a1, a2, a3, a4, a5, a6, a7]) := by rw [HU'.out]; simp [hl']
            have HN := Lib.hid hn
            clear hz hn
            go_wp2_with fail
            go_roundg 7
            case measure => omega
            case rel => exact ⟨1, rfl, by omega, by omega, rfl, HN.out⟩
    · have HU' := Lib.hid (show R = ((a1 == 0 || (decide ((1 : Int) < l) && !r)) && tB l r 2 (List.drop 2 [a0, a1, a2, a3, a4, a5, a6, a7])) from HU.out)
      clear HU
      by_cases hz : a1 = 0
      · have hz1 : (a1 != 0) = false := by simp [hz]
        have hn : R = tB l r 2 (List.drop 2 [a0, a1, a2, a3, a4, a5, a6, a7]) := by rw [HU'.out]; simp [hz]
        have HN := Lib.hid hn
        clear hz hn
        go_wp2_with fail
        go_roundg 6
        case measure => omega
        case rel => exact ⟨2, rfl, by omega, by omega, rfl, HN.out⟩
      · have hz1 : (a1 != 0) = true := by simp [hz]
        by_cases hl : l ≤ 1
        · have hn : R = false := by rw [HU'.out]; simp [hz]; intro; omega
          have HN := Lib.hid hn
          clear hz hn
          go_wp2_with fail
          go_ret
          exact ⟨ret_bool HN.out.symm, (Pu.refl w).alloc _⟩
        · have hl' : 1 < l := by omega
          clear hl
          cases r with
          | true =>
            have hn : R = false := by rw [HU'.out]; simp [hz]
            have HN := Lib.hid hn
            clear hz hn
            go_wp2_with fail
            go_ret
            exact ⟨ret_bool HN.out.symm, (Pu.refl w).alloc _⟩
          | false =>
            have hn : R = tB l false 2 (List.drop 2 [a0, a1, a2, a3, a4, a5, a6, a7]) := by rw [HU'.out]; simp [hl']
            have HN := Lib.hid hn
            clear hz hn
            go_wp2_with fail
            go_roundg 6
            case measure => omega
            case rel => exact ⟨2, rfl, by omega, by omega, rfl, HN.out⟩
    · have HU' := Lib.hid (show R = ((a2 == 0 || (decide ((2 : Int) < l) && !r)) && tB l r 3 (List.drop 3 [a0, a1, a2, a3, a4, a5, a6, a7])) from HU.out)
      clear HU
      by_cases hz : a2 = 0
      · have hz1 : (a2 != 0) = false := by simp [hz]
        have hn : R = tB l r 3 (List.drop 3 [a0, a1, a2, a3, a4, a5, a6, a7]) := by rw [HU'.out]; simp [hz]
        have HN := Lib.hid hn
        clear hz hn
        go_wp2_with fail
        go_roundg 5
        case measure => omega
        case rel => exact ⟨3, rfl, by omega, by omega, rfl, HN.out⟩
      · have hz1 : (a2 != 0) = true := by simp [hz]
        by_cases hl : l ≤ 2
        · have hn : R = false := by rw [HU'.out]; simp [hz]; intro; omega
          have HN := Lib.hid hn
          clear hz hn
          go_wp2_with fail
          go_ret
          exact ⟨ret_bool HN.out.symm, (Pu.refl w).alloc _⟩
        · have hl' : 2 < l := by omega
          clear hl
          cases r with
          | true =>
            have hn : R = false := by rw [HU'.out]; simp [hz]
            have HN := Lib.hid hn
            clear hz hn
            go_wp2_with fail
            go_ret
            exact ⟨ret_bool HN.out.symm, (Pu.refl w).alloc _⟩
          | false =>
            have hn : R = tB l false 3 (List.drop 3 [a0, a1, a2, a3, a4, a5, a6, a7]) := by rw [HU'.out]; simp [hl']
            have HN := Lib.hid hn
            clear hz hn
            go_wp2_with fail
            go_roundg 5
            case measure => omega
            case rel => exact ⟨3, rfl, by omega, by omega, rfl, HN.out⟩
    · have HU' := Lib.hid (show R = ((a3 == 0 || (decide ((3 : Int) < l) && !r)) && tB l r 4 (List.drop 4 [a0, a1, a2, a3, a4, a5, a6, a7])) from HU.out)
      clear HU
      by_cases hz : a3 = 0
      · have hz1 : (a3 != 0) = false := by simp [hz]
        have hn : R = tB l r 4 (List.drop 4 [a0, a1, a2, a3, a4, a5, a6, a7]) := by rw [HU'.out]; simp [hz]
        have HN := Lib.hid hn
        clear hz hn
        go_wp2_with fail
        go_roundg 4
        case measure => omega
        case rel => exact ⟨4, rfl, by omega, by omega, rfl, HN.out⟩
      · have hz1 : (a3 != 0) = true := by simp [hz]
        by_cases hl : l ≤ 3
        · have hn : R = false := by rw [HU'.out]; simp [hz]; intro; omega
          have HN := Lib.hid hn
          clear hz hn
          go_wp2_with fail
          go_ret
          exact ⟨ret_bool HN.out.symm, (Pu.refl w).alloc _⟩
        · have hl' : 3 < l := by omega
          clear hl
          cases r with
          | true =>
            have hn : R = false := by rw [HU'.out]; simp [hz]
            have HN := Lib.hid hn
            clear hz hn
            go_wp2_with fail
            go_ret
            exact ⟨ret_bool HN.out.symm, (Pu.refl w).alloc _⟩
          | false =>
            have hn : R = tB l false 4 (List.drop 4 [a0, a1, a2, a3, a4, a5, a6, a7]) := by rw [HU'.out]; simp [hl']
            have HN := Lib.hid hn
            clear hz hn
            go_wp2_with fail
            go_roundg 4
            case measure => omega
            case rel => exact ⟨4, rfl, by omega, by omega, rfl, HN.out⟩
    · have HU' := Lib.hid (show R = ((a4 == 0 || (decide ((4 : Int) < l) && !r)) && tB l r 5 (List.drop 5 [a0, a1, a2, a3, a4, a5, a6, a7])) from HU.out)
      clear HU
      by_cases hz : a4 = 0
      · have hz1 : (a4 != 0) = false := by simp [hz]
        have hn : R = tB l r 5 (List.drop 5 [a0, a1, a2, a3, a4, a5, a6, a7]) := by rw [HU'.out]; simp [hz]
        have HN := Lib.hid hn
        clear hz hn
        go_wp2_with fail
        go_roundg 3
        case measure => omega
        case rel => exact ⟨5, rfl, by omega, by omega, rfl, HN.out⟩
      · have hz1 : (a4 != 0) = true := by simp [hz]
        by_cases hl : l ≤ 4
        · have hn : R = false := by rw [HU'.out]; simp [hz]; intro; omega
          have HN := Lib.hid hn
          clear hz hn
          go_wp2_with fail
          go_ret
          exact ⟨ret_bool HN.out.symm, (Pu.refl w).alloc _⟩
        · have hl' : 4 < l := by omega
          clear hl
          cases r with
          | true =>
            have hn : R = false := by rw [HU'.out]; simp [hz]
            have HN := Lib.hid hn
            clear hz hn
            go_wp2_with fail
            go_ret
            exact ⟨ret_bool HN.out.symm, (Pu.refl w).alloc _⟩
          | false =>
            have hn : R = tB l false 5 (List.drop 5 [a0, a1, a2, a3, a4, a5, a6, a7]) := by rw [HU'.out]; simp [hl']
            have HN := Lib.hid hn
            clear hz hn
            go_wp2_with fail
            go_roundg 3
            case measure => omega
            case rel => exact ⟨5, rfl, by omega, by omega, rfl, HN.out⟩
    · have HU' := Lib.hid (show R = ((a5 == 0 || (decide ((5 : Int) < l) && !r)) && tB l r 6 (List.drop 6 [a0, a1, a2, a3, a4, a5, a6, a7])) from HU.out)
      clear HU
      by_cases hz : a5 = 0
      · have hz1 : (a5 != 0) = false := by simp [hz]
        have hn : R = tB l r 6 (List.drop 6 [a0, a1, a2, a3, a4, a5, a6, a7]) := by rw [HU'.out]; simp [hz]
        have HN := Lib.hid hn
        clear hz hn
        go_wp2_with fail
        go_roundg 2
        case measure => omega
        case rel => exact ⟨6, rfl, by omega, by omega, rfl, HN.out⟩
      · have hz1 : (a5 != 0) = true := by simp [hz]
        by_cases hl : l ≤ 5
        · have hn : R = false := by rw [HU'.out]; simp [hz]; intro; omega
          have HN := Lib.hid hn
          clear hz hn
          go_wp2_with fail
          go_ret
          exact ⟨ret_bool HN.out.symm, (Pu.refl w).alloc _⟩
        · have hl' : 5 < l := by omega
          clear hl
          cases r with
          | true =>
            have hn : R = false := by rw [HU'.out]; simp [hz]
            have HN := Lib.hid hn
            clear hz hn
            go_wp2_with fail
            go_ret
            exact ⟨ret_bool HN.out.symm, (Pu.refl w).alloc _⟩
          | false =>
            have hn : R = tB l false 6 (List.drop 6 [a0, a1, a2, a3, a4, a5, a6, a7]) := by rw [HU'.out]; simp [hl']
            have HN := Lib.hid hn
            clear hz hn
            go_wp2_with fail
            go_roundg 2
            case measure => omega
            case rel => exact ⟨6, rfl, by omega, by omega, rfl, HN.out⟩
    · have HU' := Lib.hid (show R = ((a6 == 0 || (decide ((6 : Int) < l) && !r)) && tB l r 7 (List.drop 7 [a0, a1, a2, a3, a4, a5, a6, a7])) from HU.out)
      clear HU
      by_cases hz : a6 = 0
      · have hz1 : (a6 != 0) = false := by simp [hz]
        have hn : R = tB l r 7 (List.drop 7 [a0, a1, a2, a3, a4, a5, a6, a7]) := by rw [HU'.out]; simp [hz]
        have HN := Lib.hid hn
        clear hz hn
        go_wp2_with fail
        go_roundg 1
        case measure => omega
        case rel => exact ⟨7, rfl, by omega, by omega, rfl, HN.out⟩
      · have hz1 : (a6 != 0) = true := by simp [hz]
        by_cases hl : l ≤ 6
        · have hn : R = false := by rw [HU'.out]; simp [hz]; intro; omega
          have HN := Lib.hid hn
          clear hz hn
          go_wp2_with fail
          go_ret
          exact ⟨ret_bool HN.out.symm, (Pu.refl w).alloc _⟩
        · have hl' : 6 < l := by omega
          clear hl
          cases r with
          | true =>
            have hn : R = false := by rw [HU'.out]; simp [hz]
            have HN := Lib.hid hn
            clear hz hn
            go_wp2_with fail
            go_ret
            exact ⟨ret_bool HN.out.symm, (Pu.refl w).alloc _⟩
          | false =>
            have hn : R = tB l false 7 (List.drop 7 [a0, a1, a2, a3, a4, a5, a6, a7]) := by rw [HU'.out]; simp [hl']
            have HN := Lib.hid hn
            clear hz hn
            go_wp2_with fail
            go_roundg 1
            case measure => omega
            case rel => exact ⟨7, rfl, by omega, by omega, rfl, HN.out⟩
    · have HU' := Lib.hid (show R = ((a7 == 0 || (decide ((7 : Int) < l) && !r)) && tB l r 8 (List.drop 8 [a0, a1, a2, a3, a4, a5, a6, a7])) from HU.out)
      clear HU
      by_cases hz : a7 = 0
      · have hz1 : (a7 != 0) = false := by simp [hz]
        have hn : R = tB l r 8 (List.drop 8 [a0, a1, a2, a3, a4, a5, a6, a7]) := by rw [HU'.out]; simp [hz]
        have HN := Lib.hid hn
        clear hz hn
        go_wp2_with fail
        go_roundg 0
        case measure => omega
        case rel => exact ⟨8, rfl, by omega, by omega, rfl, HN.out⟩
      · have hz1 : (a7 != 0) = true := by simp [hz]
        by_cases hl : l ≤ 7
        · have hn : R = false := by rw [HU'.out]; simp [hz]; intro; omega
          have HN := Lib.hid hn
          clear hz hn
          go_wp2_with fail
          go_ret
          exact ⟨ret_bool HN.out.symm, (Pu.refl w).alloc _⟩
        · have hl' : 7 < l := by omega
          clear hl
          cases r with
          | true =>
            have hn : R = false := by rw [HU'.out]; simp [hz]
            have HN := Lib.hid hn
            clear hz hn
            go_wp2_with fail
            go_ret
            exact ⟨ret_bool HN.out.symm, (Pu.refl w).alloc _⟩
          | false =>
            have hn : R = tB l false 8 (List.drop 8 [a0, a1, a2, a3, a4, a5, a6, a7]) := by rw [HU'.out]; simp [hl']
            have HN := Lib.hid hn
            clear hz hn
            go_wp2_with fail
            go_roundg 0
            case measure => omega
            case rel => exact ⟨8, rfl, by omega, by omega, rfl, HN.out⟩
    · have hn : R = true := HU.out
      have HN := Lib.hid hn
      clear hn
      go_wp2_with fail
      go_ret
      exact ⟨ret_bool HN.out.symm, (Pu.refl w).alloc _⟩
set_option maxHeartbeats 1000000 in
set_option maxRecDepth 100000 in
theorem right37 (i l a0 a1 a2 a3 a4 a5 a6 a7 : Int) (r : Bool) (w : World) :
    Calls Try.prog 37 #[fagg i l a0 a1 a2 a3 a4 a5 a6 a7 r] w fun e w' => e = .returned (.bool (rtB i l a0 a1 a2 a3 a4 a5 a6 a7 r)) ∧ Pu w w' := by
  by_cases h1 : 2047 < i
  · have hR : rtB i l a0 a1 a2 a3 a4 a5 a6 a7 r = false := by rw [rtB_tB, show decide (i ≤ 2047) = false from by simp; omega]; rfl
    rw [hR]
    clear hR
    go_enter Try.func37, Try.ntmps37
    go_wp2_with fail
    go_ret
    exact ⟨rfl, ((Pu.refl w).alloc _)⟩
  · have h1' : i ≤ 2047 := by omega
    by_cases h2 : l < 0
    · have hR : rtB i l a0 a1 a2 a3 a4 a5 a6 a7 r = false := by rw [rtB_tB, show decide (0 ≤ l) = false from by simp; omega]; simp
      rw [hR]
      clear hR h1
      go_enter Try.func37, Try.ntmps37
      go_wp2_with fail
      go_ret
      exact ⟨rfl, ((Pu.refl w).alloc _)⟩
    · have h2' : 0 ≤ l := by omega
      by_cases h3 : 8 < l
      · have hR : rtB i l a0 a1 a2 a3 a4 a5 a6 a7 r = false := by rw [rtB_tB, show decide (l ≤ 8) = false from by simp; omega]; simp
        rw [hR]
        clear hR h1 h2
        go_enter Try.func37, Try.ntmps37
        go_wp2_with fail
        go_ret
        exact ⟨rfl, ((Pu.refl w).alloc _)⟩
      · have hR : rtB i l a0 a1 a2 a3 a4 a5 a6 a7 r = tB l r 0 [a0, a1, a2, a3, a4, a5, a6, a7] := by rw [rtB_tB]; simp [h1', h2', show l ≤ 8 from by omega]
        rw [hR]
        exact right37i _ _ _ _ _ _ _ _ _ _ _ h1' h2' (by omega) w
end Go.Proofs.Ythmfibgjemnlbaa

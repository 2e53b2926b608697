/- Bus (layer 4): heap.up and heap.down over the waiting row: what they make of it is told by plain functions (upL, dnL). -/
import Derived.Test.YthmfibgjemnlbaaB02
import Derived.Shelf.SlSortFuncK.SWK
import Derived.Shelf.SlSortFuncK.HeapSortK
import Derived.Lib.Hide
namespace Go.Proofs.Ythmfibgjemnlbaa
open Go.RowKit Go.Sort Go.Shelf
set_option linter.unusedVariables false

theorem mLess (b o : Nat) (w : World) : (method 228 65 (.pointer (some ⟨b, o, none⟩)) "Less").run Try.prog w = .ok (73, .pointer (some ⟨b, o, none⟩)) w := by kernel_rfl
theorem mSwap (b o : Nat) (w : World) : (method 228 65 (.pointer (some ⟨b, o, none⟩)) "Swap").run Try.prog w = .ok (76, .pointer (some ⟨b, o, none⟩)) w := by kernel_rfl
theorem mLen (b o : Nat) (w : World) : (method 228 65 (.pointer (some ⟨b, o, none⟩)) "Len").run Try.prog w = .ok (19, .pointer (some ⟨b, o, none⟩)) w := by kernel_rfl
theorem mPush (b o : Nat) (w : World) : (method 228 65 (.pointer (some ⟨b, o, none⟩)) "Push").run Try.prog w = .ok (75, .pointer (some ⟨b, o, none⟩)) w := by kernel_rfl
theorem mPop (b o : Nat) (w : World) : (method 228 65 (.pointer (some ⟨b, o, none⟩)) "Pop").run Try.prog w = .ok (74, .pointer (some ⟨b, o, none⟩)) w := by kernel_rfl

/-- The bus's block. -/
def BusB (w : World) (bb g n cap : Nat) (num : Int) : Prop := w.heap[bb]? = some (.cells #[.slice (some ⟨g, 0, none⟩) n cap, .int .i64 num] 61 (0, 0))
/-- A bus as it stood: its block, the row of what waits. -/
structure HS (w0 : World) (bb g n cap : Nat) (num : Int) : Prop where
  b : BusB w0 bb g n cap num
  r : ∃ d0 : Array Sn, d0.size = n ∧ HoldsK Sn.cs 13 w0 g 0 d0
  lg : g < w0.heap.size
  ne : bb ≠ g
abbrev SW (w0 : World) (g : Nat) (d : Array Sn) (W : World) : Prop := SWK Sn.cs 13 w0 g 0 d W
theorem HS.lt {w0 : World} {bb g n cap : Nat} {num : Int} (h : HS w0 bb g n cap num) : bb < w0.heap.size := lt_of_block h.b
theorem HS.holds {w0 W : World} {bb g n cap : Nat} {num : Int} (h : HS w0 bb g n cap num) {d : Array Sn} (hs : SW w0 g d W) (hd : d.size = n) : HoldsK Sn.cs 13 W g 0 d := by
  obtain ⟨d0, h0, hr⟩ := h.r
  exact hs.holds h.lg hr (by omega)
theorem putRow_heap {α : Type} [Inhabited α] (enc : α → Value) (w : World) (blk off : Nat) (d : Array α) (j : Nat) (hj : j ≠ blk) : (putRow enc w blk off d).heap[j]? = w.heap[j]? := by
  unfold putRow mapBlock
  simp [Array.getElem?_modify, Ne.symm hj]
theorem HS.bus {w0 W : World} {bb g n cap : Nat} {num : Int} (h : HS w0 bb g n cap num) {d : Array Sn} (hs : SW w0 g d W) : BusB W bb g n cap num := by
  obtain ⟨m, os, rfl⟩ := hs
  unfold BusB sortWorldK
  have : (grow (putRowK Sn.cs 13 (Sort.ahead w0 m) g 0 d) os).heap[bb]? = (putRowK Sn.cs 13 (Sort.ahead w0 m) g 0 d).heap[bb]? := by
    simp only [grow]
    rw [Array.getElem?_append_left (by rw [size_putRowK]; exact h.lt)]
  rw [this]
  unfold putRowK
  rw [putRow_heap _ _ _ _ _ _ h.ne]
  exact h.b

theorem lessAny {bb g n cap : Nat} {num : Int} {w0 W : World} (H : HS w0 bb g n cap num) (d : Array Sn) (hs : SW w0 g d W) (hd : d.size = n) (i j : Int) (h0 : 0 ≤ i) (hi : i < n) (k0 : 0 ≤ j) (hj : j < n) :
    Calls Try.prog 73 #[.pointer (some ⟨bb, 0, none⟩), .int .i64 i, .int .i64 j] W fun e w' => e = .returned (.bool (d[i.toNat]!.ah d[j.toNat]!)) ∧ SW w0 g d w' := by
  subst hd
  obtain ⟨i, rfl⟩ := Int.eq_ofNat_of_zero_le h0
  obtain ⟨j, rfl⟩ := Int.eq_ofNat_of_zero_le k0
  refine (less73 bb g cap num i j d W (H.bus hs) (H.holds hs rfl) (hs.lt H.lg) (by omega) (by omega)).mono fun e w' ⟨he, hp⟩ => ⟨he, ?_⟩
  obtain ⟨q, os, rfl⟩ := hp.out
  obtain ⟨m, os', rfl⟩ := hs
  exact ⟨_, _, sortWorldK_grown_c Sn.cs 13 w0 g 0 m q d os' os⟩
theorem swapAny {bb g n cap : Nat} {num : Int} {w0 W : World} (H : HS w0 bb g n cap num) (d : Array Sn) (hs : SW w0 g d W) (hd : d.size = n) (i j : Int) (h0 : 0 ≤ i) (hi : i < n) (k0 : 0 ≤ j) (hj : j < n) :
    Calls Try.prog 76 #[.pointer (some ⟨bb, 0, none⟩), .int .i64 i, .int .i64 j] W fun e w' => e = .returned (.tuple #[]) ∧ SW w0 g (swp d i.toNat j.toNat) w' := by
  subst hd
  obtain ⟨i, rfl⟩ := Int.eq_ofNat_of_zero_le h0
  obtain ⟨j, rfl⟩ := Int.eq_ofNat_of_zero_le k0
  refine (swap76 Try.bp Sn.cs Sn.cs_length Sn.cs_one bb g cap num i j d W (H.bus hs) (H.holds hs rfl) (by omega) (by omega)).mono fun e w' ⟨he, hp⟩ => ⟨he, ?_⟩
  have := hs.on H.lg 1 (swp d i j) #[] (by rw [size_swp])
  rw [hp]
  unfold sortWorldK at this
  rw [grow_empty] at this
  exact this

def upL (d : Array Sn) (j : Nat) : Array Sn :=
  if h : j = 0 then d else if d[j]!.ah d[(j - 1) / 2]! then upL (swp d ((j - 1) / 2) j) ((j - 1) / 2) else d
termination_by j
decreasing_by omega

set_option maxHeartbeats 1000000 in
set_option maxRecDepth 100000 in
theorem up32 {bb g n cap : Nat} {num : Int} {w0 W : World} (H : HS w0 bb g n cap num) (d : Array Sn) (hs : SW w0 g d W) (hd : d.size = n) (j : Nat) (hj : j < n) (hn : n < 1000000) :
    Calls Try.prog 32 #[.iface 65 (.pointer (some ⟨bb, 0, none⟩)), .int .i64 j] W fun e w' => e = .returned (.tuple #[]) ∧ SW w0 g (upL d j) w' := by
  have HS0 := Lib.hid (And.intro H hs)
  have HD := Lib.hid hd
  clear H hs hd
  go_enter Try.func32, Try.ntmps32
  go_wp2_with fail
  go_loopg [1, 4] j (fun gk p q wr => ∃ (j' : Nat) (d' : Array Sn) (v : Value), p = .int .i64 j' ∧ q = v ∧ j' ≤ gk ∧ j' < n ∧ Hid (d'.size = n ∧ upL d' j' = upL d j) ∧ SW w0 g d' wr)
  case atStart => exact ⟨j, d, _, rfl, rfl, by omega, hj, ⟨HD.out, rfl⟩, HS0.out.2⟩
  case round =>
    obtain ⟨j', d', v, rfl, rfl, hk, hlt, HU, hs'⟩ := hrel
    have m1 := mLess bb 0
    have m2 := mSwap bb 0
    by_cases h0 : j' = 0
    · subst h0
      go_wp2_with fail
      go_end0
      refine ⟨rfl, ?_⟩
      have := HU.out.2
      rw [upL] at this
      simp only [↓reduceDIte] at this
      rw [← this]
      exact hs'
    · obtain ⟨jp, rfl⟩ : ∃ m, j' = m + 1 := ⟨j' - 1, by omega⟩
      have he : ((jp : Int) / 2 == (jp : Int) + 1) = false := by simp; omega
      have hL := lessAny HS0.out.1 d' hs' HU.out.1 ((jp : Int) + 1) ((jp : Int) / 2) (by omega) (by omega) (by omega) (by omega)
      rw [show ((jp : Int) + 1).toNat = jp + 1 from by omega, show ((jp : Int) / 2).toNat = jp / 2 from by omega] at hL
      clear h0
      have HU2 := HU.out.2
      rw [upL] at HU2
      rw [dif_neg (by omega), show (jp + 1 - 1) / 2 = jp / 2 from by omega] at HU2
      cases hx : d'[jp + 1]!.ah d'[jp / 2]! with
      | false =>
        rw [hx] at hL HU2
        have HX := Lib.hid HU2
        clear HU2 hx
        go_wp2_with (go_at_call 73; refine hL.mono ?_; rintro e w' ⟨rfl, hs2⟩)
        go_end0
        exact ⟨rfl, by rw [← HX.out]; exact hs2⟩
      | true =>
        rw [hx] at hL HU2
        have HX := Lib.hid HU2
        clear HU2 hx
        go_wp2_with (go_at_call 73; refine hL.mono ?_; rintro e w' ⟨rfl, hs2⟩)
        have hS := swapAny HS0.out.1 d' hs2 HU.out.1 ((jp : Int) / 2) ((jp : Int) + 1) (by omega) (by omega) (by omega) (by omega)
        rw [show ((jp : Int) + 1).toNat = jp + 1 from by omega, show ((jp : Int) / 2).toNat = jp / 2 from by omega] at hS
        go_wp2_with (go_at_call 76; refine hS.mono ?_; rintro e w' ⟨rfl, hs3⟩)
        go_roundg (jp / 2)
        case measure => omega
        case rel => exact ⟨jp / 2, swp d' (jp / 2) (jp + 1), _, by go_num, rfl, by omega, by omega, ⟨by rw [size_swp]; exact HU.out.1, HX.out⟩, hs3⟩

def dnL (m : Nat) (d : Array Sn) (i : Nat) : Array Sn :=
  if h : m ≤ 2 * i + 1 then d
  else
    if 2 * i + 2 < m ∧ d[2 * i + 2]!.ah d[2 * i + 1]! = true then
      (if d[2 * i + 2]!.ah d[i]! then dnL m (swp d i (2 * i + 2)) (2 * i + 2) else d)
    else (if d[2 * i + 1]!.ah d[i]! then dnL m (swp d i (2 * i + 1)) (2 * i + 1) else d)
termination_by m - i
decreasing_by all_goals omega

set_option maxHeartbeats 2000000 in
set_option maxRecDepth 100000 in
theorem down33 {bb g n cap : Nat} {num : Int} {w0 W : World} (H : HS w0 bb g n cap num) (d : Array Sn) (hs : SW w0 g d W) (hd : d.size = n) (i m : Nat) (hm : m ≤ n) (hi : i ≤ n) (hn : n < 1000000) :
    Calls Try.prog 33 #[.iface 65 (.pointer (some ⟨bb, 0, none⟩)), .int .i64 i, .int .i64 m] W fun e w' => (∃ b, e = .returned (.bool b)) ∧ SW w0 g (dnL m d i) w' := by
  have HS0 := Lib.hid (And.intro H hs)
  have HD := Lib.hid hd
  clear H hs hd
  go_enter Try.func33, Try.ntmps33
  go_wp2_with fail
  go_loopg [7, 8, 9, 10] (m - i) (fun gk p q r s wr => ∃ (i' : Nat) (d' : Array Sn), p = .int .i64 i' ∧ m - i' ≤ gk ∧ i' ≤ n ∧ Hid (d'.size = n ∧ dnL m d' i' = dnL m d i) ∧ SW w0 g d' wr)
  case atStart => exact ⟨i, d, rfl, by omega, hi, ⟨HD.out, rfl⟩, HS0.out.2⟩
  case round =>
    obtain ⟨i', d', rfl, hk, hlt, HU, hs'⟩ := hrel
    have m1 := mLess bb 0
    have m2 := mSwap bb 0
    have HU2 := HU.out.2
    rw [dnL] at HU2
    by_cases h0 : m ≤ 2 * i' + 1
    · rw [dif_pos h0] at HU2
      have HX := Lib.hid HU2
      clear HU2
      have h1 : (m : Int) ≤ 2 * (i' : Int) + 1 := by omega
      go_wp2_with fail
      go_ret
      exact ⟨⟨_, rfl⟩, by rw [← HX.out]; exact hs'⟩
    · rw [dif_neg h0] at HU2
      have h1 : 2 * (i' : Int) + 1 < (m : Int) := by omega
      by_cases h2 : 2 * i' + 2 < m
      · have h3 : 2 * (i' : Int) + 1 + 1 < (m : Int) := by omega
        have hL1 := lessAny HS0.out.1 d' hs' HU.out.1 (2 * (i' : Int) + 1 + 1) (2 * (i' : Int) + 1) (by omega) (by omega) (by omega) (by omega)
        simp only [show (2 * (i' : Int) + 1 + 1).toNat = 2 * i' + 2 from by omega, show (2 * (i' : Int) + 1).toNat = 2 * i' + 1 from by omega] at hL1
        cases hx : d'[2 * i' + 2]!.ah d'[2 * i' + 1]! with
        | false =>
          rw [hx] at hL1 HU2
          rw [if_neg (by simp)] at HU2
          have HL1 := Lib.hid hL1
          clear hL1 hx
          have HU3 := Lib.hid HU2
          clear HU2
          go_wp2_with fail
          refine HL1.out.mono ?_
          rintro e w2 ⟨rfl, hs9⟩
          have HU2 := HU3.out
          clear HU3
          have hL2 := fun wx hsx => lessAny (W := wx) HS0.out.1 d' hsx HU.out.1 (2 * (i' : Int) + 1) (i' : Int) (by omega) (by omega) (by omega) (by omega)
          simp only [show (2 * (i' : Int) + 1).toNat = 2 * i' + 1 from by omega, Int.toNat_natCast] at hL2
          cases hy : d'[2 * i' + 1]!.ah d'[i']! with
          | false =>
            rw [hy] at HU2; simp only [hy] at hL2
            have HX := Lib.hid HU2
            have HL2 := Lib.hid hL2
            clear HU2 hy hL2
            go_wp2_with fail
            refine (HL2.out _ hs9).mono ?_
            rintro e w3 ⟨rfl, hs3⟩
            go_wp2_with fail
            go_ret
            exact ⟨⟨_, rfl⟩, by rw [← HX.out]; exact hs3⟩
          | true =>
            rw [hy] at HU2; simp only [hy] at hL2
            have HX := Lib.hid HU2
            have HL2 := Lib.hid hL2
            have HS2 := Lib.hid (fun wx hsx => swapAny (W := wx) HS0.out.1 d' hsx HU.out.1 (i' : Int) (2 * (i' : Int) + 1) (by omega) (by omega) (by omega) (by omega))
            clear HU2 hy hL2
            go_wp2_with fail
            refine (HL2.out _ hs9).mono ?_
            rintro e w3 ⟨rfl, hs3⟩
            go_wp2_with fail
            refine (HS2.out _ hs3).mono ?_
            rintro e w4 ⟨rfl, hs4⟩
            rw [show (2 * (i' : Int) + 1).toNat = 2 * i' + 1 from by omega, Int.toNat_natCast] at hs4
            go_wp2_with fail
            go_roundg (m - (2 * i' + 1))
            case measure => omega
            case rel => exact ⟨2 * i' + 1, swp d' i' (2 * i' + 1), by go_num, by omega, by omega, ⟨by rw [size_swp]; exact HU.out.1, HX.out⟩, hs4⟩
        | true =>
          rw [hx] at hL1 HU2
          rw [if_pos ⟨h2, rfl⟩] at HU2
          have HL1 := Lib.hid hL1
          clear hL1 hx
          have HU3 := Lib.hid HU2
          clear HU2
          go_wp2_with fail
          refine HL1.out.mono ?_
          rintro e w2 ⟨rfl, hs9⟩
          have HU2 := HU3.out
          clear HU3
          have hL2 := fun wx hsx => lessAny (W := wx) HS0.out.1 d' hsx HU.out.1 (2 * (i' : Int) + 1 + 1) (i' : Int) (by omega) (by omega) (by omega) (by omega)
          simp only [show (2 * (i' : Int) + 1 + 1).toNat = 2 * i' + 2 from by omega, Int.toNat_natCast] at hL2
          cases hy : d'[2 * i' + 2]!.ah d'[i']! with
          | false =>
            rw [hy] at HU2; simp only [hy] at hL2
            have HX := Lib.hid HU2
            have HL2 := Lib.hid hL2
            clear HU2 hy hL2
            go_wp2_with fail
            refine (HL2.out _ hs9).mono ?_
            rintro e w3 ⟨rfl, hs3⟩
            go_wp2_with fail
            go_ret
            exact ⟨⟨_, rfl⟩, by rw [← HX.out]; exact hs3⟩
          | true =>
            rw [hy] at HU2; simp only [hy] at hL2
            have HX := Lib.hid HU2
            have HL2 := Lib.hid hL2
            have HS2 := Lib.hid (fun wx hsx => swapAny (W := wx) HS0.out.1 d' hsx HU.out.1 (i' : Int) (2 * (i' : Int) + 1 + 1) (by omega) (by omega) (by omega) (by omega))
            clear HU2 hy hL2
            go_wp2_with fail
            refine (HL2.out _ hs9).mono ?_
            rintro e w3 ⟨rfl, hs3⟩
            go_wp2_with fail
            refine (HS2.out _ hs3).mono ?_
            rintro e w4 ⟨rfl, hs4⟩
            rw [show (2 * (i' : Int) + 1 + 1).toNat = 2 * i' + 2 from by omega, Int.toNat_natCast] at hs4
            go_wp2_with fail
            go_roundg (m - (2 * i' + 2))
            case measure => omega
            case rel => exact ⟨2 * i' + 2, swp d' i' (2 * i' + 2), by go_num, by omega, by omega, ⟨by rw [size_swp]; exact HU.out.1, HX.out⟩, hs4⟩
      · have h3 : (m : Int) ≤ 2 * (i' : Int) + 1 + 1 := by omega
        rw [if_neg (fun h => h2 h.1)] at HU2
        have hs9 := hs'
        have hL2 := fun wx hsx => lessAny (W := wx) HS0.out.1 d' hsx HU.out.1 (2 * (i' : Int) + 1) (i' : Int) (by omega) (by omega) (by omega) (by omega)
        simp only [show (2 * (i' : Int) + 1).toNat = 2 * i' + 1 from by omega, Int.toNat_natCast] at hL2
        cases hy : d'[2 * i' + 1]!.ah d'[i']! with
        | false =>
          rw [hy] at HU2; simp only [hy] at hL2
          have HX := Lib.hid HU2
          have HL2 := Lib.hid hL2
          clear HU2 hy hL2
          go_wp2_with fail
          refine (HL2.out _ hs9).mono ?_
          rintro e w3 ⟨rfl, hs3⟩
          go_wp2_with fail
          go_ret
          exact ⟨⟨_, rfl⟩, by rw [← HX.out]; exact hs3⟩
        | true =>
          rw [hy] at HU2; simp only [hy] at hL2
          have HX := Lib.hid HU2
          have HL2 := Lib.hid hL2
          have HS2 := Lib.hid (fun wx hsx => swapAny (W := wx) HS0.out.1 d' hsx HU.out.1 (i' : Int) (2 * (i' : Int) + 1) (by omega) (by omega) (by omega) (by omega))
          clear HU2 hy hL2
          go_wp2_with fail
          refine (HL2.out _ hs9).mono ?_
          rintro e w3 ⟨rfl, hs3⟩
          go_wp2_with fail
          refine (HS2.out _ hs3).mono ?_
          rintro e w4 ⟨rfl, hs4⟩
          rw [show (2 * (i' : Int) + 1).toNat = 2 * i' + 1 from by omega, Int.toNat_natCast] at hs4
          go_wp2_with fail
          go_roundg (m - (2 * i' + 1))
          case measure => omega
          case rel => exact ⟨2 * i' + 1, swp d' i' (2 * i' + 1), by go_num, by omega, by omega, ⟨by rw [size_swp]; exact HU.out.1, HX.out⟩, hs4⟩
end Go.Proofs.Ythmfibgjemnlbaa

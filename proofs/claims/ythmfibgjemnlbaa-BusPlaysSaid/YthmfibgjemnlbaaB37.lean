/- Bus (layer 4): one call of both: Send. -/
import Derived.Test.YthmfibgjemnlbaaB36
import Derived.Deep.RegionHeld3
namespace Go.Proofs.Ythmfibgjemnlbaa
open Go.RowKit Go.Sort Go.Shelf Go.Lib
set_option linter.unusedVariables false
/-- A step's box lies there. -/
def Box45 (w : World) (B : Nat) (kind node id len d0 d1 d2 d3 d4 d5 d6 d7 : Int) (r : Bool) (times : Int) : Prop := w.heap[B]? = some (.cells #[.int .i64 kind, .int .i64 node, .int .u16 id, .int .i64 len, .int .u8 d0, .int .u8 d1, .int .u8 d2, .int .u8 d3, .int .u8 d4, .int .u8 d5, .int .u8 d6, .int .u8 d7, .bool r, .int .i64 times] 45)
theorem box_cells {w : World} {B : Nat} {kind node id len d0 d1 d2 d3 d4 d5 d6 d7 : Int} {r : Bool} {times : Int} (h : Box45 w B kind node id len d0 d1 d2 d3 d4 d5 d6 d7 r times) :
    w.cell? ⟨B, 1, none⟩ = some (.int .i64 node) ∧ w.cell? ⟨B, 2, none⟩ = some (.int .u16 id) ∧ w.cell? ⟨B, 3, none⟩ = some (.int .i64 len) ∧ w.cell? ⟨B, 4, none⟩ = some (.int .u8 d0) ∧ w.cell? ⟨B, 5, none⟩ = some (.int .u8 d1) ∧ w.cell? ⟨B, 6, none⟩ = some (.int .u8 d2) ∧ w.cell? ⟨B, 7, none⟩ = some (.int .u8 d3) ∧ w.cell? ⟨B, 8, none⟩ = some (.int .u8 d4) ∧ w.cell? ⟨B, 9, none⟩ = some (.int .u8 d5) ∧ w.cell? ⟨B, 10, none⟩ = some (.int .u8 d6) ∧ w.cell? ⟨B, 11, none⟩ = some (.int .u8 d7) ∧ w.cell? ⟨B, 12, none⟩ = some (.bool r) := by
  unfold Box45 at h
  simp [World.cell?, h]
theorem box_times {w : World} {B : Nat} {kind node id len d0 d1 d2 d3 d4 d5 d6 d7 : Int} {r : Bool} {times : Int} (h : Box45 w B kind node id len d0 d1 d2 d3 d4 d5 d6 d7 r times) : w.cell? ⟨B, 13, none⟩ = some (.int .i64 times) := by
  unfold Box45 at h
  simp [World.cell?, h]
theorem sD_size (code : Int) (d : Array Sn) (s : Sn) (num : Int) : ((sD code d s).size : Int) + num ≤ d.size + sN code num := by
  unfold sD sN
  split
  · rw [size_upL, Array.size_push]
    omega
  · omega
theorem sN_le (code num : Int) : num ≤ sN code num ∧ sN code num ≤ num + 1 := by
  unfold sN
  split <;> omega
set_option maxHeartbeats 4000000 in
set_option maxRecDepth 100000 in
theorem one15send {w : World} {bb rb c : Nat} {v : Value} {A : Option Addr} {d L : Array Sn} {num : Int} (h : Pair w bb v d rb A c L num) (hnum : 0 ≤ num ∧ num < 900000000) (kind node id len d0 d1 d2 d3 d4 d5 d6 d7 : Int) (r : Bool) (times : Int) (hk : pk kind 6 = 0 ∨ pk kind 6 = 1) :
    Calls Try.prog 15 #[.pointer (some ⟨bb, 0, none⟩), .pointer (some ⟨rb, 0, none⟩), stagg kind node id len d0 d1 d2 d3 d4 d5 d6 d7 r times] w fun e w' => e = .returned (.bool true) ∧ Left w w' bb v rb num (pk times 600 + 1) d.size := by
  have HPK := Lib.hid (pick6 kind)
  have hpt := pick600 times
  have hpl := pk_lt (i := times) (n := 600) (by decide)
  obtain ⟨K, hK⟩ : ∃ K : Nat, pk times 600 = (K : Int) := ⟨(pk times 600).toNat, by omega⟩
  rw [hK] at hpt hpl ⊢
  have HPT := Lib.hid hpt
  clear hpt hK
  generalize pk kind 6 = p at *
  have q2 : (p == 2) = false := by rcases hk with rfl | rfl <;> decide
  have q3 : (p == 3) = false := by rcases hk with rfl | rfl <;> decide
  have q4 : (p == 4) = false := by rcases hk with rfl | rfl <;> decide
  have q5 : (p == 5) = false := by rcases hk with rfl | rfl <;> decide
  clear hk
  have hp1 : Pu w (w.alloc (.cells #[.int .i64 kind, .int .i64 node, .int .u16 id, .int .i64 len, .int .u8 d0, .int .u8 d1, .int .u8 d2, .int .u8 d3, .int .u8 d4, .int .u8 d5, .int .u8 d6, .int .u8 d7, .bool r, .int .i64 times] 45)) := (Pu.refl w).alloc _
  have H0 := Lib.hid (And.intro (show Pair (w.alloc (.cells #[.int .i64 kind, .int .i64 node, .int .u16 id, .int .i64 len, .int .u8 d0, .int .u8 d1, .int .u8 d2, .int .u8 d3, .int .u8 d4, .int .u8 d5, .int .u8 d6, .int .u8 d7, .bool r, .int .i64 times] 45)) bb v d rb A c L num from ⟨h.bus.keep (Fr.pu hp1) (fun h => h) (fun _ _ h => h), h.ref.keep (Fr.pu hp1) (fun h => h) (fun _ _ _ h => h), h.play⟩) (And.intro (Move.pu bb v rb hp1) (show Box45 _ _ kind node id len d0 d1 d2 d3 d4 d5 d6 d7 r times from heap_alloc_new w (.cells #[.int .i64 kind, .int .i64 node, .int .u16 id, .int .i64 len, .int .u8 d0, .int .u8 d1, .int .u8 d2, .int .u8 d3, .int .u8 d4, .int .u8 d5, .int .u8 d6, .int .u8 d7, .bool r, .int .i64 times] 45))))
  have HK := Lib.hid (And.intro h.play (show d.size = d.size from rfl))
  clear h hp1
  go_enter Try.func15, Try.ntmps15
  go_wp2_with (go_at_call 8; refine (HPK.out _).mono ?_; rintro e w1 ⟨rfl, rfl⟩)
  go_loopg [11] (K + 2) (fun gk s11 wr => ∃ (i : Nat) (v' : Value) (d' : Array Sn) (A' : Option Addr) (c' : Nat) (L' : Array Sn) (num' : Int), s11 = .int .i64 i ∧ i ≤ K + 1 ∧ K + 2 - i ≤ gk ∧ num ≤ num' ∧ num' ≤ num + i ∧ (d'.size : Int) + num ≤ d.size + num' ∧ Hid (Pair wr bb v' d' rb A' c' L' num' ∧ Move w wr bb v v' rb ∧ Box45 wr w.heap.size kind node id len d0 d1 d2 d3 d4 d5 d6 d7 r times))
  case atStart => exact ⟨0, v, d, A, c, L, num, by go_num, by omega, by omega, by omega, by omega, by omega, H0.out⟩
  case round =>
    obtain ⟨i, v1, e1, A1, c1, L1, num1, rfl, hi, hgi, hn1, hn2, hn3, HU⟩ := hrel
    have b13 := box_times HU.out.2.2
    by_cases hiK : i ≤ K
    · obtain ⟨code, hcode⟩ : ∃ code, code = sCode node (rtB id len d0 d1 d2 d3 d4 d5 d6 d7 r) e1.size := ⟨_, rfl⟩
      have hdr : Pu wr wr.drew := (Pu.refl wr).drew
      have hb1 := HU.out.1.bus.keep (Fr.pu hdr) (fun h => h) (fun _ _ h => h)
      have hr1 := HU.out.1.ref.keep (Fr.pu hdr) (fun h => h) (fun _ _ _ h => h)
      have hbx1 : Box45 wr.drew w.heap.size kind node id len d0 d1 d2 d3 d4 d5 d6 d7 r times := HU.out.2.2
      have HA := Lib.hid (send7any hb1 node id len d0 d1 d2 d3 d4 d5 d6 d7 r (by omega) code hcode)
      have HB := Lib.hid (send28any hr1 HU.out.1.play node id len d0 d1 d2 d3 d4 d5 d6 d7 r (by omega) code hcode)
      have hkA : ∀ wz wy : World, BusAt wz bb v1 e1 num1 → Box45 wz w.heap.size kind node id len d0 d1 d2 d3 d4 d5 d6 d7 r times → ∀ v2, Step wz wy bb v1 v2 → Box45 wy w.heap.size kind node id len d0 d1 d2 d3 d4 d5 d6 d7 r times := fun wz wy hz hx v2 st => st.f.heap hx (hz.apart hx (by decide))
      have hkB : ∀ wz wy : World, RefAt wz rb A1 c1 L1 num1 → Box45 wz w.heap.size kind node id len d0 d1 d2 d3 d4 d5 d6 d7 r times → Fr wz wy (fun i => i = rb) → Box45 wy w.heap.size kind node id len d0 d1 d2 d3 d4 d5 d6 d7 r times := fun wz wy hz hx f => f.heap hx (fun e => by have h3 := hz.b; rw [← e] at h3; unfold Box45 at hx; rw [hx] at h3; cases h3)
      have HSA := Lib.hid (show ∀ w2 v2 D n, BusAt w2 bb v2 D n → Step wr.drew w2 bb v1 v2 → Box45 w2 w.heap.size kind node id len d0 d1 d2 d3 d4 d5 d6 d7 r times ∧ (∀ w3, Fr w2 w3 (fun i => i = rb) → Box45 w3 w.heap.size kind node id len d0 d1 d2 d3 d4 d5 d6 d7 r times) ∧ _ from fun w2 v2 D n hb2 st2 => And.intro (hkA _ _ hb1 hbx1 v2 st2) (And.intro (fun w3 f3 => hkB _ _ (hr1.stepA hb1 st2) (hkA _ _ hb1 hbx1 v2 st2) f3) (send28any (hr1.stepA hb1 st2) HU.out.1.play node id len d0 d1 d2 d3 d4 d5 d6 d7 r (by omega) code hcode)))
      have HSB := Lib.hid (show ∀ w2, Fr wr.drew w2 (fun i => i = rb) → Box45 w2 w.heap.size kind node id len d0 d1 d2 d3 d4 d5 d6 d7 r times ∧ (∀ w3 v3, Step w2 w3 bb v1 v3 → Box45 w3 w.heap.size kind node id len d0 d1 d2 d3 d4 d5 d6 d7 r times) ∧ _ from fun w2 f2 => And.intro (hkB _ _ hr1 hbx1 f2) (And.intro (fun w3 v3 st3 => hkA _ _ (hb1.stepB hr1 f2) (hkB _ _ hr1 hbx1 f2) v3 st3) (send7any (hb1.stepB hr1 f2) node id len d0 d1 d2 d3 d4 d5 d6 d7 r (by omega) code hcode)))
      have HX := Lib.hid (And.intro hdr (And.intro hb1 (And.intro hr1 (sD_size code e1 ⟨node, id, len, d0, d1, d2, d3, d4, d5, d6, d7, r, num1⟩ num1))))
      have hcc : (code != code) = false := by simp
      have hsn := sN_le code num1
      have hs0 := box_cells hbx1
      clear hdr hb1 hr1 hbx1 hcode hkA hkB
      go_upto_region 14 with (go_at_call 8; refine (HPT.out _).mono ?_; rintro e w1 ⟨rfl, rfl⟩)
      go_region_held3 (fun w' => w'.cell? ⟨w.heap.size, 1, none⟩ = some (.int .i64 node) ∧ w'.cell? ⟨w.heap.size, 2, none⟩ = some (.int .u16 id) ∧ w'.cell? ⟨w.heap.size, 3, none⟩ = some (.int .i64 len) ∧ w'.cell? ⟨w.heap.size, 4, none⟩ = some (.int .u8 d0) ∧ w'.cell? ⟨w.heap.size, 5, none⟩ = some (.int .u8 d1) ∧ w'.cell? ⟨w.heap.size, 6, none⟩ = some (.int .u8 d2) ∧ w'.cell? ⟨w.heap.size, 7, none⟩ = some (.int .u8 d3) ∧ w'.cell? ⟨w.heap.size, 8, none⟩ = some (.int .u8 d4) ∧ w'.cell? ⟨w.heap.size, 9, none⟩ = some (.int .u8 d5) ∧ w'.cell? ⟨w.heap.size, 10, none⟩ = some (.int .u8 d6) ∧ w'.cell? ⟨w.heap.size, 11, none⟩ = some (.int .u8 d7) ∧ w'.cell? ⟨w.heap.size, 12, none⟩ = some (.bool r))
        (first | exact hs3 | exact hs2 | exact hs0)
        (first | (go_at_call 7; refine HA.out.mono ?_; rintro e w2 ⟨rfl, v2, hb2, st2⟩; obtain ⟨hx2, hk2, h28⟩ := HSA.out w2 v2 _ _ hb2 st2; have hs2 := box_cells hx2; have HK2 := Lib.hid (And.intro hx2 hk2); have HY := Lib.hid (And.intro hb2 st2); clear hb2 st2 hx2 hk2) | (go_at_call 28; refine h28.mono ?_; rintro e w3 ⟨rfl, hr3, f3⟩; have hs3 := box_cells (HK2.out.2 w3 f3); have HZ := Lib.hid (And.intro hr3 f3); clear hr3 f3) | (go_at_call 28; refine HB.out.mono ?_; rintro e w2 ⟨rfl, hr2, f2⟩; obtain ⟨hx2, hk2, h7⟩ := HSB.out w2 f2; have hs2 := box_cells hx2; have HK2 := Lib.hid (And.intro hx2 hk2); have HY := Lib.hid (And.intro hr2 f2); clear hr2 f2 hx2 hk2) | (go_at_call 7; refine h7.mono ?_; rintro e w3 ⟨rfl, v3, hb3, st3⟩; have hs3 := box_cells (HK2.out.2 w3 v3 st3); have HZ := Lib.hid (And.intro hb3 st3); clear hb3 st3))
      all_goals clear hs0 hs2 hs3
      all_goals go_wp2_with fail
      all_goals go_roundg (K + 2 - (i + 1))
      all_goals first
        | omega
        | (obtain ⟨hdr, hb1, hr1, hsz⟩ := HX.out
           obtain ⟨hb2, st2⟩ := HY.out
           obtain ⟨⟨A', c', L', hr3, hp3⟩, f3⟩ := HZ.out
           exact ⟨i + 1, v2, _, A', c', L', _, by go_num, by omega, by omega, by omega, by omega, by omega, ⟨hb2.stepB (hr1.stepA hb1 st2) f3, hr3, hp3⟩, ((HU.out.2.1.trans (Move.pu bb v1 rb hdr)).trans (Move.step rb st2)).trans (Move.ref bb v2 f3), HK2.out.2 _ f3⟩)
        | (obtain ⟨hdr, hb1, hr1, hsz⟩ := HX.out
           obtain ⟨⟨A', c', L', hr2, hp2⟩, f2⟩ := HY.out
           obtain ⟨hb3, st3⟩ := HZ.out
           exact ⟨i + 1, v3, _, A', c', L', _, by go_num, by omega, by omega, by omega, by omega, by omega, ⟨hb3, hr2.stepA (hb1.stepB hr1 f2) st3, hp2⟩, ((HU.out.2.1.trans (Move.pu bb v1 rb hdr)).trans (Move.ref bb v1 f2)).trans (Move.step rb st3), HK2.out.2 _ _ st3⟩)
    · have ei : i = K + 1 := by omega
      subst ei
      go_wp2_with (go_at_call 8; refine (HPT.out _).mono ?_; rintro e w1 ⟨rfl, rfl⟩)
      go_ret
      exact ⟨rfl, v1, e1, A1, c1, L1, num1, HU.out.1, HU.out.2.1, by omega, by omega, by omega⟩
end Go.Proofs.Ythmfibgjemnlbaa

/- Bus (layer 4): one call of both: Gone; a copy. -/
import Derived.Test.YthmfibgjemnlbaaB35
namespace Go.Proofs.Ythmfibgjemnlbaa
open Go.RowKit Go.Sort Go.Shelf Go.Lib
set_option linter.unusedVariables false
set_option maxHeartbeats 4000000 in
set_option maxRecDepth 100000 in
theorem one15copy {w : World} {bb rb c : Nat} {v : Value} {A : Option Addr} {d L : Array Sn} {num : Int} (h : Pair w bb v d rb A c L num) (kind node id len d0 d1 d2 d3 d4 d5 d6 d7 : Int) (r : Bool) (times : Int) (hk : pk kind 6 = 5) :
    Calls Try.prog 15 #[.pointer (some ⟨bb, 0, none⟩), .pointer (some ⟨rb, 0, none⟩), stagg kind node id len d0 d1 d2 d3 d4 d5 d6 d7 r times] w fun e w' => e = .returned (.bool true) ∧ Left w w' bb v rb num 0 d.size := by
  have HH := Lib.hid h
  have HPK := Lib.hid (pick6 kind)
  clear h
  generalize pk kind 6 = p at *
  subst hk
  have H1 := Lib.hid ((Pu.refl w).alloc (.cells #[.int .i64 kind, .int .i64 node, .int .u16 id, .int .i64 len, .int .u8 d0, .int .u8 d1, .int .u8 d2, .int .u8 d3, .int .u8 d4, .int .u8 d5, .int .u8 d6, .int .u8 d7, .bool r, .int .i64 times] 45))
  go_enter Try.func15, Try.ntmps15
  go_wp2_with (go_at_call 8; refine (HPK.out _).mono ?_; rintro e w1 ⟨rfl, rfl⟩)
  go_ret
  exact ⟨rfl, v, d, A, c, L, num, ⟨HH.out.bus.keep (Fr.pu H1.out) (fun h => h) (fun _ _ h => h), HH.out.ref.keep (Fr.pu H1.out) (fun h => h) (fun _ _ _ h => h), HH.out.play⟩, Move.pu _ _ _ H1.out, by omega, by omega, by omega⟩
set_option maxHeartbeats 4000000 in
set_option maxRecDepth 100000 in
theorem one15gone {w : World} {bb rb c : Nat} {v : Value} {A : Option Addr} {d L : Array Sn} {num : Int} (h : Pair w bb v d rb A c L num) (hd : d.size < 900000) (kind node id len d0 d1 d2 d3 d4 d5 d6 d7 : Int) (r : Bool) (times : Int) (hk : pk kind 6 = 4) :
    Calls Try.prog 15 #[.pointer (some ⟨bb, 0, none⟩), .pointer (some ⟨rb, 0, none⟩), stagg kind node id len d0 d1 d2 d3 d4 d5 d6 d7 r times] w fun e w' => e = .returned (.bool true) ∧ Left w w' bb v rb num 0 d.size := by
  have HPK := Lib.hid (pick6 kind)
  generalize pk kind 6 = p at *
  subst hk
  have hp1 : Pu w (w.alloc (.cells #[.int .i64 kind, .int .i64 node, .int .u16 id, .int .i64 len, .int .u8 d0, .int .u8 d1, .int .u8 d2, .int .u8 d3, .int .u8 d4, .int .u8 d5, .int .u8 d6, .int .u8 d7, .bool r, .int .i64 times] 45)).drew := ((Pu.refl w).alloc _).drew
  have hbx : (w.alloc (.cells #[.int .i64 kind, .int .i64 node, .int .u16 id, .int .i64 len, .int .u8 d0, .int .u8 d1, .int .u8 d2, .int .u8 d3, .int .u8 d4, .int .u8 d5, .int .u8 d6, .int .u8 d7, .bool r, .int .i64 times] 45)).drew.heap[w.heap.size]? = some (.cells #[.int .i64 kind, .int .i64 node, .int .u16 id, .int .i64 len, .int .u8 d0, .int .u8 d1, .int .u8 d2, .int .u8 d3, .int .u8 d4, .int .u8 d5, .int .u8 d6, .int .u8 d7, .bool r, .int .i64 times] 45) := heap_alloc_new w _
  have hb1 := h.bus.keep (Fr.pu hp1) (fun h => h) (fun _ _ h => h)
  have hr1 := h.ref.keep (Fr.pu hp1) (fun h => h) (fun _ _ _ h => h)
  obtain ⟨hgs, hgp⟩ := h.play.gone node
  -- a first
  have hA := gone17 hb1 hd node
  have hB := gone27 hr1 (by have := h.play.size; omega) node
  have hLd := h.play.size
  have sA : ∀ w2 v2 D, BusAt w2 bb v2 D num → Step (w.alloc (.cells #[.int .i64 kind, .int .i64 node, .int .u16 id, .int .i64 len, .int .u8 d0, .int .u8 d1, .int .u8 d2, .int .u8 d3, .int .u8 d4, .int .u8 d5, .int .u8 d6, .int .u8 d7, .bool r, .int .i64 times] 45)).drew w2 bb v v2 → w2.cell? ⟨w.heap.size, 1, none⟩ = some (.int .i64 node) ∧ Calls Try.prog 27 #[.pointer (some ⟨rb, 0, none⟩), .int .i64 node] w2 fun e w' => e = .returned (.int .i64 ((L.size : Int) - ((keepL node L L.size).size : Int))) ∧ (∃ A' c', RefAt w' rb A' c' (keepL node L L.size) num) ∧ Fr w2 w' (fun i => i = rb) := by
    intro w2 v2 D hb2 st2
    refine ⟨?_, gone27 (hr1.stepA hb1 st2) (by omega) node⟩
    have := st2.f.heap hbx (hb1.apart hbx (by decide))
    simp [World.cell?, this]
  have sB : ∀ w2, Fr (w.alloc (.cells #[.int .i64 kind, .int .i64 node, .int .u16 id, .int .i64 len, .int .u8 d0, .int .u8 d1, .int .u8 d2, .int .u8 d3, .int .u8 d4, .int .u8 d5, .int .u8 d6, .int .u8 d7, .bool r, .int .i64 times] 45)).drew w2 (fun i => i = rb) → w2.cell? ⟨w.heap.size, 1, none⟩ = some (.int .i64 node) ∧ Calls Try.prog 17 #[.pointer (some ⟨bb, 0, none⟩), .int .i64 node] w2 fun e w' => e = .returned (.int .i64 ((d.size : Int) - ((keepL node d d.size).size : Int))) ∧ ∃ v', BusAt w' bb v' (initL (keepL node d d.size).size ((keepL node d d.size).size / 2) (keepL node d d.size)) num ∧ Step w2 w' bb v v' := by
    intro w2 f2
    refine ⟨?_, gone17 (hb1.stepB hr1 f2) hd node⟩
    have := f2.heap hbx (fun e => by have h3 := hr1.b; rw [← e, hbx] at h3; cases h3)
    simp [World.cell?, this]
  have HX := Lib.hid (And.intro h (And.intro hp1 (And.intro hb1 (And.intro hr1 hgp))))
  have HA := Lib.hid hA
  have HB := Lib.hid hB
  have HSA := Lib.hid sA
  have HSB := Lib.hid sB
  have hcmp : (((d.size : Int) - ((keepL node d d.size).size : Int)) == ((L.size : Int) - ((keepL node L L.size).size : Int))) = true := by
    rw [beq_iff_eq]
    omega
  clear h hp1 hbx hb1 hr1 hgp hA hB sA sB hLd hgs
  generalize hka : (d.size : Int) - ((keepL node d d.size).size : Int) = ka at *
  generalize hkb : (L.size : Int) - ((keepL node L L.size).size : Int) = kb at *
  have he : ka = kb := by simpa using hcmp
  have HE := Lib.hid he
  clear he hka hkb
  go_enter Try.func15, Try.ntmps15
  go_upto_region 8 with (go_at_call 8; refine (HPK.out _).mono ?_; rintro e w1 ⟨rfl, rfl⟩)
  go_region_with (first | (go_at_call 17; refine HA.out.mono ?_; rintro e w2 ⟨rfl, v2, hb2, st2⟩; obtain ⟨hc2, h27⟩ := HSA.out w2 v2 _ hb2 st2; have HY := Lib.hid (And.intro hb2 st2); clear hb2 st2) | (go_at_call 27; refine h27.mono ?_; rintro e w3 ⟨rfl, hr3, f3⟩; have HZ := Lib.hid (And.intro hr3 f3); clear hr3 f3) | (go_at_call 27; refine HB.out.mono ?_; rintro e w2 ⟨rfl, hr2, f2⟩; obtain ⟨hc2, h17⟩ := HSB.out w2 f2; have HY := Lib.hid (And.intro hr2 f2); clear hr2 f2) | (go_at_call 17; refine h17.mono ?_; rintro e w3 ⟨rfl, v3, hb3, st3⟩; have HZ := Lib.hid (And.intro hb3 st3); clear hb3 st3))
  all_goals go_wp2_with fail
  all_goals go_ret
  all_goals
    obtain ⟨hP, hp1, hb1, hr1, hgp⟩ := HX.out
    first
    | (obtain ⟨hb2, st2⟩ := HY.out
       obtain ⟨⟨A', c', hr3⟩, f3⟩ := HZ.out
       exact ⟨rfl, v2, _, A', c', _, num, ⟨hb2.stepB (hr1.stepA hb1 st2) f3, hr3, hgp⟩, ((Move.pu bb v rb hp1).trans (Move.step rb st2)).trans (Move.ref bb v2 f3), by omega, by omega, by have h1 := hgp.size; have h2 := size_keepL node L L.size; have h3 := hP.play.size; omega⟩)
    | (obtain ⟨⟨A', c', hr2⟩, f2⟩ := HY.out
       obtain ⟨hb3, st3⟩ := HZ.out
       exact ⟨rfl, v3, _, A', c', _, num, ⟨hb3, hr2.stepA (hb1.stepB hr1 f2) st3, hgp⟩, ((Move.pu bb v rb hp1).trans (Move.ref bb v f2)).trans (Move.step rb st3), by omega, by omega, by have h1 := hgp.size; have h2 := size_keepL node L L.size; have h3 := hP.play.size; omega⟩)
end Go.Proofs.Ythmfibgjemnlbaa

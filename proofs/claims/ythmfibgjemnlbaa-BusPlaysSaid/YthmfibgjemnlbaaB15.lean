/- Bus (layer 4): Send that is refused; Next. -/
import Derived.Test.YthmfibgjemnlbaaB11
import Derived.Test.YthmfibgjemnlbaaB08
import Derived.Deep.RegionWith
namespace Go.Proofs.Ythmfibgjemnlbaa
open Go.RowKit Go.Sort Go.Shelf
set_option linter.unusedVariables false

set_option maxHeartbeats 1000000 in
set_option maxRecDepth 100000 in
theorem send7neg (p : Addr) (node id len d0 d1 d2 d3 d4 d5 d6 d7 : Int) (r : Bool) (w : World) (h0 : node < 0) :
    Calls Try.prog 7 #[.pointer (some p), .int .i64 node, fagg id len d0 d1 d2 d3 d4 d5 d6 d7 r] w fun e w' => e = .returned (.int .i64 2) ∧ Pu w w' := by
  go_enter Try.func7, Try.ntmps7
  go_wp2_with fail
  go_ret
  exact ⟨rfl, (Pu.refl w).alloc _⟩
set_option maxHeartbeats 1000000 in
set_option maxRecDepth 100000 in
theorem send7nil (node id len d0 d1 d2 d3 d4 d5 d6 d7 : Int) (r : Bool) (w : World) :
    Calls Try.prog 7 #[.pointer none, .int .i64 node, fagg id len d0 d1 d2 d3 d4 d5 d6 d7 r] w fun e w' => e = .returned (.int .i64 1) ∧ Pu w w' := by
  go_enter Try.func7, Try.ntmps7
  go_wp2_with fail
  go_ret
  exact ⟨rfl, (Pu.refl w).alloc _⟩
set_option maxHeartbeats 1000000 in
set_option maxRecDepth 100000 in
theorem send7bad (p : Addr) (node id len d0 d1 d2 d3 d4 d5 d6 d7 : Int) (r : Bool) (w : World) (h0 : 0 ≤ node) (hr : rtB id len d0 d1 d2 d3 d4 d5 d6 d7 r = false) :
    Calls Try.prog 7 #[.pointer (some p), .int .i64 node, fagg id len d0 d1 d2 d3 d4 d5 d6 d7 r] w fun e w' => e = .returned (.int .i64 30) ∧ Pu w w' := by
  have cR := right18 id len d0 d1 d2 d3 d4 d5 d6 d7 r
  rw [hr] at cR
  have HR := Lib.hid cR
  clear cR hr
  go_enter Try.func7, Try.ntmps7
  go_wp2_with fail
  refine (HR.out _).mono ?_
  rintro e w1 ⟨rfl, hp⟩
  go_wp2_with fail
  go_ret
  exact ⟨rfl, ((Pu.refl w).alloc _).trans hp⟩
set_option maxHeartbeats 1000000 in
set_option maxRecDepth 100000 in
theorem send7full {w : World} {bb : Nat} {v : Value} {d : Array Sn} {num : Int} (h : BusAt w bb v d num) (node id len d0 d1 d2 d3 d4 d5 d6 d7 : Int) (r : Bool) (h0 : 0 ≤ node) (hr : rtB id len d0 d1 d2 d3 d4 d5 d6 d7 r = true) (hd : 512 ≤ d.size) :
    Calls Try.prog 7 #[.pointer (some ⟨bb, 0, none⟩), .int .i64 node, fagg id len d0 d1 d2 d3 d4 d5 d6 d7 r] w fun e w' => e = .returned (.int .i64 40) ∧ Pu w w' := by
  have H := Lib.hid h
  have cR := right18 id len d0 d1 d2 d3 d4 d5 d6 d7 r
  rw [hr] at cR
  have HR := Lib.hid cR
  clear cR hr h
  have hd' : 512 ≤ (d.size : Int) := by omega
  go_enter Try.func7, Try.ntmps7
  go_wp2_with fail
  refine (HR.out _).mono ?_
  rintro e w1 ⟨rfl, hp⟩
  have HL := Lib.hid (len19 (H.out.keep (Fr.pu (((Pu.refl w).alloc _).trans hp)) (fun h => h) (fun _ _ h => h)))
  have HP := Lib.hid hp
  clear hp
  go_wp2_with fail
  refine HL.out.mono ?_
  rintro e w1x ⟨rfl, rfl⟩
  go_wp2_with fail
  go_ret
  exact ⟨rfl, ((Pu.refl w).alloc _).trans HP.out⟩

set_option maxHeartbeats 1000000 in
set_option maxRecDepth 100000 in
theorem next9nil (w : World) : Calls Try.prog 9 #[.pointer none] w fun e w' => e = .returned (.tuple #[zS, .bool false]) ∧ Pu w w' := by
  go_enter Try.func9, Try.ntmps9
  go_wp2_with fail
  refine bodyPost_ret (v := .tuple #[zS, .bool false]) (by simp [results, Try.results9, go_sem, zS]) rfl ⟨rfl, (Pu.refl w).alloc _⟩
set_option maxHeartbeats 1000000 in
set_option maxRecDepth 100000 in
theorem next9none {w : World} {bb : Nat} {v : Value} {d : Array Sn} {num : Int} (h : BusAt w bb v d num) (hd : d.size = 0) : Calls Try.prog 9 #[.pointer (some ⟨bb, 0, none⟩)] w fun e w' => e = .returned (.tuple #[zS, .bool false]) ∧ Pu w w' := by
  have H := Lib.hid h
  have HL := fun o => Lib.hid (len19 (h.keep (Fr.pu ((Pu.refl w).alloc o)) (fun h => h) (fun _ _ h => h)))
  rw [hd] at HL
  clear h hd
  go_enter Try.func9, Try.ntmps9
  go_wp2_with fail
  refine (HL _).out.mono ?_
  rintro e w1x ⟨rfl, rfl⟩
  go_wp2_with fail
  refine bodyPost_ret (v := .tuple #[zS, .bool false]) (by simp [results, Try.results9, go_sem, zS]) rfl ⟨rfl, (Pu.refl w).alloc _⟩
set_option maxHeartbeats 1000000 in
set_option maxRecDepth 100000 in
theorem next9 {w : World} {bb : Nat} {v : Value} {d : Array Sn} {num : Int} (h : BusAt w bb v d num) (m : Nat) (hd : d.size = m + 1) (hn : d.size < 900000) :
    Calls Try.prog 9 #[.pointer (some ⟨bb, 0, none⟩)] w fun e w' => e = .returned (.tuple #[.agg d[0]!.cs.toArray, .bool true]) ∧ ∃ v', BusAt w' bb v' (dnL m (swp d 0 m) 0).pop num ∧ Step w w' bb v v' := by
  have hk := fun o => h.keep (Fr.pu ((Pu.refl w).alloc o)) (fun h => h) (fun _ _ h => h)
  have HL := fun o => Lib.hid (len19 (hk o))
  have HP := fun o => Lib.hid (hpop21 (hk o) m hd hn)
  rw [hd] at HL
  have hr : (((m + 1 : Nat) : Int) == 0) = false := by simp; omega
  have hbb := lt_of_block h.b
  have HH := Lib.hid h
  clear h hd hn hk
  have hta := taS
  unfold Sn.cs at HP ⊢
  generalize d[0]! = s at *
  go_enter Try.func9, Try.ntmps9
  go_wp2_with fail
  refine (HL _).out.mono ?_
  rintro e w1x ⟨rfl, rfl⟩
  go_wp2_with fail
  refine (HP _).out.mono ?_
  rintro e w2 ⟨rfl, v', hb2, hs2⟩
  have hfr : w2.heap[w.heap.size]? = some (.cells #[.int .i64 0, .int .u16 0, .int .i64 0, .int .u8 0, .int .u8 0, .int .u8 0, .int .u8 0, .int .u8 0, .int .u8 0, .int .u8 0, .int .u8 0, .bool false, .int .i64 0] 35 (0, 0)) := by
    refine hs2.f.heap (heap_alloc_new w _) ?_
    rintro (e | e)
    · omega
    · have := HH.out.rlt e; omega
  have HX := Lib.hid (And.intro hb2 (And.intro hs2 hfr))
  have cc0 : w2.cell? ⟨w.heap.size, 0, none⟩ = some (.int .i64 0) := by simp [World.cell?, hfr]
  have cc1 : w2.cell? ⟨w.heap.size, 1, none⟩ = some (.int .u16 0) := by simp [World.cell?, hfr]
  have cc2 : w2.cell? ⟨w.heap.size, 2, none⟩ = some (.int .i64 0) := by simp [World.cell?, hfr]
  have cc3 : w2.cell? ⟨w.heap.size, 3, none⟩ = some (.int .u8 0) := by simp [World.cell?, hfr]
  have cc4 : w2.cell? ⟨w.heap.size, 4, none⟩ = some (.int .u8 0) := by simp [World.cell?, hfr]
  have cc5 : w2.cell? ⟨w.heap.size, 5, none⟩ = some (.int .u8 0) := by simp [World.cell?, hfr]
  have cc6 : w2.cell? ⟨w.heap.size, 6, none⟩ = some (.int .u8 0) := by simp [World.cell?, hfr]
  have cc7 : w2.cell? ⟨w.heap.size, 7, none⟩ = some (.int .u8 0) := by simp [World.cell?, hfr]
  have cc8 : w2.cell? ⟨w.heap.size, 8, none⟩ = some (.int .u8 0) := by simp [World.cell?, hfr]
  have cc9 : w2.cell? ⟨w.heap.size, 9, none⟩ = some (.int .u8 0) := by simp [World.cell?, hfr]
  have cc10 : w2.cell? ⟨w.heap.size, 10, none⟩ = some (.int .u8 0) := by simp [World.cell?, hfr]
  have cc11 : w2.cell? ⟨w.heap.size, 11, none⟩ = some (.bool false) := by simp [World.cell?, hfr]
  have cc12 : w2.cell? ⟨w.heap.size, 12, none⟩ = some (.int .i64 0) := by simp [World.cell?, hfr]
  have ff : ∀ k, w2.frozen? ⟨w.heap.size, k, none⟩ = false := by
    intro k
    simp [World.frozen?, hfr]
  clear hb2 hs2 hfr
  go_wp2_with fail
  refine bodyPost_ret (v := .tuple #[.agg #[.int .i64 s.node, .int .u16 s.id, .int .i64 s.len, .int .u8 s.d0, .int .u8 s.d1, .int .u8 s.d2, .int .u8 s.d3, .int .u8 s.d4, .int .u8 s.d5, .int .u8 s.d6, .int .u8 s.d7, .bool s.r, .int .i64 s.num], .bool true]) (by simp [results, Try.results9, go_sem, cc0, cc1, cc2, cc3, cc4, cc5, cc6, cc7, cc8, cc9, cc10, cc11, cc12]) rfl ⟨rfl, v', ?_⟩
  have hlt : bb < w.heap.size := hbb
  have hnb : ∀ g, v'.ownBlock = some g → g ≠ w.heap.size := by
    intro g hg e
    rcases HX.out.2.1.r with e1 | e1
    · have := HH.out.rlt (e1 ▸ hg); omega
    · have := e1 g hg; simp at this; omega
  have fr : ∀ (u : World), Fr w2 u (fun i => i = w.heap.size) → BusAt u bb v' (dnL m (swp d 0 m) 0).pop num ∧ Step w u bb v v' := by
    intro u hu
    refine ⟨HX.out.1.keep hu (by omega) hnb, ?_⟩
    have f1 : Fr w w2 (fun i => i = bb ∨ v.ownBlock = some i) := ((Fr.refl w _).alloc _).trans HX.out.2.1.f (fun i hi h => h)
    refine ⟨f1.trans hu (fun i hi e => by omega), ?_⟩
    rcases HX.out.2.1.r with e1 | e1
    · exact .inl e1
    · exact .inr fun k hk => by have := e1 k hk; simp at this; omega
  refine fr _ ?_
  repeat (refine Fr.setCell ?_ _ _ (fun _ => rfl))
  exact Fr.refl _ _
end Go.Proofs.Ythmfibgjemnlbaa

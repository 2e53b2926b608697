/- Bus (layer 4): one call of both. -/
import Derived.Test.YthmfibgjemnlbaaB34
import Derived.Test.YthmfibgjemnlbaaB31
import Derived.Test.YthmfibgjemnlbaaB33
import Derived.Test.YthmfibgjemnlbaaB23
import Derived.Deep.RegionWith
namespace Go.Proofs.Ythmfibgjemnlbaa
open Go.RowKit Go.Sort Go.Shelf Go.Lib
set_option linter.unusedVariables false
/-- Pick. -/
def pk (i n : Int) : Int := (i.tmod n + n) % n
theorem pk_lt {i n : Int} (hn : 0 < n) : 0 ≤ pk i n ∧ pk i n < n := ⟨Int.emod_nonneg _ (by omega), Int.emod_lt_of_pos _ hn⟩
set_option maxHeartbeats 400000 in
theorem pick6 (i : Int) (w : World) : Calls Try.prog 8 #[.int .i64 i, .int .i64 6] w fun e w' => e = .returned (.int .i64 (pk i 6)) ∧ w' = w := by
  have h1 : -6 < i.tmod 6 ∧ i.tmod 6 < 6 := by
    have h0 := Int.tmod_lt_of_pos i (b := 6) (by decide)
    have h2 := Int.tmod_lt_of_pos (-i) (b := 6) (by decide)
    rw [Int.neg_tmod] at h2
    omega
  unfold pk
  go_enter Try.func8, Try.ntmps8
  go_wp2_with fail
  go_ret
  exact ⟨rfl, rfl⟩
set_option maxHeartbeats 400000 in
theorem pick600 (i : Int) (w : World) : Calls Try.prog 8 #[.int .i64 i, .int .i64 600] w fun e w' => e = .returned (.int .i64 (pk i 600)) ∧ w' = w := by
  have h1 : -600 < i.tmod 600 ∧ i.tmod 600 < 600 := by
    have h0 := Int.tmod_lt_of_pos i (b := 600) (by decide)
    have h2 := Int.tmod_lt_of_pos (-i) (b := 600) (by decide)
    rw [Int.neg_tmod] at h2
    omega
  unfold pk
  go_enter Try.func8, Try.ntmps8
  go_wp2_with fail
  go_ret
  exact ⟨rfl, rfl⟩
abbrev stagg (kind node id len d0 d1 d2 d3 d4 d5 d6 d7 : Int) (r : Bool) (times : Int) : Value := .agg #[.int .i64 kind, .int .i64 node, .int .u16 id, .int .i64 len, .int .u8 d0, .int .u8 d1, .int .u8 d2, .int .u8 d3, .int .u8 d4, .int .u8 d5, .int .u8 d6, .int .u8 d7, .bool r, .int .i64 times]
/-- What a call of both leaves. -/
def Left (w w' : World) (bb : Nat) (v : Value) (rb : Nat) (num k : Int) (n : Nat) : Prop :=
  ∃ v' d' A' c' L' num', Pair w' bb v' d' rb A' c' L' num' ∧ Move w w' bb v v' rb ∧ num ≤ num' ∧ num' ≤ num + k ∧ (d'.size : Int) + num ≤ n + num'
set_option maxHeartbeats 4000000 in
set_option maxRecDepth 100000 in
theorem one15next {w : World} {bb rb c : Nat} {v : Value} {A : Option Addr} {d L : Array Sn} {num : Int} (h : Pair w bb v d rb A c L num) (hd : d.size < 900000) (kind node id len d0 d1 d2 d3 d4 d5 d6 d7 : Int) (r : Bool) (times : Int) (hk : pk kind 6 = 2 ∨ pk kind 6 = 3) :
    Calls Try.prog 15 #[.pointer (some ⟨bb, 0, none⟩), .pointer (some ⟨rb, 0, none⟩), stagg kind node id len d0 d1 d2 d3 d4 d5 d6 d7 r times] w fun e w' => e = .returned (.bool true) ∧ Left w w' bb v rb num 0 d.size := by
  have HH := Lib.hid h
  have HPK := Lib.hid (pick6 kind)
  have hLd := h.play.size
  clear h
  have e30 := eq30 9997
  generalize pk kind 6 = p at *
  by_cases h0 : d.size = 0
  · have HL := Lib.hid (show L.size = 0 by omega)
    clear hLd
    rcases hk with rfl | rfl
    all_goals
      go_enter Try.func15, Try.ntmps15
      go_wp2_with (go_at_call 8; refine (HPK.out _).mono ?_; rintro e w1 ⟨rfl, rfl⟩)
      have H1 := Lib.hid ((Pu.refl w).alloc (.cells #[.int .i64 kind, .int .i64 node, .int .u16 id, .int .i64 len, .int .u8 d0, .int .u8 d1, .int .u8 d2, .int .u8 d3, .int .u8 d4, .int .u8 d5, .int .u8 d6, .int .u8 d7, .bool r, .int .i64 times] 45))
      refine (next9none (HH.out.bus.keep (Fr.pu H1.out) (fun h => h) (fun _ _ h => h)) h0).mono ?_
      rintro e w1 ⟨rfl, hp1⟩
      have H2 := Lib.hid ((H1.out.trans hp1).alloc (.cells #[.int .i64 0, .int .u16 0, .int .i64 0, .int .u8 0, .int .u8 0, .int .u8 0, .int .u8 0, .int .u8 0, .int .u8 0, .int .u8 0, .int .u8 0, .bool false, .int .i64 0] 35))
      clear hp1
      unfold zS
      go_wp2_with fail
      refine (next26none (HH.out.ref.keep (Fr.pu H2.out) (fun h => h) (fun _ _ _ h => h)) HL.out).mono ?_
      rintro e w2 ⟨rfl, hp2⟩
      have H3 := Lib.hid ((H2.out.trans hp2).alloc (.cells #[.int .i64 0, .int .u16 0, .int .i64 0, .int .u8 0, .int .u8 0, .int .u8 0, .int .u8 0, .int .u8 0, .int .u8 0, .int .u8 0, .int .u8 0, .bool false, .int .i64 0] 71))
      have hx := (hp2.below.block w1.heap.size (by simp)).trans (heap_alloc_new w1 (.cells #[.int .i64 0, .int .u16 0, .int .i64 0, .int .u8 0, .int .u8 0, .int .u8 0, .int .u8 0, .int .u8 0, .int .u8 0, .int .u8 0, .int .u8 0, .bool false, .int .i64 0] 35))
      have hxl := lt_of_block hx
      have b0 : w2.cell? ⟨w1.heap.size, 0, none⟩ = some (.int .i64 0) := by simp [World.cell?, hx]
      have b1 : w2.cell? ⟨w1.heap.size, 1, none⟩ = some (.int .u16 0) := by simp [World.cell?, hx]
      have b2 : w2.cell? ⟨w1.heap.size, 2, none⟩ = some (.int .i64 0) := by simp [World.cell?, hx]
      have b3 : w2.cell? ⟨w1.heap.size, 3, none⟩ = some (.int .u8 0) := by simp [World.cell?, hx]
      have b4 : w2.cell? ⟨w1.heap.size, 4, none⟩ = some (.int .u8 0) := by simp [World.cell?, hx]
      have b5 : w2.cell? ⟨w1.heap.size, 5, none⟩ = some (.int .u8 0) := by simp [World.cell?, hx]
      have b6 : w2.cell? ⟨w1.heap.size, 6, none⟩ = some (.int .u8 0) := by simp [World.cell?, hx]
      have b7 : w2.cell? ⟨w1.heap.size, 7, none⟩ = some (.int .u8 0) := by simp [World.cell?, hx]
      have b8 : w2.cell? ⟨w1.heap.size, 8, none⟩ = some (.int .u8 0) := by simp [World.cell?, hx]
      have b9 : w2.cell? ⟨w1.heap.size, 9, none⟩ = some (.int .u8 0) := by simp [World.cell?, hx]
      have b10 : w2.cell? ⟨w1.heap.size, 10, none⟩ = some (.int .u8 0) := by simp [World.cell?, hx]
      have b11 : w2.cell? ⟨w1.heap.size, 11, none⟩ = some (.bool false) := by simp [World.cell?, hx]
      have b12 : w2.cell? ⟨w1.heap.size, 12, none⟩ = some (.int .i64 0) := by simp [World.cell?, hx]
      clear hp2 hx
      unfold zS
      go_wp2_with fail
      go_ret
      exact ⟨rfl, v, d, A, c, L, num, ⟨HH.out.bus.keep (Fr.pu H3.out) (fun h => h) (fun _ _ h => h), HH.out.ref.keep (Fr.pu H3.out) (fun h => h) (fun _ _ _ h => h), HH.out.play⟩, Move.pu _ _ _ H3.out, by omega, by omega, by omega⟩
  · obtain ⟨m, hm⟩ : ∃ m, d.size = m + 1 := ⟨d.size - 1, by omega⟩
    have HF := Lib.hid (And.intro (HH.out.play.first h0) (HH.out.play.next hm))
    have HL := Lib.hid (And.intro (show L.size ≠ 0 by omega) hm)
    clear hLd h0 hm
    obtain ⟨S, hS⟩ : ∃ S, S = d[0]! := ⟨_, rfl⟩
    have HS := Lib.hid (And.intro hS (show S = L[0]! from hS.trans HF.out.1))
    clear hS
    cases S with | mk s0 s1 s2 s3 s4 s5 s6 s7 s8 s9 s10 s11 s12 => ?_
    rcases hk with rfl | rfl
    all_goals
      go_enter Try.func15, Try.ntmps15
      go_wp2_with (go_at_call 8; refine (HPK.out _).mono ?_; rintro e w1 ⟨rfl, rfl⟩)
      have H1 := Lib.hid ((Pu.refl w).alloc (.cells #[.int .i64 kind, .int .i64 node, .int .u16 id, .int .i64 len, .int .u8 d0, .int .u8 d1, .int .u8 d2, .int .u8 d3, .int .u8 d4, .int .u8 d5, .int .u8 d6, .int .u8 d7, .bool r, .int .i64 times] 45))
      refine (next9e (HH.out.bus.keep (Fr.pu H1.out) (fun h => h) (fun _ _ h => h)) m HL.out.2 (by omega) _ _ _ _ _ _ _ _ _ _ _ _ _ HS.out.1.symm).mono ?_
      rintro e w1 ⟨rfl, v', hb, st⟩
      have hp2 : Pu w1 (w1.alloc (.cells #[.int .i64 s0, .int .u16 s1, .int .i64 s2, .int .u8 s3, .int .u8 s4, .int .u8 s5, .int .u8 s6, .int .u8 s7, .int .u8 s8, .int .u8 s9, .int .u8 s10, .bool s11, .int .i64 s12] 35)) := (Pu.refl w1).alloc _
      have hr1 := (HH.out.ref.keep (Fr.pu H1.out) (fun h => h) (fun _ _ _ h => h)).stepA (HH.out.bus.keep (Fr.pu H1.out) (fun h => h) (fun _ _ h => h)) st
      have M1 := ((Move.pu bb v rb H1.out).trans (Move.step rb st)).trans (Move.pu bb v' rb hp2)
      have hr2 := hr1.keep (Fr.pu hp2) (fun h => h) (fun _ _ _ h => h)
      have hb2 := hb.keep (Fr.pu hp2) (fun h => h) (fun _ _ h => h)
      have H2 := Lib.hid (And.intro hb2 (And.intro hr2 M1))
      have hbx := heap_alloc_new w1 (.cells #[.int .i64 s0, .int .u16 s1, .int .i64 s2, .int .u8 s3, .int .u8 s4, .int .u8 s5, .int .u8 s6, .int .u8 s7, .int .u8 s8, .int .u8 s9, .int .u8 s10, .bool s11, .int .i64 s12] 35)
      clear hb st hr1 M1 hr2 hb2 hp2
      go_upto_region 5 with fail
      generalize hw2 : w1.alloc (.cells #[.int .i64 s0, .int .u16 s1, .int .i64 s2, .int .u8 s3, .int .u8 s4, .int .u8 s5, .int .u8 s6, .int .u8 s7, .int .u8 s8, .int .u8 s9, .int .u8 s10, .bool s11, .int .i64 s12] 35) = w2 at *
      have hl2 : w1.heap.size < w2.heap.size := lt_of_block hbx
      have HB2 := Lib.hid hbx
      clear hw2 hbx
      have h26 := next26 H2.out.2.1 HL.out.1
      rw [← HS.out.2] at h26
      simp only [Sn.cs] at h26
      have H26 := Lib.hid h26
      clear h26
      go_wp2_with (go_at_call 26; refine H26.out.mono ?_; rintro e w3 ⟨rfl, ⟨A', c', hr3⟩, f3⟩; have hb3 := H2.out.1.stepB H2.out.2.1 f3; have hx3 := f3.heap HB2.out (fun e => by have := H2.out.2.1.b; rw [← e, HB2.out] at this; cases this); have H3 := Lib.hid (And.intro hr3 (And.intro hb3 (And.intro f3 hx3))); have hxl3 := lt_of_block hx3; have b0 : w3.cell? ⟨w1.heap.size, 0, none⟩ = some (.int .i64 s0) := (by simp [World.cell?, hx3]); have b1 : w3.cell? ⟨w1.heap.size, 1, none⟩ = some (.int .u16 s1) := (by simp [World.cell?, hx3]); have b2 : w3.cell? ⟨w1.heap.size, 2, none⟩ = some (.int .i64 s2) := (by simp [World.cell?, hx3]); have b3 : w3.cell? ⟨w1.heap.size, 3, none⟩ = some (.int .u8 s3) := (by simp [World.cell?, hx3]); have b4 : w3.cell? ⟨w1.heap.size, 4, none⟩ = some (.int .u8 s4) := (by simp [World.cell?, hx3]); have b5 : w3.cell? ⟨w1.heap.size, 5, none⟩ = some (.int .u8 s5) := (by simp [World.cell?, hx3]); have b6 : w3.cell? ⟨w1.heap.size, 6, none⟩ = some (.int .u8 s6) := (by simp [World.cell?, hx3]); have b7 : w3.cell? ⟨w1.heap.size, 7, none⟩ = some (.int .u8 s7) := (by simp [World.cell?, hx3]); have b8 : w3.cell? ⟨w1.heap.size, 8, none⟩ = some (.int .u8 s8) := (by simp [World.cell?, hx3]); have b9 : w3.cell? ⟨w1.heap.size, 9, none⟩ = some (.int .u8 s9) := (by simp [World.cell?, hx3]); have b10 : w3.cell? ⟨w1.heap.size, 10, none⟩ = some (.int .u8 s10) := (by simp [World.cell?, hx3]); have b11 : w3.cell? ⟨w1.heap.size, 11, none⟩ = some (.bool s11) := (by simp [World.cell?, hx3]); have b12 : w3.cell? ⟨w1.heap.size, 12, none⟩ = some (.int .i64 s12) := (by simp [World.cell?, hx3]); clear hr3 hb3 f3 hx3)
      go_ret
      have hp3 : Pu w3 (w3.alloc (.cells #[.int .i64 s0, .int .u16 s1, .int .i64 s2, .int .u8 s3, .int .u8 s4, .int .u8 s5, .int .u8 s6, .int .u8 s7, .int .u8 s8, .int .u8 s9, .int .u8 s10, .bool s11, .int .i64 s12] 71)) := (Pu.refl _).alloc _
      exact ⟨rfl, v', _, A', c', _, num, ⟨H3.out.2.1.keep (Fr.pu hp3) (fun h => h) (fun _ _ h => h), H3.out.1.keep (Fr.pu hp3) (fun h => h) (fun _ _ _ h => h), HF.out.2⟩, (H2.out.2.2.trans (Move.ref bb v' H3.out.2.2.1)).trans (Move.pu bb v' rb hp3), by omega, by omega, by have h1 := HF.out.2.size; rw [size_tl] at h1; have h2 := HH.out.play.size; have h3 := HL.out.2; omega⟩
end Go.Proofs.Ythmfibgjemnlbaa

/- Bus (layer 4): the reference's Next. -/
import Derived.Test.YthmfibgjemnlbaaB22
namespace Go.Proofs.Ythmfibgjemnlbaa
open Go.RowKit Go.Sort Go.Shelf Go.Lib
set_option linter.unusedVariables false
/-- All but the first. -/
def tl (L : Array Sn) : Array Sn := L.extract 1
theorem size_tl (L : Array Sn) : (tl L).size = L.size - 1 := by simp [tl]
theorem tl_get {L : Array Sn} {i : Nat} (hi : i + 1 < L.size) : (tl L)[i]! = L[i + 1]! := by
  unfold tl
  rw [getElem!_pos (L.extract 1) i (by simp; omega), getElem!_pos L (i + 1) hi]
  simp [Nat.add_comm]
set_option maxHeartbeats 1000000 in
set_option maxRecDepth 100000 in
theorem next26none {w : World} {rb : Nat} {A : Option Addr} {c : Nat} {L : Array Sn} {num : Int} (h : RefAt w rb A c L num) (hd : L.size = 0) : Calls Try.prog 26 #[.pointer (some ⟨rb, 0, none⟩)] w fun e w' => e = .returned (.tuple #[zS, .bool false]) ∧ Pu w w' := by
  have hlt := h.lt
  have c0 : ∀ o, (w.alloc o).cell? ⟨rb, 0, none⟩ = some (.slice A 0 c) := by
    intro o
    have hb := h.b
    rw [hd] at hb
    have : (w.alloc o).heap[rb]? = _ := (Below.heap_alloc w o rb hlt).trans hb
    simp [World.cell?, this]
  clear h
  go_enter Try.func26, Try.ntmps26
  go_wp2_with fail
  refine bodyPost_ret (v := .tuple #[zS, .bool false]) (by simp [results, Try.results26, go_sem, zS]) rfl ⟨rfl, (Pu.refl w).alloc _⟩
set_option maxHeartbeats 1000000 in
set_option maxRecDepth 100000 in
theorem next26 {w : World} {rb : Nat} {A : Option Addr} {c : Nat} {L : Array Sn} {num : Int} (h : RefAt w rb A c L num) (hd : L.size ≠ 0) : Calls Try.prog 26 #[.pointer (some ⟨rb, 0, none⟩)] w fun e w' => e = .returned (.tuple #[.agg L[0]!.cs.toArray, .bool true]) ∧
    (∃ A' c', RefAt w' rb A' c' (tl L) num) ∧ Fr w w' (fun i => i = rb) := by
  obtain ⟨g, off, rfl, hc⟩ := h.cell (i := 0) (by omega)
  obtain ⟨S, hS⟩ : ∃ S, S = L[0]! := ⟨_, rfl⟩
  rw [← hS] at hc ⊢
  have hlt := h.lt
  have hcap := h.cap
  unfold maxLen at hcap
  have hb := h.b
  obtain ⟨n, hn⟩ : ∃ n, L.size = n + 1 := ⟨L.size - 1, by omega⟩
  rw [hn] at hb hcap
  have c0 : w.cell? ⟨rb, 0, none⟩ = some (.slice (some ⟨g, off, none⟩) (n + 1) c) := by simp [World.cell?, hb]
  have f0 : w.frozen? ⟨rb, 0, none⟩ = false := by simp [World.frozen?, hb]
  have H := Lib.hid h
  clear h hb
  cases S with | mk s0 s1 s2 s3 s4 s5 s6 s7 s8 s9 s10 s11 s12 => ?_
  unfold Sn.cs
  simp only
  have a0 := hc 0 _ rfl
  have a1 := hc 1 _ rfl
  have a2 := hc 2 _ rfl
  have a3 := hc 3 _ rfl
  have a4 := hc 4 _ rfl
  have a5 := hc 5 _ rfl
  have a6 := hc 6 _ rfl
  have a7 := hc 7 _ rfl
  have a8 := hc 8 _ rfl
  have a9 := hc 9 _ rfl
  have a10 := hc 10 _ rfl
  have a11 := hc 11 _ rfl
  have a12 := hc 12 _ rfl
  simp only [Nat.zero_mul, Nat.add_zero] at a0 a1 a2 a3 a4 a5 a6 a7 a8 a9 a10 a11 a12
  have hg : g < w.heap.size := by
    rcases H.out.row with ⟨e, _⟩ | ⟨g', off', cur, e, hh, _⟩
    · cases e
    · cases e; exact lt_of_block hh
  have hr : (((n + 1 : Nat) : Int) == 0) = false := by simp; omega
  clear hc hS
  go_enter Try.func26, Try.ntmps26
  go_wp2_with fail
  · refine bodyPost_ret (v := .tuple #[.agg #[.int .i64 s0, .int .u16 s1, .int .i64 s2, .int .u8 s3, .int .u8 s4, .int .u8 s5, .int .u8 s6, .int .u8 s7, .int .u8 s8, .int .u8 s9, .int .u8 s10, .bool s11, .int .i64 s12], .bool true]) (by simp [results, Try.results26, go_sem]) rfl ⟨rfl, ?_⟩
    rename_i hc1
    obtain ⟨h1, h2⟩ := H.out.set (some ⟨g, off, none⟩) 0 (tl L) n (by rw [size_tl]; omega) (by unfold maxLen; omega) (by
      rcases H.out.row with ⟨e, _⟩ | ⟨g', off', cur, e, hh, hcc⟩
      · cases e
      · cases e
        refine .inr ⟨g, off, cur, rfl, hh, fun i hi => ?_⟩
        rw [size_tl] at hi
        omega)
    exact ⟨⟨_, _, (h1.keep (Fr.pu ((Pu.refl _).alloc _)) (fun h => h) (fun _ _ _ h => h)).keep (Fr.pu ((Pu.refl _).alloc _)) (fun h => h) (fun _ _ _ h => h)⟩, (h2.alloc _).alloc _⟩
  · refine bodyPost_ret (v := .tuple #[.agg #[.int .i64 s0, .int .u16 s1, .int .i64 s2, .int .u8 s3, .int .u8 s4, .int .u8 s5, .int .u8 s6, .int .u8 s7, .int .u8 s8, .int .u8 s9, .int .u8 s10, .bool s11, .int .i64 s12], .bool true]) (by simp [results, Try.results26, go_sem]) rfl ⟨rfl, ?_⟩
    obtain ⟨h1, h2⟩ := H.out.set (some ⟨g, off + 13, none⟩) (c - 1) (tl L) n (by rw [size_tl]; omega) (by unfold maxLen; omega) (by
      rcases H.out.row with ⟨e, _⟩ | ⟨g', off', cur, e, hh, hcc⟩
      · cases e
      · cases e
        refine .inr ⟨g, off + 13, cur, rfl, hh, fun i hi k v hv => ?_⟩
        rw [size_tl] at hi
        have := hcc (i + 1) (by omega) k v (by rwa [tl_get (by omega)] at hv)
        rw [← this]
        congr 1
        omega)
    exact ⟨⟨_, _, (h1.keep (Fr.pu ((Pu.refl _).alloc _)) (fun h => h) (fun _ _ _ h => h)).keep (Fr.pu ((Pu.refl _).alloc _)) (fun h => h) (fun _ _ _ h => h)⟩, (h2.alloc _).alloc _⟩
end Go.Proofs.Ythmfibgjemnlbaa

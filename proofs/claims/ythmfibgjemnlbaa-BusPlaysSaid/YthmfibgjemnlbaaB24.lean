/- Bus (layer 4): the reference's Gone. -/
import Derived.Test.YthmfibgjemnlbaaB22
import Derived.Deep.LoopGhost
namespace Go.Proofs.Ythmfibgjemnlbaa
open Go.RowKit Go.Sort Go.Shelf Go.Lib
set_option linter.unusedVariables false
/-- What is not that node's, of the first so many. -/
def keepL (node : Int) (L : Array Sn) : Nat → Array Sn
  | 0 => #[]
  | i + 1 => if L[i]!.node = node then keepL node L i else (keepL node L i).push L[i]!
theorem size_keepL (node : Int) (L : Array Sn) (i : Nat) : (keepL node L i).size ≤ i := by
  induction i with
  | zero => simp [keepL]
  | succ i ih =>
    unfold keepL
    split
    · omega
    · rw [Array.size_push]; omega
/-- What Gone has gathered. -/
structure Gath (w0 w : World) (v : Value) (K : Array Sn) : Prop where
  o : w.ownsRow 0 71 13 v K.size (flatK Sn.cs 13 K).toList
  lo : ∀ g, v.ownBlock = some g → w0.heap.size ≤ g
  bel : Below w0.heap.size w0 w
theorem Gath.new (w : World) : Gath w w (.slice none 0 0) #[] := ⟨by simpa [flatK] using World.ownsRow_nil _ 0 71 13, fun g h => by simp [Value.ownBlock] at h, Below.refl _ _⟩
theorem Gath.alloc {w0 w : World} {v : Value} {K : Array Sn} (h : Gath w0 w v K) (o : Obj) : Gath w0 (w.alloc o) v K := ⟨h.o.alloc o, h.lo, h.bel.alloc h.bel.size o⟩
theorem Gath.push {w0 w w' : World} {v v' : Value} {K : Array Sn} (h : Gath w0 w v K) (s : Sn) (ho : w'.ownsRow 0 71 13 v' (K.size + 1) ((flatK Sn.cs 13 K).toList ++ s.cs)) (hg : w.grownBy w' v.ownBlock) (hat : v'.ownBlock = v.ownBlock ∨ v'.ownBlock = some w.heap.size) : Gath w0 w' v' (K.push s) := by
  refine ⟨?_, ?_, h.bel.trans ((Fr.grown hg).below w0.heap.size h.bel.size (fun i e => h.lo i e))⟩
  · rw [flatK_push]
    simpa using ho
  · intro k hk
    rcases hat with e | e
    · exact h.lo k (e ▸ hk)
    · rw [e] at hk; cases hk; exact h.bel.size
set_option maxHeartbeats 2000000 in
set_option maxRecDepth 100000 in
theorem gone27 {w : World} {rb : Nat} {A : Option Addr} {c : Nat} {L : Array Sn} {num : Int} (h : RefAt w rb A c L num) (hn : L.size < 900000) (node : Int) :
    Calls Try.prog 27 #[.pointer (some ⟨rb, 0, none⟩), .int .i64 node] w fun e w' => e = .returned (.int .i64 ((L.size : Int) - ((keepL node L L.size).size : Int))) ∧ (∃ A' c', RefAt w' rb A' c' (keepL node L L.size) num) ∧ Fr w w' (fun i => i = rb) := by
  obtain ⟨i0, hi0, hi1, hi2, hi3⟩ := info_parts Try.infoR
  have HI := Lib.hid (And.intro hi0 (And.intro hi1 (And.intro hi2 hi3)))
  clear hi0 hi1 hi2 hi3
  have H := Lib.hid h
  clear h
  go_enter Try.func27, Try.ntmps27
  go_wp2_with fail
  go_loopg [5, 6] L.size (fun gk s5 s6 wr => ∃ (i : Nat), s6 = .int .i64 i ∧ i ≤ L.size ∧ L.size - i ≤ gk ∧ Hid (Gath w wr s5 (keepL node L i)))
  case atStart => exact ⟨0, by go_num, by omega, by omega, Gath.new w⟩
  case round =>
    obtain ⟨i, rfl, hi, hgi, HG⟩ := hrel
    have HRr := Lib.hid (H.out.keep (Fr.blw HG.out.bel) (fun h => h) (fun _ _ _ h => h))
    have cr : wr.cell? ⟨rb, 0, none⟩ = some (.slice A L.size c) := by have := HRr.out.b; simp [World.cell?, this]
    have fr : wr.frozen? ⟨rb, 0, none⟩ = false := by have := HRr.out.b; simp [World.frozen?, this]
    have hK := size_keepL node L i
    by_cases hiL : i < L.size
    · obtain ⟨g, off, rfl, hc⟩ := HRr.out.cell hiL
      obtain ⟨S, hS⟩ : ∃ S, S = L[i]! := ⟨_, rfl⟩
      rw [← hS] at hc
      have HS := Lib.hid hS
      clear hS
      cases S with | mk s0 s1 s2 s3 s4 s5 s6 s7 s8 s9 s10 s11 s12 => ?_
      have a0 : wr.cell? ⟨g, off + i * 13 + 0, none⟩ = some (.int .i64 s0) := hc 0 _ rfl
      have a1 : wr.cell? ⟨g, off + i * 13 + 1, none⟩ = some (.int .u16 s1) := hc 1 _ rfl
      have a2 : wr.cell? ⟨g, off + i * 13 + 2, none⟩ = some (.int .i64 s2) := hc 2 _ rfl
      have a3 : wr.cell? ⟨g, off + i * 13 + 3, none⟩ = some (.int .u8 s3) := hc 3 _ rfl
      have a4 : wr.cell? ⟨g, off + i * 13 + 4, none⟩ = some (.int .u8 s4) := hc 4 _ rfl
      have a5 : wr.cell? ⟨g, off + i * 13 + 5, none⟩ = some (.int .u8 s5) := hc 5 _ rfl
      have a6 : wr.cell? ⟨g, off + i * 13 + 6, none⟩ = some (.int .u8 s6) := hc 6 _ rfl
      have a7 : wr.cell? ⟨g, off + i * 13 + 7, none⟩ = some (.int .u8 s7) := hc 7 _ rfl
      have a8 : wr.cell? ⟨g, off + i * 13 + 8, none⟩ = some (.int .u8 s8) := hc 8 _ rfl
      have a9 : wr.cell? ⟨g, off + i * 13 + 9, none⟩ = some (.int .u8 s9) := hc 9 _ rfl
      have a10 : wr.cell? ⟨g, off + i * 13 + 10, none⟩ = some (.int .u8 s10) := hc 10 _ rfl
      have a11 : wr.cell? ⟨g, off + i * 13 + 11, none⟩ = some (.bool s11) := hc 11 _ rfl
      have a12 : wr.cell? ⟨g, off + i * 13 + 12, none⟩ = some (.int .i64 s12) := hc 12 _ rfl
      simp only [Nat.add_zero] at a0
      clear hc
      by_cases hne : s0 = node
      · have hne' : (s0 != node) = false := by simp [hne]
        have hk : keepL node L (i + 1) = keepL node L i := by rw [keepL, ← HS.out]; simp [hne]
        subst hne
        go_wp2_with fail
        go_roundg (L.size - (i + 1))
        case measure => omega
        case rel => exact ⟨i + 1, by go_num, by omega, by omega, by rw [hk]; exact HG.out⟩
      · have hne' : (s0 != node) = true := by simp [hne]
        have hk : keepL node L (i + 1) = (keepL node L i).push ⟨s0, s1, s2, s3, s4, s5, s6, s7, s8, s9, s10, s11, s12⟩ := by rw [keepL, ← HS.out]; simp [hne]
        have HA := Lib.hid (HG.out.alloc (.cells #[.int .i64 s0, .int .u16 s1, .int .i64 s2, .int .u8 s3, .int .u8 s4, .int .u8 s5, .int .u8 s6, .int .u8 s7, .int .u8 s8, .int .u8 s9, .int .u8 s10, .bool s11, .int .i64 s12] 71))
        have HNb := Lib.hid (World.news_of_block (heap_alloc_new wr (.cells #[.int .i64 s0, .int .u16 s1, .int .i64 s2, .int .u8 s3, .int .u8 s4, .int .u8 s5, .int .u8 s6, .int .u8 s7, .int .u8 s8, .int .u8 s9, .int .u8 s10, .bool s11, .int .i64 s12] 71)))
        have HEc := Lib.hid (show ∀ u ∈ ([.int .i64 s0, .int .u16 s1, .int .i64 s2, .int .u8 s3, .int .u8 s4, .int .u8 s5, .int .u8 s6, .int .u8 s7, .int .u8 s8, .int .u8 s9, .int .u8 s10, .bool s11, .int .i64 s12] : List Value), u.oneCell' = true from Sn.cs_one ⟨s0, s1, s2, s3, s4, s5, s6, s7, s8, s9, s10, s11, s12⟩)
        go_wp2_with (at_builtin; refine wpList_append_src _ rfl _ _ 47 rfl 0 71 i0 zS 13 48 Try.underlying47 HI.out.1 HI.out.2.1 HI.out.2.2.1 HI.out.2.2.2 rfl (by decide) _ (keepL node L i).size _ rfl HA.out.o (.slice (some ⟨wr.heap.size, 0, none⟩) 1 1) 1 [.int .i64 s0, .int .u16 s1, .int .i64 s2, .int .u8 s3, .int .u8 s4, .int .u8 s5, .int .u8 s6, .int .u8 s7, .int .u8 s8, .int .u8 s9, .int .u8 s10, .bool s11, .int .i64 s12] rfl (.inr ⟨_, _, rfl, HNb.out⟩) rfl HEc.out (by unfold maxLen; omega) (by omega) (Nat.zero_le _) ?_; intro v6 w6 hown6 hgrow6 hat6)
        have HG6 := Lib.hid (HA.out.push ⟨s0, s1, s2, s3, s4, s5, s6, s7, s8, s9, s10, s11, s12⟩ hown6 hgrow6 hat6)
        clear hown6 hgrow6 hat6
        go_wp2_with fail
        go_roundg (L.size - (i + 1))
        case measure => omega
        case rel => exact ⟨i + 1, by go_num, by omega, by omega, by rw [hk]; exact HG6.out⟩
    · have e : i = L.size := by omega
      subst e
      obtain ⟨A', c', hv, hcap, hrow⟩ := ref_row HG.out.o
      have HW := Lib.hid (And.intro hcap hrow)
      clear hcap hrow
      rename_i v5
      subst hv
      generalize hKs : (keepL node L L.size).size = ks at *
      go_wp2_with fail
      go_ret
      obtain ⟨h1, h2⟩ := HRr.out.set A' c' (keepL node L L.size) ks hKs HW.out.1 (by have := HW.out.2; rw [← hKs] at this; exact this)
      exact ⟨by rw [hKs]; rfl, ⟨_, _, h1⟩, ((Fr.blw HG.out.bel).mono (fun _ _ h => h.elim)).trans h2 (fun _ _ h => h)⟩
end Go.Proofs.Ythmfibgjemnlbaa

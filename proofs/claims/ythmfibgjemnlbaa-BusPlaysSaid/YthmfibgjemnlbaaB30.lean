/- Bus (layer 4): DeleteFunc. -/
import Derived.Test.YthmfibgjemnlbaaB29
namespace Go.Proofs.Ythmfibgjemnlbaa
open Go.RowKit Go.Sort Go.Shelf Go.Lib
set_option linter.unusedVariables false
set_option maxHeartbeats 4000000 in
set_option maxRecDepth 100000 in
theorem delete29 {w : World} {A : Option Addr} {c nb : Nat} {d : Array Sn} {node : Int} (ho : w.ownsRow 0 35 13 (.slice A d.size c) d.size (flatK Sn.cs 13 d).toList) (hb : w.cell? ⟨nb, 0, none⟩ = some (.int .i64 node)) (hl : nb < w.heap.size) (hne : (Value.slice A d.size c).ownBlock ≠ some nb) (hd : d.size < 900000) :
    Calls Try.prog 29 #[.slice A d.size c, .func (.func 30) #[] #[.pointer (some ⟨nb, 0, none⟩)]] w fun e w' =>
      ∃ v', e = .returned v' ∧ w'.ownsRow 0 35 13 v' (keepL node d d.size).size (flatK Sn.cs 13 (keepL node d d.size)).toList ∧ v'.ownBlock = (Value.slice A d.size c).ownBlock ∧ Fr w w' (fun i => (Value.slice A d.size c).ownBlock = some i) := by
  have HI := Lib.hid (index39 ho hb hl hd)
  have HO := Lib.hid ho
  have HB := Lib.hid (And.intro hb hne)
  clear ho hb hne
  go_enter Try.func29, Try.ntmps29
  go_wp2_with fail
  refine HI.out.mono ?_
  rintro e w1 ⟨hx, hp⟩
  have HP := Lib.hid hp
  clear hp HI
  rcases hx with ⟨i, hi, hin, hib, rfl⟩ | ⟨hall, rfl⟩
  · obtain ⟨g, cap, hv, _, hgl⟩ := HO.out.form (by omega)
    cases hv
    obtain ⟨hdr, hc1, hc2⟩ := DelRow.new ((Fr.pu HP.out).owns HO.out (fun _ _ h => h)) i hi
    unfold maxLen at hc2
    have hk1 : keepL node d (i + 1) = d.extract 0 i := by rw [keepL, if_pos hin, keepL_all node d i (by omega) hib]
    have hk2 : (keepL node d (i + 1)).size = i := by rw [hk1]; simp; omega
    have HK := Lib.hid (And.intro hdr (And.intro hk1 hk2))
    have hnb : nb ≠ g := fun e => HB.out.2 (by rw [e]; rfl)
    clear hdr hk1 hk2 hin hib
    go_wp2_with fail
    go_loopg [5, 6] d.size (fun gk s5 s6 wr => ∃ (j p : Nat), s6 = .int .i64 j ∧ s5 = .int .i64 p ∧ j ≤ d.size ∧ d.size - j ≤ gk ∧ p < j ∧ Hid (p = (keepL node d j).size ∧ DelRow w1 wr g c d (keepL node d j) j))
    case atStart => exact ⟨i + 1, i, by go_num, rfl, by omega, by omega, by omega, HK.out.2.2.symm, by rw [HK.out.2.1]; exact HK.out.1⟩
    case round =>
      obtain ⟨j, p, rfl, rfl, hj, hgj, hpj, HU⟩ := hrel
      have hnc : wr.cell? ⟨nb, 0, none⟩ = some (.int .i64 node) := (HU.out.2.f.cell (a := ⟨nb, 0, none⟩) (by have := HP.out.below.size; show nb < _; omega) (by exact hnb)).trans ((HP.out.below.cell (p := ⟨nb, 0, none⟩) hl).trans HB.out.1)
      have hnl : nb < wr.heap.size := by have := HP.out.below.size; have := HU.out.2.f.size; omega
      by_cases hjd : j < d.size
      · obtain ⟨cur, hg, hcs, hr1, hr2⟩ := HU.out.2.row
        have hc := fun k v hv => show wr.cell? ⟨g, j * 13 + k, none⟩ = some v by have := hr2 j (Nat.le_refl _) hjd k v hv; simp [World.cell?, hg, this]
        obtain ⟨S, hS⟩ : ∃ S, S = d[j]! := ⟨_, rfl⟩
        rw [← hS] at hc
        have HS := Lib.hid hS
        clear hS hr1 hr2
        cases S with | mk s0 s1 s2 s3 s4 s5 s6 s7 s8 s9 s10 s11 s12 => ?_
        have a0 : wr.cell? ⟨g, j * 13 + 0, none⟩ = some (.int .i64 s0) := hc 0 _ rfl
        have a1 : wr.cell? ⟨g, j * 13 + 1, none⟩ = some (.int .u16 s1) := hc 1 _ rfl
        have a2 : wr.cell? ⟨g, j * 13 + 2, none⟩ = some (.int .i64 s2) := hc 2 _ rfl
        have a3 : wr.cell? ⟨g, j * 13 + 3, none⟩ = some (.int .u8 s3) := hc 3 _ rfl
        have a4 : wr.cell? ⟨g, j * 13 + 4, none⟩ = some (.int .u8 s4) := hc 4 _ rfl
        have a5 : wr.cell? ⟨g, j * 13 + 5, none⟩ = some (.int .u8 s5) := hc 5 _ rfl
        have a6 : wr.cell? ⟨g, j * 13 + 6, none⟩ = some (.int .u8 s6) := hc 6 _ rfl
        have a7 : wr.cell? ⟨g, j * 13 + 7, none⟩ = some (.int .u8 s7) := hc 7 _ rfl
        have a8 : wr.cell? ⟨g, j * 13 + 8, none⟩ = some (.int .u8 s8) := hc 8 _ rfl
        have a9 : wr.cell? ⟨g, j * 13 + 9, none⟩ = some (.int .u8 s9) := hc 9 _ rfl
        have a10 : wr.cell? ⟨g, j * 13 + 10, none⟩ = some (.int .u8 s10) := hc 10 _ rfl
        have a11 : wr.cell? ⟨g, j * 13 + 11, none⟩ = some (.bool s11) := hc 11 _ rfl
        have a12 : wr.cell? ⟨g, j * 13 + 12, none⟩ = some (.int .i64 s12) := hc 12 _ rfl
        simp only [Nat.add_zero] at a0
        have hp := pred30 ⟨s0, s1, s2, s3, s4, s5, s6, s7, s8, s9, s10, s11, s12⟩ nb node (wr.alloc (.cells #[.int .i64 s0, .int .u16 s1, .int .i64 s2, .int .u8 s3, .int .u8 s4, .int .u8 s5, .int .u8 s6, .int .u8 s7, .int .u8 s8, .int .u8 s9, .int .u8 s10, .bool s11, .int .i64 s12] 35)) (by rw [show (wr.alloc (.cells #[.int .i64 s0, .int .u16 s1, .int .i64 s2, .int .u8 s3, .int .u8 s4, .int .u8 s5, .int .u8 s6, .int .u8 s7, .int .u8 s8, .int .u8 s9, .int .u8 s10, .bool s11, .int .i64 s12] 35)).cell? ⟨nb, 0, none⟩ = wr.cell? ⟨nb, 0, none⟩ from World.cell?_of_block (Below.heap_alloc wr _ nb hnl)]; exact hnc) (by simp; omega)
        simp only [Sn.cs] at hp
        have HPR := Lib.hid hp
        clear hp hc hnc
        have hgw := lt_of_block hg
        cases hx : (s0 == node) with
        | true =>
          go_wp2_with (go_at_call 30; refine HPR.out.mono ?_; rintro e w2 ⟨rfl, hp1⟩)
          go_roundg (d.size - (j + 1))
          case measure => omega
          case rel =>
            have hk : keepL node d (j + 1) = keepL node d j := by rw [keepL, ← HS.out]; simpa using hx
            exact ⟨j + 1, p, by go_num, rfl, by omega, by omega, by omega, by rw [hk]; exact HU.out.1, by rw [hk]; exact ((HU.out.2.pu ((Pu.refl _).alloc _)).pu hp1).skip⟩
        | false =>
          have hpt : ∀ w2, Pu (wr.alloc (.cells #[.int .i64 s0, .int .u16 s1, .int .i64 s2, .int .u8 s3, .int .u8 s4, .int .u8 s5, .int .u8 s6, .int .u8 s7, .int .u8 s8, .int .u8 s9, .int .u8 s10, .bool s11, .int .i64 s12] 35)) w2 → w2.heap[g]? = some (.cells cur 35) ∧ w2.heap[wr.heap.size]? = some (.cells #[.int .i64 s0, .int .u16 s1, .int .i64 s2, .int .u8 s3, .int .u8 s4, .int .u8 s5, .int .u8 s6, .int .u8 s7, .int .u8 s8, .int .u8 s9, .int .u8 s10, .bool s11, .int .i64 s12] 35) := fun w2 q => ⟨(q.below.block g (by simp; omega)).trans ((Below.heap_alloc wr _ g hgw).trans hg), (q.below.block _ (by simp)).trans (heap_alloc_new wr _)⟩
          have HPT := Lib.hid hpt
          clear hpt
          go_upto_region 9 with (go_at_call 30; refine HPR.out.mono ?_; rintro e w2 ⟨rfl, hp1⟩)
          obtain ⟨hg2, hbx2⟩ := HPT.out w2 hp1
          have hg2l := lt_of_block hg2
          have HR2 := Lib.hid (((HU.out.2.pu ((Pu.refl _).alloc (.cells #[.int .i64 s0, .int .u16 s1, .int .i64 s2, .int .u8 s3, .int .u8 s4, .int .u8 s5, .int .u8 s6, .int .u8 s7, .int .u8 s8, .int .u8 s9, .int .u8 s10, .bool s11, .int .i64 s12] 35))).pu hp1).put ⟨s0, s1, s2, s3, s4, s5, s6, s7, s8, s9, s10, s11, s12⟩ (size_keepL _ _ _) (by have := HU.out.1; omega))
          have hsz : ∀ k, k < 13 → ∃ u, w2.cell? ⟨g, p * 13 + k, none⟩ = some u := fun k hk => by
            have : p * 13 + k < cur.size := by omega
            exact ⟨cur[p * 13 + k], by simp [World.cell?, hg2, this]⟩
          obtain ⟨u0, q0⟩ := hsz 0 (by decide)
          obtain ⟨u1, q1⟩ := hsz 1 (by decide)
          obtain ⟨u2, q2⟩ := hsz 2 (by decide)
          obtain ⟨u3, q3⟩ := hsz 3 (by decide)
          obtain ⟨u4, q4⟩ := hsz 4 (by decide)
          obtain ⟨u5, q5⟩ := hsz 5 (by decide)
          obtain ⟨u6, q6⟩ := hsz 6 (by decide)
          obtain ⟨u7, q7⟩ := hsz 7 (by decide)
          obtain ⟨u8, q8⟩ := hsz 8 (by decide)
          obtain ⟨u9, q9⟩ := hsz 9 (by decide)
          obtain ⟨u10, q10⟩ := hsz 10 (by decide)
          obtain ⟨u11, q11⟩ := hsz 11 (by decide)
          obtain ⟨u12, q12⟩ := hsz 12 (by decide)
          have qf : ∀ k, w2.frozen? ⟨g, k, none⟩ = false := fun k => by simp [World.frozen?, hg2]
          have b0 : w2.cell? ⟨wr.heap.size, 0, none⟩ = some (.int .i64 s0) := by simp [World.cell?, hbx2]
          have b1 : w2.cell? ⟨wr.heap.size, 1, none⟩ = some (.int .u16 s1) := by simp [World.cell?, hbx2]
          have b2 : w2.cell? ⟨wr.heap.size, 2, none⟩ = some (.int .i64 s2) := by simp [World.cell?, hbx2]
          have b3 : w2.cell? ⟨wr.heap.size, 3, none⟩ = some (.int .u8 s3) := by simp [World.cell?, hbx2]
          have b4 : w2.cell? ⟨wr.heap.size, 4, none⟩ = some (.int .u8 s4) := by simp [World.cell?, hbx2]
          have b5 : w2.cell? ⟨wr.heap.size, 5, none⟩ = some (.int .u8 s5) := by simp [World.cell?, hbx2]
          have b6 : w2.cell? ⟨wr.heap.size, 6, none⟩ = some (.int .u8 s6) := by simp [World.cell?, hbx2]
          have b7 : w2.cell? ⟨wr.heap.size, 7, none⟩ = some (.int .u8 s7) := by simp [World.cell?, hbx2]
          have b8 : w2.cell? ⟨wr.heap.size, 8, none⟩ = some (.int .u8 s8) := by simp [World.cell?, hbx2]
          have b9 : w2.cell? ⟨wr.heap.size, 9, none⟩ = some (.int .u8 s9) := by simp [World.cell?, hbx2]
          have b10 : w2.cell? ⟨wr.heap.size, 10, none⟩ = some (.int .u8 s10) := by simp [World.cell?, hbx2]
          have b11 : w2.cell? ⟨wr.heap.size, 11, none⟩ = some (.bool s11) := by simp [World.cell?, hbx2]
          have b12 : w2.cell? ⟨wr.heap.size, 12, none⟩ = some (.int .i64 s12) := by simp [World.cell?, hbx2]
          simp only [Nat.add_zero] at q0
          clear hsz hg2 hbx2 a0 a1 a2 a3 a4 a5 a6 a7 a8 a9 a10 a11 a12
          go_wp2_with fail
          go_roundg (d.size - (j + 1))
          case measure => omega
          case rel =>
            have hk : keepL node d (j + 1) = (keepL node d j).push ⟨s0, s1, s2, s3, s4, s5, s6, s7, s8, s9, s10, s11, s12⟩ := by
              have hne0 : s0 ≠ node := by simpa using hx
              rw [keepL, ← HS.out]
              simp [hne0]
            refine ⟨j + 1, p + 1, by go_num, by go_num, by omega, by omega, by omega, by rw [hk, Array.size_push, ← HU.out.1], ?_⟩
            rw [hk]
            have := HR2.out
            rw [← HU.out.1] at this
            exact this
      · have e : j = d.size := by omega
        subst e
        obtain ⟨cur, hg, hcs, _, _⟩ := HU.out.2.row
        obtain ⟨zs, hzl, hcl⟩ := run_clear26 wr g (p * 13) (d.size - p) (c - p) (by omega) (fun t ht => by
          have : p * 13 + t < cur.size := by omega
          simp [World.cell?, hg, this]) (fun t ht => by simp [World.frozen?, hg])
        obtain ⟨h1, h2⟩ := HU.out.2.fin (n := 0) zs (by rw [hzl, ← HU.out.1]; omega) (by unfold maxLen; omega)
        rw [← HU.out.1] at h1 h2
        have HW := Lib.hid (And.intro h1 h2)
        have hcp : ¬ c = p := by omega
        have hdp : 0 < d.size - p := by omega
        clear h1 h2 hg hcs hnc
        go_wp2_with (simp only [hcl])
        go_ret
        rw [← HU.out.1]
        exact ⟨_, rfl, HW.out.1, rfl, ((Fr.pu HP.out).mono (fun _ _ h => h.elim)).trans HW.out.2 (fun i _ e => by subst e; rfl)⟩
  · have hk : keepL node d d.size = d := by rw [keepL_all node d d.size (Nat.le_refl _) hall]; simp
    go_wp2_with fail
    go_ret
    rw [hk]
    exact ⟨_, rfl, (Fr.pu HP.out).owns HO.out (fun _ _ h => h), rfl, (Fr.pu HP.out).mono (fun _ _ h => h.elim)⟩
end Go.Proofs.Ythmfibgjemnlbaa

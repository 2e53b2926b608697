/- Bus (layer 4): same. -/
import Derived.Test.YthmfibgjemnlbaaB32
import Derived.Test.YthmfibgjemnlbaaB29
import Derived.Test.YthmfibgjemnlbaaB10
import Derived.BigQuiet
import Derived.Deep.LoopGhost
namespace Go.Proofs.Ythmfibgjemnlbaa
open Go.RowKit Go.Sort Go.Shelf Go.Lib
set_option linter.unusedVariables false
theorem DelRow.start {w : World} {g c : Nat} {d : Array Sn} (ho : w.ownsRow 0 35 13 (.slice (some ⟨g, 0, none⟩) d.size c) d.size (flatK Sn.cs 13 d).toList) : DelRow w w g c d #[] 0 ∧ d.size ≤ c := by
  rcases ho.2 with ⟨h, _⟩ | ⟨g', cap, cur, hv, _, hg, h1, h2, h3, h4⟩
  · cases h
  · cases hv
    refine ⟨⟨⟨cur, hg, h3, fun m hm => by simp at hm, fun m _ hm k v hv => ?_⟩, Fr.refl _ _⟩, h1⟩
    have hk : k < 13 := by have := (List.getElem?_eq_some_iff.1 hv).1; rwa [Sn.cs_length] at this
    have hj : m * 13 + k < d.size * 13 := by omega
    obtain ⟨u, hu⟩ : ∃ u, (flatK Sn.cs 13 d).toList[m * 13 + k]? = some u := ⟨_, List.getElem?_eq_getElem (by simpa using hj)⟩
    have h5 := (flatK_get hu).2
    rw [show (m * 13 + k) / 13 = m by omega, show (m * 13 + k) % 13 = k by omega, hv] at h5
    cases h5
    rw [← h4, List.getElem?_take_of_lt hj] at hu
    simpa using hu
theorem DelRow.zero {w0 w : World} {g cap : Nat} {d : Array Sn} {j : Nat} (h : DelRow w0 w g cap d #[] j) (zs : List Value) (hz : zs.length = 13) (hc : j < cap) : DelRow w0 (w.setCells g (j * 13) zs) g cap d #[] (j + 1) := by
  obtain ⟨cur, hg, hs, h1, h2⟩ := h.row
  refine ⟨⟨_, heap_setCells g 35 zs _ w cur hg, by simpa using hs, fun m hm => by simp at hm, ?_⟩, Fr.setCells (S := fun i => i = g) g rfl _ _ _ h.f⟩
  intro m hm hmd k v hv
  have hk : k < 13 := by have := (List.getElem?_eq_some_iff.1 hv).1; rwa [Sn.cs_length] at this
  rw [many_get (by rw [hz, hs]; omega), hz, if_neg (by omega)]
  exact h2 m (by omega) hmd k v hv
set_option maxHeartbeats 4000000 in
set_option maxRecDepth 100000 in
theorem same16 {w : World} {bb rb c : Nat} {v : Value} {A : Option Addr} {d L : Array Sn} {num : Int} (h : BusAt w bb v d num) (r : RefAt w rb A c L num) (p : Play d L num) (hd : d.size < 900000) :
    Calls Try.prog 16 #[.pointer (some ⟨bb, 0, none⟩), .pointer (some ⟨rb, 0, none⟩)] w fun e w' => e = .returned (.bool true) ∧ Below w.heap.size w w' := by
  have HW := Lib.hid (waits10 h hd)
  have HH := Lib.hid (And.intro h (And.intro r p))
  have hLd := p.size
  have hL9 : L.size < 900000 := by omega
  clear h r p hLd
  go_enter Try.func16, Try.ntmps16
  go_wp2_with fail
  refine HW.out.mono ?_
  rintro e w1 ⟨v1, D, rfl, hDs, hDp, hDo, ho, hfr, hbel⟩
  obtain rfl := HH.out.2.2.waits hDp hDo
  have hL9' : D.size < 900000 := hL9
  obtain ⟨A1, c1, rfl⟩ : ∃ A1 c1, v1 = .slice A1 D.size c1 := by
    rcases ho.2 with ⟨rfl, h0⟩ | ⟨g, cap, cur, rfl, _⟩
    · exact ⟨none, 0, by rw [h0]⟩
    · exact ⟨_, cap, rfl⟩
  have HR1 := Lib.hid (HH.out.2.1.keep (Fr.blw hbel) (fun h => h) (fun _ _ _ h => h))
  have HC := Lib.hid (count11 (HH.out.1.keep (Fr.blw hbel) (fun h => h) (fun _ _ h => h)))
  have cr : w1.cell? ⟨rb, 0, none⟩ = some (.slice A D.size c) := by have := HR1.out.b; simp [World.cell?, this]
  have cn : w1.cell? ⟨rb, 1, none⟩ = some (.int .i64 num) := by have := HR1.out.b; simp [World.cell?, this]
  have HO := Lib.hid (And.intro ho (And.intro hfr hbel))
  clear ho hfr hbel hDs hDp hDo HW
  have hq1 : ((D.size : Int) != (D.size : Int)) = false := by simp
  have hq2 : (num != num) = false := by simp
  go_wp2_with fail
  have HC' : ∀ n, Calls Try.prog 11 #[.pointer (some ⟨bb, 0, none⟩)] (w1.drewN n) fun e w' => e = .returned (.int .i64 num) ∧ w1.drewN n = w' := fun n => count11 (HH.out.1.keep ((Fr.blw HO.out.2.2).trans (Fr.pu ((Pu.refl w1).drewN n)) (fun _ _ h => h)) (fun h => h) (fun _ _ h => h))
  go_quiet (first | (go_at_call 11; refine Calls.quiet_of_same ((HC' _).mono (fun e w' h => ⟨h.1, h.2.symm⟩))))
  go_wp2_with fail
  have HPn := Lib.hid ((Pu.refl w1).drewN nq)
  generalize w1.drewN nq = w2 at *
  by_cases h0 : D.size = 0
  · have h0' : (D.size : Int) = 0 := by omega
    go_loopg [6] 0 (fun _ s6 wr => s6 = .int .i64 0 ∧ Hid (Pu w1 wr))
    case atStart => exact ⟨by go_num, HPn.out⟩
    case round =>
      obtain ⟨rfl, HP⟩ := hrel
      go_wp2_with fail
      go_ret
      exact ⟨rfl, HO.out.2.2.trans (HP.out.below.mono HO.out.2.2.size)⟩
  · obtain ⟨g, cap, hv, _, hgl⟩ := HO.out.1.form (by omega)
    cases hv
    obtain ⟨hst, hcap⟩ := DelRow.start HO.out.1
    have hgw : w.heap.size ≤ g := HO.out.2.1 g rfl
    have HST := Lib.hid (hst.pu HPn.out)
    clear hst h0 hq1 hq2 cr cn HC HC'
    go_loopg [6] D.size (fun gk s6 wr => ∃ i : Nat, s6 = .int .i64 i ∧ i ≤ D.size ∧ D.size - i ≤ gk ∧ Hid (DelRow w1 wr g c1 D #[] i))
    case atStart => exact ⟨0, by go_num, by omega, by omega, HST.out⟩
    case round =>
      obtain ⟨i, rfl, hi, hgi, HU⟩ := hrel
      by_cases hiD : i < D.size
      · have hRr := HR1.out.keep HU.out.f (fun e => by
          have h1 := HR1.out.b
          rcases HO.out.1.2 with ⟨h2, _⟩ | ⟨g', cap', cur, hv, _, hh, _⟩
          · cases h2
          · cases hv; rw [← e] at hh; rw [h1] at hh; cases hh) (fun g2 cur2 h1 e => by
          rcases HO.out.1.2 with ⟨h2, _⟩ | ⟨g', cap', cur, hv, _, hh, _⟩
          · cases h2
          · cases hv; rw [← e] at hh; rw [h1] at hh; cases hh)
        obtain ⟨g2, off, rfl, hc2⟩ := hRr.cell hiD
        obtain ⟨cur, hg, hcs, _, hr2⟩ := HU.out.row
        have hc := fun k v hv => show wr.cell? ⟨g, i * 13 + k, none⟩ = some v by have := hr2 i (Nat.le_refl _) hiD k v hv; simp [World.cell?, hg, this]
        have cr : wr.cell? ⟨rb, 0, none⟩ = some (.slice (some ⟨g2, off, none⟩) D.size c) := by have := hRr.b; simp [World.cell?, this]
        generalize D[i]! = S at *
        cases S with | mk s0 s1 s2 s3 s4 s5 s6 s7 s8 s9 s10 s11 s12 => ?_
        have a0 : wr.cell? ⟨g, i * 13 + 0, none⟩ = some (.int .i64 s0) := hc 0 _ rfl
        have a1 : wr.cell? ⟨g, i * 13 + 1, none⟩ = some (.int .u16 s1) := hc 1 _ rfl
        have a2 : wr.cell? ⟨g, i * 13 + 2, none⟩ = some (.int .i64 s2) := hc 2 _ rfl
        have a3 : wr.cell? ⟨g, i * 13 + 3, none⟩ = some (.int .u8 s3) := hc 3 _ rfl
        have a4 : wr.cell? ⟨g, i * 13 + 4, none⟩ = some (.int .u8 s4) := hc 4 _ rfl
        have a5 : wr.cell? ⟨g, i * 13 + 5, none⟩ = some (.int .u8 s5) := hc 5 _ rfl
        have a6 : wr.cell? ⟨g, i * 13 + 6, none⟩ = some (.int .u8 s6) := hc 6 _ rfl
        have a7 : wr.cell? ⟨g, i * 13 + 7, none⟩ = some (.int .u8 s7) := hc 7 _ rfl
        have a8 : wr.cell? ⟨g, i * 13 + 8, none⟩ = some (.int .u8 s8) := hc 8 _ rfl
        have a9 : wr.cell? ⟨g, i * 13 + 9, none⟩ = some (.int .u8 s9) := hc 9 _ rfl
        have a10 : wr.cell? ⟨g, i * 13 + 10, none⟩ = some (.int .u8 s10) := hc 10 _ rfl
        have a11 : wr.cell? ⟨g, i * 13 + 11, none⟩ = some (.bool s11) := hc 11 _ rfl
        have a12 : wr.cell? ⟨g, i * 13 + 12, none⟩ = some (.int .i64 s12) := hc 12 _ rfl
        have b0 : wr.cell? ⟨g2, off + i * 13 + 0, none⟩ = some (.int .i64 s0) := hc2 0 _ rfl
        have b1 : wr.cell? ⟨g2, off + i * 13 + 1, none⟩ = some (.int .u16 s1) := hc2 1 _ rfl
        have b2 : wr.cell? ⟨g2, off + i * 13 + 2, none⟩ = some (.int .i64 s2) := hc2 2 _ rfl
        have b3 : wr.cell? ⟨g2, off + i * 13 + 3, none⟩ = some (.int .u8 s3) := hc2 3 _ rfl
        have b4 : wr.cell? ⟨g2, off + i * 13 + 4, none⟩ = some (.int .u8 s4) := hc2 4 _ rfl
        have b5 : wr.cell? ⟨g2, off + i * 13 + 5, none⟩ = some (.int .u8 s5) := hc2 5 _ rfl
        have b6 : wr.cell? ⟨g2, off + i * 13 + 6, none⟩ = some (.int .u8 s6) := hc2 6 _ rfl
        have b7 : wr.cell? ⟨g2, off + i * 13 + 7, none⟩ = some (.int .u8 s7) := hc2 7 _ rfl
        have b8 : wr.cell? ⟨g2, off + i * 13 + 8, none⟩ = some (.int .u8 s8) := hc2 8 _ rfl
        have b9 : wr.cell? ⟨g2, off + i * 13 + 9, none⟩ = some (.int .u8 s9) := hc2 9 _ rfl
        have b10 : wr.cell? ⟨g2, off + i * 13 + 10, none⟩ = some (.int .u8 s10) := hc2 10 _ rfl
        have b11 : wr.cell? ⟨g2, off + i * 13 + 11, none⟩ = some (.bool s11) := hc2 11 _ rfl
        have b12 : wr.cell? ⟨g2, off + i * 13 + 12, none⟩ = some (.int .i64 s12) := hc2 12 _ rfl
        simp only [Nat.add_zero] at a0 b0
        have HG := Lib.hid (And.intro hg hcs)
        have qf : ∀ k, wr.frozen? ⟨g, k, none⟩ = false := fun k => by simp [World.frozen?, hg]
        clear hc hc2 hr2 hg hRr hcs
        have e30 := eq30 9997
        go_wp2_with fail
        go_quiet (fail)
        go_wp2_with fail
        go_roundg (D.size - (i + 1))
        case measure => omega
        case rel => exact ⟨i + 1, by go_num, by omega, by omega, (HU.out.pu ((Pu.refl wr).drewN _)).zero [.int .i64 0, .int .u16 0, .int .i64 0, .int .u8 0, .int .u8 0, .int .u8 0, .int .u8 0, .int .u8 0, .int .u8 0, .int .u8 0, .int .u8 0, .bool false, .int .i64 0] rfl (by omega)⟩
      · have e : i = D.size := by omega
        subst e
        go_wp2_with fail
        go_ret
        exact ⟨rfl, HO.out.2.2.trans (HU.out.f.below w.heap.size HO.out.2.2.size (fun i e => by omega))⟩
end Go.Proofs.Ythmfibgjemnlbaa

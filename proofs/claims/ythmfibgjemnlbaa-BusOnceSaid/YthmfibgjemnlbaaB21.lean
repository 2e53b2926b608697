/- Bus (layer 4): BusOnce: the walk. -/
import Derived.Test.YthmfibgjemnlbaaB20
import Derived.Deep.LoopGhost
import Derived.Deep.Cut
import Derived.Deep.CutRange
import Derived.Deep.DeepCutAuto
import Derived.BigQuiet
import Derived.Deep.AppendLies
namespace Go.Proofs.Ythmfibgjemnlbaa
open Go.RowKit Go.Sort Go.Shelf Go.Lib
set_option linter.unusedVariables false
theorem send7o {w0 w : World} {bb n : Nat} {v cv : Value} {d C : Array Sn} (h : Two w0 w bb v cv d C n) (o : Once d C.toList n) (hn : n ≤ 300) (node id len d0 d1 d2 d3 d4 d5 d6 d7 : Int) (r : Bool) (h0 : 0 ≤ node) :
    Calls Try.prog 7 #[.pointer (some ⟨bb, 0, none⟩), .int .i64 node, fagg id len d0 d1 d2 d3 d4 d5 d6 d7 r] w fun e w' => ∃ (b : Bool) (v' : Value) (d' : Array Sn), e = .returned (.int .i64 (if b then 0 else 30)) ∧
      Hid (Two w0 w' bb v' cv d' C ((n + b.toNat : Nat) : Int) ∧ Once d' C.toList (n + b.toNat)) := by
  have hsz := o.size
  cases hr : rtB id len d0 d1 d2 d3 d4 d5 d6 d7 r with
  | false =>
    refine (send7bad _ node id len d0 d1 d2 d3 d4 d5 d6 d7 r w h0 hr).mono ?_
    rintro e w' ⟨rfl, hp⟩
    exact ⟨false, v, d, rfl, ⟨h.pu hp, o⟩⟩
  | true =>
    refine (send7e h.bus.at_ ⟨node, id, len, d0, d1, d2, d3, d4, d5, d6, d7, r, n⟩ node id len d0 d1 d2 d3 d4 d5 d6 d7 r rfl h0 hr (by omega) (by omega)).mono ?_
    rintro e w' ⟨rfl, v', hb, st⟩
    exact ⟨true, v', _, rfl, ⟨h.step hb st, o.send _ rfl⟩⟩
set_option maxHeartbeats 4000000 in
set_option maxRecDepth 100000 in

theorem busOnce3 (w : World) (A0 A1 : Option Addr) (L N c0 c1 : Nat) (f : Nat → Fm) (q : Nat → Int) (hN : N ≤ 9223372036854775807) (hL : L ≤ 9223372036854775807)
    (hf : FIn w A0 L f) (hq : IIn w A1 N q) :
    Calls Try.prog 3 #[.slice A0 L c0, .slice A1 N c1] w fun e w' => e = .returned (.bool true) ∧ Below w.heap.size w w' := by
  have HF := Lib.hid hf
  have HQ := Lib.hid hq
  clear hf hq
  obtain ⟨j0, hj0, hj1, hj2, hj3⟩ := info_parts Try.infoB
  have HJ := Lib.hid (And.intro hj0 (And.intro hj1 (And.intro hj2 hj3)))
  clear hj0 hj1 hj2 hj3
  obtain ⟨i0, hi0, hi1, hi2, hi3⟩ := info_parts Try.infoS
  have HI := Lib.hid (And.intro hi0 (And.intro hi1 (And.intro hi2 hi3)))
  clear hi0 hi1 hi2 hi3
  by_cases hbig : 300 < L
  · go_enter Try.func3, Try.ntmps3
    go_wp2_with fail
    go_ret
    exact ⟨rfl, Below.refl _ _⟩
  have HT := Lib.hid (And.intro (Two.new w) Once.new)
  go_enter Try.func3, Try.ntmps3
  go_wp2_with (go_at_call 6; refine (new6 _).mono ?_; rintro e w1 ⟨rfl, rfl⟩)
  go_loopg [6, 7, 8] L (fun gk s6 s7 s8 wr => ∃ (n k : Nat) (v : Value) (d C : Array Sn), s7 = .int .i64 n ∧ s8 = .int .i64 k ∧ k ≤ L ∧ L - k ≤ gk ∧ n ≤ k ∧ Hid (Two w wr w.heap.size v s6 d C n ∧ Once d C.toList n))
  case atStart => exact ⟨0, 0, _, _, _, by go_num, by go_num, by omega, by omega, by omega, HT.out⟩
  case round =>
    obtain ⟨n, k, v, d, C, rfl, rfl, hk, hg, hn, HR⟩ := hrel
    by_cases hkL : k = L
    · subst hkL
      go_wp2_with fail
      have hCd := HR.out.2.size
      go_loopg [6] d.size (fun gk s6 wr => ∃ (v : Value) (d C : Array Sn), d.size ≤ gk ∧ Hid (Two w wr w.heap.size v s6 d C n ∧ Once d C.toList n))
      case atStart => exact ⟨v, d, C, Nat.le_refl _, HR.out⟩
      case round =>
        clear HR hCd v d C
        obtain ⟨v, d, C, hgd, HR⟩ := hrel
        have hrs := HR.out.2.size
        by_cases hd0 : d.size = 0
        · have H9 := Lib.hid (next9none HR.out.1.bus.at_ hd0)
          unfold zS at H9
          go_wp2_with fail
          refine H9.out.mono ?_
          rintro e w2 ⟨rfl, hp9⟩
          have HT := Lib.hid (And.intro ((HR.out.1.pu hp9).pu ((Pu.refl _).alloc (.cells #[.int .i64 0, .int .u16 0, .int .i64 0, .int .u8 0, .int .u8 0, .int .u8 0, .int .u8 0, .int .u8 0, .int .u8 0, .int .u8 0, .int .u8 0, .bool false, .int .i64 0] 35))) HR.out.2)
          clear hp9 H9 HR
          have hCn : C.size = n := by simp at hrs; omega
          go_upto_region 26 with fail
          generalize (w2.alloc (.cells #[.int .i64 0, .int .u16 0, .int .i64 0, .int .u8 0, .int .u8 0, .int .u8 0, .int .u8 0, .int .u8 0, .int .u8 0, .int .u8 0, .int .u8 0, .bool false, .int .i64 0] 35)) = w3 at *
          go_wp2_with (at_make; refine wpList_make_full _ rfl _ _ 39 rfl 0 4 j0 (.bool false) 1 Try.underlying39 HJ.out.1 HJ.out.2.1 HJ.out.2.2.1 .i64 .i64 _ _ (k + 1) rfl rfl (by omega) (by omega) (by rw [HJ.out.2.2.2]; omega) (by unfold maxLen; omega) (Nat.zero_le _) ?_; intro w4 hown4 hgrow4)
          have HC := Lib.hid (And.intro (Chk.new HT.out.1 hown4 hgrow4) HT.out.2)
          clear hown4 hgrow4 HT
          generalize w3.heap.size = g4 at *
          obtain ⟨A6, c6, hu6⟩ : ∃ A6 c6, u6 = .slice A6 C.size c6 := by
            rcases HC.out.1.two.come.2 with ⟨e, h0⟩ | ⟨g, cap, cur, e, _⟩
            · exact ⟨none, 0, by rw [e, h0]⟩
            · exact ⟨_, cap, e⟩
          subst hu6
          subst hCn
          go_wp2_with fail
          go_loopg [17] C.size (fun gk s17 wr => ∃ (i : Nat) (S : Nat → Bool), s17 = .int .i64 i ∧ i ≤ C.size ∧ C.size - i ≤ gk ∧ Hid (Chk w wr w.heap.size v (.slice A6 C.size c6) d C (C.size : Int) g4 (k + 1) S i))
          case atStart => exact ⟨0, _, by go_num, by omega, by omega, HC.out.1⟩
          case round =>
            obtain ⟨i, S, rfl, hi, hgi, HK⟩ := hrel
            by_cases hiC : i < C.size
            · obtain ⟨t, ht, htn⟩ := HC.out.2.numlt hiC
              obtain ⟨g6, cap6, hv6, _, hg6⟩ := HK.out.two.come.form (by omega)
              cases hv6
              have hsn := fun (wz : World) (hz : wz.ownsRow 0 35 13 (.slice (some ⟨g6, 0, none⟩) C.size c6) C.size (flatK Sn.cs 13 C).toList) (j : Nat) (hj : j < C.size) => sn_cells (holds_of_owns hz) hj
              have k12 : wr.cell? ⟨g6, i * 13 + 12, none⟩ = some (.int .i64 t) := by rw [← ht]; exact hsn _ HK.out.two.come i hiC 12 _ rfl
              have ks : wr.cell? ⟨g4, t, none⟩ = some (.bool false) := HK.out.not HC.out.2 hiC ht (by omega)
              have kf : wr.frozen? ⟨g4, t, none⟩ = false := HK.out.seen.frozenAt t
              have HK2 := Lib.hid (HK.out.set t ht)
              have HSN := Lib.hid hsn
              clear HK hsn hg6
              go_upto_region 34 with fail
              generalize (wr.setCell ⟨g4, t, none⟩ (.bool true)) = w5 at *
              clear ks kf k12
              go_wp2_with fail
              go_loopg [19] i (fun gk s19 wr => ∃ (j : Nat), s19 = .int .i64 j ∧ j ≤ i ∧ i - j ≤ gk ∧ Hid (Pu w5 wr))
              case atStart => exact ⟨0, by go_num, by omega, by omega, Pu.refl _⟩
              case round =>
                obtain ⟨j, rfl, hj, hgj, HP5⟩ := hrel
                by_cases hji : j < i
                · have hz := (HK2.out.pu HP5.out).two.come
                  have cj := HSN.out _ hz j (by omega)
                  have ci := HSN.out _ hz i hiC
                  have x1 := cj 1 _ rfl
                  have x11 := cj 11 _ rfl
                  have x12 := cj 12 _ rfl
                  have y1 := ci 1 _ rfl
                  have y11 := ci 11 _ rfl
                  have hol := HC.out.2.older hiC hji
                  rw [ht] at hol
                  clear hz cj ci
                  generalize C[j]!.id = ij at *
                  generalize C[j]!.r = rj at *
                  generalize C[j]!.num = nj at *
                  generalize C[i]!.id = ii at *
                  generalize C[i]!.r = ri at *
                  by_cases h1 : ij = ii
                  · have h1' : (ij == ii) = true := by simp [h1]
                    by_cases h2 : rj = ri
                    · have h2' : (rj == ri) = true := by simp [h2]
                      have h3 := hol h1 h2
                      have h3' : decide ((t : Int) < nj) = false := by simp; omega
                      clear hol
                      subst h1
                      subst h2
                      go_wp2_with fail
                      go_quiet (fail)
                      go_wp2_with fail
                      go_roundg (i - (j + 1))
                      case measure => omega
                      case rel => exact ⟨j + 1, by go_num, by omega, by omega, HP5.out.drewN _⟩
                    · have h2' : (rj == ri) = false := by simp [h2]
                      clear hol
                      subst h1
                      go_wp2_with fail
                      go_quiet (fail)
                      go_wp2_with fail
                      go_roundg (i - (j + 1))
                      case measure => omega
                      case rel => exact ⟨j + 1, by go_num, by omega, by omega, HP5.out.drewN _⟩
                  · have h1' : (ij == ii) = false := by simp [h1]
                    clear hol
                    go_wp2_with fail
                    go_quiet (fail)
                    go_wp2_with fail
                    go_roundg (i - (j + 1))
                    case measure => omega
                    case rel => exact ⟨j + 1, by go_num, by omega, by omega, HP5.out.drewN _⟩
                · go_wp2_with fail
                  go_roundg (C.size - (i + 1))
                  case measure => omega
                  case rel => exact ⟨i + 1, _, by go_num, by omega, by omega, HK2.out.pu HP5.out⟩
            · have e : i = C.size := by omega
              subst e
              go_wp2_with (first | (go_at_call 11; refine (count11 HK.out.two.bus.at_).mono ?_; rintro e w6 ⟨rfl, rfl⟩) | (go_at_call 12; refine (works12 _).mono ?_; rintro e w7 ⟨rfl, hb7⟩))
              go_ret
              exact ⟨rfl, HK.out.two.bel.trans (hb7.mono HK.out.two.bel.size)⟩
        · obtain ⟨M, hM⟩ : ∃ M, d.size = M + 1 := ⟨d.size - 1, by omega⟩
          have hN9 := HR.out.2.next hM
          obtain ⟨S, hS⟩ : ∃ S, S = d[0]! := ⟨_, rfl⟩
          rw [← hS] at hN9
          cases S with | mk t0 t1 t2 t3 t4 t5 t6 t7 t8 t9 t10 tr t12 => ?_
          have H9 := Lib.hid (next9e HR.out.1.bus.at_ M hM (by omega) _ _ _ _ _ _ _ _ _ _ _ _ _ hS.symm)
          have hCl : C.size ≤ 301 := by simp at hrs; omega
          have hMg : M + 1 ≤ gk := by omega
          have HN9 := Lib.hid hN9
          clear hN9 hS
          go_wp2_with fail
          refine H9.out.mono ?_
          rintro e w2 ⟨rfl, v3, hb, st⟩
          have HTr := Lib.hid (And.intro (((HR.out.1.step hb st).pu ((Pu.refl w2).alloc (.cells #[.int .i64 t0, .int .u16 t1, .int .i64 t2, .int .u8 t3, .int .u8 t4, .int .u8 t5, .int .u8 t6, .int .u8 t7, .int .u8 t8, .int .u8 t9, .int .u8 t10, .bool tr, .int .i64 t12] 35))).pu ((Pu.refl _).alloc (.cells #[.int .i64 t0, .int .u16 t1, .int .i64 t2, .int .u8 t3, .int .u8 t4, .int .u8 t5, .int .u8 t6, .int .u8 t7, .int .u8 t8, .int .u8 t9, .int .u8 t10, .bool tr, .int .i64 t12] 35))) HN9.out)
          have hnb := World.news_of_block (heap_alloc_new (w2.alloc (.cells #[.int .i64 t0, .int .u16 t1, .int .i64 t2, .int .u8 t3, .int .u8 t4, .int .u8 t5, .int .u8 t6, .int .u8 t7, .int .u8 t8, .int .u8 t9, .int .u8 t10, .bool tr, .int .i64 t12] 35)) (.cells #[.int .i64 t0, .int .u16 t1, .int .i64 t2, .int .u8 t3, .int .u8 t4, .int .u8 t5, .int .u8 t6, .int .u8 t7, .int .u8 t8, .int .u8 t9, .int .u8 t10, .bool tr, .int .i64 t12] 35))
          rw [show (w2.alloc (.cells #[.int .i64 t0, .int .u16 t1, .int .i64 t2, .int .u8 t3, .int .u8 t4, .int .u8 t5, .int .u8 t6, .int .u8 t7, .int .u8 t8, .int .u8 t9, .int .u8 t10, .bool tr, .int .i64 t12] 35)).heap.size = w2.heap.size + 1 from by simp] at hnb
          have HNb := Lib.hid hnb
          clear hnb
          have HEc := Lib.hid (show ∀ u ∈ ([.int .i64 t0, .int .u16 t1, .int .i64 t2, .int .u8 t3, .int .u8 t4, .int .u8 t5, .int .u8 t6, .int .u8 t7, .int .u8 t8, .int .u8 t9, .int .u8 t10, .bool tr, .int .i64 t12] : List Value), u.oneCell' = true from Sn.cs_one ⟨t0, t1, t2, t3, t4, t5, t6, t7, t8, t9, t10, tr, t12⟩)
          have hD3 : (dnL M (swp d 0 M) 0).pop.size = M := by rw [Array.size_pop, size_dnL _ _ _ _ (Nat.le_refl _), size_swp]; omega
          clear HR H9 HN9 hb st
          generalize (dnL M (swp d 0 M) 0).pop = d3 at *
          clear hM
          go_wp2_with (at_builtin; refine wpList_append_lies _ rfl _ _ 26 rfl 0 35 i0 zS 13 48 Try.underlying26 HI.out.1 HI.out.2.1 HI.out.2.2.1 HI.out.2.2.2 rfl (by decide) _ C.size _ rfl HTr.out.1.come ⟨w2.heap.size + 1, 0, none⟩ 1 1 [.int .i64 t0, .int .u16 t1, .int .i64 t2, .int .u8 t3, .int .u8 t4, .int .u8 t5, .int .u8 t6, .int .u8 t7, .int .u8 t8, .int .u8 t9, .int .u8 t10, .bool tr, .int .i64 t12] rfl rfl HNb.out HEc.out (by decide) (by unfold maxLen; omega) (by omega) (Nat.zero_le _) (w2.heap.size + 2) (by simp) ?_; intro g6 cap6 w6 hown6 hgrow6 hat6 _)
          have HT6 := Lib.hid (HTr.out.1.push ⟨t0, t1, t2, t3, t4, t5, t6, t7, t8, t9, t10, tr, t12⟩ hown6 hgrow6 (hat6.imp id (fun h => by simp; omega)))
          clear hown6 hgrow6 hat6
          go_wp2_with fail
          go_roundg M
          case measure => omega
          case rel => exact ⟨v3, d3, _, by omega, HT6.out, by rw [Array.toList_push]; exact HTr.out.2⟩
    · obtain ⟨g0, off0, rfl, hc⟩ := HF.out.keep HR.out.1.bel (show k < L by omega)
      obtain ⟨F, hF⟩ : ∃ F, F = f k := ⟨_, rfl⟩
      rw [← hF] at hc
      cases F with | mk fi fl f0 f1 f2 f3 f4 f5 f6 f7 fr => ?_
      have a0 := hc 0 _ rfl
      have a1 := hc 1 _ rfl
      have a2 := hc 2 _ rfl
      have a3 := hc 3 _ rfl
      have a4 := hc 4 _ rfl
      have a5 := hc 5 _ rfl
      have a6 := hc 6 _ rfl
      have a7 := hc 7 _ rfl
      have a8 := hc 8 _ rfl
      have a9 := hc 9 _ rfl
      have a10 := hc 10 _ rfl
      simp only [Nat.add_zero] at a0
      have HS := Lib.hid (send7o HR.out.1 HR.out.2 (by omega) ((k : Int) % 7) fi fl f0 f1 f2 f3 f4 f5 f6 f7 fr (by omega))
      clear hc hF
      go_upto_if 38 with (go_at_call 7; refine HS.out.mono ?_; rintro e w1 ⟨b, v1, d1, rfl, HR1⟩)
      go_cut [7] from 24 to 84 (fun s7 wx => ∃ (n' : Nat) (v' : Value) (d' : Array Sn), s7 = .int .i64 n' ∧ n' ≤ k + 1 ∧ Hid (Two w wx w.heap.size v' u6 d' C n' ∧ Once d' C.toList n'))
      case first =>
        cases b
        · go_wp2_with fail
          go_meet
          exact ⟨n, v1, d1, rfl, by omega, HR1.out⟩
        · go_wp2_with fail
          go_meet
          exact ⟨n + 1, v1, d1, by go_num, by omega, HR1.out⟩
      case rest =>
        obtain ⟨n1, v2, d2, rfl, hn1, HR2⟩ := hcut
        clear HS a0 a1 a2 a3 a4 a5 a6 a7 a8 a9 a10 HR HR1
        clear v d v1 d1 b
        go_wp2_with fail
        go_loopg [6, 9] 4 (fun gk s6 s9 wr => ∃ (m : Nat) (v : Value) (d C : Array Sn), s9 = .int .i64 m ∧ m ≤ 4 ∧ 4 - m ≤ gk ∧ Hid (Two w wr w.heap.size v s6 d C n1 ∧ Once d C.toList n1))
        case atStart => exact ⟨0, v2, d2, C, by go_num, by omega, by omega, HR2.out⟩
        case round =>
          clear HR2 d2 v2 C
          obtain ⟨m, v, d, C, rfl, hm, hgm, HR⟩ := hrel
          by_cases hi : k < N
          · obtain ⟨g1, off1, rfl, hq1⟩ := HQ.out.keep HR.out.1.bel hi
            have HP8 := Lib.hid (pick8 (q k))
            go_wp2_with (go_at_call 8; refine (HP8.out _).mono ?_; rintro e w1 ⟨⟨p, hp, rfl⟩, rfl⟩)
            · have hrs := HR.out.2.size
              by_cases hd0 : d.size = 0
              · refine (next9none HR.out.1.bus.at_ hd0).mono ?_
                rintro e w2 ⟨rfl, hp9⟩
                have HP9 := Lib.hid hp9
                unfold zS
                clear hp9
                go_wp2_with fail
                go_roundg (L - (k + 1))
                case measure => omega
                case rel => exact ⟨n1, k + 1, v, d, C, by go_num, by go_num, by omega, by omega, by omega, ⟨(HR.out.1.pu HP9.out).pu ((Pu.refl _).alloc _), HR.out.2⟩⟩
              · obtain ⟨M, hM⟩ : ∃ M, d.size = M + 1 := ⟨d.size - 1, by omega⟩
                have hN9 := HR.out.2.next hM
                have hF9 := HR.out.2.first hM
                obtain ⟨S, hS⟩ : ∃ S, S = d[0]! := ⟨_, rfl⟩
                rw [← hS] at hN9 hF9
                cases S with | mk t0 t1 t2 t3 t4 t5 t6 t7 t8 t9 t10 tr t12 => ?_
                refine (next9e HR.out.1.bus.at_ M hM (by omega) _ _ _ _ _ _ _ _ _ _ _ _ _ hS.symm).mono ?_
                rintro e w2 ⟨rfl, v3, hb, st⟩
                have HT9 := Lib.hid (And.intro (HR.out.1.step hb st) hN9)
                have HF9 := Lib.hid hF9
                have hMl : M ≤ 301 := by omega
                have hCl : C.size ≤ 301 := by simp at hrs; omega
                have hD3 : (dnL M (swp d 0 M) 0).pop.size = M := by rw [Array.size_pop, size_dnL _ _ _ _ (Nat.le_refl _), size_swp]; omega
                generalize (dnL M (swp d 0 M) 0).pop = d3 at *
                clear hN9 hF9 hb st hM hS HR
                go_wp2_with fail
                obtain ⟨w3, hw3⟩ : ∃ w3, w3 = w2.alloc (.cells #[.int .i64 t0, .int .u16 t1, .int .i64 t2, .int .u8 t3, .int .u8 t4, .int .u8 t5, .int .u8 t6, .int .u8 t7, .int .u8 t8, .int .u8 t9, .int .u8 t10, .bool tr, .int .i64 t12] 35) := ⟨_, rfl⟩
                rw [← hw3]
                have hbx : w3.heap[w2.heap.size]? = some (.cells #[.int .i64 t0, .int .u16 t1, .int .i64 t2, .int .u8 t3, .int .u8 t4, .int .u8 t5, .int .u8 t6, .int .u8 t7, .int .u8 t8, .int .u8 t9, .int .u8 t10, .bool tr, .int .i64 t12] 35) := by rw [hw3]; exact heap_alloc_new w2 _
                have HT3 := Lib.hid (And.intro (show Two w w3 w.heap.size v3 u6 d3 (C) n1 by rw [hw3]; exact HT9.out.1.pu ((Pu.refl _).alloc _)) HT9.out.2)
                clear hw3 HT9
                refine (waits10 HT3.out.1.bus.at_ (by omega)).mono ?_
                rintro e w5 ⟨v5, D, rfl, hDs, hDp, _, hDo, hDf, hDb⟩
                obtain ⟨A5, c5, rfl⟩ : ∃ A5 c5, v5 = .slice A5 M c5 := by
                  rcases hDo.2 with ⟨rfl, h0⟩ | ⟨g, cap, cur, rfl, _⟩
                  · rw [hDs] at h0; exact ⟨none, 0, by rw [← hD3, h0]⟩
                  · exact ⟨_, cap, by rw [hDs, hD3]⟩
                have hbx5 : w5.heap[w2.heap.size]? = some (.cells #[.int .i64 t0, .int .u16 t1, .int .i64 t2, .int .u8 t3, .int .u8 t4, .int .u8 t5, .int .u8 t6, .int .u8 t7, .int .u8 t8, .int .u8 t9, .int .u8 t10, .bool tr, .int .i64 t12] 35) := (hDb.block _ (lt_of_block hbx)).trans hbx
                have HB5 := Lib.hid hbx5
                have HT5 := Lib.hid (And.intro (HT3.out.1.blw hDb) HT3.out.2)
                have HD5 := Lib.hid (And.intro hDo (And.intro (show ∀ x ∈ D.toList, t1 ≤ x.id from fun x hx => HF9.out x (hDp.mem_iff.1 hx)) (hDs.trans hD3)))
                clear hbx hbx5 HT3 HF9 hDo hDp hDf hDb hDs
                go_wp2_with fail
                go_loopg [13] M (fun gk s13 wr => ∃ (j : Nat), s13 = .int .i64 j ∧ j ≤ M ∧ M - j ≤ gk ∧ Hid (Pu w5 wr))
                case atStart => exact ⟨0, by go_num, by omega, by omega, Pu.refl _⟩
                case round =>
                  obtain ⟨j, rfl, hj, hgj, HP5⟩ := hrel
                  by_cases hjM : j < M
                  · obtain ⟨g5, cap5, hv5, _, hgl⟩ := HD5.out.1.form (by rw [HD5.out.2.2]; omega)
                    rw [HD5.out.2.2] at hv5
                    cases hv5
                    have hDo := HD5.out.1
                    rw [HD5.out.2.2] at hDo
                    have hsn := sn_cells (holds_of_owns (w := w5) (g := g5) (cap := c5) (d := D) (by rw [HD5.out.2.2]; exact hDo)) (k := j) (by rw [HD5.out.2.2]; exact hjM) 1 _ rfl
                    have hge : t1 ≤ D[j]!.id := HD5.out.2.1 _ (by rw [getElem!_pos D j (by rw [HD5.out.2.2]; exact hjM)]; simp)
                    have b1 : w5.cell? ⟨w2.heap.size, 1, none⟩ = some (.int .u16 t1) := by simp [World.cell?, HB5.out]
                    obtain ⟨bc, _⟩ := bcell HP5.out.below
                    rw [← bc _ _ hgl] at hsn
                    rw [← bc _ _ (lt_of_block HB5.out)] at b1
                    clear bc hDo
                    generalize D[j]!.id = z at hsn hge
                    have hlt : decide (z < t1) = false := by simp; omega
                    go_wp2_with fail
                    go_quiet (fail)
                    go_wp2_with fail
                    go_roundg (M - (j + 1))
                    case measure => omega
                    case rel => exact ⟨j + 1, by go_num, by omega, by omega, HP5.out.drewN _⟩
                  · have hbw : wr.heap[w2.heap.size]? = some (.cells #[.int .i64 t0, .int .u16 t1, .int .i64 t2, .int .u8 t3, .int .u8 t4, .int .u8 t5, .int .u8 t6, .int .u8 t7, .int .u8 t8, .int .u8 t9, .int .u8 t10, .bool tr, .int .i64 t12] 35) := (HP5.out.below.block _ (lt_of_block HB5.out)).trans HB5.out
                    have b0 : wr.cell? ⟨w2.heap.size, 0, none⟩ = some (.int .i64 t0) := by simp [World.cell?, hbw]
                    have b1 : wr.cell? ⟨w2.heap.size, 1, none⟩ = some (.int .u16 t1) := by simp [World.cell?, hbw]
                    have b2 : wr.cell? ⟨w2.heap.size, 2, none⟩ = some (.int .i64 t2) := by simp [World.cell?, hbw]
                    have b3 : wr.cell? ⟨w2.heap.size, 3, none⟩ = some (.int .u8 t3) := by simp [World.cell?, hbw]
                    have b4 : wr.cell? ⟨w2.heap.size, 4, none⟩ = some (.int .u8 t4) := by simp [World.cell?, hbw]
                    have b5 : wr.cell? ⟨w2.heap.size, 5, none⟩ = some (.int .u8 t5) := by simp [World.cell?, hbw]
                    have b6 : wr.cell? ⟨w2.heap.size, 6, none⟩ = some (.int .u8 t6) := by simp [World.cell?, hbw]
                    have b7 : wr.cell? ⟨w2.heap.size, 7, none⟩ = some (.int .u8 t7) := by simp [World.cell?, hbw]
                    have b8 : wr.cell? ⟨w2.heap.size, 8, none⟩ = some (.int .u8 t8) := by simp [World.cell?, hbw]
                    have b9 : wr.cell? ⟨w2.heap.size, 9, none⟩ = some (.int .u8 t9) := by simp [World.cell?, hbw]
                    have b10 : wr.cell? ⟨w2.heap.size, 10, none⟩ = some (.int .u8 t10) := by simp [World.cell?, hbw]
                    have b11 : wr.cell? ⟨w2.heap.size, 11, none⟩ = some (.bool tr) := by simp [World.cell?, hbw]
                    have b12 : wr.cell? ⟨w2.heap.size, 12, none⟩ = some (.int .i64 t12) := by simp [World.cell?, hbw]
                    have HTr := Lib.hid (And.intro ((HT5.out.1.pu HP5.out).pu ((Pu.refl wr).alloc (.cells #[.int .i64 t0, .int .u16 t1, .int .i64 t2, .int .u8 t3, .int .u8 t4, .int .u8 t5, .int .u8 t6, .int .u8 t7, .int .u8 t8, .int .u8 t9, .int .u8 t10, .bool tr, .int .i64 t12] 35))) HT5.out.2)
                    have HNb := Lib.hid (World.news_of_block (heap_alloc_new wr (.cells #[.int .i64 t0, .int .u16 t1, .int .i64 t2, .int .u8 t3, .int .u8 t4, .int .u8 t5, .int .u8 t6, .int .u8 t7, .int .u8 t8, .int .u8 t9, .int .u8 t10, .bool tr, .int .i64 t12] 35)))
                    have HEc := Lib.hid (show ∀ u ∈ ([.int .i64 t0, .int .u16 t1, .int .i64 t2, .int .u8 t3, .int .u8 t4, .int .u8 t5, .int .u8 t6, .int .u8 t7, .int .u8 t8, .int .u8 t9, .int .u8 t10, .bool tr, .int .i64 t12] : List Value), u.oneCell' = true from Sn.cs_one ⟨t0, t1, t2, t3, t4, t5, t6, t7, t8, t9, t10, tr, t12⟩)
                    clear hbw HT5 HB5 HD5
                    go_wp2_with (at_builtin; refine wpList_append_lies _ rfl _ _ 26 rfl 0 35 i0 zS 13 48 Try.underlying26 HI.out.1 HI.out.2.1 HI.out.2.2.1 HI.out.2.2.2 rfl (by decide) _ C.size _ rfl HTr.out.1.come ⟨wr.heap.size, 0, none⟩ 1 1 [.int .i64 t0, .int .u16 t1, .int .i64 t2, .int .u8 t3, .int .u8 t4, .int .u8 t5, .int .u8 t6, .int .u8 t7, .int .u8 t8, .int .u8 t9, .int .u8 t10, .bool tr, .int .i64 t12] rfl rfl HNb.out HEc.out (by decide) (by unfold maxLen; omega) (by omega) (Nat.zero_le _) _ rfl ?_; intro g6 cap6 w6 hown6 hgrow6 hat6 _)
                    have HT6 := Lib.hid (HTr.out.1.push ⟨t0, t1, t2, t3, t4, t5, t6, t7, t8, t9, t10, tr, t12⟩ hown6 hgrow6 (hat6.imp id (fun h => by omega)))
                    clear hown6 hgrow6 hat6
                    go_wp2_with fail
                    go_roundg (4 - (m + 1))
                    case measure => omega
                    case rel => exact ⟨m + 1, v3, d3, _, by go_num, by omega, by omega, HT6.out, by rw [Array.toList_push]; exact HTr.out.2⟩
            · go_roundg (L - (k + 1))
              case measure => omega
              case rel => exact ⟨n1, k + 1, v, d, C, by go_num, by go_num, by omega, by omega, by omega, HR.out⟩
          · go_wp2_with fail
            go_roundg (L - (k + 1))
            case measure => omega
            case rel => exact ⟨n1, k + 1, v, d, C, by go_num, by go_num, by omega, by omega, by omega, HR.out⟩
end Go.Proofs.Ythmfibgjemnlbaa

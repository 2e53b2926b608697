/- Bus (layer 4): BusPlays: the walk. -/
import Derived.Test.YthmfibgjemnlbaaB38
import Derived.Test.YthmfibgjemnlbaaB33
import Derived.Deep.LoopGhost
import Derived.Deep.Cut
import Derived.Deep.CutRange
import Derived.Deep.DeepCutAuto
namespace Go.Proofs.Ythmfibgjemnlbaa
open Go.RowKit Go.Sort Go.Shelf Go.Lib
set_option linter.unusedVariables false
theorem Left.mono {w w' : World} {bb rb n : Nat} {v : Value} {num k k' : Int} (h : Left w w' bb v rb num k n) (hk : k ≤ k') : Left w w' bb v rb num k' n := by
  obtain ⟨v', d', A', c', L', num', h1, h2, h3, h4, h5⟩ := h
  exact ⟨v', d', A', c', L', num', h1, h2, h3, by omega, h5⟩
theorem one15 {w : World} {bb rb c : Nat} {v : Value} {A : Option Addr} {d L : Array Sn} {num : Int} (h : Pair w bb v d rb A c L num) (hd : d.size < 900000) (hnum : 0 ≤ num ∧ num < 900000000) (kind node id len d0 d1 d2 d3 d4 d5 d6 d7 : Int) (r : Bool) (times : Int) :
    Calls Try.prog 15 #[.pointer (some ⟨bb, 0, none⟩), .pointer (some ⟨rb, 0, none⟩), stagg kind node id len d0 d1 d2 d3 d4 d5 d6 d7 r times] w fun e w' => e = .returned (.bool true) ∧ Left w w' bb v rb num 600 d.size := by
  have h1 := pk_lt (i := kind) (n := 6) (by decide)
  have h2 := pk_lt (i := times) (n := 600) (by decide)
  have h3 : (pk kind 6 = 0 ∨ pk kind 6 = 1) ∨ (pk kind 6 = 2 ∨ pk kind 6 = 3) ∨ pk kind 6 = 4 ∨ pk kind 6 = 5 := by omega
  rcases h3 with h3 | h3 | h3 | h3
  · exact (one15send h hnum kind node id len d0 d1 d2 d3 d4 d5 d6 d7 r times h3).mono fun e w' ⟨a, b⟩ => ⟨a, b.mono (by omega)⟩
  · exact (one15next h hd kind node id len d0 d1 d2 d3 d4 d5 d6 d7 r times h3).mono fun e w' ⟨a, b⟩ => ⟨a, b.mono (by omega)⟩
  · exact (one15gone h hd kind node id len d0 d1 d2 d3 d4 d5 d6 d7 r times h3).mono fun e w' ⟨a, b⟩ => ⟨a, b.mono (by omega)⟩
  · exact (one15copy h kind node id len d0 d1 d2 d3 d4 d5 d6 d7 r times h3).mono fun e w' ⟨a, b⟩ => ⟨a, b.mono (by omega)⟩
/-- What the loop keeps. -/
def PlaysI (w wr : World) (bb rb bl rl : Nat) (B : Int) : Prop := ∃ v d A c Ls num, Cur w wr bb v d rb A c Ls num B ∧ Olds wr bb v rb bl rl
theorem PlaysI.bel {w wr : World} {bb rb bl rl : Nat} {B : Int} (h : PlaysI w wr bb rb bl rl B) : Below w.heap.size w wr := by
  obtain ⟨v, d, A, c, Ls, num, h1, h2⟩ := h
  exact h1.bel
theorem PlaysI.one {w wr : World} {bb rb bl rl : Nat} {B : Int} (h : PlaysI w wr bb rb bl rl B) (hB : B < 900000) (kind node id len d0 d1 d2 d3 d4 d5 d6 d7 : Int) (r : Bool) (times : Int) :
    Calls Try.prog 15 #[.pointer (some ⟨bb, 0, none⟩), .pointer (some ⟨rb, 0, none⟩), stagg kind node id len d0 d1 d2 d3 d4 d5 d6 d7 r times] wr fun e w' => e = .returned (.bool true) ∧ Hid (PlaysI w w' bb rb bl rl (B + 600)) := by
  obtain ⟨v, d, A, c, Ls, num, h1, h2⟩ := h
  have g1 := h1.n0
  have g2 := h1.nB
  have g3 := h1.cnt
  refine (one15 h1.pair (by omega) (by omega) kind node id len d0 d1 d2 d3 d4 d5 d6 d7 r times).mono ?_
  rintro e w' ⟨rfl, v', d', A', c', L', num', p, m, k1, k2, k3⟩
  exact ⟨rfl, v', d', A', c', L', num', h1.move p m k1 k3 _ (by omega), h2.move h1.pair m⟩
theorem PlaysI.same {w wr : World} {bb rb bl rl : Nat} {B : Int} (h : PlaysI w wr bb rb bl rl B) (hB : B < 900000) :
    Calls Try.prog 16 #[.pointer (some ⟨bb, 0, none⟩), .pointer (some ⟨rb, 0, none⟩)] wr fun e w' => e = .returned (.bool true) ∧ Hid (PlaysI w w' bb rb bl rl B) := by
  obtain ⟨v, d, A, c, Ls, num, h1, h2⟩ := h
  have g1 := h1.n0
  have g2 := h1.nB
  have g3 := h1.cnt
  refine (same16 h1.pair.bus h1.pair.ref h1.pair.play (by omega)).mono ?_
  rintro e w' ⟨rfl, hb⟩
  exact ⟨rfl, v, d, A, c, Ls, num, h1.blw hb, h2.blw hb⟩
theorem PlaysI.left {w wr : World} {bb rb bl rl : Nat} {B : Int} (h : PlaysI w wr bb rb bl rl B) (hB : B < 900000) :
    Calls Try.prog 16 #[.pointer (some ⟨bl, 0, none⟩), .pointer (some ⟨rl, 0, none⟩)] wr fun e w' => e = .returned (.bool true) ∧ Below w.heap.size w w' := by
  obtain ⟨v, d, A, c, Ls, num, h1, h2⟩ := h
  have g1 := h1.n0
  have g2 := h1.nB
  have g3 := h1.cnt
  rcases h2 with ⟨rfl, rfl⟩ | h2
  · refine (same16 h1.pair.bus h1.pair.ref h1.pair.play (by omega)).mono ?_
    rintro e w' ⟨rfl, hb⟩
    exact ⟨rfl, h1.bel.trans (hb.mono h1.bel.size)⟩
  · obtain ⟨vl, dl, Al, cl, Ll, nl, p, hd, _⟩ := h2.ex
    refine (same16 p.bus p.ref p.play hd).mono ?_
    rintro e w' ⟨rfl, hb⟩
    exact ⟨rfl, h1.bel.trans (hb.mono h1.bel.size)⟩
theorem PlaysI.copyA {w wr : World} {bb rb bl rl : Nat} {B : Int} (h : PlaysI w wr bb rb bl rl B) (hB : B < 900000) :
    Calls Try.prog 13 #[.pointer (some ⟨bb, 0, none⟩)] wr fun e w1 => ∃ bb', e = .returned (.pointer (some ⟨bb', 0, none⟩)) ∧
      Hid (Calls Try.prog 14 #[.pointer (some ⟨rb, 0, none⟩)] w1 fun e w2 => ∃ rb', e = .returned (.pointer (some ⟨rb', 0, none⟩)) ∧ Hid (PlaysI w w2 bb' rb' bb rb B)) := by
  obtain ⟨v, d, A, c, Ls, num, h1, h2⟩ := h
  have g1 := h1.n0
  have g2 := h1.nB
  have g3 := h1.cnt
  have g4 := h1.pair.play.size
  refine (copy13 h1.pair.bus (by omega)).mono ?_
  rintro e w1 ⟨⟨bb', v', rfl, k1, k2, k3⟩, b1⟩
  refine ⟨bb', rfl, ?_⟩
  refine (copy14 (h1.pair.blw b1).ref (by omega)).mono ?_
  rintro e w2 ⟨⟨rb', A', c', rfl, k4, k5⟩, b2⟩
  obtain ⟨m1, m2⟩ := h1.copied hB k1 k2 k3 b1 k4 k5 b2
  exact ⟨rb', rfl, v', d, A', c', Ls, num, m1, m2⟩
theorem RefAt.new (w : World) (num : Int) : RefAt (w.alloc (.cells #[.slice none 0 0, .int .i64 num] 49)) w.heap.size none 0 #[] num :=
  ⟨heap_alloc_new w _, by simp, .inl ⟨rfl, rfl, rfl⟩⟩
theorem PlaysI.new (w : World) : PlaysI w ((w.alloc (.cells #[.slice none 0 0, .int .i64 0] 61)).alloc (.cells #[.slice none 0 0, .int .i64 0] 49)) w.heap.size (w.heap.size + 1) w.heap.size (w.heap.size + 1) (600 * ((0 : Nat) : Int)) := by
  have hr := RefAt.new (w.alloc (.cells #[.slice none 0 0, .int .i64 0] 61)) 0
  rw [show (w.alloc (.cells #[.slice none 0 0, .int .i64 0] 61)).heap.size = w.heap.size + 1 by simp] at hr
  refine ⟨.slice none 0 0, #[], none, 0, #[], 0, ⟨⟨(BusAt.new w).keep (Fr.pu ((Pu.refl _).alloc _)) (fun h => h) (fun _ _ h => h), hr, Play.new⟩, Nat.le_refl _, fun g h => by simp [Value.ownBlock] at h, by omega, Int.le_refl _, by omega, by simp, ?_⟩, .inl ⟨rfl, rfl⟩⟩
  exact ((Below.refl w.heap.size w).alloc (Nat.le_refl _) _).alloc (by simp) _
set_option maxHeartbeats 4000000 in
set_option maxRecDepth 100000 in
theorem busPlays4 (w : World) (A0 : Option Addr) (L c0 : Nat) (f : Nat → St) (hL : L ≤ 9223372036854775807) (hf : SIn w A0 L f) :
    Calls Try.prog 4 #[.slice A0 L c0] w fun e w' => e = .returned (.bool true) ∧ Below w.heap.size w w' := by
  have HF := Lib.hid hf
  have HN := Lib.hid (PlaysI.new w)
  clear hf
  go_enter Try.func4, Try.ntmps4
  go_wp2_with fail
  go_loopg [3, 4] 62 (fun gk s3 s4 wr => ∃ (i : Nat) (n : Int), s3 = .int .i64 n ∧ s4 = .int .i64 i ∧ i ≤ L ∧ i ≤ 61 ∧ 62 - i ≤ gk ∧ 0 ≤ n ∧ n ≤ 600 * i ∧ w = wr)
  case atStart => exact ⟨0, 0, by go_num, by go_num, by omega, by omega, by omega, by omega, by omega, rfl⟩
  case round =>
    obtain ⟨i, n, rfl, rfl, hi, hi2, hgi, hn0, hn1, rfl⟩ := hrel
    by_cases hlt : i < L ∧ i ≤ 60
    · obtain ⟨hlt, hle⟩ := hlt
      obtain ⟨g0, off0, rfl, hg0, hc⟩ := HF.out i hlt
      have a13 := hc 13 _ rfl
      clear hc
      have HP := Lib.hid (pick600 (f i).times)
      have hpl := pk_lt (i := (f i).times) (n := 600) (by decide)
      generalize (f i).times = tm at *
      generalize pk tm 600 = pt at *
      go_wp2_with (go_at_call 8; refine (HP.out _).mono ?_; rintro e w1 ⟨rfl, rfl⟩)
      go_roundg (62 - (i + 1))
      case measure => omega
      case rel => exact ⟨i + 1, n + pt, by go_num, by go_num, by omega, by omega, by omega, by omega, by omega, rfl⟩
    · by_cases hL60 : L ≤ 60
      · have ei : L = i := by omega
        subst ei
        by_cases hn : 1500 < n
        · go_wp2_with (go_at_call 12; refine (works12 _).mono ?_; rintro e w1 ⟨rfl, hb⟩)
          go_ret
          exact ⟨rfl, hb⟩
        · clear hlt hi hgi
          go_wp2_with (go_at_call 6; refine (new6 _).mono ?_; rintro e w1 ⟨rfl, rfl⟩)
          go_loopg [5, 6, 7, 8, 9] L (fun gk s5 s6 s7 s8 s9 wr => ∃ (i bb rb bl rl : Nat), s5 = .pointer (some ⟨bb, 0, none⟩) ∧ s6 = .pointer (some ⟨rb, 0, none⟩) ∧ s7 = .pointer (some ⟨bl, 0, none⟩) ∧ s8 = .pointer (some ⟨rl, 0, none⟩) ∧ s9 = .int .i64 i ∧ i ≤ L ∧ L - i ≤ gk ∧ Hid (PlaysI w wr bb rb bl rl (600 * i)))
          case atStart => exact ⟨0, _, _, _, _, rfl, rfl, rfl, rfl, by go_num, by omega, by omega, HN.out⟩
          case round =>
            obtain ⟨i, bb, rb, bl, rl, rfl, rfl, rfl, rfl, rfl, hi, hgi, HI⟩ := hrel
            by_cases hlt : i < L
            · obtain ⟨g0, off0, rfl, hc⟩ := HF.out.keep HI.out.bel hlt
              have a0 := hc 0 _ rfl
              simp only [Nat.add_zero] at a0
              clear hc
              have HP := Lib.hid (pick6 (f i).kind)
              have HKF := Lib.hid (show f i = f i from rfl)
              generalize (f i).kind = kd at *
              generalize pk kd 6 = p at *
              go_upto_if 53 with (go_at_call 8; refine (HP.out _).mono ?_; rintro e w1 ⟨rfl, rfl⟩)
              go_cut [5, 6, 7, 8] from 41 to 77 (fun s5 s6 s7 s8 wx => ∃ (bb rb bl rl : Nat), s5 = .pointer (some ⟨bb, 0, none⟩) ∧ s6 = .pointer (some ⟨rb, 0, none⟩) ∧ s7 = .pointer (some ⟨bl, 0, none⟩) ∧ s8 = .pointer (some ⟨rl, 0, none⟩) ∧ Hid (PlaysI w wx bb rb bl rl (600 * i)))
              case first =>
                by_cases hp : p = 5
                · subst hp
                  go_wp2_with fail
                  refine (HI.out.copyA (by omega)).mono ?_
                  rintro e w1 ⟨bb', rfl, H14⟩
                  go_wp2_with fail
                  refine H14.out.mono ?_
                  rintro e w2 ⟨rb', rfl, HI2⟩
                  go_wp2_with fail
                  go_meet
                  exact ⟨_, _, _, _, rfl, rfl, rfl, rfl, HI2.out⟩
                · have hp' : (p == 5) = false := by simpa using hp
                  go_wp2_with fail
                  go_meet
                  exact ⟨_, _, _, _, rfl, rfl, rfl, rfl, HI.out⟩
              case rest =>
                clear HI a0 HP HKF
                clear bb rb bl rl
                obtain ⟨bb, rb, bl, rl, rfl, rfl, rfl, rfl, HI⟩ := hcut
                obtain ⟨g1, off1, hA1, hc⟩ := HF.out.keep HI.out.bel hlt
                cases hA1
                obtain ⟨F, hF⟩ : ∃ F, F = f i := ⟨_, rfl⟩
                rw [← hF] at hc
                cases F with | mk t0 t1 t2 t3 t4 t5 t6 t7 t8 t9 t10 t11 t12 t13 => ?_
                have a0 := hc 0 _ rfl
                have a1 := hc 1 _ rfl
                have a2 := hc 2 _ rfl
                have a3 := hc 3 _ rfl
                have a4 := hc 4 _ rfl
                have a5 := hc 5 _ rfl
                have a6 := hc 6 _ rfl
                have a7 := hc 7 _ rfl
                have a8 := hc 8 _ rfl
                have a9 := hc 9 _ rfl
                have a10 := hc 10 _ rfl
                have a11 := hc 11 _ rfl
                have a12 := hc 12 _ rfl
                have a13 := hc 13 _ rfl
                simp only [Nat.add_zero] at a0
                have H15 := Lib.hid (HI.out.one (by omega) t0 t1 t2 t3 t4 t5 t6 t7 t8 t9 t10 t11 t12 t13)
                clear hc hF
                go_wp2_with (go_at_call 15; refine H15.out.mono ?_; rintro e w3 ⟨rfl, HI3⟩; clear a0 a1 a2 a3 a4 a5 a6 a7 a8 a9 a10 a11 a12 a13)
                refine (HI3.out.same (by omega)).mono ?_
                rintro e w4 ⟨rfl, HI4⟩
                go_wp2_with fail
                go_roundg (L - (i + 1))
                case measure => omega
                case rel =>
                  have HI5 : PlaysI w w4 bb rb bl rl (600 * ((i + 1 : Nat) : Int)) := by
                    rw [show 600 * ((i + 1 : Nat) : Int) = 600 * (i : Int) + 600 by omega]
                    exact HI4.out
                  exact ⟨i + 1, bb, rb, bl, rl, rfl, rfl, rfl, rfl, by go_num, by omega, by omega, HI5⟩
            · have ei : L = i := by omega
              subst ei
              go_wp2_with fail
              refine (HI.out.left (by omega)).mono ?_
              rintro e w1 ⟨rfl, hb1⟩
              have HB1 := Lib.hid hb1
              clear hb1
              go_wp2_with (go_at_call 12; refine (works12 _).mono ?_; rintro e w2 ⟨rfl, hb2⟩; have HB2 := Lib.hid hb2; clear hb2)
              go_ret
              exact ⟨rfl, HB1.out.trans (HB2.out.mono HB1.out.size)⟩
      · have ei : i = 61 := by omega
        subst ei
        by_cases h61 : 61 < L
        · go_wp2_with (go_at_call 12; refine (works12 _).mono ?_; rintro e w1 ⟨rfl, hb⟩)
          go_ret
          exact ⟨rfl, hb⟩
        · go_wp2_with (go_at_call 12; refine (works12 _).mono ?_; rintro e w1 ⟨rfl, hb⟩)
          go_ret
          exact ⟨rfl, hb⟩
end Go.Proofs.Ythmfibgjemnlbaa

/- Bus (layer 4): Gone. -/
import Derived.Test.YthmfibgjemnlbaaB30
import Derived.Test.YthmfibgjemnlbaaB27
namespace Go.Proofs.Ythmfibgjemnlbaa
open Go.RowKit Go.Sort Go.Shelf Go.Lib
set_option linter.unusedVariables false
theorem BusAt.setRow {w : World} {bb : Nat} {v0 v : Value} {num : Int} {K : Array Sn} (hb : w.heap[bb]? = some (.cells #[v0, .int .i64 num] 61)) (ho : w.ownsRow 0 35 13 v K.size (flatK Sn.cs 13 K).toList) : BusAt (w.setCell ⟨bb, 0, none⟩ v) bb v K num := by
  have f : Fr w (w.setCell ⟨bb, 0, none⟩ v) (fun i => i = bb) := (Fr.refl w _).setCell _ _ (fun _ => rfl)
  refine ⟨heap_setCell_same w bb 0 _ _ _ hb, f.owns ho ?_⟩
  intro g hg e
  subst e
  rcases ho.2 with ⟨rfl, _⟩ | ⟨g', cap, cur, rfl, _, hh, _⟩
  · simp [Value.ownBlock] at hg
  · simp [Value.ownBlock] at hg
    subst hg
    rw [hb] at hh
    cases hh
set_option maxHeartbeats 4000000 in
set_option maxRecDepth 100000 in
theorem gone17 {w : World} {bb : Nat} {v : Value} {d : Array Sn} {num : Int} (h : BusAt w bb v d num) (hd : d.size < 900000) (node : Int) :
    Calls Try.prog 17 #[.pointer (some ⟨bb, 0, none⟩), .int .i64 node] w fun e w' => e = .returned (.int .i64 ((d.size : Int) - ((keepL node d d.size).size : Int))) ∧
      ∃ v', BusAt w' bb v' (initL (keepL node d d.size).size ((keepL node d d.size).size / 2) (keepL node d d.size)) num ∧ Step w w' bb v v' := by
  obtain ⟨A, c, rfl⟩ := h.shape
  have hlt := lt_of_block h.b
  have hk := h.keep (Fr.pu ((Pu.refl w).alloc (.cells #[.int .i64 node] 3))) (fun h => h) (fun _ _ h => h)
  have HH := Lib.hid (And.intro h hk)
  have HL := Lib.hid (len19 hk)
  have c0 : w.cell? ⟨bb, 0, none⟩ = some (.slice A d.size c) := by have := h.b; simp [World.cell?, this]
  have hown : (Value.slice A d.size c).ownBlock ≠ some w.heap.size := fun e => by have := h.rlt e; omega
  have HD := Lib.hid (delete29 (nb := w.heap.size) (node := node) hk.o (by simp) (by simp) hown hd)
  have hks := size_keepL node d d.size
  clear h hk hown
  go_enter Try.func17, Try.ntmps17
  go_wp2_with fail
  refine HL.out.mono ?_
  rintro e w1x ⟨rfl, rfl⟩
  go_wp2_with fail
  refine HD.out.mono ?_
  rintro e w2 ⟨v2, rfl, ho2, hob2, hfr2⟩
  have hb2 : w2.heap[bb]? = some (.cells #[.slice A d.size c, .int .i64 num] 61) := hfr2.heap HH.out.2.b (fun e => HH.out.2.ne e)
  have e0 : w2.cell? ⟨bb, 0, none⟩ = some (.slice A d.size c) := by simp [World.cell?, hb2]
  have e1 : w2.frozen? ⟨bb, 0, none⟩ = false := by simp [World.frozen?, hb2]
  have hB3 := BusAt.setRow hb2 ho2
  have f3 : Fr w (w2.setCell ⟨bb, 0, none⟩ v2) (fun i => i = bb ∨ (Value.slice A d.size c).ownBlock = some i) :=
    ((((Fr.refl w _).alloc (.cells #[.int .i64 node] 3)).trans hfr2 (fun i _ h => .inr h))).setCell _ _ (fun _ => .inl rfl)
  obtain ⟨A2, c2, rfl⟩ := own_form ho2
  have HX := Lib.hid (And.intro hB3 (And.intro f3 hob2))
  have hlt2 := lt_of_block hb2
  clear hb2 hB3 f3 ho2 hob2 hfr2 HD HL c0
  go_upto_region 5 with fail
  generalize (w2.setCell ⟨bb, 0, none⟩ (.slice A2 (keepL node d d.size).size c2)) = w3 at *
  have HIn := Lib.hid (init31 HX.out.1 (by omega))
  go_wp2_with fail
  refine HIn.out.mono ?_
  rintro e w4 ⟨rfl, hb4, st4⟩
  have HL4 := Lib.hid (len19 hb4)
  have hsi := size_initL (keepL node d d.size).size ((keepL node d d.size).size / 2) (keepL node d d.size)
  rw [hsi] at HL4
  have HY := Lib.hid (And.intro hb4 st4)
  clear hb4 st4 HIn hsi
  go_wp2_with fail
  refine HL4.out.mono ?_
  rintro e w5 ⟨rfl, rfl⟩
  go_wp2_with fail
  go_ret
  refine ⟨rfl, _, HY.out.1, ⟨HX.out.2.1.trans HY.out.2.f ?_, .inl HX.out.2.2⟩⟩
  intro i hi e
  rcases e with e | e
  · exact .inl e
  · exact .inr (HX.out.2.2 ▸ e)
end Go.Proofs.Ythmfibgjemnlbaa

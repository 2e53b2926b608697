/- Bus (layer 4): New, Send. -/
import Derived.Test.YthmfibgjemnlbaaB13
import Derived.Test.YthmfibgjemnlbaaB11
import Derived.Test.YthmfibgjemnlbaaB08
import Derived.Deep.RegionWith
namespace Go.Proofs.Ythmfibgjemnlbaa
open Go.RowKit Go.Sort Go.Shelf
set_option linter.unusedVariables false

theorem ret_int {k : IntKind} {a b : Int} (h : a = b) : Ending.returned (.int k a) = .returned (.int k b) := by rw [h]
set_option maxHeartbeats 400000 in
theorem new6 (w : World) : Calls Try.prog 6 #[] w fun e w' => e = .returned (.pointer (some ⟨w.heap.size, 0, none⟩)) ∧ w' = w.alloc (.cells #[.slice none 0 0, .int .i64 0] 61) := by
  go_enter Try.func6, Try.ntmps6
  go_wp2
  go_ret
  exact ⟨rfl, rfl⟩

def Sn.frame (s : Sn) : Value := fagg s.id s.len s.d0 s.d1 s.d2 s.d3 s.d4 s.d5 s.d6 s.d7 s.r
def Sn.right (s : Sn) : Bool := rtB s.id s.len s.d0 s.d1 s.d2 s.d3 s.d4 s.d5 s.d6 s.d7 s.r
set_option maxHeartbeats 1000000 in
set_option maxRecDepth 100000 in
theorem send7 {w : World} {bb : Nat} {v : Value} {d : Array Sn} {num : Int} (h : BusAt w bb v d num) (s : Sn) (hn : num = s.num) (h0 : 0 ≤ s.node) (hr : s.right = true) (hd : d.size < 512) (hnum : 0 ≤ num ∧ num < 1000000000) :
    Calls Try.prog 7 #[.pointer (some ⟨bb, 0, none⟩), .int .i64 s.node, s.frame] w fun e w' => e = .returned (.int .i64 0) ∧ ∃ v', BusAt w' bb v' (upL (d.push s) d.size) (num + 1) ∧ Step w w' bb v v' := by
  have H := Lib.hid h
  have cR := right18 s.id s.len s.d0 s.d1 s.d2 s.d3 s.d4 s.d5 s.d6 s.d7 s.r
  rw [show rtB s.id s.len s.d0 s.d1 s.d2 s.d3 s.d4 s.d5 s.d6 s.d7 s.r = true from hr] at cR
  have HR := Lib.hid cR
  have hbb := lt_of_block h.b
  have c1 : w.cell? ⟨bb, 1, none⟩ = some (.int .i64 num) := by have := h.b; simp [World.cell?, this]
  clear h cR hr
  subst hn
  unfold Sn.frame
  go_enter Try.func7, Try.ntmps7
  go_wp2_with fail
  refine (HR.out _).mono ?_
  rintro e w1 ⟨rfl, hp⟩
  have hst : BusAt w1 bb v d s.num ∧ Step w w1 bb v v := by
    have f := Fr.pu (((Pu.refl w).alloc _).trans hp)
    exact ⟨H.out.keep f (fun h => h) (fun _ _ h => h), Step.pu _ _ (((Pu.refl w).alloc _).trans hp)⟩
  have HST := Lib.hid hst
  have hbel := hp.below
  obtain ⟨hc, hf⟩ := bcell hbel
  have hz : w.heap.size < w1.heap.size := by have := hbel.size; simp at this; omega
  have hz1 : bb < w1.heap.size := by omega
  clear hst hp hbel
  have HL := Lib.hid (len19 HST.out.1)
  have hd' : (d.size : Int) < 512 := by omega
  go_wp2_with fail
  refine HL.out.mono ?_
  rintro e w1x ⟨rfl, rfl⟩
  go_wp2_with fail
  have HDR : Hid (BusAt w1.drew bb v d s.num) := ⟨HST.out.1.b, HST.out.1.o⟩
  have HPU := Lib.hid (fun (wx : World) (hx : BusAt wx bb v d s.num) => hpush20 hx s (by omega))
  unfold Sn.cs at HPU
  go_region_with (go_at_call 20; refine (HPU.out _ HDR.out).mono ?_; rintro e w2 ⟨rfl, v', hb2, hs2⟩)
  all_goals
    have c12 : w2.cell? ⟨bb, 1, none⟩ = some (.int .i64 s.num) := by have := hb2.b; simp [World.cell?, this]
    have f12 : w2.frozen? ⟨bb, 1, none⟩ = false := by have := hb2.b; simp [World.frozen?, this]
    have HB2 := Lib.hid (And.intro hb2 hs2)
    clear hb2 hs2
    go_wp2_with fail
    go_ret
    refine ⟨rfl, v', ⟨?_, ?_⟩, ?_⟩
    · have := HB2.out.1.b
      simp [World.setCell, Array.getElem?_modify, this]
    · exact ownsRow_setCell_other HB2.out.1.o HB2.out.1.ne _
    · have st : Step w1 w2 bb v v' := ⟨⟨HB2.out.2.f.os, HB2.out.2.f.tape, HB2.out.2.f.output, HB2.out.2.f.size, HB2.out.2.f.block⟩, HB2.out.2.r⟩
      exact (HST.out.2.trans st).trans ⟨(Fr.refl w2 _).setCell _ _ (fun _ => .inl rfl), .inl rfl⟩
end Go.Proofs.Ythmfibgjemnlbaa

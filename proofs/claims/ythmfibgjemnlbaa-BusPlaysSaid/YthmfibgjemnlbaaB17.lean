/- Bus (layer 4): the short calls that each statement makes (works) come out. -/
import Derived.Test.YthmfibgjemnlbaaB16
namespace Go.Proofs.Ythmfibgjemnlbaa
open Go.RowKit Go.Sort Go.Shelf Go.Lib
set_option linter.unusedVariables false

theorem BusAt.new (w : World) : BusAt (w.alloc (.cells #[.slice none 0 0, .int .i64 0] 61)) w.heap.size (.slice none 0 0) #[] 0 :=
  ⟨heap_alloc_new w _, by simpa [flatK] using World.ownsRow_nil _ 0 35 13⟩

/-- A bus of the call's own: its block and its row lie beyond B. -/
structure BusOwn (w : World) (B bb : Nat) (v : Value) (d : Array Sn) (num : Int) : Prop where
  at_ : BusAt w bb v d num
  lo : B ≤ bb
  row : ∀ g, v.ownBlock = some g → B ≤ g
theorem BusOwn.new (w : World) : BusOwn (w.alloc (.cells #[.slice none 0 0, .int .i64 0] 61)) w.heap.size w.heap.size (.slice none 0 0) #[] 0 :=
  ⟨BusAt.new w, Nat.le_refl _, fun g h => by simp [Value.ownBlock] at h⟩
theorem BusOwn.step {w w' : World} {B bb : Nat} {v v' : Value} {d d' : Array Sn} {num num' : Int} (h : BusOwn w B bb v d num) (hb : BusAt w' bb v' d' num') (s : Step w w' bb v v') (hB : B ≤ w.heap.size) : BusOwn w' B bb v' d' num' :=
  ⟨hb, h.lo, fun g hg => by
    rcases s.r with e | e
    · exact h.row g (e ▸ hg)
    · exact Nat.le_trans hB (e g hg)⟩
theorem BusOwn.keep {w w' : World} {B bb : Nat} {v : Value} {d : Array Sn} {num : Int} (h : BusOwn w B bb v d num) (p : Pu w w') : BusOwn w' B bb v d num :=
  ⟨h.at_.keep (Fr.pu p) (fun h => h) (fun _ _ h => h), h.lo, h.row⟩
theorem BusOwn.below {w0 w w' : World} {B bb : Nat} {v v' : Value} {d : Array Sn} {num : Int} (h : BusOwn w B bb v d num) (hb : Below B w0 w) (s : Step w w' bb v v') (hB : B ≤ w.heap.size) : Below B w0 w' :=
  hb.trans (s.f.below B hB (fun i e => by rcases e with rfl | e; exact h.lo; exact h.row i e))

def sA : Sn := ⟨1, 385, 0, 0, 0, 0, 0, 0, 0, 0, 0, false, 0⟩
def sB : Sn := ⟨2, 128, 0, 0, 0, 0, 0, 0, 0, 0, 0, false, 1⟩
theorem up_one : upL (#[].push sA) 0 = #[sA] := by rw [upL]; simp
theorem up_two : upL (#[sA].push sB) 1 = #[sB, sA] := by
  rw [upL, dif_neg (by decide)]
  rw [if_pos (by decide)]
  rw [upL, dif_pos (by decide)]
  rfl

theorem send7e {w : World} {bb : Nat} {v : Value} {d : Array Sn} {num : Int} (h : BusAt w bb v d num) (s : Sn) (node id len d0 d1 d2 d3 d4 d5 d6 d7 : Int) (r : Bool) (es : s = ⟨node, id, len, d0, d1, d2, d3, d4, d5, d6, d7, r, num⟩) (h0 : 0 ≤ s.node) (hr : s.right = true) (hd : d.size < 512) (hnum : 0 ≤ num ∧ num < 1000000000) :
    Calls Try.prog 7 #[.pointer (some ⟨bb, 0, none⟩), .int .i64 node, fagg id len d0 d1 d2 d3 d4 d5 d6 d7 r] w fun e w' => e = .returned (.int .i64 0) ∧ ∃ v', BusAt w' bb v' (upL (d.push s) d.size) (num + 1) ∧ Step w w' bb v v' := by
  subst es
  exact send7 h _ rfl h0 hr hd hnum
theorem next9e {w : World} {bb : Nat} {v : Value} {d : Array Sn} {num : Int} (h : BusAt w bb v d num) (m : Nat) (hd : d.size = m + 1) (hn : d.size < 900000) (node id len d0 d1 d2 d3 d4 d5 d6 d7 : Int) (r : Bool) (k : Int) (es : d[0]! = ⟨node, id, len, d0, d1, d2, d3, d4, d5, d6, d7, r, k⟩) :
    Calls Try.prog 9 #[.pointer (some ⟨bb, 0, none⟩)] w fun e w' => e = .returned (.tuple #[sagg node id len d0 d1 d2 d3 d4 d5 d6 d7 r k, .bool true]) ∧ ∃ v', BusAt w' bb v' (dnL m (swp d 0 m) 0).pop num ∧ Step w w' bb v v' := by
  have := next9 h m hd hn
  rw [es] at this
  exact this
set_option maxHeartbeats 1000000 in
set_option maxRecDepth 100000 in
theorem works12 (w : World) : Calls Try.prog 12 #[] w fun e w' => e = .returned (.bool true) ∧ Below w.heap.size w w' := by
  have H0 := Lib.hid (And.intro (BusOwn.new w) ((Below.refl w.heap.size w).alloc (Nat.le_refl _) (.cells #[.slice none 0 0, .int .i64 0] 61)))
  have hs0 : w.heap.size ≤ (w.alloc (.cells #[.slice none 0 0, .int .i64 0] 61)).heap.size := by simp
  have h7a := send7e H0.out.1.at_ sA 1 385 0 0 0 0 0 0 0 0 0 false rfl (by decide) (by decide) (by decide) (by decide)
  rw [show upL (#[].push sA) (#[] : Array Sn).size = #[sA] from up_one] at h7a
  have H7a := Lib.hid h7a
  clear h7a
  go_enter Try.func12, Try.ntmps12
  go_wp2_with (go_at_call 6; refine (new6 _).mono ?_; rintro e w1 ⟨rfl, rfl⟩)
  refine H7a.out.mono ?_
  rintro e w2 ⟨rfl, v2, hb2, st2⟩
  have hB2 : w.heap.size ≤ w2.heap.size := Nat.le_trans hs0 st2.f.size
  have H2 := Lib.hid (And.intro (H0.out.1.step hb2 st2 hs0) (H0.out.1.below H0.out.2 st2 hs0))
  clear hb2 st2
  have h7b := send7e H2.out.1.at_ sB 2 128 0 0 0 0 0 0 0 0 0 false rfl (by decide) (by decide) (by decide) (by decide)
  rw [show upL (#[sA].push sB) (#[sA] : Array Sn).size = #[sB, sA] from up_two] at h7b
  have H7b := Lib.hid h7b
  clear h7b
  go_wp2_with fail
  refine H7b.out.mono ?_
  rintro e w3 ⟨rfl, v3, hb3, st3⟩
  have hB3 : w.heap.size ≤ w3.heap.size := Nat.le_trans hB2 st3.f.size
  have H3 := Lib.hid (And.intro (H2.out.1.step hb3 st3 hB2) (H2.out.1.below H2.out.2 st3 hB2))
  clear hb3 st3
  have H9 := Lib.hid (next9e H3.out.1.at_ 1 rfl (by decide) 2 128 0 0 0 0 0 0 0 0 0 false 1 rfl)
  go_wp2_with fail
  refine H9.out.mono ?_
  rintro e w4 ⟨rfl, v4, hb4, st4⟩
  have hB4 : w.heap.size ≤ w4.heap.size := Nat.le_trans hB3 st4.f.size
  have H4 := Lib.hid (And.intro (H3.out.1.step hb4 st4 hB3) (H3.out.1.below H3.out.2 st4 hB3))
  clear hb4 st4
  have hsz : (dnL 1 (swp #[sB, sA] 0 1) 0).pop.size = 1 := by
    rw [Array.size_pop, size_dnL _ _ _ _ (Nat.le_refl _), size_swp]; rfl
  have h10 := fun o => waits10 (H4.out.1.keep ((Pu.refl w4).alloc o)).at_ (by rw [hsz]; decide)
  rw [hsz] at h10
  have H10 := Lib.hid h10
  clear h10 hsz
  go_wp2_with fail
  refine (H10.out _).mono ?_
  rintro e w5 ⟨v5, D, rfl, hD, _, _, ho, _, hbel⟩
  have hv5 : ∃ A c, v5 = .slice A 1 c := by
    rcases ho.2 with ⟨rfl, h0⟩ | ⟨g, cap, cur, rfl, _⟩
    · rw [hD] at h0; cases h0
    · exact ⟨_, cap, by rw [hD]⟩
  obtain ⟨A5, c5, rfl⟩ := hv5
  have HF := Lib.hid (fun o => H4.out.2.trans ((((Below.refl w4.heap.size w4).alloc (Nat.le_refl _) o).mono hB4)))
  have HG := Lib.hid hbel
  clear ho hbel hD
  go_wp2_with fail
  go_ret
  exact ⟨rfl, (HF.out _).trans (HG.out.mono (by simp; omega))⟩
end Go.Proofs.Ythmfibgjemnlbaa

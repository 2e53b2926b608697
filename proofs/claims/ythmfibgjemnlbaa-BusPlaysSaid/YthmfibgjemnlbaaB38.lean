/- Bus (layer 4): BusPlays: what its loops keep. -/
import Derived.Test.YthmfibgjemnlbaaB37
import Derived.Test.YthmfibgjemnlbaaB27
import Derived.Test.YthmfibgjemnlbaaB25
namespace Go.Proofs.Ythmfibgjemnlbaa
open Go.RowKit Go.Sort Go.Shelf Go.Lib
set_option linter.unusedVariables false
/-- A step, as data. -/
structure St where
  kind : Int
  node : Int
  id : Int
  len : Int
  d0 : Int
  d1 : Int
  d2 : Int
  d3 : Int
  d4 : Int
  d5 : Int
  d6 : Int
  d7 : Int
  r : Bool
  times : Int
instance : Inhabited St := ⟨⟨0, 0, 0, 0, 0, 0, 0, 0, 0, 0, 0, 0, false, 0⟩⟩
def St.cs (f : St) : List Value := [.int .i64 f.kind, .int .i64 f.node, .int .u16 f.id, .int .i64 f.len, .int .u8 f.d0, .int .u8 f.d1, .int .u8 f.d2, .int .u8 f.d3, .int .u8 f.d4, .int .u8 f.d5, .int .u8 f.d6, .int .u8 f.d7, .bool f.r, .int .i64 f.times]
/-- A slice of steps that came in. -/
def SIn (w : World) (A : Option Addr) (n : Nat) (f : Nat → St) : Prop :=
  ∀ i, i < n → ∃ g off, A = some ⟨g, off, none⟩ ∧ g < w.heap.size ∧ ∀ (c : Nat) (v : Value), (f i).cs[c]? = some v → w.cell? ⟨g, off + i * 14 + c, none⟩ = some v
theorem SIn.keep {w w' : World} {A : Option Addr} {n : Nat} {f : Nat → St} (h : SIn w A n f) (b : Below w.heap.size w w') {i : Nat} (hi : i < n) :
    ∃ g off, A = some ⟨g, off, none⟩ ∧ ∀ (c : Nat) (v : Value), (f i).cs[c]? = some v → w'.cell? ⟨g, off + i * 14 + c, none⟩ = some v := by
  obtain ⟨g, off, hA, hg, hc⟩ := h i hi
  exact ⟨g, off, hA, fun c v hv => (World.cell?_of_block (b.block g hg)).trans (hc c v hv)⟩

theorem BusAt.own35 {w : World} {bb : Nat} {v : Value} {d : Array Sn} {num : Int} (h : BusAt w bb v d num) {g : Nat} (hg : v.ownBlock = some g) : ∃ cur, w.heap[g]? = some (.cells cur 35) := by
  rcases h.o.2 with ⟨rfl, _⟩ | ⟨g', cap, cur, rfl, _, hh, _⟩
  · simp [Value.ownBlock] at hg
  · simp [Value.ownBlock] at hg
    subst hg
    exact ⟨cur, hh⟩
/-- The pair that is played on. -/
structure Cur (w0 w : World) (bb : Nat) (v : Value) (d : Array Sn) (rb : Nat) (A : Option Addr) (c : Nat) (L : Array Sn) (num : Int) (B : Int) : Prop where
  pair : Pair w bb v d rb A c L num
  lo : w0.heap.size ≤ bb
  row : ∀ g, v.ownBlock = some g → w0.heap.size ≤ g
  rlo : w0.heap.size ≤ rb
  n0 : 0 ≤ num
  nB : num ≤ B
  cnt : (d.size : Int) ≤ num
  bel : Below w0.heap.size w0 w
/-- The pair that was left: another one. -/
structure Old (w : World) (bb : Nat) (v : Value) (rb bl rl : Nat) : Prop where
  b : bl ≠ bb
  r : rl ≠ rb
  ex : ∃ vl dl Al cl Ll numl, Pair w bl vl dl rl Al cl Ll numl ∧ dl.size < 900000 ∧ ∀ k, v.ownBlock = some k → vl.ownBlock ≠ some k
def Olds (w : World) (bb : Nat) (v : Value) (rb bl rl : Nat) : Prop := (bl = bb ∧ rl = rb) ∨ Old w bb v rb bl rl
theorem Pair.blw {w w' : World} {bb rb c : Nat} {v : Value} {A : Option Addr} {d L : Array Sn} {num : Int} (h : Pair w bb v d rb A c L num) (b : Below w.heap.size w w') : Pair w' bb v d rb A c L num :=
  ⟨h.bus.keep (Fr.blw b) (fun h => h) (fun _ _ h => h), h.ref.keep (Fr.blw b) (fun h => h) (fun _ _ _ h => h), h.play⟩
theorem Cur.blw {w0 w w' : World} {bb rb c : Nat} {v : Value} {A : Option Addr} {d L : Array Sn} {num B : Int} (h : Cur w0 w bb v d rb A c L num B) (b : Below w.heap.size w w') : Cur w0 w' bb v d rb A c L num B :=
  ⟨h.pair.blw b, h.lo, h.row, h.rlo, h.n0, h.nB, h.cnt, h.bel.trans (b.mono h.bel.size)⟩
theorem Old.blw {w w' : World} {bb rb bl rl : Nat} {v : Value} (h : Old w bb v rb bl rl) (b : Below w.heap.size w w') : Old w' bb v rb bl rl := by
  obtain ⟨vl, dl, Al, cl, Ll, nl, h1, h2, h3⟩ := h.ex
  exact ⟨h.b, h.r, vl, dl, Al, cl, Ll, nl, h1.blw b, h2, h3⟩
theorem Olds.blw {w w' : World} {bb rb bl rl : Nat} {v : Value} (h : Olds w bb v rb bl rl) (b : Below w.heap.size w w') : Olds w' bb v rb bl rl := h.imp id (·.blw b)
theorem Cur.move {w0 w w' : World} {bb rb c c' : Nat} {v v' : Value} {A A' : Option Addr} {d L d' L' : Array Sn} {num num' B : Int} (h : Cur w0 w bb v d rb A c L num B) (p : Pair w' bb v' d' rb A' c' L' num') (m : Move w w' bb v v' rb)
    (h1 : num ≤ num') (h2 : (d'.size : Int) + num ≤ d.size + num') (B' : Int) (h3 : num' ≤ B') : Cur w0 w' bb v' d' rb A' c' L' num' B' := by
  have h4 := h.n0
  have h5 := h.cnt
  refine ⟨p, h.lo, ?_, h.rlo, by omega, h3, by omega, ?_⟩
  · intro g hg
    rcases m.r with e | e
    · exact h.row g (e ▸ hg)
    · exact Nat.le_trans h.bel.size (e g hg)
  · refine h.bel.trans (m.f.below _ h.bel.size ?_)
    rintro i (rfl | e | rfl)
    · exact h.lo
    · exact h.row i e
    · exact h.rlo
theorem Old.move {w w' : World} {bb rb bl rl c : Nat} {v v' : Value} {A : Option Addr} {d L : Array Sn} {num : Int} (h : Old w bb v rb bl rl) (p : Pair w bb v d rb A c L num) (m : Move w w' bb v v' rb) : Old w' bb v' rb bl rl := by
  obtain ⟨vl, dl, Al, cl, Ll, nl, h1, h2, h3⟩ := h.ex
  refine ⟨h.b, h.r, vl, dl, Al, cl, Ll, nl, ⟨h1.bus.keep m.f ?_ ?_, h1.ref.keep m.f ?_ ?_, h1.play⟩, h2, ?_⟩
  · rintro (e | e | e)
    · exact h.b e
    · obtain ⟨cur, h4⟩ := p.bus.own35 e
      rw [h1.bus.b] at h4
      cases h4
    · have h4 := h1.bus.b
      rw [e, p.ref.b] at h4
      cases h4
  · intro g hg
    rintro (e | e | e)
    · subst e
      obtain ⟨cur, h4⟩ := h1.bus.own35 hg
      rw [p.bus.b] at h4
      cases h4
    · exact h3 g e hg
    · subst e
      exact h1.bus.apart p.ref.b (by decide) (.inr hg)
  · rintro (e | e | e)
    · have h4 := p.bus.b
      rw [← e, h1.ref.b] at h4
      cases h4
    · exact p.bus.apart h1.ref.b (by decide) (.inr e)
    · exact h.r e
  · intro g cur hg
    rintro (e | e | e)
    · exact p.bus.apart hg (by decide) (.inl e)
    · exact p.bus.apart hg (by decide) (.inr e)
    · subst e
      rw [p.ref.b] at hg
      cases hg
  · intro k hk
    rcases m.r with e | e
    · exact h3 k (e ▸ hk)
    · intro e2
      have h4 := e k hk
      have h5 := h1.bus.rlt e2
      omega
theorem Olds.move {w w' : World} {bb rb bl rl c : Nat} {v v' : Value} {A : Option Addr} {d L : Array Sn} {num : Int} (h : Olds w bb v rb bl rl) (p : Pair w bb v d rb A c L num) (m : Move w w' bb v v' rb) : Olds w' bb v' rb bl rl := h.imp id (·.move p m)
/-- A copy of both is played on; what was played is left. -/
theorem Cur.copied {w0 w w1 w2 : World} {bb rb c : Nat} {v : Value} {A : Option Addr} {d L : Array Sn} {num B : Int} (h : Cur w0 w bb v d rb A c L num B) (hB : B < 900000) {bb' rb' c' : Nat} {v' : Value} {A' : Option Addr}
    (hbb : w.heap.size ≤ bb') (hv : ∀ g, v'.ownBlock = some g → w.heap.size ≤ g) (hb : BusAt w1 bb' v' d num) (b1 : Below w.heap.size w w1) (hrb : w1.heap.size ≤ rb') (hr : RefAt w2 rb' A' c' L num) (b2 : Below w1.heap.size w1 w2) :
    Cur w0 w2 bb' v' d rb' A' c' L num B ∧ Olds w2 bb' v' rb' bb rb := by
  have hb2 := b2.mono b1.size
  have h4 := h.n0
  have h5 := h.cnt
  have h6 := h.nB
  have hs := h.bel.size
  have hs1 := b1.size
  refine ⟨⟨⟨hb.keep (Fr.blw b2) (fun h => h) (fun _ _ h => h), hr, h.pair.play⟩, by omega, fun g hg => Nat.le_trans hs (hv g hg), by omega, h.n0, h.nB, h.cnt, (h.bel.trans (b1.mono hs)).trans (b2.mono (by omega))⟩, .inr ⟨?_, ?_, v, d, A, c, L, num, (h.pair.blw b1).blw b2, by omega, ?_⟩⟩
  · have := lt_of_block h.pair.bus.b
    omega
  · have := h.pair.ref.lt
    omega
  · intro k hk e
    have h7 := hv k hk
    have h8 := h.pair.bus.rlt e
    omega
end Go.Proofs.Ythmfibgjemnlbaa

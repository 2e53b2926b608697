/- Bus (layer 4): Send, of both. -/
import Derived.Test.YthmfibgjemnlbaaB32
import Derived.Test.YthmfibgjemnlbaaB26
import Derived.Test.YthmfibgjemnlbaaB18
namespace Go.Proofs.Ythmfibgjemnlbaa
open Go.RowKit Go.Sort Go.Shelf Go.Lib
set_option linter.unusedVariables false
/-- What Send answers. -/
def sCode (node : Int) (right : Bool) (n : Nat) : Int := if node < 0 then 2 else if right = false then 30 else if 512 ≤ n then 40 else 0
def sD (code : Int) (d : Array Sn) (s : Sn) : Array Sn := if code = 0 then upL (d.push s) d.size else d
def sN (code : Int) (num : Int) : Int := if code = 0 then num + 1 else num
theorem send7any {w : World} {bb : Nat} {v : Value} {d : Array Sn} {num : Int} (h : BusAt w bb v d num) (node id len d0 d1 d2 d3 d4 d5 d6 d7 : Int) (r : Bool) (hnum : 0 ≤ num ∧ num < 1000000000) (code : Int) (hc : code = sCode node (rtB id len d0 d1 d2 d3 d4 d5 d6 d7 r) d.size) :
    Calls Try.prog 7 #[.pointer (some ⟨bb, 0, none⟩), .int .i64 node, fagg id len d0 d1 d2 d3 d4 d5 d6 d7 r] w fun e w' => e = .returned (.int .i64 code) ∧ ∃ v', BusAt w' bb v' (sD code d ⟨node, id, len, d0, d1, d2, d3, d4, d5, d6, d7, r, num⟩) (sN code num) ∧ Step w w' bb v v' := by
  subst hc
  unfold sCode
  by_cases h0 : node < 0
  · rw [if_pos h0]
    refine (send7neg _ node id len d0 d1 d2 d3 d4 d5 d6 d7 r w h0).mono ?_
    rintro e w' ⟨rfl, hp⟩
    exact ⟨rfl, v, h.keep (Fr.pu hp) (fun h => h) (fun _ _ h => h), Step.pu _ _ hp⟩
  rw [if_neg h0]
  cases hr : rtB id len d0 d1 d2 d3 d4 d5 d6 d7 r with
  | false =>
    rw [if_pos rfl]
    refine (send7bad _ node id len d0 d1 d2 d3 d4 d5 d6 d7 r w (by omega) hr).mono ?_
    rintro e w' ⟨rfl, hp⟩
    exact ⟨rfl, v, h.keep (Fr.pu hp) (fun h => h) (fun _ _ h => h), Step.pu _ _ hp⟩
  | true =>
    rw [if_neg (by decide)]
    by_cases hd : 512 ≤ d.size
    · rw [if_pos hd]
      refine (send7full h node id len d0 d1 d2 d3 d4 d5 d6 d7 r (by omega) hr hd).mono ?_
      rintro e w' ⟨rfl, hp⟩
      exact ⟨rfl, v, h.keep (Fr.pu hp) (fun h => h) (fun _ _ h => h), Step.pu _ _ hp⟩
    · rw [if_neg hd]
      refine (send7e h ⟨node, id, len, d0, d1, d2, d3, d4, d5, d6, d7, r, num⟩ node id len d0 d1 d2 d3 d4 d5 d6 d7 r rfl (by show 0 ≤ node; omega) hr (by omega) hnum).mono ?_
      rintro e w' ⟨rfl, v', hb, st⟩
      exact ⟨rfl, v', hb, st⟩
theorem send28any {w : World} {rb : Nat} {A : Option Addr} {c : Nat} {d L : Array Sn} {num : Int} (h : RefAt w rb A c L num) (p : Play d L num) (node id len d0 d1 d2 d3 d4 d5 d6 d7 : Int) (r : Bool) (hnum : 0 ≤ num ∧ num < 1000000000) (code : Int) (hc : code = sCode node (rtB id len d0 d1 d2 d3 d4 d5 d6 d7 r) d.size) :
    Calls Try.prog 28 #[.pointer (some ⟨rb, 0, none⟩), .int .i64 node, fagg id len d0 d1 d2 d3 d4 d5 d6 d7 r] w fun e w' => e = .returned (.int .i64 code) ∧ (∃ A' c' L', RefAt w' rb A' c' L' (sN code num) ∧ Play (sD code d ⟨node, id, len, d0, d1, d2, d3, d4, d5, d6, d7, r, num⟩) L' (sN code num)) ∧ Fr w w' (fun i => i = rb) := by
  subst hc
  have hsz := p.size
  unfold sCode
  by_cases h0 : node < 0
  · rw [if_pos h0]
    refine (send28neg _ node id len d0 d1 d2 d3 d4 d5 d6 d7 r w h0).mono ?_
    rintro e w' ⟨rfl, hp⟩
    exact ⟨rfl, ⟨A, c, L, h.keep (Fr.pu hp) (fun h => h) (fun _ _ _ h => h), p⟩, (Fr.pu hp).mono (fun _ _ h => h.elim)⟩
  rw [if_neg h0]
  cases hr : rtB id len d0 d1 d2 d3 d4 d5 d6 d7 r with
  | false =>
    rw [if_pos rfl]
    refine (send28bad _ node id len d0 d1 d2 d3 d4 d5 d6 d7 r w (by omega) hr).mono ?_
    rintro e w' ⟨rfl, hp⟩
    exact ⟨rfl, ⟨A, c, L, h.keep (Fr.pu hp) (fun h => h) (fun _ _ _ h => h), p⟩, (Fr.pu hp).mono (fun _ _ h => h.elim)⟩
  | true =>
    rw [if_neg (by decide)]
    by_cases hd : 512 ≤ d.size
    · rw [if_pos hd]
      refine (send28full h node id len d0 d1 d2 d3 d4 d5 d6 d7 r (by omega) hr (by omega)).mono ?_
      rintro e w' ⟨rfl, hp⟩
      exact ⟨rfl, ⟨A, c, L, h.keep (Fr.pu hp) (fun h => h) (fun _ _ _ h => h), p⟩, (Fr.pu hp).mono (fun _ _ h => h.elim)⟩
    · rw [if_neg hd]
      refine (send28 h node id len d0 d1 d2 d3 d4 d5 d6 d7 r (by omega) hr (by omega) hnum).mono ?_
      rintro e w' ⟨rfl, ⟨A', c', i, hi, h1, h2, hR⟩, hf⟩
      exact ⟨rfl, ⟨A', c', _, hR, p.send _ rfl i hi h1 h2⟩, hf⟩

/-- A bus and the reference's, alike. -/
structure Pair (w : World) (bb : Nat) (v : Value) (d : Array Sn) (rb : Nat) (A : Option Addr) (c : Nat) (L : Array Sn) (num : Int) : Prop where
  bus : BusAt w bb v d num
  ref : RefAt w rb A c L num
  play : Play d L num
/-- What a call of both may turn. -/
structure Move (w w' : World) (bb : Nat) (v v' : Value) (rb : Nat) : Prop where
  f : Fr w w' (fun i => i = bb ∨ v.ownBlock = some i ∨ i = rb)
  r : v'.ownBlock = v.ownBlock ∨ (∀ k, v'.ownBlock = some k → w.heap.size ≤ k)
theorem Move.refl (w : World) (bb : Nat) (v : Value) (rb : Nat) : Move w w bb v v rb := ⟨Fr.refl _ _, .inl rfl⟩
theorem Move.pu {w w' : World} (bb : Nat) (v : Value) (rb : Nat) (p : Pu w w') : Move w w' bb v v rb := ⟨(Fr.pu p).mono (fun _ _ h => h.elim), .inl rfl⟩
theorem Move.step {w w' : World} {bb : Nat} {v v' : Value} (rb : Nat) (s : Step w w' bb v v') : Move w w' bb v v' rb := ⟨s.f.mono (fun _ _ h => h.imp id .inl), s.r⟩
theorem Move.ref {w w' : World} (bb : Nat) (v : Value) {rb : Nat} (f : Fr w w' (fun i => i = rb)) : Move w w' bb v v rb := ⟨f.mono (fun _ _ h => .inr (.inr h)), .inl rfl⟩
theorem Move.trans {w w1 w2 : World} {bb rb : Nat} {v v1 v2 : Value} (h : Move w w1 bb v v1 rb) (k : Move w1 w2 bb v1 v2 rb) : Move w w2 bb v v2 rb := by
  refine ⟨h.f.trans k.f ?_, ?_⟩
  · intro i hi hs
    rcases hs with rfl | hs | rfl
    · exact .inl rfl
    · rcases h.r with e | e
      · exact .inr (.inl (e ▸ hs))
      · have := e i hs; omega
    · exact .inr (.inr rfl)
  · rcases k.r with e | e
    · rcases h.r with e2 | e2
      · exact .inl (e.trans e2)
      · exact .inr (fun q hq => e2 q (e ▸ hq))
    · exact .inr (fun q hq => Nat.le_trans h.f.size (e q hq))
/-- A bus's own blocks are none of the reference's. -/
theorem BusAt.apart {w : World} {bb : Nat} {v : Value} {d : Array Sn} {num : Int} (h : BusAt w bb v d num) {g : Nat} {cs : Array Value} {t : TypeId} (hg : w.heap[g]? = some (.cells cs t)) (ht : t ≠ 61 ∧ t ≠ 35) : ¬ (g = bb ∨ v.ownBlock = some g) := by
  rintro (e | e)
  · subst e; rw [h.b] at hg; cases hg; exact ht.1 rfl
  · rcases h.o.2 with ⟨rfl, _⟩ | ⟨g', cap, cur, rfl, _, hh, _⟩
    · simp [Value.ownBlock] at e
    · simp [Value.ownBlock] at e
      subst e
      rw [hg] at hh
      cases hh
      exact ht.2 rfl
theorem RefAt.stepA {w w' : World} {bb rb c : Nat} {v v' : Value} {A : Option Addr} {d L : Array Sn} {n m : Int} (r : RefAt w rb A c L m) (h : BusAt w bb v d n) (s : Step w w' bb v v') : RefAt w' rb A c L m :=
  r.keep s.f (h.apart r.b (by decide)) (fun g cur hg => h.apart hg (by decide))
theorem BusAt.stepB {w w' : World} {bb rb c : Nat} {v : Value} {A : Option Addr} {d L : Array Sn} {n m : Int} (h : BusAt w bb v d n) (r : RefAt w rb A c L m) (f : Fr w w' (fun i => i = rb)) : BusAt w' bb v d n :=
  h.keep f (fun e => h.apart r.b (by decide) (.inl e.symm)) (fun g hg e => h.apart r.b (by decide) (.inr (e ▸ hg)))
end Go.Proofs.Ythmfibgjemnlbaa

/- Bus (layer 4): what a bus is in memory, and what a call on it turns. -/
import Derived.Test.YthmfibgjemnlbaaB04
import Derived.Test.YthmfibgjemnlbaaB05
namespace Go.Proofs.Ythmfibgjemnlbaa
open Go.RowKit Go.Sort Go.Shelf
set_option linter.unusedVariables false

/-- Blocks but those of S are as they were. -/
structure Fr (w w' : World) (S : Nat → Prop) : Prop where
  os : w'.os = w.os
  tape : w'.tape = w.tape
  output : w'.output = w.output
  size : w.heap.size ≤ w'.heap.size
  block : ∀ i, i < w.heap.size → ¬ S i → w'.heap[i]? = w.heap[i]?
theorem Fr.refl (w : World) (S : Nat → Prop) : Fr w w S := ⟨rfl, rfl, rfl, Nat.le_refl _, fun _ _ _ => rfl⟩
theorem Fr.mono {w w' : World} {S S' : Nat → Prop} (h : Fr w w' S) (k : ∀ i, i < w.heap.size → S i → S' i) : Fr w w' S' := ⟨h.os, h.tape, h.output, h.size, fun i hi hs => h.block i hi (fun h => hs (k i hi h))⟩
theorem Fr.trans {w w1 w2 : World} {S S' : Nat → Prop} (h : Fr w w1 S) (k : Fr w1 w2 S') (hk : ∀ i, i < w.heap.size → S' i → S i) : Fr w w2 S :=
  ⟨k.os.trans h.os, k.tape.trans h.tape, k.output.trans h.output, Nat.le_trans h.size k.size, fun i hi hs => (k.block i (Nat.lt_of_lt_of_le hi h.size) (fun h' => hs (hk i hi h'))).trans (h.block i hi hs)⟩
theorem Fr.drew {w w' : World} {S : Nat → Prop} (h : Fr w w' S) : Fr w w'.drew S := ⟨h.os, h.tape, h.output, h.size, h.block⟩
theorem Fr.alloc {w w' : World} {S : Nat → Prop} (h : Fr w w' S) (o : Obj) : Fr w (w'.alloc o) S :=
  ⟨h.os, h.tape, h.output, by have := h.size; simp; omega, fun i hi hs => (Below.heap_alloc w' o i (Nat.lt_of_lt_of_le hi h.size)).trans (h.block i hi hs)⟩
theorem Fr.setCell {w w' : World} {S : Nat → Prop} (h : Fr w w' S) (a : Addr) (u : Value) (ha : a.block < w.heap.size → S a.block) : Fr w (w'.setCell a u) S :=
  ⟨h.os, h.tape, h.output, by have := h.size; simpa [World.setCell] using this, fun i hi hs => (Below.heap_setCell w' a u i (fun e => hs (by subst e; exact ha hi))).trans (h.block i hi hs)⟩
theorem Fr.grown {w w' : World} {r : Option Nat} (h : w.grownBy w' r) : Fr w w' (fun i => r = some i) := ⟨h.os, h.tape, h.output, h.size, fun i hi hs => h.block i hi (fun e => hs e.symm)⟩
theorem Fr.pu {w w' : World} (h : Pu w w') : Fr w w' (fun _ => False) := by
  have b := h.below
  exact ⟨b.os, b.tape, b.output, b.size, fun i hi _ => b.block i hi⟩
theorem Fr.below {w w' : World} {S : Nat → Prop} (h : Fr w w' S) (B : Nat) (hB : B ≤ w.heap.size) (hS : ∀ i, S i → B ≤ i) : Below B w w' := ⟨h.os, h.tape, h.output, h.size, fun i hi => h.block i (Nat.lt_of_lt_of_le hi hB) (fun hs => by have := hS i hs; omega)⟩
theorem Fr.heap {w w' : World} {S : Nat → Prop} (h : Fr w w' S) {i : Nat} {o : Obj} (ho : w.heap[i]? = some o) (hs : ¬ S i) : w'.heap[i]? = some o := (h.block i (lt_of_block ho) hs).trans ho
theorem Fr.cell {w w' : World} {S : Nat → Prop} (h : Fr w w' S) {a : Addr} (ha : a.block < w.heap.size) (hs : ¬ S a.block) : w'.cell? a = w.cell? a := World.cell?_of_block (h.block _ ha hs)
theorem Fr.frozen {w w' : World} {S : Nat → Prop} (h : Fr w w' S) {a : Addr} (ha : a.block < w.heap.size) (hs : ¬ S a.block) : w'.frozen? a = w.frozen? a := World.frozen?_of_block (h.block _ ha hs)
/-- What a value owns it owns still, if its block is none of S. -/
theorem Fr.owns {w w' : World} {S : Nat → Prop} (h : Fr w w' S) {base : Nat} {e : TypeId} {size : Nat} {v : Value} {n : Nat} {xs : List Value} (ho : w.ownsRow base e size v n xs) (hs : ∀ g, v.ownBlock = some g → ¬ S g) : w'.ownsRow base e size v n xs := by
  refine ⟨ho.1, ?_⟩
  rcases ho.2 with h1 | ⟨g, cap, cur, hv, hb, hh, h2⟩
  · exact .inl h1
  · exact .inr ⟨g, cap, cur, hv, hb, h.heap hh (hs g (by rw [hv]; rfl)), h2⟩

/-- A bus: its block, its row. -/
structure BusAt (w : World) (bb : Nat) (v : Value) (d : Array Sn) (num : Int) : Prop where
  b : w.heap[bb]? = some (.cells #[v, .int .i64 num] 61 (0, 0))
  o : w.ownsRow 0 35 13 v d.size (flatK Sn.cs 13 d).toList
theorem BusAt.shape {w : World} {bb : Nat} {v : Value} {d : Array Sn} {num : Int} (h : BusAt w bb v d num) : ∃ A c, v = .slice A d.size c := by
  rcases h.o.2 with ⟨rfl, h0⟩ | ⟨g, cap, cur, rfl, _⟩
  · exact ⟨none, 0, by rw [h0]⟩
  · exact ⟨_, cap, rfl⟩
theorem BusAt.ne {w : World} {bb : Nat} {v : Value} {d : Array Sn} {num : Int} (h : BusAt w bb v d num) : v.ownBlock ≠ some bb := by
  intro e
  rcases h.o.2 with ⟨rfl, _⟩ | ⟨g, cap, cur, rfl, _, h2, _⟩
  · simp [Value.ownBlock] at e
  · simp [Value.ownBlock] at e; subst e; have := h.b; rw [h2] at this; cases this
theorem BusAt.rlt {w : World} {bb : Nat} {v : Value} {d : Array Sn} {num : Int} (h : BusAt w bb v d num) {g : Nat} (hg : v.ownBlock = some g) : g < w.heap.size := (h.o.lt g hg).2
/-- Nothing of S is the bus's: it stands as it stood. -/
theorem BusAt.keep {w w' : World} {S : Nat → Prop} {bb : Nat} {v : Value} {d : Array Sn} {num : Int} (h : BusAt w bb v d num) (f : Fr w w' S) (h1 : ¬ S bb) (h2 : ∀ g, v.ownBlock = some g → ¬ S g) : BusAt w' bb v d num :=
  ⟨f.heap h.b h1, f.owns h.o h2⟩

theorem holds_of_owns {w : World} {g cap : Nat} {d : Array Sn} (h : w.ownsRow 0 35 13 (.slice (some ⟨g, 0, none⟩) d.size cap) d.size (flatK Sn.cs 13 d).toList) : HoldsK Sn.cs 13 w g 0 d := by
  intro j hj
  have hj' : j < d.size * 13 := by simpa using hj
  refine ⟨?_, by rw [Nat.zero_add]; exact h.frozenAt j⟩
  rw [Nat.zero_add, h.cellAt j hj']
  simp only [id, Array.getElem?_toList]
  rw [Array.getElem?_eq_getElem hj, getElem!_pos (flatK Sn.cs 13 d) j hj]

theorem BusAt.hs {w : World} {bb g cap : Nat} {d : Array Sn} {num : Int} (h : BusAt w bb (.slice (some ⟨g, 0, none⟩) d.size cap) d num) : HS w bb g d.size cap num where
  b := h.b
  r := ⟨d, rfl, holds_of_owns h.o⟩
  lg := h.rlt rfl
  ne := fun e => h.ne (by rw [e]; rfl)

theorem grow_block (w : World) (os : Array Obj) (i : Nat) (h : i < w.heap.size) : (grow w os).heap[i]? = w.heap[i]? := by
  simp only [grow]
  rw [Array.getElem?_append_left h]
/-- A walk of the heap's: the row alone turns. -/
theorem SW.fr {w0 W : World} {g : Nat} {d : Array Sn} (h : SW w0 g d W) : Fr w0 W (fun i => i = g) := by
  obtain ⟨m, os, rfl⟩ := h
  refine ⟨rfl, rfl, rfl, ?_, fun i hi hs => ?_⟩
  · exact size_sortWorldK_c Sn.cs 13 w0 g 0 m d os
  · unfold sortWorldK
    rw [grow_block _ _ _ (by rw [size_putRowK]; exact hi)]
    unfold putRowK
    exact putRow_heap _ _ _ _ _ _ hs
theorem take_putCells {F c : Array Value} (h : F.size ≤ c.size) : (putCells id 0 F c).toList.take F.size = F.toList := by
  apply List.ext_getElem?
  intro i
  by_cases hi : i < F.size
  · rw [List.getElem?_take_of_lt hi]
    simp only [putCells, Array.getElem?_toList, Array.getElem?_mapIdx]
    rw [Array.getElem?_eq_getElem (by omega), Array.getElem?_eq_getElem hi]
    simp [hi]
  · rw [List.getElem?_eq_none (by simp; omega), List.getElem?_eq_none (by simpa using hi)]
theorem BusAt.back {w0 W : World} {bb g cap : Nat} {d0 d : Array Sn} {num : Int} (h : BusAt w0 bb (.slice (some ⟨g, 0, none⟩) d0.size cap) d0 num) (hs : SW w0 g d W) (hd : d.size = d0.size) : BusAt W bb (.slice (some ⟨g, 0, none⟩) d0.size cap) d num := by
  have hf := hs.fr
  refine ⟨hf.heap h.b (fun e => h.ne (by rw [e]; rfl)), ?_⟩
  have ho := h.o
  rw [hd]
  refine ⟨by simp [hd], ?_⟩
  rcases ho.2 with ⟨h1, _⟩ | ⟨g', cap', cur, hv, hb, hh, h1, h2, h3, h4⟩
  · cases h1
  · cases hv
    refine .inr ⟨g, cap, putCells id 0 (flatK Sn.cs 13 d) cur, rfl, hb, ?_, h1, h2, by simp [putCells, h3], ?_⟩
    · obtain ⟨m, os, rfl⟩ := hs
      unfold sortWorldK
      rw [grow_block _ _ _ (by rw [size_putRowK]; exact lt_of_block hh)]
      unfold putRowK putRow mapBlock
      simp only [Array.getElem?_modify, if_true]
      rw [show (Sort.ahead w0 m).heap[g]? = _ from hh]
      rfl
    · rw [← hd]
      have := take_putCells (F := flatK Sn.cs 13 d) (c := cur) (by rw [size_flatK, h3, hd]; exact Nat.mul_le_mul_right 13 h1)
      rw [size_flatK] at this
      exact this

/-- What a call on a bus turns: the bus's block, its row; the row behind is the row ahead, or new. -/
structure Step (w w' : World) (bb : Nat) (v v' : Value) : Prop where
  f : Fr w w' (fun i => i = bb ∨ v.ownBlock = some i)
  r : v'.ownBlock = v.ownBlock ∨ (∀ k, v'.ownBlock = some k → w.heap.size ≤ k)
theorem Step.trans {w w1 w2 : World} {bb : Nat} {v v1 v2 : Value} (h : Step w w1 bb v v1) (k : Step w1 w2 bb v1 v2) : Step w w2 bb v v2 := by
  refine ⟨h.f.trans k.f ?_, ?_⟩
  · intro i hi hs
    rcases hs with rfl | hs
    · exact .inl rfl
    · rcases h.r with e | e
      · exact .inr (e ▸ hs)
      · have := e i hs; omega
  · rcases k.r with e | e
    · rcases h.r with e1 | e1
      · exact .inl (e.trans e1)
      · exact .inr fun k hk => e1 k (e ▸ hk)
    · exact .inr fun k hk => Nat.le_trans h.f.size (e k hk)
theorem Step.pu {w w' : World} (bb : Nat) (v : Value) (h : Pu w w') : Step w w' bb v v := ⟨(Fr.pu h).mono (fun _ _ h => h.elim), .inl rfl⟩
theorem Step.sw {w w' : World} {bb g n cap : Nat} {d : Array Sn} (h : SW w g d w') : Step w w' bb (.slice (some ⟨g, 0, none⟩) n cap) (.slice (some ⟨g, 0, none⟩) n cap) :=
  ⟨h.fr.mono (fun i _ e => .inr (by rw [e]; rfl)), .inl rfl⟩
end Go.Proofs.Ythmfibgjemnlbaa

/- Bus (layer 4): BusOnce: what the loops keep. -/
import Derived.Test.YthmfibgjemnlbaaB19
namespace Go.Proofs.Ythmfibgjemnlbaa
open Go.RowKit Go.Sort Go.Shelf Go.Lib
set_option linter.unusedVariables false

/-- A frame, as data. -/
structure Fm where
  id : Int
  len : Int
  d0 : Int
  d1 : Int
  d2 : Int
  d3 : Int
  d4 : Int
  d5 : Int
  d6 : Int
  d7 : Int
  r : Bool
def Fm.cs (f : Fm) : List Value := [.int .u16 f.id, .int .i64 f.len, .int .u8 f.d0, .int .u8 f.d1, .int .u8 f.d2, .int .u8 f.d3, .int .u8 f.d4, .int .u8 f.d5, .int .u8 f.d6, .int .u8 f.d7, .bool f.r]
/-- A slice of frames that came in. -/
def FIn (w : World) (A : Option Addr) (n : Nat) (f : Nat → Fm) : Prop :=
  ∀ i, i < n → ∃ g off, A = some ⟨g, off, none⟩ ∧ g < w.heap.size ∧ ∀ (c : Nat) (v : Value), (f i).cs[c]? = some v → w.cell? ⟨g, off + i * 11 + c, none⟩ = some v
/-- A slice of numbers that came in. -/
def IIn (w : World) (A : Option Addr) (n : Nat) (f : Nat → Int) : Prop :=
  ∀ i, i < n → ∃ g off, A = some ⟨g, off, none⟩ ∧ g < w.heap.size ∧ w.cell? ⟨g, off + i, none⟩ = some (.int .i64 (f i))
theorem FIn.keep {w w' : World} {A : Option Addr} {n : Nat} {f : Nat → Fm} (h : FIn w A n f) (b : Below w.heap.size w w') {i : Nat} (hi : i < n) :
    ∃ g off, A = some ⟨g, off, none⟩ ∧ ∀ (c : Nat) (v : Value), (f i).cs[c]? = some v → w'.cell? ⟨g, off + i * 11 + c, none⟩ = some v := by
  obtain ⟨g, off, hA, hg, hc⟩ := h i hi
  exact ⟨g, off, hA, fun c v hv => (World.cell?_of_block (b.block g hg)).trans (hc c v hv)⟩
theorem IIn.keep {w w' : World} {A : Option Addr} {n : Nat} {f : Nat → Int} (h : IIn w A n f) (b : Below w.heap.size w w') {i : Nat} (hi : i < n) :
    ∃ g off, A = some ⟨g, off, none⟩ ∧ w'.cell? ⟨g, off + i, none⟩ = some (.int .i64 (f i)) := by
  obtain ⟨g, off, hA, hg, hc⟩ := h i hi
  exact ⟨g, off, hA, (World.cell?_of_block (b.block g hg)).trans hc⟩

/-- Of two slices of the bus's own frames: the bus's, and what has come. -/
structure Two (w0 w : World) (bb : Nat) (v cv : Value) (d C : Array Sn) (num : Int) : Prop where
  bus : BusOwn w w0.heap.size bb v d num
  come : w.ownsRow 0 35 13 cv C.size (flatK Sn.cs 13 C).toList
  clo : ∀ g, cv.ownBlock = some g → w0.heap.size ≤ g
  cb : ∀ g, cv.ownBlock = some g → g ≠ bb
  cv : ∀ g, cv.ownBlock = some g → v.ownBlock ≠ some g
  bel : Below w0.heap.size w0 w
theorem Two.pu {w0 w w' : World} {bb : Nat} {v cv : Value} {d C : Array Sn} {num : Int} (h : Two w0 w bb v cv d C num) (p : Pu w w') : Two w0 w' bb v cv d C num :=
  ⟨h.bus.keep p, (Fr.pu p).owns h.come (fun _ _ h => h), h.clo, h.cb, h.cv, h.bel.trans (p.below.mono h.bel.size)⟩
theorem Pu.drewN {w w' : World} (h : Pu w w') (n : Nat) : Pu w (w'.drewN n) := h.trans ⟨n, #[], by simp⟩
theorem Fr.blw {w w' : World} (b : Below w.heap.size w w') : Fr w w' (fun _ => False) := ⟨b.os, b.tape, b.output, b.size, fun i hi _ => b.block i hi⟩
theorem Two.blw {w0 w w' : World} {bb : Nat} {v cv : Value} {d C : Array Sn} {num : Int} (h : Two w0 w bb v cv d C num) (b : Below w.heap.size w w') : Two w0 w' bb v cv d C num :=
  ⟨⟨h.bus.at_.keep (Fr.blw b) (fun h => h) (fun _ _ h => h), h.bus.lo, h.bus.row⟩, (Fr.blw b).owns h.come (fun _ _ h => h), h.clo, h.cb, h.cv, h.bel.trans (b.mono h.bel.size)⟩
theorem Two.step {w0 w w' : World} {bb : Nat} {v v' cv : Value} {d d' C : Array Sn} {num num' : Int} (h : Two w0 w bb v cv d C num) (hb : BusAt w' bb v' d' num') (s : Step w w' bb v v') : Two w0 w' bb v' cv d' C num' := by
  refine ⟨h.bus.step hb s h.bel.size, s.f.owns h.come ?_, h.clo, h.cb, ?_, h.bus.below h.bel s h.bel.size⟩
  · intro g hg e
    rcases e with e | e
    · exact h.cb g hg e
    · exact h.cv g hg e
  · intro g hg e
    rcases s.r with e' | e'
    · exact h.cv g hg (e' ▸ e)
    · have h1 := e' g e
      have h2 := (h.come.lt g hg).2
      omega
theorem Two.push {w0 w w' : World} {bb g cap : Nat} {v cv : Value} {d C : Array Sn} {num : Int} (h : Two w0 w bb v cv d C num) (s : Sn)
    (ho : w'.ownsRow 0 35 13 (.slice (some ⟨g, 0, none⟩) (C.size + 1) cap) (C.size + 1) ((flatK Sn.cs 13 C).toList ++ s.cs)) (hg : w.grownBy w' cv.ownBlock) (hat : cv.ownBlock = some g ∨ w.heap.size ≤ g) :
    Two w0 w' bb v (.slice (some ⟨g, 0, none⟩) (C.size + 1) cap) d (C.push s) num := by
  have f := Fr.grown hg
  have hbl : bb < w.heap.size := lt_of_block h.bus.at_.b
  have n1 : ¬ cv.ownBlock = some bb := fun e => h.cb bb e rfl
  have n2 : ∀ k, v.ownBlock = some k → ¬ cv.ownBlock = some k := fun k hk e => h.cv k e hk
  refine ⟨⟨h.bus.at_.keep f n1 n2, h.bus.lo, h.bus.row⟩, ?_, ?_, ?_, ?_, ?_⟩
  · rw [flatK_push]
    simpa using ho
  · intro k hk
    simp [Value.ownBlock] at hk
    subst hk
    rcases hat with e | e
    · exact h.clo _ e
    · exact Nat.le_trans h.bel.size e
  · intro k hk
    simp [Value.ownBlock] at hk
    subst hk
    rcases hat with e | e
    · exact h.cb _ e
    · omega
  · intro k hk
    simp [Value.ownBlock] at hk
    subst hk
    rcases hat with e | e
    · exact h.cv _ e
    · intro e2
      have := h.bus.at_.rlt e2
      omega
  · exact h.bel.trans (f.below w0.heap.size h.bel.size (fun i e => h.clo i e))
theorem Two.new (w : World) : Two w (w.alloc (.cells #[.slice none 0 0, .int .i64 0] 61)) w.heap.size (.slice none 0 0) (.slice none 0 0) #[] #[] 0 :=
  ⟨BusOwn.new w, by simpa [flatK] using World.ownsRow_nil _ 0 35 13, fun g h => by simp [Value.ownBlock] at h, fun g h => by simp [Value.ownBlock] at h, fun g h => by simp [Value.ownBlock] at h, (Below.refl w.heap.size w).alloc (Nat.le_refl _) _⟩

/-- The check: what is marked as seen. -/
structure Chk (w0 w : World) (bb : Nat) (v cv : Value) (d C : Array Sn) (num : Int) (g K : Nat) (S : Nat → Bool) (i : Nat) : Prop where
  two : Two w0 w bb v cv d C num
  seen : w.ownsRow 0 4 1 (.slice (some ⟨g, 0, none⟩) K K) K ((List.range K).map fun t => .bool (S t))
  gc : cv.ownBlock ≠ some g
  gb : g ≠ bb
  gv : v.ownBlock ≠ some g
  gl : w0.heap.size ≤ g
  hS : ∀ t, S t = true ↔ ∃ j, j < i ∧ C[j]!.num = (t : Int)
theorem Chk.pu {w0 w w' : World} {bb : Nat} {v cv : Value} {d C : Array Sn} {num : Int} {g K : Nat} {S : Nat → Bool} {i : Nat} (h : Chk w0 w bb v cv d C num g K S i) (p : Pu w w') : Chk w0 w' bb v cv d C num g K S i :=
  ⟨h.two.pu p, (Fr.pu p).owns h.seen (fun _ _ h => h), h.gc, h.gb, h.gv, h.gl, h.hS⟩
theorem Chk.new {w0 w w' : World} {bb : Nat} {v cv : Value} {d C : Array Sn} {num : Int} {K : Nat} (h : Two w0 w bb v cv d C num) (ho : w'.ownsRow 0 4 1 (.slice (some ⟨w.heap.size, 0, none⟩) K K) K (madeCells #[.bool false] (K * 1)).toList) (hg : w.grownBy w' none) : Chk w0 w' bb v cv d C num w.heap.size K (fun _ => false) 0 := by
  have f := Fr.grown hg
  have hbl : bb < w.heap.size := lt_of_block h.bus.at_.b
  have f' : Fr w w' (fun _ => False) := f.mono (fun _ _ h => by cases h)
  refine ⟨?_, ?_, ?_, by omega, ?_, h.bel.size, ?_⟩
  · exact ⟨⟨h.bus.at_.keep f' (fun h => h) (fun _ _ h => h), h.bus.lo, h.bus.row⟩, f'.owns h.come (fun _ _ h => h), h.clo, h.cb, h.cv, h.bel.trans (f'.below w0.heap.size h.bel.size (fun i e => e.elim))⟩
  · rw [Nat.mul_one, toList_madeCells_one] at ho
    rw [List.map_const', List.length_range]
    exact ho
  · intro e
    have := (h.come.lt _ e).2
    omega
  · intro e
    have := h.bus.at_.rlt e
    omega
  · intro t
    simp
theorem map_set {K t : Nat} (S : Nat → Bool) : ((List.range K).map fun u => Value.bool (S u)).set t (.bool true) = (List.range K).map fun u => Value.bool (u == t || S u) := by
  apply List.ext_getElem?
  intro i
  rw [List.getElem?_set]
  by_cases h : t = i
  · subst h
    by_cases hi : t < K
    · simp [hi]
    · simp [hi]
  · by_cases hi : i < K
    · have : (i == t) = false := by simp; omega
      simp [h, hi, this]
    · simp [h, hi]
theorem Chk.set {w0 w : World} {bb : Nat} {v cv : Value} {d C : Array Sn} {num : Int} {g K : Nat} {S : Nat → Bool} {i : Nat} (h : Chk w0 w bb v cv d C num g K S i) (t : Nat) (ht : C[i]!.num = (t : Int)) : Chk w0 (w.setCell ⟨g, t, none⟩ (.bool true)) bb v cv d C num g K (fun u => u == t || S u) (i + 1) := by
  obtain ⟨ho, hg⟩ := h.seen.stored t (.bool true)
  have f := Fr.grown hg
  have n1 : ¬ some g = some bb := fun e => h.gb (by simpa using e)
  have n2 : ∀ k, v.ownBlock = some k → ¬ some g = some k := fun k hk e => h.gv (by rw [hk, e])
  have n3 : ∀ k, cv.ownBlock = some k → ¬ some g = some k := fun k hk e => h.gc (by rw [hk, e])
  refine ⟨⟨⟨h.two.bus.at_.keep f n1 n2, h.two.bus.lo, h.two.bus.row⟩, f.owns h.two.come n3, h.two.clo, h.two.cb, h.two.cv, h.two.bel.trans (f.below w0.heap.size h.two.bel.size (fun i e => by simp at e; subst e; exact h.gl))⟩, by rw [← map_set]; exact ho, h.gc, h.gb, h.gv, h.gl, ?_⟩
  intro u
  simp only [Bool.or_eq_true, beq_iff_eq, h.hS u]
  constructor
  · rintro (rfl | ⟨j, hj, e⟩)
    · exact ⟨i, by omega, ht⟩
    · exact ⟨j, by omega, e⟩
  · rintro ⟨j, hj, e⟩
    by_cases hji : j = i
    · subst hji
      left
      omega
    · exact .inr ⟨j, by omega, e⟩
theorem Once.numlt {d C : Array Sn} {n : Nat} (h : Once d C.toList n) {i : Nat} (hi : i < C.size) : ∃ t : Nat, C[i]!.num = (t : Int) ∧ t < n := by
  have := h.lt (s := C[i]!) (List.mem_append_right _ (by rw [getElem!_pos C i hi]; simp))
  exact ⟨C[i]!.num.toNat, by omega, by omega⟩
theorem Once.fresh {d C : Array Sn} {n : Nat} (h : Once d C.toList n) {i j : Nat} (hi : i < C.size) (hj : j < i) : C[j]!.num ≠ C[i]!.num := by
  have := h.nodup
  rw [List.map_append] at this
  have := (List.nodup_append.1 this).2.1
  rw [List.nodup_iff_pairwise_ne, List.pairwise_map] at this
  have := List.pairwise_iff_getElem.1 this j i (by simp; omega) (by simpa using hi) hj
  rw [getElem!_pos C i hi, getElem!_pos C j (by omega)]
  simpa using this
theorem Once.older {d C : Array Sn} {n : Nat} (h : Once d C.toList n) {i j : Nat} (hi : i < C.size) (hj : j < i) (e1 : C[j]!.id = C[i]!.id) (e2 : C[j]!.r = C[i]!.r) : C[j]!.num < C[i]!.num := by
  have := List.pairwise_iff_getElem.1 h.ord j i (by simp; omega) (by simpa using hi) hj
  rw [getElem!_pos C i hi, getElem!_pos C j (by omega)] at *
  exact this (Sn.key_eq e1 e2)
theorem Chk.not {w0 w : World} {bb : Nat} {v cv : Value} {d C : Array Sn} {num : Int} {g K n : Nat} {S : Nat → Bool} {i t : Nat} (h : Chk w0 w bb v cv d C num g K S i) (o : Once d C.toList n) (hi : i < C.size) (ht : C[i]!.num = (t : Int)) (hK : t < K) : w.cell? ⟨g, t, none⟩ = some (.bool false) := by
  have hs : S t = false := by
    cases hs : S t with
    | false => rfl
    | true =>
      obtain ⟨j, hj, e⟩ := (h.hS t).1 hs
      exact (o.fresh hi hj (by rw [e, ht])).elim
  rw [h.seen.cellAt t (by omega)]
  simp [hK, hs]

theorem Try.infoB : (Try.prog.info? 4).map (fun i => (i.zero, i.size, i.bytes)) = some (some (.bool false), 1, 1) := by kernel_rfl
set_option maxHeartbeats 400000 in
theorem pick8 (i : Int) (w : World) : Calls Try.prog 8 #[.int .i64 i, .int .i64 4] w fun e w' => (∃ p : Nat, p < 4 ∧ e = .returned (.int .i64 p)) ∧ w' = w := by
  have h1 : -4 < i.tmod 4 ∧ i.tmod 4 < 4 := by
    have h0 := Int.tmod_lt_of_pos i (b := 4) (by decide)
    have h2 := Int.tmod_lt_of_pos (-i) (b := 4) (by decide)
    rw [Int.neg_tmod] at h2
    omega
  go_enter Try.func8, Try.ntmps8
  go_wp2_with fail
  go_ret
  exact ⟨⟨((i.tmod 4 + 4) % 4).toNat, by omega, by rw [Int.toNat_of_nonneg (by omega)]; rfl⟩, rfl⟩
end Go.Proofs.Ythmfibgjemnlbaa

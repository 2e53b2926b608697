/- Bus (layer 4): DeleteFunc: the row as it turns. -/
import Derived.Test.YthmfibgjemnlbaaB28
import Derived.Test.YthmfibgjemnlbaaB24
import Derived.Lib.SliceRun
namespace Go.Proofs.Ythmfibgjemnlbaa
open Go.RowKit Go.Sort Go.Shelf Go.Lib Go.Proofs
set_option linter.unusedVariables false
theorem heap_setCells (b : Nat) (t : TypeId) : ∀ (vs : List Value) (o : Nat) (w : World) (cur : Array Value), w.heap[b]? = some (.cells cur t) → (w.setCells b o vs).heap[b]? = some (.cells (setMany cur o vs) t)
  | [], _, _, _, h => h
  | v :: r, o, w, cur, h => by
    rw [World.setCells, setMany]
    exact heap_setCells b t r (o + 1) _ _ (heap_setCell_same w b o cur t v h)
theorem Fr.setCells {w : World} {S : Nat → Prop} (b : Nat) (hb : S b) : ∀ (vs : List Value) (o : Nat) (w' : World), Fr w w' S → Fr w (w'.setCells b o vs) S
  | [], _, _, h => h
  | v :: r, o, w', h => by
    rw [World.setCells]
    exact Fr.setCells b hb r (o + 1) _ (h.setCell ⟨b, o, none⟩ v (fun _ => hb))
theorem many_get {cur : Array Value} {o : Nat} {vs : List Value} (hs : o + vs.length ≤ cur.size) (t : Nat) : (setMany cur o vs)[t]? = if o ≤ t ∧ t < o + vs.length then vs[t - o]? else cur[t]? := by
  by_cases ht : t < cur.size
  · have h := get_setMany vs o cur t ht
    rw [Array.getElem?_eq_getElem (by simpa using ht), ← getElem!_pos (setMany cur o vs) t (by simpa using ht), h]
    by_cases h2 : o ≤ t ∧ t < o + vs.length
    · rw [if_pos h2, if_pos h2, List.getElem?_eq_getElem (by omega), getElem!_pos vs (t - o) (by omega)]
    · rw [if_neg h2, if_neg h2, Array.getElem?_eq_getElem ht, getElem!_pos cur t ht]
  · rw [if_neg (by omega), Array.getElem?_eq_none (by simp; omega), Array.getElem?_eq_none (by omega)]
/-- The row while DeleteFunc goes: what is kept ahead, what is not yet looked at behind. -/
structure DelRow (w0 w : World) (g cap : Nat) (d K : Array Sn) (j : Nat) : Prop where
  row : ∃ cur, w.heap[g]? = some (.cells cur 35) ∧ cur.size = cap * 13 ∧ (∀ m, m < K.size → ∀ (k : Nat) (v : Value), K[m]!.cs[k]? = some v → cur[m * 13 + k]? = some v) ∧ (∀ m, j ≤ m → m < d.size → ∀ (k : Nat) (v : Value), d[m]!.cs[k]? = some v → cur[m * 13 + k]? = some v)
  f : Fr w0 w (fun i => i = g)
theorem DelRow.lt {w0 w : World} {g cap : Nat} {d K : Array Sn} {j : Nat} (h : DelRow w0 w g cap d K j) : g < w.heap.size := by
  obtain ⟨cur, hg, _⟩ := h.row
  exact lt_of_block hg
theorem DelRow.pu {w0 w w' : World} {g cap : Nat} {d K : Array Sn} {j : Nat} (h : DelRow w0 w g cap d K j) (p : Pu w w') : DelRow w0 w' g cap d K j := by
  obtain ⟨cur, hg, hr⟩ := h.row
  exact ⟨⟨cur, (p.below.block g (lt_of_block hg)).trans hg, hr⟩, h.f.trans (Fr.pu p) (fun _ _ h => h.elim)⟩
theorem DelRow.skip {w0 w : World} {g cap : Nat} {d K : Array Sn} {j : Nat} (h : DelRow w0 w g cap d K j) : DelRow w0 w g cap d K (j + 1) := by
  obtain ⟨cur, hg, hs, h1, h2⟩ := h.row
  exact ⟨⟨cur, hg, hs, h1, fun m hm => h2 m (by omega)⟩, h.f⟩
theorem DelRow.put {w0 w : World} {g cap : Nat} {d K : Array Sn} {j : Nat} (h : DelRow w0 w g cap d K j) (s : Sn) (hK : K.size ≤ j) (hc : K.size < cap) : DelRow w0 (w.setCells g (K.size * 13) s.cs) g cap d (K.push s) (j + 1) := by
  obtain ⟨cur, hg, hs, h1, h2⟩ := h.row
  have hsz : K.size * 13 + s.cs.length ≤ cur.size := by rw [Sn.cs_length, hs]; omega
  refine ⟨⟨_, heap_setCells g 35 s.cs _ w cur hg, by simpa using hs, ?_, ?_⟩, Fr.setCells (S := fun i => i = g) g rfl _ _ _ h.f⟩
  · intro m hm k v hv
    have hk : k < 13 := by have := (List.getElem?_eq_some_iff.1 hv).1; rwa [Sn.cs_length] at this
    rw [many_get hsz, Sn.cs_length]
    rw [Array.size_push] at hm
    by_cases e : m = K.size
    · subst e
      rw [if_pos (by omega)]
      rw [getElem!_pos (K.push s) K.size (by simp), Array.getElem_push_eq] at hv
      rw [show K.size * 13 + k - K.size * 13 = k by omega]
      exact hv
    · rw [if_neg (by omega)]
      rw [push_get (by omega)] at hv
      exact h1 m (by omega) k v hv
  · intro m hm hmd k v hv
    have hk : k < 13 := by have := (List.getElem?_eq_some_iff.1 hv).1; rwa [Sn.cs_length] at this
    rw [many_get hsz, Sn.cs_length, if_neg (by omega)]
    exact h2 m (by omega) hmd k v hv
/-- The rest is cleared. -/
theorem DelRow.fin {w0 w : World} {g cap n : Nat} {d K : Array Sn} {j : Nat} (h : DelRow w0 w g cap d K j) (zs : List Value) (hz : K.size * 13 + zs.length ≤ cap * 13) (hcm : cap ≤ maxLen) :
    (w.setCells g (K.size * 13) zs).ownsRow 0 35 13 (.slice (some ⟨g, 0, none⟩) K.size cap) K.size (flatK Sn.cs 13 K).toList ∧ Fr w0 (w.setCells g (K.size * 13) zs) (fun i => i = g) := by
  obtain ⟨cur, hg, hs, h1, h2⟩ := h.row
  refine ⟨⟨by simp, .inr ⟨g, cap, _, rfl, Nat.zero_le _, heap_setCells g 35 zs _ w cur hg, by omega, hcm, by simpa using hs, ?_⟩⟩, Fr.setCells (S := fun i => i = g) g rfl _ _ _ h.f⟩
  apply List.ext_getElem?
  intro t
  by_cases ht : t < K.size * 13
  · rw [List.getElem?_take_of_lt ht, Array.getElem?_toList, many_get (by rw [hs]; exact hz), if_neg (by omega)]
    obtain ⟨u, hu⟩ : ∃ u, (flatK Sn.cs 13 K).toList[t]? = some u := ⟨_, List.getElem?_eq_getElem (by simpa using ht)⟩
    have h3 := flatK_get hu
    rw [hu, ← h1 (t / 13) h3.1 (t % 13) u h3.2]
    congr 1
    omega
  · rw [List.getElem?_eq_none (by simp; omega), List.getElem?_eq_none (by simp; omega)]
theorem DelRow.new {w : World} {g c : Nat} {d : Array Sn} (ho : w.ownsRow 0 35 13 (.slice (some ⟨g, 0, none⟩) d.size c) d.size (flatK Sn.cs 13 d).toList) (i : Nat) (hi : i < d.size) : DelRow w w g c d (d.extract 0 i) (i + 1) ∧ d.size ≤ c ∧ c ≤ maxLen := by
  rcases ho.2 with ⟨h, _⟩ | ⟨g', cap, cur, hv, _, hg, h1, h2, h3, h4⟩
  · cases h
  · cases hv
    have key : ∀ m, m < d.size → ∀ (k : Nat) (v : Value), d[m]!.cs[k]? = some v → cur[m * 13 + k]? = some v := by
      intro m hm k v hv
      have hk : k < 13 := by have := (List.getElem?_eq_some_iff.1 hv).1; rwa [Sn.cs_length] at this
      have hj : m * 13 + k < d.size * 13 := by omega
      obtain ⟨u, hu⟩ : ∃ u, (flatK Sn.cs 13 d).toList[m * 13 + k]? = some u := ⟨_, List.getElem?_eq_getElem (by simpa using hj)⟩
      have h5 := (flatK_get hu).2
      rw [show (m * 13 + k) / 13 = m by omega, show (m * 13 + k) % 13 = k by omega, hv] at h5
      cases h5
      rw [← h4, List.getElem?_take_of_lt hj] at hu
      simpa using hu
    refine ⟨⟨⟨cur, hg, h3, fun m hm k v hv => ?_, fun m _ hm => key m hm⟩, Fr.refl _ _⟩, h1, h2⟩
    have hm' : m < i := by simp at hm; omega
    refine key m (by omega) k v ?_
    rw [getElem!_pos (d.extract 0 i) m hm] at hv
    rw [getElem!_pos d m (by omega)]
    simpa using hv
theorem extract_push {d : Array Sn} {i : Nat} (hi : i < d.size) : (d.extract 0 i).push d[i]! = d.extract 0 (i + 1) := by
  rw [getElem!_pos d i hi]
  simp
theorem keepL_all (node : Int) (d : Array Sn) : ∀ i, i ≤ d.size → (∀ j, j < i → d[j]!.node ≠ node) → keepL node d i = d.extract 0 i
  | 0, _, _ => by simp [keepL]
  | i + 1, hi, h => by
    rw [keepL, if_neg (h i (by omega)), keepL_all node d i (by omega) (fun j hj => h j (by omega)), extract_push (by omega)]
/-- 'clear' at the elements. -/
theorem run_clear26 (w : World) (b o n c : Nat) (hn : 0 < n) (hc : ∀ j, j < n * 13 → (w.cell? ⟨b, o + j, none⟩).isSome = true) (hf : ∀ j, j < n * 13 → w.frozen? ⟨b, o + j, none⟩ = false) :
    ∃ zs : List Value, zs.length = n * 13 ∧ ∀ ty, (Builtin.clear_ #[26] ty #[.slice (some ⟨b, o, none⟩) n c]).run Try.prog w = .ok (.tuple #[]) (w.setCells b o zs) := by
  have hv : ∀ w, (zeroValue 35).run Try.prog w = .ok zS w := by intro w; kernel_rfl
  have hl : (Builtin.zeroCells zS.cells n).toList.length = n * 13 := by simp [Builtin.zeroCells]; rfl
  have h1 : ∀ v ∈ (Builtin.zeroCells zS.cells n).toList, v.oneCell' = true := by
    intro v hv
    have key : ∀ t, t < 13 → (zS.cells[t]!).oneCell' = true := by decide
    simp only [Builtin.zeroCells, Array.toList_map, List.mem_map] at hv
    obtain ⟨t, _, rfl⟩ := hv
    exact key (t % 13) (by omega)
  refine ⟨(Builtin.zeroCells zS.cells n).toList, hl, fun ty => ?_⟩
  have hst := run_storeCells_cells (P := Try.prog) b o (Builtin.zeroCells zS.cells n).toList 0 w (by rw [hl]; simpa using hc) (by rw [hl]; simpa using hf) h1
  simp only [Nat.add_zero] at hst
  obtain ⟨m, rfl⟩ : ∃ m, n = m + 1 := ⟨n - 1, by omega⟩
  simp [Builtin.clear_, run_underlying Try.underlying26, hv, hst]
end Go.Proofs.Ythmfibgjemnlbaa

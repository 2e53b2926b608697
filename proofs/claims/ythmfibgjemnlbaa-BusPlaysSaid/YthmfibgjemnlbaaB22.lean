/- Bus (layer 4): the reference's bus in memory; an append of whatever slice. -/
import Derived.Test.YthmfibgjemnlbaaB20
import Derived.Laws.AppendOwnNone
import Derived.Deep.RegionLaw
import Derived.Deep.AppendLies
namespace Go.Proofs.Ythmfibgjemnlbaa
open Go.RowKit Go.Sort Go.Shelf Go.Lib
set_option linter.unusedVariables false

/-- What an append takes: nil, or cells that are known. -/
def Src (w : World) (x : Value) (m : Nat) (news : List Value) : Prop :=
  (x = .slice none 0 0 ∧ m = 0 ∧ news = []) ∨ ∃ ad c, x = .slice (some ad) m c ∧ ∀ j u, news[j]? = some u → w.cell? (ad.add j) = some u
theorem run_append_src {P : Program} (w : World) (base : Nat) (t ty : TypeId) (e : TypeId) (i : TypeInfo) (z : Value) (size bytes : Nat) (ht : P.underlying t = some (.slice e)) (hi : P.info? e = some i) (hz : i.zero = some z)
    (hsize : i.size = size) (hby : i.bytes = bytes) (hzs : z.cells.size = size) (hsz : 0 < size)
    (v : Value) (n : Nat) (xs : List Value) (hown : w.ownsRow base e size v n xs)
    (x : Value) (m : Nat) (news : List Value) (hs : Src w x m news) (hl : news.length = m * size) (h1 : ∀ u ∈ news, u.oneCell' = true)
    (h63 : n + m ≤ maxLen) (hbytes : (n + m) * bytes ≤ 140737488355328) (hbase : base ≤ w.heap.size) :
    ∃ v' w', (Builtin.append_ #[t, t] ty #[v, x]).run P w = .ok v' w' ∧ w'.ownsRow base e size v' (n + m) (xs ++ news) ∧ w.grownBy w' v.ownBlock ∧ (v'.ownBlock = v.ownBlock ∨ v'.ownBlock = some w.heap.size) := by
  rcases hs with ⟨rfl, rfl, rfl⟩ | ⟨ad, c, rfl, hnews⟩
  · exact ⟨v, w, run_append_owned_none (P := P) (w := w) base t ty e i size ht hi v n xs hown, by simpa using hown, ⟨rfl, rfl, rfl, Nat.le_refl _, fun _ _ _ => rfl⟩, .inl rfl⟩
  · obtain ⟨v', w', hr, h2, h3, _, h5⟩ := run_append_own_at (P := P) w base t ty e i z size bytes ht hi hz hsize hby hzs hsz v n xs hown ad m c news hl hnews h1 h63 hbytes hbase
    exact ⟨v', w', hr, h2, h3, h5⟩
theorem wp_append_src {P : Program} (w : World) {o : Oper} {a : Act} {K : Act → World → Prop} {Q : Exit → Act → World → Prop} (s x : Operand) (t : TypeId)
    (ho : o.op = .call { callee := .builtin .append, args := #[s, x], argTypes := #[t, t] })
    (base : Nat) (e : TypeId) (i : TypeInfo) (z : Value) (size bytes : Nat) (ht : P.underlying t = some (.slice e)) (hi : P.info? e = some i) (hz : i.zero = some z)
    (hsize : i.size = size) (hby : i.bytes = bytes) (hzs : z.cells.size = size) (hsz : 0 < size)
    (v : Value) (n : Nat) (xs : List Value) (hs : a.eval s = v) (hown : w.ownsRow base e size v n xs)
    (X : Value) (m : Nat) (news : List Value) (hx : a.eval x = X) (hS : Src w X m news) (hl : news.length = m * size) (h1 : ∀ u ∈ news, u.oneCell' = true)
    (h63 : n + m ≤ maxLen) (hbytes : (n + m) * bytes ≤ 140737488355328) (hbase : base ≤ w.heap.size)
    (h : ∀ v' w', w'.ownsRow base e size v' (n + m) (xs ++ news) → w.grownBy w' v.ownBlock → (v'.ownBlock = v.ownBlock ∨ v'.ownBlock = some w.heap.size) → K (a.put o.dst v') w') : o.wp P a w K Q := by
  obtain ⟨v', w', hr, h2, h3, h4⟩ := run_append_src (P := P) w base t o.type e i z size bytes ht hi hz hsize hby hzs hsz v n xs hown X m news hS hl h1 h63 hbytes hbase
  unfold Oper.wp execOp
  simp only [ho, resolve, invoke, builtin, Sem.run_bind, Sem.run_pure, Result.andThen_ok, List.map_toArray, List.map_cons, List.map_nil, hs, hx, hr]
  exact h v' w' h2 h3 h4
theorem wpList_append_src {P : Program} (w : World) {ops : Array Oper} {rest : List Oper} {o : Oper} {a : Act} {Q : Exit → Act → World → Prop} (hgd : o.guard = none) (s x : Operand) (t : TypeId)
    (ho : o.op = .call { callee := .builtin .append, args := #[s, x], argTypes := #[t, t] })
    (base : Nat) (e : TypeId) (i : TypeInfo) (z : Value) (size bytes : Nat) (ht : P.underlying t = some (.slice e)) (hi : P.info? e = some i) (hz : i.zero = some z)
    (hsize : i.size = size) (hby : i.bytes = bytes) (hzs : z.cells.size = size) (hsz : 0 < size)
    (v : Value) (n : Nat) (xs : List Value) (hs : a.eval s = v) (hown : w.ownsRow base e size v n xs)
    (X : Value) (m : Nat) (news : List Value) (hx : a.eval x = X) (hS : Src w X m news) (hl : news.length = m * size) (h1 : ∀ u ∈ news, u.oneCell' = true)
    (h63 : n + m ≤ maxLen) (hbytes : (n + m) * bytes ≤ 140737488355328) (hbase : base ≤ w.heap.size)
    (h : ∀ v' w', w'.ownsRow base e size v' (n + m) (xs ++ news) → w.grownBy w' v.ownBlock → (v'.ownBlock = v.ownBlock ∨ v'.ownBlock = some w.heap.size) → wpList P ops Q rest (a.put o.dst v') w') : wpList P ops Q (o :: rest) a w :=
  wpList_plain hgd fun _ hK => wp_append_src w s x t ho base e i z size bytes ht hi hz hsize hby hzs hsz v n xs hs hown X m news hx hS hl h1 h63 hbytes hbase fun v' w' h2 h3 h4 => hK _ _ (h v' w' h2 h3 h4)
theorem step_append_src {P : Program} (w : World) {ops : Array Oper} {o : Oper} {a : Act} {K : Act → World → Prop} {Q : Exit → Act → World → Prop} {E : Prop} (hgd : o.guard = none) (s x : Operand) (t : TypeId)
    (ho : o.op = .call { callee := .builtin .append, args := #[s, x], argTypes := #[t, t] })
    (base : Nat) (e : TypeId) (i : TypeInfo) (z : Value) (size bytes : Nat) (ht : P.underlying t = some (.slice e)) (hi : P.info? e = some i) (hz : i.zero = some z)
    (hsize : i.size = size) (hby : i.bytes = bytes) (hzs : z.cells.size = size) (hsz : 0 < size)
    (v : Value) (n : Nat) (xs : List Value) (hs : a.eval s = v) (hown : w.ownsRow base e size v n xs)
    (X : Value) (m : Nat) (news : List Value) (hx : a.eval x = X) (hS : Src w X m news) (hl : news.length = m * size) (h1 : ∀ u ∈ news, u.oneCell' = true)
    (h63 : n + m ≤ maxLen) (hbytes : (n + m) * bytes ≤ 140737488355328) (hbase : base ≤ w.heap.size)
    (h : ∀ v' w', w'.ownsRow base e size v' (n + m) (xs ++ news) → w.grownBy w' v.ownBlock → (v'.ownBlock = v.ownBlock ∨ v'.ownBlock = some w.heap.size) → K (a.put o.dst v') w') :
    if Region.wanted o (yielded ops a.tmps) = true then Oper.wp P o a w K Q else E := by
  have hw : Region.wanted o (yielded ops a.tmps) = true := by simp [Region.wanted, hgd]
  rw [if_pos hw]
  exact wp_append_src w s x t ho base e i z size bytes ht hi hz hsize hby hzs hsz v n xs hs hown X m news hx hS hl h1 h63 hbytes hbase h

/-- The reference's bus: its block, its list's cells (of type 71). -/
structure RefAt (w : World) (rb : Nat) (A : Option Addr) (c : Nat) (L : Array Sn) (num : Int) : Prop where
  b : w.heap[rb]? = some (.cells #[.slice A L.size c, .int .i64 num] 49)
  cap : L.size ≤ c ∧ c ≤ maxLen
  row : (A = none ∧ L = #[] ∧ c = 0) ∨ ∃ g off cur, A = some ⟨g, off, none⟩ ∧ w.heap[g]? = some (.cells cur 71) ∧ ∀ i, i < L.size → ∀ (k : Nat) (v : Value), L[i]!.cs[k]? = some v → cur[off + i * 13 + k]? = some v
theorem RefAt.lt {w : World} {rb : Nat} {A : Option Addr} {c : Nat} {L : Array Sn} {num : Int} (h : RefAt w rb A c L num) : rb < w.heap.size := lt_of_block h.b
theorem RefAt.keep {w w' : World} {S : Nat → Prop} {rb : Nat} {A : Option Addr} {c : Nat} {L : Array Sn} {num : Int} (h : RefAt w rb A c L num) (f : Fr w w' S) (h1 : ¬ S rb) (h2 : ∀ g cur, w.heap[g]? = some (.cells cur 71) → ¬ S g) : RefAt w' rb A c L num :=
  ⟨f.heap h.b h1, h.cap, h.row.imp id (fun ⟨g, off, cur, a, b, c⟩ => ⟨g, off, cur, a, f.heap b (h2 g cur b), c⟩)⟩
theorem RefAt.cell {w : World} {rb : Nat} {A : Option Addr} {c : Nat} {L : Array Sn} {num : Int} (h : RefAt w rb A c L num) {i : Nat} (hi : i < L.size) : ∃ g off, A = some ⟨g, off, none⟩ ∧ ∀ (k : Nat) (v : Value), L[i]!.cs[k]? = some v → w.cell? ⟨g, off + i * 13 + k, none⟩ = some v := by
  rcases h.row with ⟨_, h0, _⟩ | ⟨g, off, cur, hA, hg, hc⟩
  · rw [h0] at hi; simp at hi
  · refine ⟨g, off, hA, fun k v hv => ?_⟩
    have := hc i hi k v hv
    simp [World.cell?, hg, this]
/-- The list is set: the new list's cells lie as they lie. -/
theorem RefAt.set {w : World} {rb : Nat} {A : Option Addr} {c : Nat} {L : Array Sn} {num : Int} (h : RefAt w rb A c L num) (A' : Option Addr) (c' : Nat) (L' : Array Sn) (n : Nat) (hn : L'.size = n) (hcap : n ≤ c' ∧ c' ≤ maxLen)
    (hrow : (A' = none ∧ L' = #[] ∧ c' = 0) ∨ ∃ g off cur, A' = some ⟨g, off, none⟩ ∧ w.heap[g]? = some (.cells cur 71) ∧ ∀ i, i < L'.size → ∀ (k : Nat) (v : Value), L'[i]!.cs[k]? = some v → cur[off + i * 13 + k]? = some v) :
    RefAt (w.setCell ⟨rb, 0, none⟩ (.slice A' n c')) rb A' c' L' num ∧ Fr w (w.setCell ⟨rb, 0, none⟩ (.slice A' n c')) (fun i => i = rb) := by
  subst hn
  have f : Fr w (w.setCell ⟨rb, 0, none⟩ (.slice A' L'.size c')) (fun i => i = rb) := (Fr.refl w _).setCell _ _ (fun _ => rfl)
  refine ⟨⟨?_, hcap, ?_⟩, f⟩
  · exact heap_setCell_same w rb 0 _ _ _ h.b
  · rcases hrow with hr | ⟨g, off, cur, hA, hg, hc⟩
    · exact .inl hr
    · refine .inr ⟨g, off, cur, hA, f.heap hg (fun e => ?_), hc⟩
      subst e
      rw [h.b] at hg
      cases hg
/-- A row that is owned is a list of the reference's. -/
theorem ref_row {w : World} {v : Value} {L : Array Sn} (h : w.ownsRow 0 71 13 v L.size (flatK Sn.cs 13 L).toList) : ∃ A c, v = .slice A L.size c ∧ (L.size ≤ c ∧ c ≤ maxLen) ∧
    ((A = none ∧ L = #[] ∧ c = 0) ∨ ∃ g off cur, A = some ⟨g, off, none⟩ ∧ w.heap[g]? = some (.cells cur 71) ∧ ∀ i, i < L.size → ∀ (k : Nat) (u : Value), L[i]!.cs[k]? = some u → cur[off + i * 13 + k]? = some u) := by
  rcases h.2 with ⟨rfl, h0⟩ | ⟨g, cap, cur, rfl, _, hg, h1, h2, h3, h4⟩
  · exact ⟨none, 0, by rw [h0], by rw [h0]; simp, .inl ⟨rfl, Array.eq_empty_of_size_eq_zero h0, rfl⟩⟩
  · refine ⟨_, cap, rfl, ⟨h1, h2⟩, .inr ⟨g, 0, cur, rfl, hg, fun i hi k u hu => ?_⟩⟩
    have hk : k < 13 := by
      have := (List.getElem?_eq_some_iff.1 hu).1
      rwa [Sn.cs_length] at this
    have hj : i * 13 + k < L.size * 13 := by omega
    have e1 : (flatK Sn.cs 13 L).toList[i * 13 + k]? = some u := by
      simp only [flatK, Array.toList_map, List.getElem?_map, Array.toList_range]
      rw [List.getElem?_range hj]
      simp only [Option.map_some]
      rw [show (i * 13 + k) / 13 = i by omega, show (i * 13 + k) % 13 = k by omega]
      have := List.getElem?_eq_some_iff.1 hu
      obtain ⟨hlt, e⟩ := this
      rw [getElem!_pos (L[i]!.cs) k hlt, e]
    rw [← h4, List.getElem?_take_of_lt hj] at e1
    simpa using e1
theorem flatK_get {M : Array Sn} {j : Nat} {u : Value} (h : (flatK Sn.cs 13 M).toList[j]? = some u) : j / 13 < M.size ∧ M[j / 13]!.cs[j % 13]? = some u := by
  have hj : j < M.size * 13 := by
    have := (List.getElem?_eq_some_iff.1 h).1
    simpa using this
  refine ⟨by omega, ?_⟩
  simp only [flatK, Array.toList_map, List.getElem?_map, Array.toList_range] at h
  rw [List.getElem?_range hj] at h
  simp only [Option.map_some] at h
  have hlt : j % 13 < (M[j / 13]!.cs).length := by rw [Sn.cs_length]; omega
  rw [List.getElem?_eq_getElem hlt]
  rw [getElem!_pos (M[j / 13]!.cs) (j % 13) hlt] at h
  exact h
theorem flatK_one (M : Array Sn) : ∀ u ∈ (flatK Sn.cs 13 M).toList, u.oneCell' = true := by
  intro u hu
  obtain ⟨j, hj⟩ := List.getElem?_of_mem hu
  obtain ⟨_, h⟩ := flatK_get hj
  exact Sn.cs_one _ _ (List.mem_of_getElem? h)
/-- A part of the list, as an append takes it. -/
theorem RefAt.part {w : World} {rb g off : Nat} {c : Nat} {L : Array Sn} {num : Int} (h : RefAt w rb (some ⟨g, off, none⟩) c L num) (i m : Nat) (hi : i + m ≤ L.size) :
    ∀ j u, (flatK Sn.cs 13 (L.extract i (i + m))).toList[j]? = some u → w.cell? ((⟨g, off + i * 13, none⟩ : Addr).add j) = some u := by
  intro j u hu
  obtain ⟨h1, h2⟩ := flatK_get hu
  have hm : j / 13 < m := by simp at h1; omega
  obtain ⟨g', off', e, hc⟩ := h.cell (i := i + j / 13) (by omega)
  cases e
  have := hc (j % 13) u (by
    rw [getElem!_pos (L.extract i (i + m)) (j / 13) h1] at h2
    rw [getElem!_pos L (i + j / 13) (by omega)]
    simpa using h2)
  rw [Addr.add_lit]
  rw [show off + i * 13 + j = off + (i + j / 13) * 13 + j % 13 by omega]
  exact this
theorem RefAt.src {w : World} {rb : Nat} {A : Option Addr} {c : Nat} {L : Array Sn} {num : Int} (h : RefAt w rb A c L num) : Src w (.slice A L.size c) L.size (flatK Sn.cs 13 L).toList := by
  rcases h.row with ⟨rfl, rfl, rfl⟩ | ⟨g, off, cur, rfl, _, _⟩
  · exact .inl ⟨rfl, rfl, by simp [flatK]⟩
  · refine .inr ⟨_, _, rfl, ?_⟩
    have := h.part 0 L.size (by omega)
    simpa using this
theorem Try.infoR : (Try.prog.info? 71).map (fun i => (i.zero, i.size, i.bytes)) = some (some zS, 13, 48) := by kernel_rfl
end Go.Proofs.Ythmfibgjemnlbaa

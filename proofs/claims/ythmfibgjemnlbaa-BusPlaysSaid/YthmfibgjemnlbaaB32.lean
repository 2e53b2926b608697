/- Bus (layer 4): the plain law behind BusPlays: a heap and a sorted list. -/
import Derived.Test.YthmfibgjemnlbaaB24
import Derived.Test.YthmfibgjemnlbaaB23
namespace Go.Proofs.Ythmfibgjemnlbaa
open Go.RowKit Go.Sort Go.Shelf Go.Lib
set_option linter.unusedVariables false
/-- A heap and the list in its order. -/
structure Play (d L : Array Sn) (num : Int) : Prop where
  heap : HP d d.size 0
  perm : L.toList.Perm d.toList
  ord : L.toList.Pairwise (fun a b => a.ah b = true)
  nums : ∀ x ∈ L.toList, x.num < num
theorem Play.new : Play #[] #[] 0 := ⟨fun k _ h => by simp at h, List.Perm.refl _, List.Pairwise.nil, fun x h => by cases h⟩
theorem Play.size {d L : Array Sn} {num : Int} (h : Play d L num) : L.size = d.size := by simpa using h.perm.length_eq
theorem Sn.ah_tri {s t : Sn} (h : s.ah t = false) (hn : s.num ≠ t.num) : t.ah s = true := by
  rw [Sn.ah_not] at h
  rw [Sn.ah_iff]
  omega
theorem Play.send {d L : Array Sn} {num : Int} (h : Play d L num) (s : Sn) (hs : s.num = num) (i : Nat) (hi : i ≤ L.size) (h1 : ∀ j, j < i → L[j]!.ah s = true) (h2 : i = L.size ∨ L[i]!.ah s = false) :
    Play (upL (d.push s) d.size) ((L.extract 0 i).push s ++ L.extract i L.size) (num + 1) := by
  have hp := up_perm d.size (d.push s) (by simp)
  have hp2 : (upL (d.push s) d.size).toList.Perm (d.toList ++ [s]) := by simpa using hp
  have el : ((L.extract 0 i).push s ++ L.extract i L.size).toList = L.toList.take i ++ s :: L.toList.drop i := by
    simp
    rw [List.take_of_length_le (by simp)]
  have hpl : (L.toList.take i ++ s :: L.toList.drop i).Perm (L.toList ++ [s]) := by
    refine List.perm_middle.trans ?_
    rw [List.take_append_drop]
    exact (List.perm_append_comm (l₁ := [s]) (l₂ := L.toList))
  refine ⟨?_, ?_, ?_, ?_⟩
  · rw [size_upL]
    refine up_heap _ _ _ rfl (by simp) ?_ ?_
    · intro i h0 hi hne
      have hi' : i < d.size := by simp at hi; omega
      rw [push_get hi', push_get (by omega)]
      exact h.heap i h0 hi' (Nat.zero_le _)
    · intro h0 c hc hcn he
      simp at hcn
      omega
  · rw [el]
    exact (hpl.trans (List.Perm.append_right [s] h.perm)).trans hp2.symm
  · rw [el, List.pairwise_append]
    have hord : (L.toList.take i ++ L.toList.drop i).Pairwise (fun a b => a.ah b = true) := by rw [List.take_append_drop]; exact h.ord
    rw [List.pairwise_append] at hord
    have ht : ∀ x ∈ L.toList.take i, x.ah s = true := by
      intro x hx
      obtain ⟨j, hj, e⟩ := List.getElem_of_mem hx
      rw [List.length_take] at hj
      have hj2 : j < L.size := by simp at hj; omega
      have := h1 j (by omega)
      rw [getElem!_pos L j hj2] at this
      rw [← e, List.getElem_take]
      simpa using this
    have hd : ∀ x ∈ L.toList.drop i, s.ah x = true := by
      intro x hx
      rcases h2 with e | e
      · rw [List.drop_of_length_le (by simp; omega)] at hx; cases hx
      · obtain ⟨j, hj, e2⟩ := List.getElem_of_mem hx
        rw [List.length_drop] at hj
        have hj3 : i + j < L.size := by simp at hj; omega
        have hi3 : i < L.size := by omega
        rw [List.getElem_drop] at e2
        have hin : ∀ k (hk : k < L.size), L[k].num < s.num := fun k hk => by rw [hs]; exact h.nums _ (by simp)
        have hb : s.ah L[i] = true := Sn.ah_tri (by rw [getElem!_pos L i hi3] at e; exact e) (by have := hin i hi3; omega)
        by_cases hj0 : j = 0
        · subst hj0
          rw [← e2]
          simpa using hb
        · have := List.pairwise_iff_getElem.1 h.ord i (i + j) (by simpa using hi3) (by simpa using hj3) (by omega)
          rw [← e2]
          exact Sn.ah_trans hb (by simpa using this)
    refine ⟨hord.1, ?_, ?_⟩
    · rw [List.pairwise_cons]
      exact ⟨hd, hord.2.1⟩
    · intro a ha b hb
      rw [List.mem_cons] at hb
      rcases hb with rfl | hb
      · exact ht a ha
      · exact hord.2.2 a ha b hb
  · intro x hx
    rw [el] at hx
    have := hpl.mem_iff.1 hx
    rw [List.mem_append] at this
    rcases this with hx | hx
    · have := h.nums x hx; omega
    · simp at hx; subst hx; omega
theorem Play.first {d L : Array Sn} {num : Int} (h : Play d L num) (hd : d.size ≠ 0) : d[0]! = L[0]! := by
  have hL := h.size
  have h0 : d[0]! ∈ L.toList := h.perm.mem_iff.2 (by rw [getElem!_pos d 0 (by omega)]; simp)
  obtain ⟨j, hj, e⟩ := List.getElem_of_mem h0
  have hj2 : j < L.size := by simpa using hj
  by_cases hj0 : j = 0
  · subst hj0
    rw [getElem!_pos L 0 (by omega), ← e]
    simp
  · have h1 := List.pairwise_iff_getElem.1 h.ord 0 j (by simp; omega) hj (by omega)
    have h2 : L[0]! ∈ d.toList := h.perm.mem_iff.1 (by rw [getElem!_pos L 0 (by omega)]; simp)
    obtain ⟨k, hk, e2⟩ := List.getElem_of_mem h2
    have hk2 : k < d.size := by simpa using hk
    have h3 := h.heap.root k hk2
    rw [getElem!_pos d k hk2] at h3
    have e3 : d[k] = L[0]! := by simpa using e2
    rw [e] at h1
    rw [e3, getElem!_pos L 0 (by omega)] at h3
    simp only [Array.getElem_toList] at h1
    rw [h3] at h1
    cases h1
theorem tl_toList (L : Array Sn) : (tl L).toList = L.toList.drop 1 := by
  simp [tl]
  rw [List.take_of_length_le (by simp)]
theorem Play.next {d L : Array Sn} {num : Int} {m : Nat} (h : Play d L num) (hd : d.size = m + 1) : Play (dnL m (swp d 0 m) 0).pop (tl L) num := by
  have hp := pop_perm hd
  have hL := h.size
  have hs := size_dnL m _ 0 (swp d 0 m) (Nat.le_refl _)
  rw [size_swp] at hs
  have hH : HP (dnL m (swp d 0 m) 0) m 0 := by
    refine dn_heap m 0 _ 0 _ (Nat.le_refl _) (by rw [size_swp]; omega) (Nat.le_refl _) ?_ (by omega)
    intro k hk hkm _ hk0
    rw [swp_get d (by omega) (by omega), swp_get d (by omega) (by omega), if_neg (by omega), if_neg (by omega), if_neg (by omega), if_neg (by omega)]
    exact h.heap k hk (by omega) (Nat.zero_le _)
  have el : L.toList = L[0]! :: (tl L).toList := by
    rw [tl_toList, getElem!_pos L 0 (by omega)]
    have : L.toList ≠ [] := by
      intro e
      have := congrArg List.length e
      rw [Array.length_toList, List.length_nil] at this
      omega
    cases hl : L.toList with
    | nil => exact (this hl).elim
    | cons a r =>
      have : L[0] = a := by
        have : L.toList[0]? = some a := by rw [hl]; rfl
        rw [Array.getElem?_toList, Array.getElem?_eq_getElem (by omega)] at this
        simpa using this
      rw [this]; rfl
  refine ⟨?_, ?_, ?_, ?_⟩
  · intro k hk hkn _
    have hk' : k < m := by simp at hkn; omega
    have g : ∀ t, t < m → (dnL m (swp d 0 m) 0).pop[t]! = (dnL m (swp d 0 m) 0)[t]! := by
      intro t ht
      rw [getElem!_pos _ t (by simp; omega), getElem!_pos _ t (by omega), Array.getElem_pop]
    rw [g k hk', g _ (by omega)]
    exact hH k hk hk' (Nat.zero_le _)
  · have := h.perm.trans hp
    rw [el, ← h.first (by omega)] at this
    exact List.Perm.cons_inv this
  · have := h.ord
    rw [el, List.pairwise_cons] at this
    exact this.2
  · intro x hx
    exact h.nums x (by rw [el]; exact List.mem_cons_of_mem _ hx)
theorem keepL_toList (node : Int) (L : Array Sn) : ∀ n, n ≤ L.size → (keepL node L n).toList = (L.toList.take n).filter (fun s => decide (s.node ≠ node))
  | 0, _ => by simp [keepL]
  | n + 1, hn => by
    have hn' : n < L.toList.length := by simp; omega
    rw [List.take_succ_eq_append_getElem hn', List.filter_append, ← keepL_toList node L n (by omega), keepL, getElem!_pos L n (by omega)]
    split
    · next h => simp [h]
    · next h => simp [h]
theorem Play.gone {d L : Array Sn} {num : Int} (h : Play d L num) (node : Int) : (keepL node d d.size).size = (keepL node L L.size).size ∧ Play (initL (keepL node d d.size).size ((keepL node d d.size).size / 2) (keepL node d d.size)) (keepL node L L.size) num := by
  have e1 := keepL_toList node d d.size (Nat.le_refl _)
  have e2 := keepL_toList node L L.size (Nat.le_refl _)
  rw [List.take_of_length_le (by simp)] at e1 e2
  have hp : (keepL node L L.size).toList.Perm (keepL node d d.size).toList := by rw [e1, e2]; exact h.perm.filter _
  refine ⟨by simpa using hp.length_eq.symm, ?_, ?_, ?_, ?_⟩
  · rw [size_initL]
    refine init_heap _ _ _ rfl ?_
    intro k hk hkm hlo
    omega
  · exact hp.trans (init_perm _ _ _ rfl).symm
  · rw [e2]
    exact h.ord.filter _
  · intro x hx
    rw [e2] at hx
    exact h.nums x (List.mem_filter.1 hx).1
theorem sorted_eq : ∀ (l m : List Sn), l.Perm m → l.Pairwise (fun a b => a.ah b = true) → m.Pairwise (fun a b => b.ah a = false) → l = m
  | [], m, h, _, _ => (List.nil_perm.1 h).symm
  | a :: l, m, h, h1, h2 => by
    cases m with
    | nil => exact absurd h.length_eq (by simp)
    | cons b m =>
      rw [List.pairwise_cons] at h1 h2
      have hab : a = b := by
        have hb : b ∈ a :: l := h.mem_iff.2 List.mem_cons_self
        have ha : a ∈ b :: m := h.mem_iff.1 List.mem_cons_self
        rw [List.mem_cons] at hb ha
        rcases hb with e | hb
        · exact e.symm
        · rcases ha with e | ha
          · exact e
          · have := h1.1 b hb
            have := h2.1 a ha
            simp_all
      subst hab
      rw [sorted_eq l m (List.Perm.cons_inv h) h1.2 h2.2]
theorem Play.waits {d L D : Array Sn} {num : Int} (h : Play d L num) (hp : D.toList.Perm d.toList) (hs : D.toList.Pairwise (fun a b => b.ah a = false)) : D = L := by
  have := sorted_eq L.toList D.toList (h.perm.trans hp.symm) h.ord hs
  exact (Array.toList_inj.1 this).symm
end Go.Proofs.Ythmfibgjemnlbaa

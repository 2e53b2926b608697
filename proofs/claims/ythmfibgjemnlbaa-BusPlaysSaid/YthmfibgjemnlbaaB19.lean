/- Bus (layer 4): the plain law behind BusOnce: every number once, older first. -/
import Derived.Test.YthmfibgjemnlbaaB18
namespace Go.Proofs.Ythmfibgjemnlbaa
open Go.RowKit Go.Sort Go.Shelf Go.Lib
set_option linter.unusedVariables false

theorem Sn.key_eq {s t : Sn} (h : s.id = t.id) (hr : s.r = t.r) : s.key = t.key := by unfold Sn.key; rw [h, hr]
theorem Sn.key_id {s t : Sn} (h : t.ah s = false) : s.id ≤ t.id := by
  rw [Sn.ah_not] at h
  unfold Sn.key at h
  cases hs : s.r <;> cases ht : t.r <;> simp [hs, ht] at h <;> omega

/-- What holds of what waits and what has come, so many having been sent. -/
structure Once (d : Array Sn) (C : List Sn) (n : Nat) : Prop where
  heap : HP d d.size 0
  all : ((d.toList ++ C).map (·.num)).Perm ((List.range n).map (fun (k : Nat) => (k : Int)))
  ord : C.Pairwise (fun a b => a.key = b.key → a.num < b.num)
  cross : ∀ c ∈ C, ∀ x ∈ d.toList, c.key = x.key → c.num < x.num
theorem Once.new : Once #[] [] 0 := ⟨fun k _ h => by simp at h, by simp, List.Pairwise.nil, fun c h => by cases h⟩
theorem Once.size {d : Array Sn} {C : List Sn} {n : Nat} (h : Once d C n) : d.size + C.length = n := by
  have := h.all.length_eq
  simpa using this
theorem Once.lt {d : Array Sn} {C : List Sn} {n : Nat} (h : Once d C n) {s : Sn} (hs : s ∈ d.toList ++ C) : 0 ≤ s.num ∧ s.num < n := by
  have : s.num ∈ (List.range n).map (fun (k : Nat) => (k : Int)) := h.all.mem_iff.1 (List.mem_map_of_mem hs)
  simp only [List.mem_map, List.mem_range] at this
  obtain ⟨k, hk, e⟩ := this
  omega
theorem Once.nodup {d : Array Sn} {C : List Sn} {n : Nat} (h : Once d C n) : ((d.toList ++ C).map (·.num)).Nodup := by
  refine h.all.nodup_iff.2 ?_
  rw [List.nodup_iff_pairwise_ne, List.pairwise_map]
  exact List.pairwise_lt_range.imp (fun h e => by omega)
theorem push_get {d : Array Sn} {s : Sn} {k : Nat} (hk : k < d.size) : (d.push s)[k]! = d[k]! := by
  rw [getElem!_pos (d.push s) k (by simp; omega), getElem!_pos d k hk, Array.getElem_push_lt hk]
theorem Once.send {d : Array Sn} {C : List Sn} {n : Nat} (h : Once d C n) (s : Sn) (hs : s.num = n) : Once (upL (d.push s) d.size) C (n + 1) := by
  have hp := up_perm d.size (d.push s) (by simp)
  have hp2 : (upL (d.push s) d.size).toList.Perm (d.toList ++ [s]) := by simpa using hp
  refine ⟨?_, ?_, h.ord, ?_⟩
  · rw [size_upL]
    refine up_heap _ _ _ rfl (by simp) ?_ ?_
    · intro i h0 hi hne
      have hi' : i < d.size := by simp at hi; omega
      rw [push_get hi', push_get (by omega)]
      exact h.heap i h0 hi' (Nat.zero_le _)
    · intro h0 c hc hcn he
      simp at hcn
      omega
  · rw [List.range_succ, List.map_append (l₁ := List.range n)]
    have e1 : ((upL (d.push s) d.size).toList ++ C).Perm ((d.toList ++ C) ++ [s]) := by
      refine (List.Perm.append_right C hp2).trans ?_
      rw [List.append_assoc, List.append_assoc]
      exact List.Perm.append_left _ List.perm_append_comm
    refine (e1.map (·.num)).trans ?_
    rw [List.map_append]
    refine List.Perm.append h.all ?_
    simp [hs]
  · intro c hc x hx hk
    have := hp2.mem_iff.1 hx
    rw [List.mem_append] at this
    rcases this with hx' | hx'
    · exact h.cross c hc x hx' hk
    · simp at hx'
      subst hx'
      have := h.lt (List.mem_append_right _ hc)
      omega
theorem pop_perm {d : Array Sn} {m : Nat} (hd : d.size = m + 1) : d.toList.Perm (d[0]! :: (dnL m (swp d 0 m) 0).pop.toList) := by
  have hs := size_dnL m _ 0 (swp d 0 m) (Nat.le_refl _)
  rw [size_swp] at hs
  have p1 : (dnL m (swp d 0 m) 0).toList.Perm d.toList := (dn_perm m _ 0 _ (Nat.le_refl _) (by rw [size_swp]; omega)).trans (swp_perm d 0 m (by omega) (by omega))
  have e1 : (dnL m (swp d 0 m) 0)[m]! = d[0]! := by
    rw [dnL_far m _ 0 _ (Nat.le_refl _) (by rw [size_swp]; omega) m (Nat.le_refl _) (by rw [size_swp]; omega), swp_get d (by omega) (by omega)]
    by_cases hm : m = 0
    · subst hm; simp
    · simp
  generalize dnL m (swp d 0 m) 0 = D at *
  have e2 : D.toList = D.pop.toList ++ [D[m]!] := by
    have hD : D.size = m + 1 := by omega
    have hl : D.toList.length = m + 1 := by simpa using hD
    have hne : D.toList ≠ [] := by intro e; rw [e] at hl; simp at hl
    rw [Array.toList_pop]
    conv => lhs; rw [← List.dropLast_concat_getLast hne]
    congr 2
    rw [List.getLast_eq_getElem, getElem!_pos D m (by omega)]
    simp [hD]
  rw [e2, e1] at p1
  exact (p1.symm).trans List.perm_append_comm
theorem Once.next {d : Array Sn} {C : List Sn} {n m : Nat} (h : Once d C n) (hd : d.size = m + 1) : Once (dnL m (swp d 0 m) 0).pop (C ++ [d[0]!]) n := by
  have hp := pop_perm hd
  have hs := size_dnL m _ 0 (swp d 0 m) (Nat.le_refl _)
  rw [size_swp] at hs
  have hH : HP (dnL m (swp d 0 m) 0) m 0 := by
    refine dn_heap m 0 _ 0 _ (Nat.le_refl _) (by rw [size_swp]; omega) (Nat.le_refl _) ?_ (by omega)
    intro k hk hkm _ hk0
    rw [swp_get d (by omega) (by omega), swp_get d (by omega) (by omega), if_neg (by omega), if_neg (by omega), if_neg (by omega), if_neg (by omega)]
    exact h.heap k hk (by omega) (Nat.zero_le _)
  have hroot : ∀ x ∈ (dnL m (swp d 0 m) 0).pop.toList, x.ah d[0]! = false := by
    intro x hx
    have : x ∈ d.toList := hp.mem_iff.2 (List.mem_cons_of_mem _ hx)
    obtain ⟨k, hk, e⟩ := List.getElem_of_mem this
    have hk' : k < d.size := by simpa using hk
    have := h.heap.root k hk'
    rw [getElem!_pos d k hk'] at this
    rw [← e]
    simpa using this
  refine ⟨?_, ?_, ?_, ?_⟩
  · intro k hk hkn _
    have hk' : k < m := by simp at hkn; omega
    have g : ∀ t, t < m → (dnL m (swp d 0 m) 0).pop[t]! = (dnL m (swp d 0 m) 0)[t]! := by
      intro t ht
      rw [getElem!_pos _ t (by simp; omega), getElem!_pos _ t (by omega), Array.getElem_pop]
    rw [g k hk', g _ (by omega)]
    exact hH k hk hk' (Nat.zero_le _)
  · refine List.Perm.trans (List.Perm.map _ ?_) h.all
    refine List.Perm.trans ?_ (List.Perm.append_right C hp.symm)
    rw [← List.append_assoc]
    exact List.perm_append_comm.trans (by simp)
  · rw [List.pairwise_append]
    refine ⟨h.ord, List.pairwise_singleton _ _, ?_⟩
    intro a ha b hb hk
    simp at hb
    subst hb
    exact h.cross a ha _ (hp.mem_iff.2 (List.mem_cons_self)) hk
  · intro c hc x hx hk
    have hxd : x ∈ d.toList := hp.mem_iff.2 (List.mem_cons_of_mem _ hx)
    rw [List.mem_append] at hc
    rcases hc with hc | hc
    · exact h.cross c hc x hxd hk
    · simp at hc
      subst hc
      have h1 := hroot x hx
      rw [Sn.ah_not] at h1
      have hnd : ((d[0]! :: (dnL m (swp d 0 m) 0).pop.toList).map (·.num)).Nodup := by
        have := h.nodup
        rw [List.map_append] at this
        exact ((hp.map (·.num)).nodup_iff).1 ((List.nodup_append.1 this).1)
      rw [List.map_cons, List.nodup_cons] at hnd
      have hne : x.num ≠ d[0]!.num := fun e => hnd.1 (e ▸ List.mem_map_of_mem hx)
      omega
theorem Once.first {d : Array Sn} {C : List Sn} {n m : Nat} (h : Once d C n) (hd : d.size = m + 1) : ∀ x ∈ (dnL m (swp d 0 m) 0).pop.toList, d[0]!.id ≤ x.id := by
  intro x hx
  have : x ∈ d.toList := (pop_perm hd).mem_iff.2 (List.mem_cons_of_mem _ hx)
  obtain ⟨k, hk, e⟩ := List.getElem_of_mem this
  have hk' : k < d.size := by simpa using hk
  have := h.heap.root k hk'
  rw [getElem!_pos d k hk'] at this
  rw [← e]
  exact Sn.key_id (by simpa using this)
end Go.Proofs.Ythmfibgjemnlbaa

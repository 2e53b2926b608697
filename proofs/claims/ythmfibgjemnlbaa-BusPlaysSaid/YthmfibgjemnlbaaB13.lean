/- Bus (layer 4), the plain law of the heap: what upL, dnL, initL make is a heap of the same things; of a heap nothing is ahead of the first. -/
import Derived.Test.YthmfibgjemnlbaaB09
namespace Go.Proofs.Ythmfibgjemnlbaa
open Go.RowKit Go.Sort Go.Shelf
set_option linter.unusedVariables false

/-! ### The order -/
def Sn.key (s : Sn) : Int := 2 * s.id + (if s.r then 1 else 0)
theorem Sn.ah_iff (s t : Sn) : s.ah t = true ↔ s.key < t.key ∨ (s.key = t.key ∧ s.num < t.num) := by
  unfold Sn.ah ahB befB Sn.key
  cases hs : s.r <;> cases ht : t.r <;> simp <;> omega
theorem Sn.ah_not (s t : Sn) : s.ah t = false ↔ t.key < s.key ∨ (s.key = t.key ∧ t.num ≤ s.num) := by
  rw [← Bool.not_eq_true, Sn.ah_iff]
  omega
theorem Sn.ah_asymm {s t : Sn} (h : s.ah t = true) : t.ah s = false := by
  rw [Sn.ah_iff] at h; rw [Sn.ah_not]; omega
theorem Sn.ah_trans {s t u : Sn} (h : s.ah t = true) (k : t.ah u = true) : s.ah u = true := by
  rw [Sn.ah_iff] at *; omega
theorem Sn.ah_ntrans {s t u : Sn} (h : s.ah t = false) (k : t.ah u = false) : s.ah u = false := by
  rw [Sn.ah_not] at *; omega
theorem Sn.ah_irrefl (s : Sn) : s.ah s = false := by
  rw [Sn.ah_not]; omega

/-! ### The heap -/
def HP (d : Array Sn) (m lo : Nat) : Prop := ∀ k, 0 < k → k < m → lo ≤ (k - 1) / 2 → d[k]!.ah d[(k - 1) / 2]! = false
theorem HP.root {d : Array Sn} {m : Nat} (h : HP d m 0) : ∀ k, k < m → d[k]!.ah d[0]! = false := by
  intro k
  induction k using Nat.strongRecOn with
  | _ k ih =>
    intro hk
    by_cases h0 : k = 0
    · subst h0; exact Sn.ah_irrefl _
    · exact Sn.ah_ntrans (h k (by omega) hk (Nat.zero_le _)) (ih ((k - 1) / 2) (by omega) (by omega))

theorem up_heap (n : Nat) : ∀ (j : Nat) (d : Array Sn), d.size = n → j < n →
    (∀ i, 0 < i → i < n → i ≠ j → d[i]!.ah d[(i - 1) / 2]! = false) → (0 < j → ∀ c, 0 < c → c < n → (c - 1) / 2 = j → d[c]!.ah d[(j - 1) / 2]! = false) → HP (upL d j) n 0 := by
  intro j
  induction j using Nat.strongRecOn with
  | _ j ih =>
    intro d hd hj h1 h2
    rw [upL]
    by_cases h0 : j = 0
    · rw [dif_pos h0]
      intro k hk hkn _
      exact h1 k hk hkn (by omega)
    · rw [dif_neg h0]
      cases hx : d[j]!.ah d[(j - 1) / 2]! with
      | false =>
        rw [if_neg (by simp)]
        intro k hk hkn _
        by_cases hkj : k = j
        · rw [hkj]; exact hx
        · exact h1 k hk hkn hkj
      | true =>
        rw [if_pos rfl]
        have hp : (j - 1) / 2 < j := by omega
        generalize hpe : (j - 1) / 2 = p at *
        have G : ∀ t, (swp d p j)[t]! = if t = j then d[p]! else if t = p then d[j]! else d[t]! := fun t => by rw [swp_get d (by omega) (by omega)]
        refine ih p hp _ (by rw [size_swp]; exact hd) (by omega) ?_ ?_
        · intro i hi hin hip
          rw [G, G]
          by_cases hij : i = j
          · subst hij
            rw [if_pos rfl, hpe, if_neg (by omega), if_pos rfl]
            exact Sn.ah_asymm hx
          · rw [if_neg hij, if_neg hip]
            by_cases a : (i - 1) / 2 = j
            · rw [if_pos a]; exact h2 (by omega) i hi hin a
            · rw [if_neg a]
              by_cases b : (i - 1) / 2 = p
              · rw [if_pos b]
                have := h1 i hi hin hij
                rw [b] at this
                cases hq : d[i]!.ah d[j]! with
                | false => rfl
                | true => rw [Sn.ah_trans hq hx] at this; cases this
              · rw [if_neg b]; exact h1 i hi hin hij
        · intro hp0 c hc hcn hcp
          rw [G, G, if_neg (show ¬ (p - 1) / 2 = j by omega), if_neg (show ¬ (p - 1) / 2 = p by omega)]
          have hpp := h1 p hp0 (by omega) (by omega)
          by_cases hcj : c = j
          · rw [if_pos hcj]; exact hpp
          · rw [if_neg hcj, if_neg (by omega)]
            have := h1 c hc hcn hcj
            rw [hcp] at this
            exact Sn.ah_ntrans this hpp

theorem dn_heap (m lo : Nat) : ∀ (f i : Nat) (d : Array Sn), m - i ≤ f → m ≤ d.size → lo ≤ i →
    (∀ k, 0 < k → k < m → lo ≤ (k - 1) / 2 → (k - 1) / 2 ≠ i → d[k]!.ah d[(k - 1) / 2]! = false) →
    (0 < i → lo ≤ (i - 1) / 2 → ∀ c, 0 < c → c < m → (c - 1) / 2 = i → d[c]!.ah d[(i - 1) / 2]! = false) → HP (dnL m d i) m lo := by
  intro f
  induction f with
  | zero =>
    intro i d hf hm hlo h1 h2
    rw [dnL, dif_pos (by omega)]
    intro k hk hkm hl
    exact h1 k hk hkm hl (by omega)
  | succ f ih =>
    intro i d hf hm hlo h1 h2
    -- one step down to the child j, of which the other child is not ahead
    have step : ∀ j, j < m → 0 < j → (j - 1) / 2 = i → d[j]!.ah d[i]! = true → (∀ c, 0 < c → c < m → (c - 1) / 2 = i → d[c]!.ah d[j]! = false) → HP (dnL m (swp d i j) j) m lo := by
      intro j hj hj0 hji hx hc
      have G : ∀ t, (swp d i j)[t]! = if t = j then d[i]! else if t = i then d[j]! else d[t]! := fun t => by rw [swp_get d (by omega) (by omega)]
      refine ih j _ (by omega) (by rw [size_swp]; exact hm) (by omega) ?_ ?_
      · intro k hk hkm hl hkj
        rw [G, G]
        by_cases a : k = j
        · rw [if_pos a, a, hji, if_neg (by omega), if_pos rfl]
          exact Sn.ah_asymm hx
        · rw [if_neg a]
          by_cases b : k = i
          · rw [if_pos b, b, if_neg (by omega), if_neg (by omega)]
            rw [b] at hk hl
            exact h2 hk hl j hj0 hj hji
          · rw [if_neg b, if_neg hkj]
            by_cases c : (k - 1) / 2 = i
            · rw [if_pos c]; exact hc k hk hkm c
            · rw [if_neg c]; exact h1 k hk hkm hl c
      · intro _ _ c hc0 hcm hcj
        rw [G, G, hji, if_neg (by omega), if_neg (by omega), if_neg (by omega), if_pos rfl]
        have := h1 c hc0 hcm (by omega) (by omega)
        rwa [hcj] at this
    -- it stands where it is
    have stop : ∀ j, j < m → 0 < j → (j - 1) / 2 = i → d[j]!.ah d[i]! = false → (∀ c, 0 < c → c < m → (c - 1) / 2 = i → d[c]!.ah d[j]! = false) → HP d m lo := by
      intro j hj hj0 hji hx hc k hk hkm hl
      by_cases a : (k - 1) / 2 = i
      · rw [a]; exact Sn.ah_ntrans (hc k hk hkm a) hx
      · exact h1 k hk hkm hl a
    rw [dnL]
    by_cases h0 : m ≤ 2 * i + 1
    · rw [dif_pos h0]
      intro k hk hkm hl
      exact h1 k hk hkm hl (by omega)
    · rw [dif_neg h0]
      by_cases h3 : 2 * i + 2 < m ∧ d[2 * i + 2]!.ah d[2 * i + 1]! = true
      · rw [if_pos h3]
        have hc : ∀ c, 0 < c → c < m → (c - 1) / 2 = i → d[c]!.ah d[2 * i + 2]! = false := by
          intro c hc0 hcm hci
          rcases (show c = 2 * i + 1 ∨ c = 2 * i + 2 from by omega) with rfl | rfl
          · exact Sn.ah_asymm h3.2
          · exact Sn.ah_irrefl _
        cases hx : d[2 * i + 2]!.ah d[i]! with
        | true => rw [if_pos rfl]; exact step _ h3.1 (by omega) (by omega) hx hc
        | false => rw [if_neg (by simp)]; exact stop _ h3.1 (by omega) (by omega) hx hc
      · rw [if_neg h3]
        have hc : ∀ c, 0 < c → c < m → (c - 1) / 2 = i → d[c]!.ah d[2 * i + 1]! = false := by
          intro c hc0 hcm hci
          rcases (show c = 2 * i + 1 ∨ c = 2 * i + 2 from by omega) with rfl | rfl
          · exact Sn.ah_irrefl _
          · cases hq : d[2 * i + 2]!.ah d[2 * i + 1]! with
            | false => rfl
            | true => exact absurd ⟨hcm, hq⟩ h3
        cases hx : d[2 * i + 1]!.ah d[i]! with
        | true => rw [if_pos rfl]; exact step _ (by omega) (by omega) (by omega) hx hc
        | false => rw [if_neg (by simp)]; exact stop _ (by omega) (by omega) (by omega) hx hc

theorem init_heap (n : Nat) : ∀ (k : Nat) (d : Array Sn), d.size = n → HP d n k → HP (initL n k d) n 0 := by
  intro k
  induction k with
  | zero => intro d _ h; exact h
  | succ k ih =>
    intro d hd h
    rw [initL]
    refine ih _ (by rw [size_dnL _ _ _ _ (Nat.le_refl _)]; exact hd) (dn_heap n k (n - k) k d (Nat.le_refl _) (by omega) (Nat.le_refl _) ?_ ?_)
    · intro c hc hcn hl hck
      exact h c hc hcn (by omega)
    · intro hk hl
      omega

/-! ### What it holds -/
theorem swp_perm (d : Array Sn) (i j : Nat) (hi : i < d.size) (hj : j < d.size) : (swp d i j).toList.Perm d.toList := by
  have e : swp d i j = d.swap i j hi hj := by
    apply Array.ext (by simp [size_swp])
    intro t h1 h2
    have ht : t < d.size := by simpa [size_swp] using h1
    rw [← getElem!_pos (swp d i j) t h1, swp_get d hi hj, Array.getElem_swap]
    rw [getElem!_pos d i hi, getElem!_pos d j hj, getElem!_pos d t ht]
    by_cases a : t = i
    · rw [if_pos a, if_pos a]
      split
      · next h => simp only [show i = j from a.symm.trans h]
      · rfl
    · rw [if_neg a, if_neg a]
  rw [e, ← Array.perm_iff_toList_perm]
  exact Array.swap_perm hi hj
theorem up_perm : ∀ (j : Nat) (d : Array Sn), j < d.size → (upL d j).toList.Perm d.toList := by
  intro j
  induction j using Nat.strongRecOn with
  | _ j ih =>
    intro d hj
    rw [upL]
    split
    · exact List.Perm.refl _
    · split
      · exact (ih _ (by omega) _ (by rw [size_swp]; omega)).trans (swp_perm d _ _ (by omega) hj)
      · exact List.Perm.refl _
theorem dn_perm (m : Nat) : ∀ (k i : Nat) (d : Array Sn), m - i ≤ k → m ≤ d.size → (dnL m d i).toList.Perm d.toList := by
  intro k
  induction k with
  | zero =>
    intro i d hk hm
    rw [dnL, dif_pos (by omega)]
  | succ k ih =>
    intro i d hk hm
    rw [dnL]
    split
    · exact List.Perm.refl _
    · split
      · split
        · exact (ih _ _ (by omega) (by rw [size_swp]; exact hm)).trans (swp_perm d _ _ (by omega) (by omega))
        · exact List.Perm.refl _
      · split
        · exact (ih _ _ (by omega) (by rw [size_swp]; exact hm)).trans (swp_perm d _ _ (by omega) (by omega))
        · exact List.Perm.refl _
theorem init_perm (n : Nat) : ∀ (k : Nat) (d : Array Sn), d.size = n → (initL n k d).toList.Perm d.toList := by
  intro k
  induction k with
  | zero => intro d _; exact List.Perm.refl _
  | succ k ih =>
    intro d hd
    rw [initL]
    exact (ih _ (by rw [size_dnL _ _ _ _ (Nat.le_refl _)]; exact hd)).trans (dn_perm n _ _ _ (Nat.le_refl _) (by omega))
end Go.Proofs.Ythmfibgjemnlbaa

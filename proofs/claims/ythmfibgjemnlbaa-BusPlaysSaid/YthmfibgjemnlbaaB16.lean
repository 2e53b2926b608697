/- Bus (layer 4): slices.Clone and slices.SortFunc of the library as this program bears them; Waits: all that wait, in their order; Count. -/
import Derived.Test.YthmfibgjemnlbaaB14
import Derived.Test.YthmfibgjemnlbaaB15
import Derived.Shelf.SlSortCmp.NoneTotal
import Derived.Shelf.SlicesE.Clone
namespace Go.Proofs.Ythmfibgjemnlbaa
open Go.RowKit Go.Sort Go.Shelf Go.Lib
set_option linter.unusedVariables false
def Try.sortS_ren : Go.Shelf.Ren := ⟨fun | 6 => 23 | 15 => 35 | 14 => 34 | 28 => 48 | 29 => 49 | 20 => 40 | 21 => 41 | 22 => 42 | 23 => 43 | 24 => 44 | 25 => 45 | 26 => 46 | 27 => 47 | 46 => 51 | 47 => 52 | 48 => 53 | 49 => 54 | 50 => 55 | 57 => 56 | n => n, fun | 22 => 26 | 24 => 35 | 25 => 70 | 3 => 3 | 39 => 87 | 0 => 0 | 53 => 101 | 55 => 103 | 4 => 4 | 46 => 94 | 45 => 93 | 50 => 98 | 5 => 5 | 9 => 9 | 66 => 104 | 70 => 108 | 76 => 110 | 77 => 111 | n => n, fun | n => n⟩
theorem Try.sortS : Go.Proofs.SlLaysF0.n6 Try.prog Try.sortS_ren := {
  mixed := by kernel_rfl
  f6 := ⟨Try.f23.name, by decide, Try.func23.trans (congrArg some (by kernel_rfl))⟩
  f14 := ⟨Try.f34.name, by decide, Try.func34.trans (congrArg some (by kernel_rfl))⟩
  f15 := Try.func35.trans (congrArg some (by kernel_rfl))
  f20 := ⟨Try.f40.name, by decide, Try.func40.trans (congrArg some (by kernel_rfl))⟩
  f21 := ⟨Try.f41.name, by decide, Try.func41.trans (congrArg some (by kernel_rfl))⟩
  f22 := ⟨Try.f42.name, by decide, Try.func42.trans (congrArg some (by kernel_rfl))⟩
  f23 := ⟨Try.f43.name, by decide, Try.func43.trans (congrArg some (by kernel_rfl))⟩
  f24 := ⟨Try.f44.name, by decide, Try.func44.trans (congrArg some (by kernel_rfl))⟩
  f25 := ⟨Try.f45.name, by decide, Try.func45.trans (congrArg some (by kernel_rfl))⟩
  f26 := ⟨Try.f46.name, by decide, Try.func46.trans (congrArg some (by kernel_rfl))⟩
  f27 := ⟨Try.f47.name, by decide, Try.func47.trans (congrArg some (by kernel_rfl))⟩
  f28 := Try.func48.trans (congrArg some (by kernel_rfl))
  f29 := Try.func49.trans (congrArg some (by kernel_rfl))
  f46 := ⟨Try.f51.name, by decide, Try.func51.trans (congrArg some (by kernel_rfl))⟩
  f47 := Try.func52.trans (congrArg some (by kernel_rfl))
  f48 := Try.func53.trans (congrArg some (by kernel_rfl))
  f49 := ⟨Try.f54.name, by decide, Try.func54.trans (congrArg some (by kernel_rfl))⟩
  f50 := ⟨Try.f55.name, by decide, Try.func55.trans (congrArg some (by kernel_rfl))⟩
  f57 := ⟨Try.f56.name, by decide, Try.func56.trans (congrArg some (by kernel_rfl))⟩
  t0 := Try.underlying0
  a0 := Try.isAgg0
  z0 := Try.sizeOf0
  v0 := Try.zeroValue0
  t3 := Try.underlying3
  a3 := Try.isAgg3
  z3 := Try.sizeOf3
  v3 := Try.zeroValue3
  t4 := Try.underlying4
  a4 := Try.isAgg4
  z4 := Try.sizeOf4
  v4 := Try.zeroValue4
  t5 := Try.underlying5
  a5 := Try.isAgg5
  z5 := Try.sizeOf5
  v5 := Try.zeroValue5
  t9 := Try.underlying9
  a9 := Try.isAgg9
  z9 := Try.sizeOf9
  v9 := Try.zeroValue9
  t22 := Try.underlying26
  a22 := Try.isAgg26
  z22 := Try.sizeOf26
  v22 := Try.zeroValue26
  t25 := Try.underlying70
  a25 := Try.isAgg70
  z25 := Try.sizeOf70
  v25 := Try.zeroValue70
  t39 := Try.underlying87
  a39 := Try.isAgg87
  z39 := Try.sizeOf87
  v39 := Try.zeroValue87
  t45 := Try.underlying93
  a45 := Try.isAgg93
  z45 := Try.sizeOf93
  v45 := Try.zeroValue93
  t46 := Try.underlying94
  a46 := Try.isAgg94
  z46 := Try.sizeOf94
  v46 := Try.zeroValue94
  t50 := Try.underlying98
  a50 := Try.isAgg98
  z50 := Try.sizeOf98
  v50 := Try.zeroValue98
  t53 := Try.underlying101
  a53 := Try.isAgg101
  z53 := Try.sizeOf101
  v53 := Try.zeroValue101
  t55 := Try.underlying103
  a55 := Try.isAgg103
  z55 := Try.sizeOf103
  v55 := Try.zeroValue103
  t66 := Try.underlying104
  a66 := Try.isAgg104
  z66 := Try.sizeOf104
  v66 := Try.zeroValue104
  t70 := Try.underlying108
  a70 := Try.isAgg108
  z70 := Try.sizeOf108
  v70 := Try.zeroValue108
  t76 := Try.underlying110
  a76 := Try.isAgg110
  z76 := Try.sizeOf110
  v76 := Try.zeroValue110
  t77 := Try.underlying111
  a77 := Try.isAgg111
  z77 := Try.sizeOf111
  v77 := Try.zeroValue111 }
def Try.cloneS_ren : Go.Shelf.Ren := ⟨fun | 41 => 22 | n => n, fun | 22 => 26 | 23 => 35 | 4 => 4 | n => n, fun | n => n⟩
theorem Try.cloneS : Go.Proofs.SlLaysE0.n41 Try.prog Try.cloneS_ren := {
  mixed := by kernel_rfl
  f41 := ⟨Try.f22.name, by decide, Try.func22.trans (congrArg some (by kernel_rfl))⟩
  t4 := Try.underlying4
  a4 := Try.isAgg4
  z4 := Try.sizeOf4
  v4 := Try.zeroValue4
  t22 := Try.underlying26
  a22 := Try.isAgg26
  z22 := Try.sizeOf26
  v22 := Try.zeroValue26 }

theorem own_base0 {w : World} {base : Nat} {e : TypeId} {size : Nat} {v : Value} {n : Nat} {xs : List Value} (h : w.ownsRow base e size v n xs) : w.ownsRow 0 e size v n xs :=
  ⟨h.1, h.2.imp id (fun ⟨g, cap, cur, a, _, c⟩ => ⟨g, cap, cur, a, Nat.zero_le _, c⟩)⟩
theorem clone22 {w : World} {v : Value} {d : Array Sn} (h : w.ownsRow 0 35 13 v d.size (flatK Sn.cs 13 d).toList) (hd : d.size < 900000) :
    Calls Try.prog 22 #[v] w fun e w' => ∃ v', e = .returned v' ∧ w'.ownsRow 0 35 13 v' d.size (flatK Sn.cs 13 d).toList ∧ (∀ k, v'.ownBlock = some k → w.heap.size ≤ k) ∧ Below w.heap.size w w' := by
  obtain ⟨i0, hi, hz0, hz1, hz2⟩ := info_parts Try.infoS
  rcases h.2 with ⟨rfl, h0⟩ | ⟨g, cap, cur, rfl, hb, hh, h1, h2, h3, h4⟩
  · refine (AnyE.slices_Clone_nil Try.cloneS 0 0 w).mono fun e w' ⟨he, hw⟩ => ?_
    subst he; subst hw
    exact ⟨_, rfl, h, fun k hk => by simp [Value.ownBlock] at hk, Below.refl _ _⟩
  · have hc : ∀ j u, (flatK Sn.cs 13 d).toList[j]? = some u → w.cell? ⟨g, 0 + j, none⟩ = some u := by
      intro j u hu
      have hj : j < d.size * 13 := by
        have := (List.getElem?_eq_some_iff.1 hu).1
        simpa using this
      rw [Nat.zero_add, h.cellAt j hj]
      exact hu
    have h1c : ∀ u ∈ (flatK Sn.cs 13 d).toList, u.oneCell' = true := by
      intro u hu
      simp only [flatK, Array.toList_map, List.mem_map] at hu
      obtain ⟨t, ht, rfl⟩ := hu
      have : t % 13 < (d[t / 13]!.cs).length := by rw [Sn.cs_length]; omega
      rw [getElem!_pos (d[t / 13]!.cs) (t % 13) this]
      exact Sn.cs_one _ _ (List.getElem_mem this)
    refine (AnyE.slices_Clone Try.cloneS i0 _ 13 48 hi hz0 hz1 hz2 rfl (by decide) Try.sizeOf35 g 0 d.size cap _ w (by simp) (by unfold maxLen; omega) (by omega) hc h1c).mono fun e w' ⟨v', he, ho, hn, hbel⟩ => ?_
    exact ⟨v', he, own_base0 ho, fun k hk => (ho.lt k hk).1, hbel⟩

def cfS (s t : Sn) : Int := if s.ah t then -1 else 1
theorem ltOf_cfS (s t : Sn) : ltOf cfS s t = s.ah t := by
  unfold ltOf cfS
  cases s.ah t <;> simp
set_option maxHeartbeats 1000000 in
set_option maxRecDepth 100000 in
theorem cmp24 (s t : Sn) (w : World) : Calls Try.prog 24 #[.agg s.cs.toArray, .agg t.cs.toArray] w fun e w' => e = .returned (.int .i64 (cfS s t)) ∧ Pu w w' := by
  have c := Lib.hid (aheadS s t)
  unfold cfS
  have e : ∃ b, s.ah t = b := ⟨_, rfl⟩
  obtain ⟨b, hb⟩ := e
  rw [hb] at c ⊢
  clear hb
  unfold Sn.cs at c ⊢
  cases b
  all_goals
    go_enter Try.func24, Try.ntmps24
    go_wp2_with fail
    refine (c.out _).mono ?_
    rintro e w1 ⟨rfl, hp⟩
    have HP := Lib.hid hp
    clear hp
    go_wp2_with fail
    go_ret
    exact ⟨rfl, (((Pu.refl w).alloc _).alloc _).trans HP.out⟩
theorem cmpLays24 (blk off size : Nat) (w : World) : CmpLays Try.prog 24 #[] Sn.cs 13 cfS blk off size w := fun _ _ _ _ x y => (cmp24 x y _).mono fun _ _ ⟨he, hp⟩ => ⟨he, hp.out⟩
theorem swoS : SWO (ltOf cfS) where
  irrefl x := by rw [ltOf_cfS]; exact Sn.ah_irrefl _
  trans x y z h1 h2 := by rw [ltOf_cfS] at *; exact Sn.ah_trans h1 h2
  ntrans x y z h1 h2 := by rw [ltOf_cfS] at *; exact Sn.ah_ntrans h1 h2
theorem own_back {w0 W : World} {g n cap : Nat} {d0 d : Array Sn} (ho : w0.ownsRow 0 35 13 (.slice (some ⟨g, 0, none⟩) n cap) n (flatK Sn.cs 13 d0).toList) (hd0 : d0.size = n) (hs : SW w0 g d W) (hd : d.size = n) : W.ownsRow 0 35 13 (.slice (some ⟨g, 0, none⟩) n cap) n (flatK Sn.cs 13 d).toList := by
  refine ⟨by simp [hd], ?_⟩
  rcases ho.2 with ⟨h1, _⟩ | ⟨g', cap', cur, hv, hb, hh, h1, h2, h3, h4⟩
  · cases h1
  · cases hv
    refine .inr ⟨g, cap, putCells id 0 (flatK Sn.cs 13 d) cur, rfl, hb, ?_, h1, h2, by simp [putCells, h3], ?_⟩
    · obtain ⟨m, os, rfl⟩ := hs
      unfold sortWorldK
      rw [grow_block _ _ _ (by rw [size_putRowK]; exact lt_of_block hh)]
      unfold putRowK putRow mapBlock
      simp only [Array.getElem?_modify, if_true]
      rw [show (Sort.ahead w0 m).heap[g]? = _ from hh]
      rfl
    · rw [← hd]
      have := take_putCells (F := flatK Sn.cs 13 d) (c := cur) (by rw [size_flatK, h3, hd]; exact Nat.mul_le_mul_right 13 h1)
      rw [size_flatK] at this
      exact this

theorem perm_of_permIn {d d' : Array Sn} (h : PermIn 0 d.size d d') : d'.size = d.size ∧ d'.toList.Perm d.toList := by
  obtain ⟨h1, _, h3⟩ := h
  refine ⟨h1, ?_⟩
  have e1 : d'.extract 0 d.size = d' := by rw [← h1]; simp
  have e2 : d.extract 0 d.size = d := by simp
  rw [e1, e2] at h3
  exact h3
theorem pairwise_of_sortedIn {d : Array Sn} (h : SortedIn (ltOf cfS) 0 d.size d) : d.toList.Pairwise (fun a b => b.ah a = false) := by
  rw [List.pairwise_iff_getElem]
  intro i j hi hj hij
  have := h i j (Nat.zero_le _) hij (by simpa using hj)
  rw [ltOf_cfS, getElem!_pos d i (by simpa using hi), getElem!_pos d j (by simpa using hj)] at this
  simpa using this

set_option maxHeartbeats 1000000 in
set_option maxRecDepth 100000 in
theorem waits10nil (w : World) : Calls Try.prog 10 #[.pointer none] w fun e w' => e = .returned (.slice none 0 0) ∧ w' = w := by
  go_enter Try.func10, Try.ntmps10
  go_wp2_with fail
  go_ret
  exact ⟨rfl, rfl⟩
set_option maxHeartbeats 1000000 in
set_option maxRecDepth 100000 in
theorem waits10 {w : World} {bb : Nat} {v : Value} {d : Array Sn} {num : Int} (h : BusAt w bb v d num) (hd : d.size < 900000) :
    Calls Try.prog 10 #[.pointer (some ⟨bb, 0, none⟩)] w fun e w' => ∃ (v' : Value) (D : Array Sn), e = .returned v' ∧ D.size = d.size ∧ D.toList.Perm d.toList ∧ D.toList.Pairwise (fun a b => b.ah a = false) ∧
      w'.ownsRow 0 35 13 v' D.size (flatK Sn.cs 13 D).toList ∧ (∀ k, v'.ownBlock = some k → w.heap.size ≤ k) ∧ Below w.heap.size w w' := by
  have eg : ∀ args w, (callFunc 24 args).run Try.prog w = .ok (.enter 24 args) w := enters_of Try.func24 (by kernel_rfl) rfl
  obtain ⟨A, c, rfl⟩ := h.shape
  have c0 : w.cell? ⟨bb, 0, none⟩ = some (.slice A d.size c) := by have := h.b; simp [World.cell?, this]
  have HC := Lib.hid (clone22 h.o hd)
  clear h
  go_enter Try.func10, Try.ntmps10
  go_wp2_with fail
  refine HC.out.mono ?_
  rintro e w1 ⟨v1, rfl, ho, hfr, hbel⟩
  have HX := Lib.hid (And.intro ho (And.intro hfr hbel))
  have hsh : ∃ A1 c1, v1 = .slice A1 d.size c1 := by
    rcases ho.2 with ⟨rfl, h0⟩ | ⟨g, cap, cur, rfl, _⟩
    · exact ⟨none, 0, by rw [h0]⟩
    · exact ⟨_, cap, rfl⟩
  obtain ⟨A1, c1, rfl⟩ := hsh
  clear ho hfr hbel
  by_cases h0 : d.size = 0
  · have hcon := AnyF.slices_SortFunc_none { Try.sortS with } A1 c1 (.func (.func 24) #[] #[]) w1
    change Calls Try.prog 23 _ _ _ at hcon
    have HK := Lib.hid hcon
    clear hcon
    have HZ := Lib.hid h0
    have hsl : Value.slice A1 d.size c1 = .slice A1 0 c1 := by rw [h0]
    rw [hsl]
    clear hsl h0
    go_wp2_with fail
    refine HK.out.mono ?_
    rintro e w2 ⟨rfl, rfl⟩
    go_wp2_with fail
    go_ret
    refine ⟨_, d, rfl, rfl, List.Perm.refl _, ?_, by have := HX.out.1; rw [HZ.out] at this ⊢; exact this, by have := HX.out.2.1; rw [HZ.out] at this; exact this, HX.out.2.2⟩
    have : d.toList = [] := List.eq_nil_of_length_eq_zero (by simpa using HZ.out)
    rw [this]; exact List.Pairwise.nil
  · obtain ⟨g, cap, hv, _, hgl⟩ := HX.out.1.form (by omega)
    cases hv
    have hcon := AnyQ.slices_SortFunc { Try.sortS with } 13 Try.isAgg35 Try.sizeOf35 Sn.cs Sn.cs_length (fun x v hv => Sn.cs_one x v hv) cfS swoS 24 #[] g 0 c1 d w1 eg (cmpLays24 g 0 d.size w1) (holds_of_owns HX.out.1) hgl (by omega)
    change Calls Try.prog 23 _ _ _ at hcon
    have HK := Lib.hid hcon
    clear hcon
    go_wp2_with fail
    refine HK.out.mono ?_
    rintro e w2 ⟨rfl, D, n, os, hp, hs, hw⟩
    have HW := Lib.hid (And.intro hp (And.intro hs hw))
    clear hp hs hw
    go_wp2_with fail
    go_ret
    obtain ⟨hp, hs, hw⟩ := HW.out
    obtain ⟨hsz, hpm⟩ := perm_of_permIn hp
    have hsw : SW w1 g D w2 := ⟨n, os, hw⟩
    refine ⟨_, D, rfl, hsz, hpm, pairwise_of_sortedIn (by rw [hsz]; exact hs), ?_, HX.out.2.1, ?_⟩
    · rw [hsz]
      exact own_back HX.out.1 rfl hsw hsz
    · have f := hsw.fr
      have hb := HX.out.2.2
      have hg : w.heap.size ≤ g := HX.out.2.1 g rfl
      exact hb.trans (f.below w.heap.size hb.size (fun i e => by omega))

set_option maxHeartbeats 400000 in
theorem count11 {w : World} {bb : Nat} {v : Value} {d : Array Sn} {num : Int} (h : BusAt w bb v d num) : Calls Try.prog 11 #[.pointer (some ⟨bb, 0, none⟩)] w fun e w' => e = .returned (.int .i64 num) ∧ w = w' := by
  have c1 : w.cell? ⟨bb, 1, none⟩ = some (.int .i64 num) := by have := h.b; simp [World.cell?, this]
  clear h
  go_enter Try.func11, Try.ntmps11
  go_wp2_with fail
  go_ret
  exact ⟨rfl, rfl⟩
set_option maxHeartbeats 400000 in
theorem count11nil (w : World) : Calls Try.prog 11 #[.pointer none] w fun e w' => e = .returned (.int .i64 0) ∧ w = w' := by
  go_enter Try.func11, Try.ntmps11
  go_wp2_with fail
  go_ret
  exact ⟨rfl, rfl⟩
end Go.Proofs.Ythmfibgjemnlbaa

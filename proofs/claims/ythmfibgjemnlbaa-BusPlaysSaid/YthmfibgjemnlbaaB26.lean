/- Bus (layer 4): the reference's Send. -/
import Derived.Test.YthmfibgjemnlbaaB24
import Derived.Test.YthmfibgjemnlbaaB11
import Derived.Test.YthmfibgjemnlbaaB12
import Derived.BigRegion
import Derived.BigQuiet
import Derived.Deep.CutRange
namespace Go.Proofs.Ythmfibgjemnlbaa
open Go.RowKit Go.Sort Go.Shelf Go.Lib
set_option linter.unusedVariables false
set_option maxHeartbeats 1000000 in
theorem send28neg (p : Addr) (node id len d0 d1 d2 d3 d4 d5 d6 d7 : Int) (r : Bool) (w : World) (h0 : node < 0) :
    Calls Try.prog 28 #[.pointer (some p), .int .i64 node, fagg id len d0 d1 d2 d3 d4 d5 d6 d7 r] w fun e w' => e = .returned (.int .i64 2) ∧ Pu w w' := by
  go_enter Try.func28, Try.ntmps28
  go_wp2_with fail
  go_ret
  exact ⟨rfl, (Pu.refl w).alloc _⟩
set_option maxHeartbeats 1000000 in
set_option maxRecDepth 100000 in
theorem send28bad (p : Addr) (node id len d0 d1 d2 d3 d4 d5 d6 d7 : Int) (r : Bool) (w : World) (h0 : 0 ≤ node) (hr : rtB id len d0 d1 d2 d3 d4 d5 d6 d7 r = false) :
    Calls Try.prog 28 #[.pointer (some p), .int .i64 node, fagg id len d0 d1 d2 d3 d4 d5 d6 d7 r] w fun e w' => e = .returned (.int .i64 30) ∧ Pu w w' := by
  have cR := right37 id len d0 d1 d2 d3 d4 d5 d6 d7 r
  rw [hr] at cR
  have HR := Lib.hid cR
  clear cR hr
  go_enter Try.func28, Try.ntmps28
  go_wp2_with fail
  refine (HR.out _).mono ?_
  rintro e w1 ⟨rfl, hp⟩
  go_wp2_with fail
  go_ret
  exact ⟨rfl, ((Pu.refl w).alloc _).trans hp⟩
set_option maxHeartbeats 1000000 in
set_option maxRecDepth 100000 in
theorem send28full {w : World} {rb : Nat} {A : Option Addr} {c : Nat} {L : Array Sn} {num : Int} (h : RefAt w rb A c L num) (node id len d0 d1 d2 d3 d4 d5 d6 d7 : Int) (r : Bool) (h0 : 0 ≤ node) (hr : rtB id len d0 d1 d2 d3 d4 d5 d6 d7 r = true) (hd : 512 ≤ L.size) :
    Calls Try.prog 28 #[.pointer (some ⟨rb, 0, none⟩), .int .i64 node, fagg id len d0 d1 d2 d3 d4 d5 d6 d7 r] w fun e w' => e = .returned (.int .i64 40) ∧ Pu w w' := by
  have H := Lib.hid h
  have cR := right37 id len d0 d1 d2 d3 d4 d5 d6 d7 r
  rw [hr] at cR
  have HR := Lib.hid cR
  clear cR hr h
  have hd' : 512 ≤ (L.size : Int) := by omega
  go_enter Try.func28, Try.ntmps28
  go_wp2_with fail
  refine (HR.out _).mono ?_
  rintro e w1 ⟨rfl, hp⟩
  have HP := Lib.hid (((Pu.refl w).alloc _).trans hp)
  have HK := H.out.keep (Fr.pu HP.out) (fun h => h) (fun _ _ _ h => h)
  have c0 : w1.cell? ⟨rb, 0, none⟩ = some (.slice A L.size c) := by have := HK.b; simp [World.cell?, this]
  clear hp HK
  go_wp2_with fail
  go_ret
  exact ⟨rfl, HP.out⟩
theorem RefAt.bump {w : World} {rb : Nat} {A : Option Addr} {c : Nat} {L : Array Sn} {num : Int} (h : RefAt w rb A c L num) (num' : Int) :
    RefAt (w.setCell ⟨rb, 1, none⟩ (.int .i64 num')) rb A c L num' ∧ Fr w (w.setCell ⟨rb, 1, none⟩ (.int .i64 num')) (fun i => i = rb) := by
  have f : Fr w (w.setCell ⟨rb, 1, none⟩ (.int .i64 num')) (fun i => i = rb) := (Fr.refl w _).setCell _ _ (fun _ => rfl)
  refine ⟨⟨heap_setCell_same w rb 1 _ _ _ h.b, h.cap, ?_⟩, f⟩
  rcases h.row with hr | ⟨g, off, cur, hA, hg, hc⟩
  · exact .inl hr
  · refine .inr ⟨g, off, cur, hA, f.heap hg (fun e => ?_), hc⟩
    subst e
    rw [h.b] at hg
    cases hg
theorem flatK_append (K M : Array Sn) : (flatK Sn.cs 13 (K ++ M)).toList = (flatK Sn.cs 13 K).toList ++ (flatK Sn.cs 13 M).toList := by
  apply List.ext_getElem?
  intro j
  have key : ∀ (X : Array Sn) (j : Nat), j < X.size * 13 → (flatK Sn.cs 13 X).toList[j]? = X[j / 13]!.cs[j % 13]? := by
    intro X j hj
    obtain ⟨u, hu⟩ : ∃ u, (flatK Sn.cs 13 X).toList[j]? = some u := ⟨_, List.getElem?_eq_getElem (by simpa using hj)⟩
    rw [hu, (flatK_get hu).2]
  by_cases h1 : j < K.size * 13
  · rw [List.getElem?_append_left (by simpa using h1), key K j h1, key _ j (by simp; omega)]
    rw [getElem!_pos (K ++ M) (j / 13) (by simp; omega), getElem!_pos K (j / 13) (by omega), Array.getElem_append_left (by omega)]
  · rw [List.getElem?_append_right (by simpa using h1)]
    have hl : (flatK Sn.cs 13 K).toList.length = K.size * 13 := by simp
    rw [hl]
    by_cases h2 : j < (K.size + M.size) * 13
    · rw [key M (j - K.size * 13) (by omega), key _ j (by simp; omega)]
      rw [getElem!_pos (K ++ M) (j / 13) (by simp; omega), getElem!_pos M ((j - K.size * 13) / 13) (by omega), Array.getElem_append_right (by omega)]
      rw [show (j - K.size * 13) % 13 = j % 13 by omega]
      congr 2
      simp only [show (j - K.size * 13) / 13 = j / 13 - K.size by omega]
    · rw [List.getElem?_eq_none (by simp; omega), List.getElem?_eq_none (by simp; omega)]
theorem Gath.app {w0 w w' : World} {v v' : Value} {K : Array Sn} (h : Gath w0 w v K) (M : Array Sn) (m : Nat) (hm : M.size = m) (ho : w'.ownsRow 0 71 13 v' (K.size + m) ((flatK Sn.cs 13 K).toList ++ (flatK Sn.cs 13 M).toList)) (hg : w.grownBy w' v.ownBlock) (hat : v'.ownBlock = v.ownBlock ∨ v'.ownBlock = some w.heap.size) : Gath w0 w' v' (K ++ M) := by
  refine ⟨?_, ?_, h.bel.trans ((Fr.grown hg).below w0.heap.size h.bel.size (fun i e => h.lo i e))⟩
  · rw [flatK_append]
    simpa [hm] using ho
  · intro k hk
    rcases hat with e | e
    · exact h.lo k (e ▸ hk)
    · rw [e] at hk; cases hk; exact h.bel.size
set_option maxHeartbeats 4000000 in
set_option maxRecDepth 100000 in
theorem send28 {w : World} {rb : Nat} {A : Option Addr} {c : Nat} {L : Array Sn} {num : Int} (h : RefAt w rb A c L num) (node id len d0 d1 d2 d3 d4 d5 d6 d7 : Int) (r : Bool) (h0 : 0 ≤ node) (hr : rtB id len d0 d1 d2 d3 d4 d5 d6 d7 r = true) (hd : L.size < 512) (hnum : 0 ≤ num ∧ num < 1000000000) :
    Calls Try.prog 28 #[.pointer (some ⟨rb, 0, none⟩), .int .i64 node, fagg id len d0 d1 d2 d3 d4 d5 d6 d7 r] w fun e w' => e = .returned (.int .i64 0) ∧ (∃ A' c' i, i ≤ L.size ∧ (∀ j, j < i → L[j]!.ah ⟨node, id, len, d0, d1, d2, d3, d4, d5, d6, d7, r, num⟩ = true) ∧ (i = L.size ∨ L[i]!.ah ⟨node, id, len, d0, d1, d2, d3, d4, d5, d6, d7, r, num⟩ = false) ∧ RefAt w' rb A' c' ((L.extract 0 i).push ⟨node, id, len, d0, d1, d2, d3, d4, d5, d6, d7, r, num⟩ ++ L.extract i L.size) (num + 1)) ∧ Fr w w' (fun i => i = rb) := by
  obtain ⟨i0, hi0, hi1, hi2, hi3⟩ := info_parts Try.infoR
  have HI := Lib.hid (And.intro hi0 (And.intro hi1 (And.intro hi2 hi3)))
  clear hi0 hi1 hi2 hi3
  have H := Lib.hid h
  have cR := right37 id len d0 d1 d2 d3 d4 d5 d6 d7 r
  rw [hr] at cR
  have HR := Lib.hid cR
  clear cR hr h
  go_enter Try.func28, Try.ntmps28
  go_wp2_with fail
  refine (HR.out _).mono ?_
  rintro e w1 ⟨rfl, hp⟩
  have HP := Lib.hid (((Pu.refl w).alloc _).trans hp)
  have hbx : w1.heap[w.heap.size]? = some (.cells #[.int .u16 id, .int .i64 len, .int .u8 d0, .int .u8 d1, .int .u8 d2, .int .u8 d3, .int .u8 d4, .int .u8 d5, .int .u8 d6, .int .u8 d7, .bool r] 32) := (hp.below.block _ (by simp)).trans (heap_alloc_new w _)
  have HK := Lib.hid (H.out.keep (Fr.pu HP.out) (fun h => h) (fun _ _ _ h => h))
  have c0 : w1.cell? ⟨rb, 0, none⟩ = some (.slice A L.size c) := by have := HK.out.b; simp [World.cell?, this]
  have c1 : w1.cell? ⟨rb, 1, none⟩ = some (.int .i64 num) := by have := HK.out.b; simp [World.cell?, this]
  have b0 : w1.cell? ⟨w.heap.size, 0, none⟩ = some (.int .u16 id) := by simp [World.cell?, hbx]
  have b1 : w1.cell? ⟨w.heap.size, 1, none⟩ = some (.int .i64 len) := by simp [World.cell?, hbx]
  have b2 : w1.cell? ⟨w.heap.size, 2, none⟩ = some (.int .u8 d0) := by simp [World.cell?, hbx]
  have b3 : w1.cell? ⟨w.heap.size, 3, none⟩ = some (.int .u8 d1) := by simp [World.cell?, hbx]
  have b4 : w1.cell? ⟨w.heap.size, 4, none⟩ = some (.int .u8 d2) := by simp [World.cell?, hbx]
  have b5 : w1.cell? ⟨w.heap.size, 5, none⟩ = some (.int .u8 d3) := by simp [World.cell?, hbx]
  have b6 : w1.cell? ⟨w.heap.size, 6, none⟩ = some (.int .u8 d4) := by simp [World.cell?, hbx]
  have b7 : w1.cell? ⟨w.heap.size, 7, none⟩ = some (.int .u8 d5) := by simp [World.cell?, hbx]
  have b8 : w1.cell? ⟨w.heap.size, 8, none⟩ = some (.int .u8 d6) := by simp [World.cell?, hbx]
  have b9 : w1.cell? ⟨w.heap.size, 9, none⟩ = some (.int .u8 d7) := by simp [World.cell?, hbx]
  have b10 : w1.cell? ⟨w.heap.size, 10, none⟩ = some (.bool r) := by simp [World.cell?, hbx]

  have hlt1 : rb < w1.heap.size := HK.out.lt
  have hbl : w.heap.size < w1.heap.size := lt_of_block hbx
  clear hp hbx
  go_wp2_with fail
  go_big_region
  go_wp2_with fail
  obtain ⟨w2, hw2⟩ : ∃ w2, w2 = (w1.alloc (.cells #[.int .i64 node, .int .u16 id, .int .i64 len, .int .u8 d0, .int .u8 d1, .int .u8 d2, .int .u8 d3, .int .u8 d4, .int .u8 d5, .int .u8 d6, .int .u8 d7, .bool r, .int .i64 num] 71)).drew := ⟨_, rfl⟩
  rw [← hw2]
  have HP2 := Lib.hid (show Pu w w2 by rw [hw2]; exact (HP.out.alloc _).drew)
  have HB2 := Lib.hid (show w2.heap[w1.heap.size]? = some (.cells #[.int .i64 node, .int .u16 id, .int .i64 len, .int .u8 d0, .int .u8 d1, .int .u8 d2, .int .u8 d3, .int .u8 d4, .int .u8 d5, .int .u8 d6, .int .u8 d7, .bool r, .int .i64 num] 71) by rw [hw2]; exact heap_alloc_new w1 _)
  have HK2 := Lib.hid (H.out.keep (Fr.pu HP2.out) (fun h => h) (fun _ _ _ h => h))
  clear hw2 HP HK c0 c1 b0 b1 b2 b3 b4 b5 b6 b7 b8 b9 b10 hbl hlt1
  generalize w1.heap.size = bs at *
  go_loopg [8] L.size (fun gk s8 wr => ∃ (i : Nat), s8 = .int .i64 i ∧ i ≤ L.size ∧ L.size - i ≤ gk ∧ Hid (Pu w2 wr ∧ ∀ j, j < i → L[j]!.ah ⟨node, id, len, d0, d1, d2, d3, d4, d5, d6, d7, r, num⟩ = true))
  case atStart => exact ⟨0, by go_num, by omega, by omega, Pu.refl _, fun j hj => by omega⟩
  case round =>
    obtain ⟨i, rfl, hi, hgi, HU⟩ := hrel
    have HKr := Lib.hid (HK2.out.keep (Fr.pu HU.out.1) (fun h => h) (fun _ _ _ h => h))
    have hbs : wr.heap[bs]? = some (.cells #[.int .i64 node, .int .u16 id, .int .i64 len, .int .u8 d0, .int .u8 d1, .int .u8 d2, .int .u8 d3, .int .u8 d4, .int .u8 d5, .int .u8 d6, .int .u8 d7, .bool r, .int .i64 num] 71) := (HU.out.1.below.block _ (lt_of_block HB2.out)).trans HB2.out
    have cr : ∀ n os, (grow (wr.drewN n) os).cell? ⟨rb, 0, none⟩ = some (.slice A L.size c) := fun n os => cell_grown HKr.out.lt (by have := HKr.out.b; simp [World.cell?, this]) n os
    have b0 : ∀ n os, (grow (wr.drewN n) os).cell? ⟨bs, 0, none⟩ = some (.int .i64 node) := fun n os => cell_grown (lt_of_block hbs) (by simp [World.cell?, hbs]) n os
    have b1 : ∀ n os, (grow (wr.drewN n) os).cell? ⟨bs, 1, none⟩ = some (.int .u16 id) := fun n os => cell_grown (lt_of_block hbs) (by simp [World.cell?, hbs]) n os
    have b2 : ∀ n os, (grow (wr.drewN n) os).cell? ⟨bs, 2, none⟩ = some (.int .i64 len) := fun n os => cell_grown (lt_of_block hbs) (by simp [World.cell?, hbs]) n os
    have b3 : ∀ n os, (grow (wr.drewN n) os).cell? ⟨bs, 3, none⟩ = some (.int .u8 d0) := fun n os => cell_grown (lt_of_block hbs) (by simp [World.cell?, hbs]) n os
    have b4 : ∀ n os, (grow (wr.drewN n) os).cell? ⟨bs, 4, none⟩ = some (.int .u8 d1) := fun n os => cell_grown (lt_of_block hbs) (by simp [World.cell?, hbs]) n os
    have b5 : ∀ n os, (grow (wr.drewN n) os).cell? ⟨bs, 5, none⟩ = some (.int .u8 d2) := fun n os => cell_grown (lt_of_block hbs) (by simp [World.cell?, hbs]) n os
    have b6 : ∀ n os, (grow (wr.drewN n) os).cell? ⟨bs, 6, none⟩ = some (.int .u8 d3) := fun n os => cell_grown (lt_of_block hbs) (by simp [World.cell?, hbs]) n os
    have b7 : ∀ n os, (grow (wr.drewN n) os).cell? ⟨bs, 7, none⟩ = some (.int .u8 d4) := fun n os => cell_grown (lt_of_block hbs) (by simp [World.cell?, hbs]) n os
    have b8 : ∀ n os, (grow (wr.drewN n) os).cell? ⟨bs, 8, none⟩ = some (.int .u8 d5) := fun n os => cell_grown (lt_of_block hbs) (by simp [World.cell?, hbs]) n os
    have b9 : ∀ n os, (grow (wr.drewN n) os).cell? ⟨bs, 9, none⟩ = some (.int .u8 d6) := fun n os => cell_grown (lt_of_block hbs) (by simp [World.cell?, hbs]) n os
    have b10 : ∀ n os, (grow (wr.drewN n) os).cell? ⟨bs, 10, none⟩ = some (.int .u8 d7) := fun n os => cell_grown (lt_of_block hbs) (by simp [World.cell?, hbs]) n os
    have b11 : ∀ n os, (grow (wr.drewN n) os).cell? ⟨bs, 11, none⟩ = some (.bool r) := fun n os => cell_grown (lt_of_block hbs) (by simp [World.cell?, hbs]) n os
    have b12 : ∀ n os, (grow (wr.drewN n) os).cell? ⟨bs, 12, none⟩ = some (.int .i64 num) := fun n os => cell_grown (lt_of_block hbs) (by simp [World.cell?, hbs]) n os
    clear hbs
    obtain ⟨B, hB⟩ : ∃ B, B = decide (i < L.size ∧ L[i]!.ah ⟨node, id, len, d0, d1, d2, d3, d4, d5, d6, d7, r, num⟩ = true) := ⟨_, rfl⟩
    have HBd := Lib.hid hB
    clear hB
    go_upto_region 9 with fail
    go_cut [45] from 28 to 47 (fun t45 wx => t45 = .bool B ∧ Hid (Pu wr wx))
    case first =>
      have mixed := mixedT
      by_cases hiL : i < L.size
      · obtain ⟨g, off, rfl, hc⟩ := HKr.out.cell hiL
        have hgl : g < wr.heap.size := by
          rcases HKr.out.row with ⟨e, _⟩ | ⟨g', off', cur, e, hh, _⟩
          · cases e
          · cases e; exact lt_of_block hh
        have hcg : ∀ n os, Calls Try.prog 38 #[.agg (L[i]!.cs).toArray, .agg #[.int .i64 node, .int .u16 id, .int .i64 len, .int .u8 d0, .int .u8 d1, .int .u8 d2, .int .u8 d3, .int .u8 d4, .int .u8 d5, .int .u8 d6, .int .u8 d7, .bool r, .int .i64 num]] (grow (wr.drewN n) os) fun e w' => e = .returned (.bool (L[i]!.ah ⟨node, id, len, d0, d1, d2, d3, d4, d5, d6, d7, r, num⟩)) ∧ ∃ q os', w' = grow ((grow (wr.drewN n) os).drewN q) os' := fun n os => (ahead38 _ _ _ _ _ _ _ _ _ _ _ _ _ _ _ _ _ _ _ _ _ _ _ _ _ _ _).mono fun e w' ⟨he, hp⟩ => ⟨he, hp.out⟩
        have ht : B = L[i]!.ah ⟨node, id, len, d0, d1, d2, d3, d4, d5, d6, d7, r, num⟩ := by rw [HBd.out]; simp [hiL]
        subst ht
        clear HBd
        generalize L[i]!.ah ⟨node, id, len, d0, d1, d2, d3, d4, d5, d6, d7, r, num⟩ = x at *
        generalize L[i]! = S at *
        cases S with | mk s0 s1 s2 s3 s4 s5 s6 s7 s8 s9 s10 s11 s12 => ?_
        have a0 : ∀ n os, (grow (wr.drewN n) os).cell? ⟨g, off + i * 13 + 0, none⟩ = some (.int .i64 s0) := fun n os => cell_grown hgl (hc 0 _ rfl) n os
        have a1 : ∀ n os, (grow (wr.drewN n) os).cell? ⟨g, off + i * 13 + 1, none⟩ = some (.int .u16 s1) := fun n os => cell_grown hgl (hc 1 _ rfl) n os
        have a2 : ∀ n os, (grow (wr.drewN n) os).cell? ⟨g, off + i * 13 + 2, none⟩ = some (.int .i64 s2) := fun n os => cell_grown hgl (hc 2 _ rfl) n os
        have a3 : ∀ n os, (grow (wr.drewN n) os).cell? ⟨g, off + i * 13 + 3, none⟩ = some (.int .u8 s3) := fun n os => cell_grown hgl (hc 3 _ rfl) n os
        have a4 : ∀ n os, (grow (wr.drewN n) os).cell? ⟨g, off + i * 13 + 4, none⟩ = some (.int .u8 s4) := fun n os => cell_grown hgl (hc 4 _ rfl) n os
        have a5 : ∀ n os, (grow (wr.drewN n) os).cell? ⟨g, off + i * 13 + 5, none⟩ = some (.int .u8 s5) := fun n os => cell_grown hgl (hc 5 _ rfl) n os
        have a6 : ∀ n os, (grow (wr.drewN n) os).cell? ⟨g, off + i * 13 + 6, none⟩ = some (.int .u8 s6) := fun n os => cell_grown hgl (hc 6 _ rfl) n os
        have a7 : ∀ n os, (grow (wr.drewN n) os).cell? ⟨g, off + i * 13 + 7, none⟩ = some (.int .u8 s7) := fun n os => cell_grown hgl (hc 7 _ rfl) n os
        have a8 : ∀ n os, (grow (wr.drewN n) os).cell? ⟨g, off + i * 13 + 8, none⟩ = some (.int .u8 s8) := fun n os => cell_grown hgl (hc 8 _ rfl) n os
        have a9 : ∀ n os, (grow (wr.drewN n) os).cell? ⟨g, off + i * 13 + 9, none⟩ = some (.int .u8 s9) := fun n os => cell_grown hgl (hc 9 _ rfl) n os
        have a10 : ∀ n os, (grow (wr.drewN n) os).cell? ⟨g, off + i * 13 + 10, none⟩ = some (.int .u8 s10) := fun n os => cell_grown hgl (hc 10 _ rfl) n os
        have a11 : ∀ n os, (grow (wr.drewN n) os).cell? ⟨g, off + i * 13 + 11, none⟩ = some (.bool s11) := fun n os => cell_grown hgl (hc 11 _ rfl) n os
        have a12 : ∀ n os, (grow (wr.drewN n) os).cell? ⟨g, off + i * 13 + 12, none⟩ = some (.int .i64 s12) := fun n os => cell_grown hgl (hc 12 _ rfl) n os
        simp only [Nat.add_zero] at a0
        clear hc
        simp only [Sn.cs] at hcg
        go_quiet_grown (first | (go_at_call 38; refine Calls.grown_of (hcg _ _)))
        go_wp2_with fail
        go_meet
        exact ⟨rfl, ⟨_, _, rfl⟩⟩
      · have ht : B = false := by rw [HBd.out]; simp [hiL]
        subst ht
        clear HBd mixed b0 b1 b2 b3 b4 b5 b6 b7 b8 b9 b10 b11 b12
        have cr0 : wr.cell? ⟨rb, 0, none⟩ = some (.slice A L.size c) := by have := HKr.out.b; simp [World.cell?, this]
        clear cr
        have hq1 : decide ((i : Int) < (L.size : Int)) = false := by simp; omega
        have hq2 : decide (i < L.size) = false := by simp; omega
        go_quiet (fail)
        go_wp2_with fail
        go_meet
        exact ⟨rfl, (Pu.refl _).drewN _⟩
    case rest =>
      obtain ⟨rfl, HW⟩ := hcut
      cases B with
      | true =>
        have hb : i < L.size ∧ L[i]!.ah ⟨node, id, len, d0, d1, d2, d3, d4, d5, d6, d7, r, num⟩ = true := by have := HBd.out; simpa using this.symm
        obtain ⟨hiL, hia⟩ := hb
        clear b0 b1 b2 b3 b4 b5 b6 b7 b8 b9 b10 b11 b12 cr
        have HA := Lib.hid hia
        clear hia
        go_wp2_with fail
        go_roundg (L.size - (i + 1))
        case measure => omega
        case rel =>
          refine ⟨i + 1, by go_num, by omega, by omega, HU.out.1.trans HW.out, fun j hj => ?_⟩
          by_cases e : j = i
          · subst e; exact HA.out
          · exact HU.out.2 j (by omega)
      | false =>
        have hix : i = L.size ∨ L[i]!.ah ⟨node, id, len, d0, d1, d2, d3, d4, d5, d6, d7, r, num⟩ = false := by
          have := HBd.out
          by_cases h : i < L.size
          · right; simpa [h] using this
          · left; omega
        have HIX := Lib.hid (And.intro HU.out.2 hix)
        have HPc := Lib.hid ((HP2.out.trans HU.out.1).trans HW.out)
        have HG0 := Lib.hid (show Gath w wc (.slice none 0 0) #[] from ⟨by simpa [flatK] using World.ownsRow_nil _ 0 71 13, fun g h => by simp [Value.ownBlock] at h, HPc.out.below⟩)
        have hbs : wc.heap[bs]? = some (.cells #[.int .i64 node, .int .u16 id, .int .i64 len, .int .u8 d0, .int .u8 d1, .int .u8 d2, .int .u8 d3, .int .u8 d4, .int .u8 d5, .int .u8 d6, .int .u8 d7, .bool r, .int .i64 num] 71) := ((HU.out.1.trans HW.out).below.block _ (lt_of_block HB2.out)).trans HB2.out
        have HBs := Lib.hid hbs
        have hin : ∀ w', Below w.heap.size w w' → RefAt w' rb A c L num := fun w' b => H.out.keep (Fr.blw b) (fun h => h) (fun _ _ _ h => h)
        have HIN := Lib.hid hin
        clear hix hbs hin b0 b1 b2 b3 b4 b5 b6 b7 b8 b9 b10 b11 b12 cr HKr HU HW HBd HP2 HB2 HK2
        have cr : wc.cell? ⟨rb, 0, none⟩ = some (.slice A L.size c) := by have := (HIN.out _ HPc.out.below).b; simp [World.cell?, this]
        have hcc : L.size ≤ c ∧ c ≤ 9223372036854775807 := by have := H.out.cap; unfold maxLen at this; omega
        clear h0
        rcases H.out.row with ⟨rfl, rfl, rfl⟩ | ⟨g, off, cur, rfl, _, _⟩
        · have hi0 : i = 0 := by simpa using hi
          subst hi0
          clear hcc hi hgi
          go_upto_region 13 with (at_builtin; go_loud (refine wpList_append_src _ rfl _ _ 47 rfl 0 71 i0 zS 13 48 Try.underlying47 HI.out.1 HI.out.2.1 HI.out.2.2.1 HI.out.2.2.2 rfl (by decide) _ 0 [] rfl (World.ownsRow_nil _ 0 71 13) (.slice none 0 0) 0 [] rfl (.inl ⟨rfl, rfl, rfl⟩) rfl (by intro u hu; cases hu) (by decide) (by decide) (Nat.zero_le _) ?_); intro v4 w4 hown4 hgrow4 hat4)
          have HG4 := Lib.hid (show Gath w w4 v4 #[] by have := HG0.out.app #[] 0 rfl (by simpa [flatK] using hown4) hgrow4 hat4; simpa using this)
          have hb4 : w4.heap[bs]? = some (.cells #[.int .i64 node, .int .u16 id, .int .i64 len, .int .u8 d0, .int .u8 d1, .int .u8 d2, .int .u8 d3, .int .u8 d4, .int .u8 d5, .int .u8 d6, .int .u8 d7, .bool r, .int .i64 num] 71) := (hgrow4.block bs (lt_of_block HBs.out) (by intro e; cases e)).trans HBs.out
          clear hown4 hgrow4 hat4 cr
          have b0 : w4.cell? ⟨bs, 0, none⟩ = some (.int .i64 node) := by simp [World.cell?, hb4]
          have b1 : w4.cell? ⟨bs, 1, none⟩ = some (.int .u16 id) := by simp [World.cell?, hb4]
          have b2 : w4.cell? ⟨bs, 2, none⟩ = some (.int .i64 len) := by simp [World.cell?, hb4]
          have b3 : w4.cell? ⟨bs, 3, none⟩ = some (.int .u8 d0) := by simp [World.cell?, hb4]
          have b4 : w4.cell? ⟨bs, 4, none⟩ = some (.int .u8 d1) := by simp [World.cell?, hb4]
          have b5 : w4.cell? ⟨bs, 5, none⟩ = some (.int .u8 d2) := by simp [World.cell?, hb4]
          have b6 : w4.cell? ⟨bs, 6, none⟩ = some (.int .u8 d3) := by simp [World.cell?, hb4]
          have b7 : w4.cell? ⟨bs, 7, none⟩ = some (.int .u8 d4) := by simp [World.cell?, hb4]
          have b8 : w4.cell? ⟨bs, 8, none⟩ = some (.int .u8 d5) := by simp [World.cell?, hb4]
          have b9 : w4.cell? ⟨bs, 9, none⟩ = some (.int .u8 d6) := by simp [World.cell?, hb4]
          have b10 : w4.cell? ⟨bs, 10, none⟩ = some (.int .u8 d7) := by simp [World.cell?, hb4]
          have b11 : w4.cell? ⟨bs, 11, none⟩ = some (.bool r) := by simp [World.cell?, hb4]
          have b12 : w4.cell? ⟨bs, 12, none⟩ = some (.int .i64 num) := by simp [World.cell?, hb4]
          have HA := Lib.hid (HG4.out.alloc (.cells #[.int .i64 node, .int .u16 id, .int .i64 len, .int .u8 d0, .int .u8 d1, .int .u8 d2, .int .u8 d3, .int .u8 d4, .int .u8 d5, .int .u8 d6, .int .u8 d7, .bool r, .int .i64 num] 71))
          have HNb := Lib.hid (World.news_of_block (heap_alloc_new w4 (.cells #[.int .i64 node, .int .u16 id, .int .i64 len, .int .u8 d0, .int .u8 d1, .int .u8 d2, .int .u8 d3, .int .u8 d4, .int .u8 d5, .int .u8 d6, .int .u8 d7, .bool r, .int .i64 num] 71)))
          have HEc := Lib.hid (show ∀ u ∈ ([.int .i64 node, .int .u16 id, .int .i64 len, .int .u8 d0, .int .u8 d1, .int .u8 d2, .int .u8 d3, .int .u8 d4, .int .u8 d5, .int .u8 d6, .int .u8 d7, .bool r, .int .i64 num] : List Value), u.oneCell' = true from Sn.cs_one ⟨node, id, len, d0, d1, d2, d3, d4, d5, d6, d7, r, num⟩)
          clear hb4
          go_upto_region 14 with (at_builtin; go_loud (refine wpList_append_src _ rfl _ _ 47 rfl 0 71 i0 zS 13 48 Try.underlying47 HI.out.1 HI.out.2.1 HI.out.2.2.1 HI.out.2.2.2 rfl (by decide) _ (#[] : Array Sn).size _ rfl HA.out.o (.slice (some ⟨w4.heap.size, 0, none⟩) 1 1) 1 [.int .i64 node, .int .u16 id, .int .i64 len, .int .u8 d0, .int .u8 d1, .int .u8 d2, .int .u8 d3, .int .u8 d4, .int .u8 d5, .int .u8 d6, .int .u8 d7, .bool r, .int .i64 num] rfl (.inr ⟨_, _, rfl, HNb.out⟩) rfl HEc.out (by decide) (by decide) (Nat.zero_le _) ?_); intro v5 w5 hown5 hgrow5 hat5)
          have HG5 := Lib.hid (HA.out.push ⟨node, id, len, d0, d1, d2, d3, d4, d5, d6, d7, r, num⟩ hown5 hgrow5 hat5)
          clear hown5 hgrow5 hat5 HA HNb HEc b0 b1 b2 b3 b4 b5 b6 b7 b8 b9 b10 b11 b12
          have cr : w5.cell? ⟨rb, 0, none⟩ = some (.slice none 0 0) := by have := (HIN.out _ HG5.out.bel).b; simp [World.cell?, this]
          go_upto_region 15 with (at_builtin; go_loud (refine wpList_append_src _ rfl _ _ 47 rfl 0 71 i0 zS 13 48 Try.underlying47 HI.out.1 HI.out.2.1 HI.out.2.2.1 HI.out.2.2.2 rfl (by decide) _ ((#[] : Array Sn).push ⟨node, id, len, d0, d1, d2, d3, d4, d5, d6, d7, r, num⟩).size _ rfl HG5.out.o (.slice none 0 0) 0 [] rfl (.inl ⟨rfl, rfl, rfl⟩) rfl (by intro u hu; cases hu) (show 1 ≤ maxLen by decide) (show 1 * 48 ≤ 140737488355328 by decide) (Nat.zero_le _) ?_); intro v6 w6 hown6 hgrow6 hat6)
          have HG6 := Lib.hid (show Gath w w6 v6 #[⟨node, id, len, d0, d1, d2, d3, d4, d5, d6, d7, r, num⟩] by have := HG5.out.app #[] 0 rfl (by simpa [flatK] using hown6) hgrow6 hat6; simpa using this)
          clear hown6 hgrow6 hat6 HG5 cr
          obtain ⟨A6, c6, hv6, hcp6, hrw6⟩ := ref_row HG6.out.o
          subst hv6
          have HW6 := Lib.hid (And.intro hcp6 hrw6)
          clear hcp6 hrw6
          have hR6 := HIN.out _ HG6.out.bel
          have e0 : w6.cell? ⟨rb, 0, none⟩ = some (.slice none 0 0) := by have := hR6.b; simp [World.cell?, this]
          have e1 : w6.frozen? ⟨rb, 0, none⟩ = false := by have := hR6.b; simp [World.frozen?, this]
          have e2 : w6.cell? ⟨rb, 1, none⟩ = some (.int .i64 num) := by have := hR6.b; simp [World.cell?, this]
          have e3 : w6.frozen? ⟨rb, 1, none⟩ = false := by have := hR6.b; simp [World.frozen?, this]
          have hlr : rb < w6.heap.size := hR6.lt
          have HR6 := Lib.hid hR6
          clear hR6
          generalize hKK : (#[⟨node, id, len, d0, d1, d2, d3, d4, d5, d6, d7, r, num⟩] : Array Sn).size = ks at *
          go_wp2_with fail
          go_ret
          obtain ⟨h1, h2⟩ := HR6.out.set A6 c6 #[⟨node, id, len, d0, d1, d2, d3, d4, d5, d6, d7, r, num⟩] ks hKK HW6.out.1 (by have := HW6.out.2; rw [← hKK] at this; exact this)
          obtain ⟨h3, h4⟩ := h1.bump (num + 1)
          exact ⟨rfl, ⟨_, _, 0, Nat.zero_le _, HIX.out.1, HIX.out.2, by simpa using h3⟩, (((Fr.blw HG6.out.bel).mono (fun _ _ h => h.elim)).trans h2 (fun _ _ h => h)).trans h4 (fun _ _ h => h)⟩
        · have HP0 := Lib.hid (show ∀ j u, (flatK Sn.cs 13 (L.extract 0 i)).toList[j]? = some u → wc.cell? ((⟨g, off, none⟩ : Addr).add j) = some u by have := (HIN.out _ HPc.out.below).part 0 i (by omega); simpa using this)
          have HE0 := Lib.hid (flatK_one (L.extract 0 i))
          have hl0 : (flatK Sn.cs 13 (L.extract 0 i)).toList.length = i * 13 := by simp; omega
          have hz0 : (L.extract 0 i).size = i := by simp; omega
          have hzz : (#[] : Array Sn).size = 0 := rfl
          go_upto_region 13 with (at_builtin; refine wpList_append_src _ rfl _ _ 47 rfl 0 71 i0 zS 13 48 Try.underlying47 HI.out.1 HI.out.2.1 HI.out.2.2.1 HI.out.2.2.2 rfl (by decide) _ (#[] : Array Sn).size _ rfl HG0.out.o (.slice (some ⟨g, off, none⟩) i c) i (flatK Sn.cs 13 (L.extract 0 i)).toList rfl (.inr ⟨_, _, rfl, HP0.out⟩) hl0 HE0.out (by unfold maxLen; omega) (by omega) (Nat.zero_le _) ?_; intro v4 w4 hown4 hgrow4 hat4)
          have HG4 := Lib.hid (show Gath w w4 v4 (L.extract 0 i) by have := HG0.out.app (L.extract 0 i) i hz0 hown4 hgrow4 hat4; rwa [Array.empty_append] at this)
          have hb4 : w4.heap[bs]? = some (.cells #[.int .i64 node, .int .u16 id, .int .i64 len, .int .u8 d0, .int .u8 d1, .int .u8 d2, .int .u8 d3, .int .u8 d4, .int .u8 d5, .int .u8 d6, .int .u8 d7, .bool r, .int .i64 num] 71) := (hgrow4.block bs (lt_of_block HBs.out) (by intro e; cases e)).trans HBs.out
          clear hown4 hgrow4 hat4 HP0 HE0 hl0 cr
          have b0 : w4.cell? ⟨bs, 0, none⟩ = some (.int .i64 node) := by simp [World.cell?, hb4]
          have b1 : w4.cell? ⟨bs, 1, none⟩ = some (.int .u16 id) := by simp [World.cell?, hb4]
          have b2 : w4.cell? ⟨bs, 2, none⟩ = some (.int .i64 len) := by simp [World.cell?, hb4]
          have b3 : w4.cell? ⟨bs, 3, none⟩ = some (.int .u8 d0) := by simp [World.cell?, hb4]
          have b4 : w4.cell? ⟨bs, 4, none⟩ = some (.int .u8 d1) := by simp [World.cell?, hb4]
          have b5 : w4.cell? ⟨bs, 5, none⟩ = some (.int .u8 d2) := by simp [World.cell?, hb4]
          have b6 : w4.cell? ⟨bs, 6, none⟩ = some (.int .u8 d3) := by simp [World.cell?, hb4]
          have b7 : w4.cell? ⟨bs, 7, none⟩ = some (.int .u8 d4) := by simp [World.cell?, hb4]
          have b8 : w4.cell? ⟨bs, 8, none⟩ = some (.int .u8 d5) := by simp [World.cell?, hb4]
          have b9 : w4.cell? ⟨bs, 9, none⟩ = some (.int .u8 d6) := by simp [World.cell?, hb4]
          have b10 : w4.cell? ⟨bs, 10, none⟩ = some (.int .u8 d7) := by simp [World.cell?, hb4]
          have b11 : w4.cell? ⟨bs, 11, none⟩ = some (.bool r) := by simp [World.cell?, hb4]
          have b12 : w4.cell? ⟨bs, 12, none⟩ = some (.int .i64 num) := by simp [World.cell?, hb4]
          have HA := Lib.hid (HG4.out.alloc (.cells #[.int .i64 node, .int .u16 id, .int .i64 len, .int .u8 d0, .int .u8 d1, .int .u8 d2, .int .u8 d3, .int .u8 d4, .int .u8 d5, .int .u8 d6, .int .u8 d7, .bool r, .int .i64 num] 71))
          have HNb := Lib.hid (World.news_of_block (heap_alloc_new w4 (.cells #[.int .i64 node, .int .u16 id, .int .i64 len, .int .u8 d0, .int .u8 d1, .int .u8 d2, .int .u8 d3, .int .u8 d4, .int .u8 d5, .int .u8 d6, .int .u8 d7, .bool r, .int .i64 num] 71)))
          have HEc := Lib.hid (show ∀ u ∈ ([.int .i64 node, .int .u16 id, .int .i64 len, .int .u8 d0, .int .u8 d1, .int .u8 d2, .int .u8 d3, .int .u8 d4, .int .u8 d5, .int .u8 d6, .int .u8 d7, .bool r, .int .i64 num] : List Value), u.oneCell' = true from Sn.cs_one ⟨node, id, len, d0, d1, d2, d3, d4, d5, d6, d7, r, num⟩)
          clear hb4
          go_upto_region 14 with (at_builtin; refine wpList_append_src _ rfl _ _ 47 rfl 0 71 i0 zS 13 48 Try.underlying47 HI.out.1 HI.out.2.1 HI.out.2.2.1 HI.out.2.2.2 rfl (by decide) _ (L.extract 0 i).size _ rfl HA.out.o (.slice (some ⟨w4.heap.size, 0, none⟩) 1 1) 1 [.int .i64 node, .int .u16 id, .int .i64 len, .int .u8 d0, .int .u8 d1, .int .u8 d2, .int .u8 d3, .int .u8 d4, .int .u8 d5, .int .u8 d6, .int .u8 d7, .bool r, .int .i64 num] rfl (.inr ⟨_, _, rfl, HNb.out⟩) rfl HEc.out (by unfold maxLen; omega) (by omega) (Nat.zero_le _) ?_; intro v5 w5 hown5 hgrow5 hat5)
          have HG5 := Lib.hid (HA.out.push ⟨node, id, len, d0, d1, d2, d3, d4, d5, d6, d7, r, num⟩ hown5 hgrow5 hat5)
          clear hown5 hgrow5 hat5 HA HNb HEc b0 b1 b2 b3 b4 b5 b6 b7 b8 b9 b10 b11 b12
          have cr : w5.cell? ⟨rb, 0, none⟩ = some (.slice (some ⟨g, off, none⟩) L.size c) := by have := (HIN.out _ HG5.out.bel).b; simp [World.cell?, this]
          have HP1 := Lib.hid (show ∀ j u, (flatK Sn.cs 13 (L.extract i L.size)).toList[j]? = some u → w5.cell? ((⟨g, off + i * 13, none⟩ : Addr).add j) = some u by have := (HIN.out _ HG5.out.bel).part i (L.size - i) (by omega); rwa [show i + (L.size - i) = L.size by omega] at this)
          have HE1 := Lib.hid (flatK_one (L.extract i L.size))
          have hl1 : (flatK Sn.cs 13 (L.extract i L.size)).toList.length = (L.size - i) * 13 := by simp
          have hz1 : (L.extract i L.size).size = L.size - i := by simp
          have hz2 : ((L.extract 0 i).push ⟨node, id, len, d0, d1, d2, d3, d4, d5, d6, d7, r, num⟩).size = i + 1 := by rw [Array.size_push, hz0]
          by_cases hci : c = i
          · have HS0 := Lib.hid (show ∀ (ad : Addr) j u, (flatK Sn.cs 13 (L.extract i L.size)).toList[j]? = some u → w5.cell? (ad.add j) = some u from fun ad j u hj => by have := (List.getElem?_eq_some_iff.1 hj).1; omega)
            go_upto_region 15 with (at_builtin; go_loud (refine wpList_append_src _ rfl _ _ 47 rfl 0 71 i0 zS 13 48 Try.underlying47 HI.out.1 HI.out.2.1 HI.out.2.2.1 HI.out.2.2.2 rfl (by decide) _ ((L.extract 0 i).push ⟨node, id, len, d0, d1, d2, d3, d4, d5, d6, d7, r, num⟩).size _ rfl HG5.out.o _ (L.size - i) (flatK Sn.cs 13 (L.extract i L.size)).toList rfl (.inr ⟨_, _, rfl, HS0.out _⟩) hl1 HE1.out (by unfold maxLen; omega) (by omega) (Nat.zero_le _) ?_); intro v6 w6 hown6 hgrow6 hat6)
            have HG6 := Lib.hid (HG5.out.app (L.extract i L.size) (L.size - i) hz1 hown6 hgrow6 hat6)
            clear hown6 hgrow6 hat6 HG5 HP1 HE1 hl1 HS0 cr
            obtain ⟨A6, c6, hv6, hcp6, hrw6⟩ := ref_row HG6.out.o
            subst hv6
            have HW6 := Lib.hid (And.intro hcp6 hrw6)
            clear hcp6 hrw6
            have hR6 := HIN.out _ HG6.out.bel
            have e0 : w6.cell? ⟨rb, 0, none⟩ = some (.slice (some ⟨g, off, none⟩) L.size c) := by have := hR6.b; simp [World.cell?, this]
            have e1 : w6.frozen? ⟨rb, 0, none⟩ = false := by have := hR6.b; simp [World.frozen?, this]
            have e2 : w6.cell? ⟨rb, 1, none⟩ = some (.int .i64 num) := by have := hR6.b; simp [World.cell?, this]
            have e3 : w6.frozen? ⟨rb, 1, none⟩ = false := by have := hR6.b; simp [World.frozen?, this]
            have hlr : rb < w6.heap.size := hR6.lt
            have HR6 := Lib.hid hR6
            clear hR6
            generalize hKK : ((L.extract 0 i).push ⟨node, id, len, d0, d1, d2, d3, d4, d5, d6, d7, r, num⟩ ++ L.extract i L.size).size = ks at *
            go_wp2_with fail
            go_ret
            obtain ⟨h1, h2⟩ := HR6.out.set A6 c6 ((L.extract 0 i).push ⟨node, id, len, d0, d1, d2, d3, d4, d5, d6, d7, r, num⟩ ++ L.extract i L.size) ks hKK HW6.out.1 (by have := HW6.out.2; rw [← hKK] at this; exact this)
            obtain ⟨h3, h4⟩ := h1.bump (num + 1)
            exact ⟨rfl, ⟨_, _, i, hi, HIX.out.1, HIX.out.2, h3⟩, (((Fr.blw HG6.out.bel).mono (fun _ _ h => h.elim)).trans h2 (fun _ _ h => h)).trans h4 (fun _ _ h => h)⟩
          · go_upto_region 15 with (at_builtin; go_loud (refine wpList_append_src _ rfl _ _ 47 rfl 0 71 i0 zS 13 48 Try.underlying47 HI.out.1 HI.out.2.1 HI.out.2.2.1 HI.out.2.2.2 rfl (by decide) _ ((L.extract 0 i).push ⟨node, id, len, d0, d1, d2, d3, d4, d5, d6, d7, r, num⟩).size _ rfl HG5.out.o (.slice (some ⟨g, off + i * 13, none⟩) (L.size - i) (c - i)) (L.size - i) (flatK Sn.cs 13 (L.extract i L.size)).toList rfl (.inr ⟨_, _, rfl, HP1.out⟩) hl1 HE1.out (by unfold maxLen; omega) (by omega) (Nat.zero_le _) ?_); intro v6 w6 hown6 hgrow6 hat6)
            have HG6 := Lib.hid (HG5.out.app (L.extract i L.size) (L.size - i) hz1 hown6 hgrow6 hat6)
            clear hown6 hgrow6 hat6 HG5 HP1 HE1 hl1 cr
            obtain ⟨A6, c6, hv6, hcp6, hrw6⟩ := ref_row HG6.out.o
            subst hv6
            have HW6 := Lib.hid (And.intro hcp6 hrw6)
            clear hcp6 hrw6
            have hR6 := HIN.out _ HG6.out.bel
            have e0 : w6.cell? ⟨rb, 0, none⟩ = some (.slice (some ⟨g, off, none⟩) L.size c) := by have := hR6.b; simp [World.cell?, this]
            have e1 : w6.frozen? ⟨rb, 0, none⟩ = false := by have := hR6.b; simp [World.frozen?, this]
            have e2 : w6.cell? ⟨rb, 1, none⟩ = some (.int .i64 num) := by have := hR6.b; simp [World.cell?, this]
            have e3 : w6.frozen? ⟨rb, 1, none⟩ = false := by have := hR6.b; simp [World.frozen?, this]
            have hlr : rb < w6.heap.size := hR6.lt
            have HR6 := Lib.hid hR6
            clear hR6
            generalize hKK : ((L.extract 0 i).push ⟨node, id, len, d0, d1, d2, d3, d4, d5, d6, d7, r, num⟩ ++ L.extract i L.size).size = ks at *
            go_wp2_with fail
            go_ret
            obtain ⟨h1, h2⟩ := HR6.out.set A6 c6 ((L.extract 0 i).push ⟨node, id, len, d0, d1, d2, d3, d4, d5, d6, d7, r, num⟩ ++ L.extract i L.size) ks hKK HW6.out.1 (by have := HW6.out.2; rw [← hKK] at this; exact this)
            obtain ⟨h3, h4⟩ := h1.bump (num + 1)
            exact ⟨rfl, ⟨_, _, i, hi, HIX.out.1, HIX.out.2, h3⟩, (((Fr.blw HG6.out.bel).mono (fun _ _ h => h.elim)).trans h2 (fun _ _ h => h)).trans h4 (fun _ _ h => h)⟩
end Go.Proofs.Ythmfibgjemnlbaa

/- Bus (layer 4): the heap's methods Less, Swap: Less tells whether one goes ahead of another; Swap exchanges two. -/
import Derived.Test.YthmfibgjemnlbaaB01
import Derived.Shelf.SlSortCmp.NoneTotal
import Derived.Shelf.SlicesQ.Reverse
namespace Go.Proofs.Ythmfibgjemnlbaa
open Go.RowKit Go.Sort Go.Shelf
set_option linter.unusedVariables false
theorem mixedT : Try.prog.follows .mixedOrders = true := by kernel_rfl
theorem sn_cells {w : World} {g : Nat} {d : Array Sn} (hr : HoldsK Sn.cs 13 w g 0 d) {k : Nat} (hk : k < d.size) (c : Nat) (v : Value) (hv : d[k]!.cs[c]? = some v) : w.cell? ⟨g, k * 13 + c, none⟩ = some v := by
  have := HoldsK.cells hr Sn.cs_length hk c v hv
  simpa [Addr.add_lit] using this
theorem sn_cells_g {w : World} {g : Nat} {d : Array Sn} (hr : HoldsK Sn.cs 13 w g 0 d) (hg : g < w.heap.size) {k : Nat} (hk : k < d.size) (n : Nat) (os : Array Obj) (c : Nat) (v : Value) (hv : d[k]!.cs[c]? = some v) : (grow (w.drewN n) os).cell? ⟨g, k * 13 + c, none⟩ = some v :=
  sn_cells (holdsK_grow Sn.cs 13 (w.drewN n) os g 0 d hg (holdsK_ahead Sn.cs 13 w n g 0 d hr)) hk c v hv
set_option maxHeartbeats 400000 in
theorem less73 (bb g cap : Nat) (num : Int) (i j : Nat) (d : Array Sn) (w : World) (hb : w.heap[bb]? = some (.cells #[.slice (some ⟨g, 0, none⟩) d.size cap, .int .i64 num] 61 (0, 0)))
    (hr : HoldsK Sn.cs 13 w g 0 d) (hg : g < w.heap.size) (hi : i < d.size) (hj : j < d.size) :
    Calls Try.prog 73 #[.pointer (some ⟨bb, 0, none⟩), .int .i64 i, .int .i64 j] w fun e w' => e = .returned (.bool (d[i]!.ah d[j]!)) ∧ Pu w w' := by
  have hbb : bb < w.heap.size := lt_of_block hb
  have c0 : ∀ n os, (grow (w.drewN n) os).cell? ⟨bb, 0, none⟩ = some (.slice (some ⟨g, 0, none⟩) d.size cap) := fun n os => cell_grown hbb (by simp [World.cell?, hb]) n os
  have hcg : ∀ n os, Calls Try.prog 25 #[.agg (d[i]!.cs).toArray, .agg (d[j]!.cs).toArray] (grow (w.drewN n) os) fun e w' => e = .returned (.bool (d[i]!.ah d[j]!)) ∧ ∃ q os', w' = grow ((grow (w.drewN n) os).drewN q) os' := fun n os => (aheadS _ _ _).mono fun e w' ⟨he, hp⟩ => ⟨he, hp.out⟩
  have Li := sn_cells_g hr hg hi
  have Lj := sn_cells_g hr hg hj
  generalize d[i]! = s at *
  generalize d[j]! = t at *
  generalize s.ah t = x at *
  have a0 : ∀ n os, (grow (w.drewN n) os).cell? ⟨g, i * 13, none⟩ = some (.int .i64 s.node) := fun n os => Li n os 0 _ rfl
  have a1 : ∀ n os, (grow (w.drewN n) os).cell? ⟨g, i * 13 + 1, none⟩ = some (.int .u16 s.id) := fun n os => Li n os 1 _ rfl
  have a2 : ∀ n os, (grow (w.drewN n) os).cell? ⟨g, i * 13 + 2, none⟩ = some (.int .i64 s.len) := fun n os => Li n os 2 _ rfl
  have a3 : ∀ n os, (grow (w.drewN n) os).cell? ⟨g, i * 13 + 3, none⟩ = some (.int .u8 s.d0) := fun n os => Li n os 3 _ rfl
  have a4 : ∀ n os, (grow (w.drewN n) os).cell? ⟨g, i * 13 + 4, none⟩ = some (.int .u8 s.d1) := fun n os => Li n os 4 _ rfl
  have a5 : ∀ n os, (grow (w.drewN n) os).cell? ⟨g, i * 13 + 5, none⟩ = some (.int .u8 s.d2) := fun n os => Li n os 5 _ rfl
  have a6 : ∀ n os, (grow (w.drewN n) os).cell? ⟨g, i * 13 + 6, none⟩ = some (.int .u8 s.d3) := fun n os => Li n os 6 _ rfl
  have a7 : ∀ n os, (grow (w.drewN n) os).cell? ⟨g, i * 13 + 7, none⟩ = some (.int .u8 s.d4) := fun n os => Li n os 7 _ rfl
  have a8 : ∀ n os, (grow (w.drewN n) os).cell? ⟨g, i * 13 + 8, none⟩ = some (.int .u8 s.d5) := fun n os => Li n os 8 _ rfl
  have a9 : ∀ n os, (grow (w.drewN n) os).cell? ⟨g, i * 13 + 9, none⟩ = some (.int .u8 s.d6) := fun n os => Li n os 9 _ rfl
  have a10 : ∀ n os, (grow (w.drewN n) os).cell? ⟨g, i * 13 + 10, none⟩ = some (.int .u8 s.d7) := fun n os => Li n os 10 _ rfl
  have a11 : ∀ n os, (grow (w.drewN n) os).cell? ⟨g, i * 13 + 11, none⟩ = some (.bool s.r) := fun n os => Li n os 11 _ rfl
  have a12 : ∀ n os, (grow (w.drewN n) os).cell? ⟨g, i * 13 + 12, none⟩ = some (.int .i64 s.num) := fun n os => Li n os 12 _ rfl
  have b0 : ∀ n os, (grow (w.drewN n) os).cell? ⟨g, j * 13, none⟩ = some (.int .i64 t.node) := fun n os => Lj n os 0 _ rfl
  have b1 : ∀ n os, (grow (w.drewN n) os).cell? ⟨g, j * 13 + 1, none⟩ = some (.int .u16 t.id) := fun n os => Lj n os 1 _ rfl
  have b2 : ∀ n os, (grow (w.drewN n) os).cell? ⟨g, j * 13 + 2, none⟩ = some (.int .i64 t.len) := fun n os => Lj n os 2 _ rfl
  have b3 : ∀ n os, (grow (w.drewN n) os).cell? ⟨g, j * 13 + 3, none⟩ = some (.int .u8 t.d0) := fun n os => Lj n os 3 _ rfl
  have b4 : ∀ n os, (grow (w.drewN n) os).cell? ⟨g, j * 13 + 4, none⟩ = some (.int .u8 t.d1) := fun n os => Lj n os 4 _ rfl
  have b5 : ∀ n os, (grow (w.drewN n) os).cell? ⟨g, j * 13 + 5, none⟩ = some (.int .u8 t.d2) := fun n os => Lj n os 5 _ rfl
  have b6 : ∀ n os, (grow (w.drewN n) os).cell? ⟨g, j * 13 + 6, none⟩ = some (.int .u8 t.d3) := fun n os => Lj n os 6 _ rfl
  have b7 : ∀ n os, (grow (w.drewN n) os).cell? ⟨g, j * 13 + 7, none⟩ = some (.int .u8 t.d4) := fun n os => Lj n os 7 _ rfl
  have b8 : ∀ n os, (grow (w.drewN n) os).cell? ⟨g, j * 13 + 8, none⟩ = some (.int .u8 t.d5) := fun n os => Lj n os 8 _ rfl
  have b9 : ∀ n os, (grow (w.drewN n) os).cell? ⟨g, j * 13 + 9, none⟩ = some (.int .u8 t.d6) := fun n os => Lj n os 9 _ rfl
  have b10 : ∀ n os, (grow (w.drewN n) os).cell? ⟨g, j * 13 + 10, none⟩ = some (.int .u8 t.d7) := fun n os => Lj n os 10 _ rfl
  have b11 : ∀ n os, (grow (w.drewN n) os).cell? ⟨g, j * 13 + 11, none⟩ = some (.bool t.r) := fun n os => Lj n os 11 _ rfl
  have b12 : ∀ n os, (grow (w.drewN n) os).cell? ⟨g, j * 13 + 12, none⟩ = some (.int .i64 t.num) := fun n os => Lj n os 12 _ rfl
  have mixed := mixedT
  have hi1 : (i : Int) < (d.size : Int) := by omega
  have hj1 : (j : Int) < (d.size : Int) := by omega
  clear hb hr hg Li Lj
  go_enter Try.func73, Try.ntmps73
  go_wp2_with fail
  go_quiet_grown (first | (go_at_call 25; refine Calls.grown_of (hcg _ _)))
  go_wp2_with fail
  go_ret
  exact ⟨rfl, ⟨_, _, rfl⟩⟩
def Try.u57 (pk : String) : TypeDesc := .struct #[{ name := "l", type := 26, offset := 0, embedded := false, tag := "", pkgPath := pk, byteOffset := 0 }]
def Try.u59 (pk : String) : TypeDesc := .struct #[{ name := "list", type := 57, offset := 0, embedded := true, tag := "", pkgPath := pk, byteOffset := 0 }]
def Try.u61 (pk : String) : TypeDesc := .struct #[{ name := "row", type := 59, offset := 0, embedded := true, tag := "", pkgPath := pk, byteOffset := 0 }, { name := "n", type := 2, offset := 1, embedded := false, tag := "", pkgPath := pk, byteOffset := 24 }]
/-- What the walks over a program P ask of it: an element of the waiting row takes k cells (k a variable: no load of an element is laid open). -/
structure BP (P : Program) (k : Nat) : Prop where
  mixed : P.follows .mixedOrders = true
  f19 : P.funcs[19]? = some Try.f19
  f74 : P.funcs[74]? = some Try.f74
  f75 : P.funcs[75]? = some Try.f75
  f76 : P.funcs[76]? = some Try.f76
  t0 : P.underlying 0 = some (.tuple #[])
  a0 : ∀ w, (isAgg 0).run P w = .ok false w
  z0 : ∀ w, (Go.sizeOf 0).run P w = .ok 1 w
  v0 : ∀ w, (zeroValue 0).run P w = .ok (.tuple #[]) w
  t2 : P.underlying 2 = some (.int .i64)
  a2 : ∀ w, (isAgg 2).run P w = .ok false w
  z2 : ∀ w, (Go.sizeOf 2).run P w = .ok 1 w
  v2 : ∀ w, (zeroValue 2).run P w = .ok (.int .i64 0) w
  t3 : P.underlying 3 = some (.int .i64)
  a3 : ∀ w, (isAgg 3).run P w = .ok false w
  z3 : ∀ w, (Go.sizeOf 3).run P w = .ok 1 w
  v3 : ∀ w, (zeroValue 3).run P w = .ok (.int .i64 0) w
  t4 : P.underlying 4 = some (.bool)
  a4 : ∀ w, (isAgg 4).run P w = .ok false w
  z4 : ∀ w, (Go.sizeOf 4).run P w = .ok 1 w
  v4 : ∀ w, (zeroValue 4).run P w = .ok (.bool false) w
  t26 : P.underlying 26 = some (.slice 35)
  a26 : ∀ w, (isAgg 26).run P w = .ok false w
  z26 : ∀ w, (Go.sizeOf 26).run P w = .ok 1 w
  v26 : ∀ w, (zeroValue 26).run P w = .ok (.slice none 0 0) w
  t57 : ∃ pk, P.underlying 57 = some (Try.u57 pk)
  a57 : ∀ w, (isAgg 57).run P w = .ok true w
  z57 : ∀ w, (Go.sizeOf 57).run P w = .ok 1 w
  t59 : ∃ pk, P.underlying 59 = some (Try.u59 pk)
  a59 : ∀ w, (isAgg 59).run P w = .ok true w
  z59 : ∀ w, (Go.sizeOf 59).run P w = .ok 1 w
  t61 : ∃ pk, P.underlying 61 = some (Try.u61 pk)
  a61 : ∀ w, (isAgg 61).run P w = .ok true w
  z61 : ∀ w, (Go.sizeOf 61).run P w = .ok 2 w
  a35 : ∀ w, (isAgg 35).run P w = .ok true w
  z35 : ∀ w, (Go.sizeOf 35).run P w = .ok k w
theorem Try.bp : BP Try.prog 13 where
  mixed := mixedT
  f19 := Try.func19
  f74 := Try.func74
  f75 := Try.func75
  f76 := Try.func76
  t0 := Try.underlying0
  a0 := Try.isAgg0
  z0 := Try.sizeOf0
  v0 := Try.zeroValue0
  t2 := Try.underlying2
  a2 := Try.isAgg2
  z2 := Try.sizeOf2
  v2 := Try.zeroValue2
  t3 := Try.underlying3
  a3 := Try.isAgg3
  z3 := Try.sizeOf3
  v3 := Try.zeroValue3
  t4 := Try.underlying4
  a4 := Try.isAgg4
  z4 := Try.sizeOf4
  v4 := Try.zeroValue4
  t26 := Try.underlying26
  a26 := Try.isAgg26
  z26 := Try.sizeOf26
  v26 := Try.zeroValue26
  t57 := ⟨_, Try.underlying57⟩
  a57 := Try.isAgg57
  z57 := Try.sizeOf57
  t59 := ⟨_, Try.underlying59⟩
  a59 := Try.isAgg59
  z59 := Try.sizeOf59
  t61 := ⟨_, Try.underlying61⟩
  a61 := Try.isAgg61
  z61 := Try.sizeOf61
  a35 := Try.isAgg35
  z35 := Try.sizeOf35
section
variable {P : Program} {k : Nat}
set_option maxHeartbeats 4000000 in
set_option maxRecDepth 1000000 in
theorem swap76 (L : BP P k) (enc : Sn → List Value) (hk : ∀ x, (enc x).length = k) (h1 : ∀ x, ∀ v ∈ enc x, v.oneCell' = true) (bb g cap : Nat) (num : Int) (i j : Nat) (d : Array Sn) (w : World)
    (hb : w.heap[bb]? = some (.cells #[.slice (some ⟨g, 0, none⟩) d.size cap, .int .i64 num] 61 (0, 0)))
    (hr : HoldsK enc k w g 0 d) (hi : i < d.size) (hj : j < d.size) :
    Calls P 76 #[.pointer (some ⟨bb, 0, none⟩), .int .i64 i, .int .i64 j] w fun e w' => e = .returned (.tuple #[]) ∧ w' = putRowK enc k w.drew g 0 (swp d i j) := by
  have mixed := L.mixed; have t0 := L.t0; have u0 := run_underlying L.t0; have a0 := L.a0; have z0 := L.z0; have v0 := L.v0; have t2 := L.t2; have u2 := run_underlying L.t2; have a2 := L.a2; have z2 := L.z2; have v2 := L.v2; have t3 := L.t3; have u3 := run_underlying L.t3; have a3 := L.a3; have z3 := L.z3; have v3 := L.v3; have t4 := L.t4; have u4 := run_underlying L.t4; have a4 := L.a4; have z4 := L.z4; have v4 := L.v4; have t26 := L.t26; have u26 := run_underlying L.t26; have a26 := L.a26; have z26 := L.z26; have v26 := L.v26; obtain ⟨pk57, hpk57⟩ := L.t57; have u57 := run_underlying hpk57; simp only [Try.u57] at u57; clear hpk57; have a57 := L.a57; have z57 := L.z57; obtain ⟨pk59, hpk59⟩ := L.t59; have u59 := run_underlying hpk59; simp only [Try.u59] at u59; clear hpk59; have a59 := L.a59; have z59 := L.z59; obtain ⟨pk61, hpk61⟩ := L.t61; have u61 := run_underlying hpk61; simp only [Try.u61] at u61; clear hpk61; have a61 := L.a61; have z61 := L.z61; have a35 := L.a35; have z35 := L.z35
  have hbb : bb < w.heap.size := lt_of_block hb
  have c0 : w.drew.cell? ⟨bb, 0, none⟩ = some (.slice (some ⟨g, 0, none⟩) d.size cap) := by show w.cell? _ = _; simp [World.cell?, hb]
  have bnd : ∀ x, x < d.size → x * k + k ≤ d.size * k := fun x hx => by
    have := Nat.mul_le_mul_right k (show x + 1 ≤ d.size from hx); rwa [Nat.add_mul, Nat.one_mul] at this
  have hHd : HoldsK enc k w.drew g 0 d := hr
  have li : Sem.run P (loadCellsFrom ⟨g, i * k, none⟩ 0 k #[]) w.drew = .ok (enc d[i]!).toArray w.drew := by simpa using run_loadCellsFrom_list P _ _ _ k (hk _) (HoldsK.cells hHd hk hi)
  have lj : Sem.run P (loadCellsFrom ⟨g, j * k, none⟩ 0 k #[]) w.drew = .ok (enc d[j]!).toArray w.drew := by simpa using run_loadCellsFrom_list P _ _ _ k (hk _) (HoldsK.cells hHd hk hj)
  have s1 : Sem.run P (storeCells ⟨g, i * k, none⟩ (enc d[j]!) 0) w.drew = .ok () (w.drew.setCells g (i * k) (enc d[j]!)) := by
    simpa using stores_of_holds P hHd (i * k) _ (by rw [hk, size_flatK]; exact bnd i hi) (h1 _)
  have hwr : w.drew = putRowK enc k (Sort.ahead w 1) g 0 d := (putRowK_self enc k w.drew g 0 d hHd).symm
  have hH1 : Holds id (w.drew.setCells g (0 + i * k) (enc d[j]!)) g 0 (setMany (flatK enc k d) (i * k) (enc d[j]!)) := by
    rw [hwr]
    show Holds id ((putRow id (Sort.ahead w 1) g 0 (flatK enc k d)).setCells g (0 + i * k) (enc d[j]!)) g 0 _
    rw [setCells_putRow _ _ _ _ _ _ (by rw [hk, size_flatK]; exact bnd i hi)]
    exact holds_putRow id _ g 0 (flatK enc k d) _ (holdsK_ahead enc k w 1 g 0 d hr) (by rw [size_setMany, size_flatK])
  have s2 : Sem.run P (storeCells ⟨g, j * k, none⟩ (enc d[i]!) 0) (w.drew.setCells g (i * k) (enc d[j]!)) = .ok () ((w.drew.setCells g (i * k) (enc d[j]!)).setCells g (j * k) (enc d[i]!)) := by
    rw [Nat.zero_add] at hH1
    simpa using stores_of_holds P hH1 (j * k) _ (by rw [hk, size_setMany, size_flatK]; exact bnd j hj) (h1 _)
  have hsI : (enc d[i]!).length = k := hk _
  have hsJ : (enc d[j]!).length = k := hk _
  have HKK : Hid (∀ x, (enc x).length = k) := hk
  have HB : Hid (HoldsK enc k w g 0 d) := hr
  clear hwr hHd hH1 hr bnd h1 hk hb
  obtain ⟨ci, hci⟩ : ∃ c, c = enc d[i]! := ⟨_, rfl⟩
  obtain ⟨cj, hcj⟩ : ∃ c, c = enc d[j]! := ⟨_, rfl⟩
  rw [← hcj] at s1
  rw [← hci, ← hcj] at s2
  rw [← hci] at li hsI
  rw [← hcj] at lj hsJ
  have CI : Hid (ci = enc d[i]! ∧ cj = enc d[j]!) := ⟨hci, hcj⟩
  clear hci hcj
  have hi1 : (i : Int) < (d.size : Int) := by omega
  have hj1 : (j : Int) < (d.size : Int) := by omega
  go_enter L.f76, Try.ntmps76
  go_wp2_with fail
  go_big_region_o
  all_goals go_wp2
  go_end0
  refine ⟨rfl, ?_⟩
  rw [CI.out.1, CI.out.2]
  have := swap_worldK enc k HKK.out w 0 1 g 0 d i j hi hj
  rw [show putRowK enc k (Sort.ahead w 0) g 0 d = w from putRowK_self enc k w g 0 d HB.out, Nat.zero_add, Nat.zero_add] at this
  exact this
end

theorem Sn.cs_one (s : Sn) : ∀ v ∈ s.cs, v.oneCell' = true := by
  intro v hv
  simp [Sn.cs] at hv
  rcases hv with rfl | rfl | rfl | rfl | rfl | rfl | rfl | rfl | rfl | rfl | rfl | rfl | rfl <;> rfl
end Go.Proofs.Ythmfibgjemnlbaa

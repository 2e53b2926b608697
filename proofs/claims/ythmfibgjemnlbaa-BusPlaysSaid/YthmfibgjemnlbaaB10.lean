/- Bus (layer 3 below it): frame.Right tells whether a frame is right. -/
import Derived.Test.YthmfibgjemnlbaaB01
import Derived.Laws.StructEq
import Derived.Laws.CopyRow
import Derived.BigRegion
import Derived.Lib.Hide
namespace Go.Proofs.Ythmfibgjemnlbaa
open Go.RowKit Go.Sort
set_option linter.unusedSimpArgs false
set_option maxRecDepth 100000 in
set_option maxHeartbeats 1000000 in
theorem eq30 (d : Nat) (w : World) (a0 a1 a2 a3 a4 a5 a6 a7 b0 b1 b2 b3 b4 b5 b6 b7 : Int) : (Op.equalIn (d + 2) 30 (.agg #[.int .u8 a0, .int .u8 a1, .int .u8 a2, .int .u8 a3, .int .u8 a4, .int .u8 a5, .int .u8 a6, .int .u8 a7]) (.agg #[.int .u8 b0, .int .u8 b1, .int .u8 b2, .int .u8 b3, .int .u8 b4, .int .u8 b5, .int .u8 b6, .int .u8 b7])).run Try.prog w =
   .ok (a0 == b0 && (a1 == b1 && (a2 == b2 && (a3 == b3 && (a4 == b4 && (a5 == b5 && (a6 == b6 && a7 == b7))))))) w := by
  unfold Op.equalIn
  have u : Sem.run Try.prog (underlying 30) = fun w => .ok (.array 8 5) w := by funext w; exact run_underlying Try.underlying30 w
  simp only [Sem.run_bind, u, Result.andThen_ok]
  simp [Std.Legacy.Range.forIn_eq_forIn_range', List.range', Try.sizeOf5, Try.isAgg5, part, Result.andThen, go_sem]
  by_cases h0 : a0 = b0
  case neg => simp [h0, Try.sizeOf5, Try.isAgg5, part, Result.andThen, go_sem]
  subst h0
  simp [Try.sizeOf5, Try.isAgg5, part, Result.andThen, go_sem]
  by_cases h1 : a1 = b1
  case neg => simp [h1, Try.sizeOf5, Try.isAgg5, part, Result.andThen, go_sem]
  subst h1
  simp [Try.sizeOf5, Try.isAgg5, part, Result.andThen, go_sem]
  by_cases h2 : a2 = b2
  case neg => simp [h2, Try.sizeOf5, Try.isAgg5, part, Result.andThen, go_sem]
  subst h2
  simp [Try.sizeOf5, Try.isAgg5, part, Result.andThen, go_sem]
  by_cases h3 : a3 = b3
  case neg => simp [h3, Try.sizeOf5, Try.isAgg5, part, Result.andThen, go_sem]
  subst h3
  simp [Try.sizeOf5, Try.isAgg5, part, Result.andThen, go_sem]
  by_cases h4 : a4 = b4
  case neg => simp [h4, Try.sizeOf5, Try.isAgg5, part, Result.andThen, go_sem]
  subst h4
  simp [Try.sizeOf5, Try.isAgg5, part, Result.andThen, go_sem]
  by_cases h5 : a5 = b5
  case neg => simp [h5, Try.sizeOf5, Try.isAgg5, part, Result.andThen, go_sem]
  subst h5
  simp [Try.sizeOf5, Try.isAgg5, part, Result.andThen, go_sem]
  by_cases h6 : a6 = b6
  case neg => simp [h6, Try.sizeOf5, Try.isAgg5, part, Result.andThen, go_sem]
  subst h6
  simp [Try.sizeOf5, Try.isAgg5, part, Result.andThen, go_sem]
  by_cases h7 : a7 = b7 <;> simp [h7, Try.sizeOf5, Try.isAgg5, part, Result.andThen, go_sem]

theorem setRow_alloc (w : World) (c c' : Array Value) (t : TypeId) (n : Nat) (hn : n = w.heap.size) : (w.alloc (.cells c t)).drew.setRow n c' = (w.alloc (.cells c' t)).drew := by
  subst hn
  unfold World.setRow World.drew World.alloc
  congr 1
  apply Array.ext_getElem?
  intro i
  simp only [Array.getElem?_modify, Array.getElem?_push]
  by_cases h : i = w.heap.size
  · subst h; simp
  · simp [h, Ne.symm h]
/-- Is it right? -/
def rtB (i l a0 a1 a2 a3 a4 a5 a6 a7 : Int) (r : Bool) : Bool :=
  decide (i ≤ 2047) && (decide (0 ≤ l) && (decide (l ≤ 8) && (((a0 == 0 || (decide (0 < l) && !r))) && ((a1 == 0 || (decide (1 < l) && !r)) && ((a2 == 0 || (decide (2 < l) && !r)) && ((a3 == 0 || (decide (3 < l) && !r)) && ((a4 == 0 || (decide (4 < l) && !r)) && ((a5 == 0 || (decide (5 < l) && !r)) && ((a6 == 0 || (decide (6 < l) && !r)) && (a7 == 0 || (decide (7 < l) && !r)))))))))))

set_option maxHeartbeats 1000000 in
set_option maxRecDepth 100000 in
theorem right18n0 (i a0 a1 a2 a3 a4 a5 a6 a7 : Int) (hi : i ≤ 2047) (w : World) :
    Calls Try.prog 18 #[fagg i 0 a0 a1 a2 a3 a4 a5 a6 a7 false] w fun e w' => e = .returned (.bool (rtB i 0 a0 a1 a2 a3 a4 a5 a6 a7 false)) ∧ Pu w w' := by
  have hcp : (Builtin.copy_ #[76, 76] 3 #[.slice (some ⟨w.heap.size + 1, 0, none⟩) 0 8, .slice (some ⟨w.heap.size, 2, none⟩) 8 8]).run Try.prog (((w.alloc (.cells #[.int .u16 i, .int .i64 0, .int .u8 a0, .int .u8 a1, .int .u8 a2, .int .u8 a3, .int .u8 a4, .int .u8 a5, .int .u8 a6, .int .u8 a7, .bool false] 32)).alloc (.cells #[.int .u8 0, .int .u8 0, .int .u8 0, .int .u8 0, .int .u8 0, .int .u8 0, .int .u8 0, .int .u8 0] 30)).drew) = .ok (.int .i64 0) (((w.alloc (.cells #[.int .u16 i, .int .i64 0, .int .u8 a0, .int .u8 a1, .int .u8 a2, .int .u8 a3, .int .u8 a4, .int .u8 a5, .int .u8 a6, .int .u8 a7, .bool false] 32)).alloc (.cells #[.int .u8 0, .int .u8 0, .int .u8 0, .int .u8 0, .int .u8 0, .int .u8 0, .int .u8 0, .int .u8 0] 30)).drew) := by
    rw [run_copy_row (elem := 5) _ _ 76 76 3 (w.heap.size + 1) 0 0 8 ⟨w.heap.size, 2, none⟩ 8 8 #[.int .u8 0, .int .u8 0, .int .u8 0, .int .u8 0, .int .u8 0, .int .u8 0, .int .u8 0, .int .u8 0] 30 [] Try.underlying76 (by kernel_rfl) ?_ rfl ?_ (by simp) (by simp [Value.oneCell'])]
    · refine congrArg (Result.ok _) ?_
      exact setRow_alloc _ _ _ _ _ (by simp)
    · have := heap_alloc_new (w.alloc (.cells #[.int .u16 i, .int .i64 0, .int .u8 a0, .int .u8 a1, .int .u8 a2, .int .u8 a3, .int .u8 a4, .int .u8 a5, .int .u8 a6, .int .u8 a7, .bool false] 32)) (.cells #[.int .u8 0, .int .u8 0, .int .u8 0, .int .u8 0, .int .u8 0, .int .u8 0, .int .u8 0, .int .u8 0] 30)
      rw [show (w.alloc (.cells #[.int .u16 i, .int .i64 0, .int .u8 a0, .int .u8 a1, .int .u8 a2, .int .u8 a3, .int .u8 a4, .int .u8 a5, .int .u8 a6, .int .u8 a7, .bool false] 32)).heap.size = w.heap.size + 1 from by simp] at this
      exact this
    · intro j v hj
      have hc : (((w.alloc (.cells #[.int .u16 i, .int .i64 0, .int .u8 a0, .int .u8 a1, .int .u8 a2, .int .u8 a3, .int .u8 a4, .int .u8 a5, .int .u8 a6, .int .u8 a7, .bool false] 32)).alloc (.cells #[.int .u8 0, .int .u8 0, .int .u8 0, .int .u8 0, .int .u8 0, .int .u8 0, .int .u8 0, .int .u8 0] 30)).drew).cell? ((⟨w.heap.size, 2, none⟩ : Addr).add j) = (w.alloc (.cells #[.int .u16 i, .int .i64 0, .int .u8 a0, .int .u8 a1, .int .u8 a2, .int .u8 a3, .int .u8 a4, .int .u8 a5, .int .u8 a6, .int .u8 a7, .bool false] 32)).cell? ⟨w.heap.size, 2 + j, none⟩ := by
        rw [Addr.add_lit]
        exact World.cell?_alloc_past _ _ _ (by simp)
      rw [hc, World.cell?_alloc_at _ _ _ _ rfl]
      match j, hj with
      | k + 0, hj => simp at hj
  obtain ⟨R, hR⟩ : ∃ R, R = rtB i 0 a0 a1 a2 a3 a4 a5 a6 a7 false := ⟨_, rfl⟩
  rw [← hR]
  have HI := Lib.hid hR
  clear hR
  have e30 := eq30 9998
  go_enter Try.func18, Try.ntmps18
  go_wp2_with fail
  go_big_region
  go_wp2_with fail
  go_ret
  refine ⟨ret_bool ?_, ((((Pu.refl w).alloc _).alloc _).drew)⟩
  rw [HI.out]
  rw [Bool.eq_iff_iff]
  simp [rtB, hi]
  all_goals omega

set_option maxHeartbeats 1000000 in
set_option maxRecDepth 100000 in
theorem right18n1 (i a0 a1 a2 a3 a4 a5 a6 a7 : Int) (hi : i ≤ 2047) (w : World) :
    Calls Try.prog 18 #[fagg i 1 a0 a1 a2 a3 a4 a5 a6 a7 false] w fun e w' => e = .returned (.bool (rtB i 1 a0 a1 a2 a3 a4 a5 a6 a7 false)) ∧ Pu w w' := by
  have hcp : (Builtin.copy_ #[76, 76] 3 #[.slice (some ⟨w.heap.size + 1, 0, none⟩) 1 8, .slice (some ⟨w.heap.size, 2, none⟩) 8 8]).run Try.prog (((w.alloc (.cells #[.int .u16 i, .int .i64 1, .int .u8 a0, .int .u8 a1, .int .u8 a2, .int .u8 a3, .int .u8 a4, .int .u8 a5, .int .u8 a6, .int .u8 a7, .bool false] 32)).alloc (.cells #[.int .u8 0, .int .u8 0, .int .u8 0, .int .u8 0, .int .u8 0, .int .u8 0, .int .u8 0, .int .u8 0] 30)).drew) = .ok (.int .i64 1) (((w.alloc (.cells #[.int .u16 i, .int .i64 1, .int .u8 a0, .int .u8 a1, .int .u8 a2, .int .u8 a3, .int .u8 a4, .int .u8 a5, .int .u8 a6, .int .u8 a7, .bool false] 32)).alloc (.cells #[.int .u8 a0, .int .u8 0, .int .u8 0, .int .u8 0, .int .u8 0, .int .u8 0, .int .u8 0, .int .u8 0] 30)).drew) := by
    rw [run_copy_row (elem := 5) _ _ 76 76 3 (w.heap.size + 1) 0 1 8 ⟨w.heap.size, 2, none⟩ 8 8 #[.int .u8 0, .int .u8 0, .int .u8 0, .int .u8 0, .int .u8 0, .int .u8 0, .int .u8 0, .int .u8 0] 30 [.int .u8 a0] Try.underlying76 (by kernel_rfl) ?_ rfl ?_ (by simp) (by simp [Value.oneCell'])]
    · refine congrArg (Result.ok _) ?_
      exact setRow_alloc _ _ _ _ _ (by simp)
    · have := heap_alloc_new (w.alloc (.cells #[.int .u16 i, .int .i64 1, .int .u8 a0, .int .u8 a1, .int .u8 a2, .int .u8 a3, .int .u8 a4, .int .u8 a5, .int .u8 a6, .int .u8 a7, .bool false] 32)) (.cells #[.int .u8 0, .int .u8 0, .int .u8 0, .int .u8 0, .int .u8 0, .int .u8 0, .int .u8 0, .int .u8 0] 30)
      rw [show (w.alloc (.cells #[.int .u16 i, .int .i64 1, .int .u8 a0, .int .u8 a1, .int .u8 a2, .int .u8 a3, .int .u8 a4, .int .u8 a5, .int .u8 a6, .int .u8 a7, .bool false] 32)).heap.size = w.heap.size + 1 from by simp] at this
      exact this
    · intro j v hj
      have hc : (((w.alloc (.cells #[.int .u16 i, .int .i64 1, .int .u8 a0, .int .u8 a1, .int .u8 a2, .int .u8 a3, .int .u8 a4, .int .u8 a5, .int .u8 a6, .int .u8 a7, .bool false] 32)).alloc (.cells #[.int .u8 0, .int .u8 0, .int .u8 0, .int .u8 0, .int .u8 0, .int .u8 0, .int .u8 0, .int .u8 0] 30)).drew).cell? ((⟨w.heap.size, 2, none⟩ : Addr).add j) = (w.alloc (.cells #[.int .u16 i, .int .i64 1, .int .u8 a0, .int .u8 a1, .int .u8 a2, .int .u8 a3, .int .u8 a4, .int .u8 a5, .int .u8 a6, .int .u8 a7, .bool false] 32)).cell? ⟨w.heap.size, 2 + j, none⟩ := by
        rw [Addr.add_lit]
        exact World.cell?_alloc_past _ _ _ (by simp)
      rw [hc, World.cell?_alloc_at _ _ _ _ rfl]
      match j, hj with
      | 0, hj => simpa using hj
      | k + 1, hj => simp at hj
  obtain ⟨R, hR⟩ : ∃ R, R = rtB i 1 a0 a1 a2 a3 a4 a5 a6 a7 false := ⟨_, rfl⟩
  rw [← hR]
  have HI := Lib.hid hR
  clear hR
  have e30 := eq30 9998
  go_enter Try.func18, Try.ntmps18
  go_wp2_with fail
  go_big_region
  go_wp2_with fail
  go_ret
  refine ⟨ret_bool ?_, ((((Pu.refl w).alloc _).alloc _).drew)⟩
  rw [HI.out]
  rw [Bool.eq_iff_iff]
  simp [rtB, hi]
  all_goals omega

set_option maxHeartbeats 1000000 in
set_option maxRecDepth 100000 in
theorem right18n2 (i a0 a1 a2 a3 a4 a5 a6 a7 : Int) (hi : i ≤ 2047) (w : World) :
    Calls Try.prog 18 #[fagg i 2 a0 a1 a2 a3 a4 a5 a6 a7 false] w fun e w' => e = .returned (.bool (rtB i 2 a0 a1 a2 a3 a4 a5 a6 a7 false)) ∧ Pu w w' := by
  have hcp : (Builtin.copy_ #[76, 76] 3 #[.slice (some ⟨w.heap.size + 1, 0, none⟩) 2 8, .slice (some ⟨w.heap.size, 2, none⟩) 8 8]).run Try.prog (((w.alloc (.cells #[.int .u16 i, .int .i64 2, .int .u8 a0, .int .u8 a1, .int .u8 a2, .int .u8 a3, .int .u8 a4, .int .u8 a5, .int .u8 a6, .int .u8 a7, .bool false] 32)).alloc (.cells #[.int .u8 0, .int .u8 0, .int .u8 0, .int .u8 0, .int .u8 0, .int .u8 0, .int .u8 0, .int .u8 0] 30)).drew) = .ok (.int .i64 2) (((w.alloc (.cells #[.int .u16 i, .int .i64 2, .int .u8 a0, .int .u8 a1, .int .u8 a2, .int .u8 a3, .int .u8 a4, .int .u8 a5, .int .u8 a6, .int .u8 a7, .bool false] 32)).alloc (.cells #[.int .u8 a0, .int .u8 a1, .int .u8 0, .int .u8 0, .int .u8 0, .int .u8 0, .int .u8 0, .int .u8 0] 30)).drew) := by
    rw [run_copy_row (elem := 5) _ _ 76 76 3 (w.heap.size + 1) 0 2 8 ⟨w.heap.size, 2, none⟩ 8 8 #[.int .u8 0, .int .u8 0, .int .u8 0, .int .u8 0, .int .u8 0, .int .u8 0, .int .u8 0, .int .u8 0] 30 [.int .u8 a0, .int .u8 a1] Try.underlying76 (by kernel_rfl) ?_ rfl ?_ (by simp) (by simp [Value.oneCell'])]
    · refine congrArg (Result.ok _) ?_
      exact setRow_alloc _ _ _ _ _ (by simp)
    · have := heap_alloc_new (w.alloc (.cells #[.int .u16 i, .int .i64 2, .int .u8 a0, .int .u8 a1, .int .u8 a2, .int .u8 a3, .int .u8 a4, .int .u8 a5, .int .u8 a6, .int .u8 a7, .bool false] 32)) (.cells #[.int .u8 0, .int .u8 0, .int .u8 0, .int .u8 0, .int .u8 0, .int .u8 0, .int .u8 0, .int .u8 0] 30)
      rw [show (w.alloc (.cells #[.int .u16 i, .int .i64 2, .int .u8 a0, .int .u8 a1, .int .u8 a2, .int .u8 a3, .int .u8 a4, .int .u8 a5, .int .u8 a6, .int .u8 a7, .bool false] 32)).heap.size = w.heap.size + 1 from by simp] at this
      exact this
    · intro j v hj
      have hc : (((w.alloc (.cells #[.int .u16 i, .int .i64 2, .int .u8 a0, .int .u8 a1, .int .u8 a2, .int .u8 a3, .int .u8 a4, .int .u8 a5, .int .u8 a6, .int .u8 a7, .bool false] 32)).alloc (.cells #[.int .u8 0, .int .u8 0, .int .u8 0, .int .u8 0, .int .u8 0, .int .u8 0, .int .u8 0, .int .u8 0] 30)).drew).cell? ((⟨w.heap.size, 2, none⟩ : Addr).add j) = (w.alloc (.cells #[.int .u16 i, .int .i64 2, .int .u8 a0, .int .u8 a1, .int .u8 a2, .int .u8 a3, .int .u8 a4, .int .u8 a5, .int .u8 a6, .int .u8 a7, .bool false] 32)).cell? ⟨w.heap.size, 2 + j, none⟩ := by
        rw [Addr.add_lit]
        exact World.cell?_alloc_past _ _ _ (by simp)
      rw [hc, World.cell?_alloc_at _ _ _ _ rfl]
      match j, hj with
      | 0, hj => simpa using hj
      | 1, hj => simpa using hj
      | k + 2, hj => simp at hj
  obtain ⟨R, hR⟩ : ∃ R, R = rtB i 2 a0 a1 a2 a3 a4 a5 a6 a7 false := ⟨_, rfl⟩
  rw [← hR]
  have HI := Lib.hid hR
  clear hR
  have e30 := eq30 9998
  go_enter Try.func18, Try.ntmps18
  go_wp2_with fail
  go_big_region
  go_wp2_with fail
  go_ret
  refine ⟨ret_bool ?_, ((((Pu.refl w).alloc _).alloc _).drew)⟩
  rw [HI.out]
  rw [Bool.eq_iff_iff]
  simp [rtB, hi]
  all_goals omega

set_option maxHeartbeats 1000000 in
set_option maxRecDepth 100000 in
theorem right18n3 (i a0 a1 a2 a3 a4 a5 a6 a7 : Int) (hi : i ≤ 2047) (w : World) :
    Calls Try.prog 18 #[fagg i 3 a0 a1 a2 a3 a4 a5 a6 a7 false] w fun e w' => e = .returned (.bool (rtB i 3 a0 a1 a2 a3 a4 a5 a6 a7 false)) ∧ Pu w w' := by
  have hcp : (Builtin.copy_ #[76, 76] 3 #[.slice (some ⟨w.heap.size + 1, 0, none⟩) 3 8, .slice (some ⟨w.heap.size, 2, none⟩) 8 8]).run Try.prog (((w.alloc (.cells #[.int .u16 i, .int .i64 3, .int .u8 a0, .int .u8 a1, .int .u8 a2, .int .u8 a3, .int .u8 a4, .int .u8 a5, .int .u8 a6, .int .u8 a7, .bool false] 32)).alloc (.cells #[.int .u8 0, .int .u8 0, .int .u8 0, .int .u8 0, .int .u8 0, .int .u8 0, .int .u8 0, .int .u8 0] 30)).drew) = .ok (.int .i64 3) (((w.alloc (.cells #[.int .u16 i, .int .i64 3, .int .u8 a0, .int .u8 a1, .int .u8 a2, .int .u8 a3, .int .u8 a4, .int .u8 a5, .int .u8 a6, .int .u8 a7, .bool false] 32)).alloc (.cells #[.int .u8 a0, .int .u8 a1, .int .u8 a2, .int .u8 0, .int .u8 0, .int .u8 0, .int .u8 0, .int .u8 0] 30)).drew) := by
    rw [run_copy_row (elem := 5) _ _ 76 76 3 (w.heap.size + 1) 0 3 8 ⟨w.heap.size, 2, none⟩ 8 8 #[.int .u8 0, .int .u8 0, .int .u8 0, .int .u8 0, .int .u8 0, .int .u8 0, .int .u8 0, .int .u8 0] 30 [.int .u8 a0, .int .u8 a1, .int .u8 a2] Try.underlying76 (by kernel_rfl) ?_ rfl ?_ (by simp) (by simp [Value.oneCell'])]
    · refine congrArg (Result.ok _) ?_
      exact setRow_alloc _ _ _ _ _ (by simp)
    · have := heap_alloc_new (w.alloc (.cells #[.int .u16 i, .int .i64 3, .int .u8 a0, .int .u8 a1, .int .u8 a2, .int .u8 a3, .int .u8 a4, .int .u8 a5, .int .u8 a6, .int .u8 a7, .bool false] 32)) (.cells #[.int .u8 0, .int .u8 0, .int .u8 0, .int .u8 0, .int .u8 0, .int .u8 0, .int .u8 0, .int .u8 0] 30)
      rw [show (w.alloc (.cells #[.int .u16 i, .int .i64 3, .int .u8 a0, .int .u8 a1, .int .u8 a2, .int .u8 a3, .int .u8 a4, .int .u8 a5, .int .u8 a6, .int .u8 a7, .bool false] 32)).heap.size = w.heap.size + 1 from by simp] at this
      exact this
    · intro j v hj
      have hc : (((w.alloc (.cells #[.int .u16 i, .int .i64 3, .int .u8 a0, .int .u8 a1, .int .u8 a2, .int .u8 a3, .int .u8 a4, .int .u8 a5, .int .u8 a6, .int .u8 a7, .bool false] 32)).alloc (.cells #[.int .u8 0, .int .u8 0, .int .u8 0, .int .u8 0, .int .u8 0, .int .u8 0, .int .u8 0, .int .u8 0] 30)).drew).cell? ((⟨w.heap.size, 2, none⟩ : Addr).add j) = (w.alloc (.cells #[.int .u16 i, .int .i64 3, .int .u8 a0, .int .u8 a1, .int .u8 a2, .int .u8 a3, .int .u8 a4, .int .u8 a5, .int .u8 a6, .int .u8 a7, .bool false] 32)).cell? ⟨w.heap.size, 2 + j, none⟩ := by
        rw [Addr.add_lit]
        exact World.cell?_alloc_past _ _ _ (by simp)
      rw [hc, World.cell?_alloc_at _ _ _ _ rfl]
      match j, hj with
      | 0, hj => simpa using hj
      | 1, hj => simpa using hj
      | 2, hj => simpa using hj
      | k + 3, hj => simp at hj
  obtain ⟨R, hR⟩ : ∃ R, R = rtB i 3 a0 a1 a2 a3 a4 a5 a6 a7 false := ⟨_, rfl⟩
  rw [← hR]
  have HI := Lib.hid hR
  clear hR
  have e30 := eq30 9998
  go_enter Try.func18, Try.ntmps18
  go_wp2_with fail
  go_big_region
  go_wp2_with fail
  go_ret
  refine ⟨ret_bool ?_, ((((Pu.refl w).alloc _).alloc _).drew)⟩
  rw [HI.out]
  rw [Bool.eq_iff_iff]
  simp [rtB, hi]
  all_goals omega

set_option maxHeartbeats 1000000 in
set_option maxRecDepth 100000 in
theorem right18n4 (i a0 a1 a2 a3 a4 a5 a6 a7 : Int) (hi : i ≤ 2047) (w : World) :
    Calls Try.prog 18 #[fagg i 4 a0 a1 a2 a3 a4 a5 a6 a7 false] w fun e w' => e = .returned (.bool (rtB i 4 a0 a1 a2 a3 a4 a5 a6 a7 false)) ∧ Pu w w' := by
  have hcp : (Builtin.copy_ #[76, 76] 3 #[.slice (some ⟨w.heap.size + 1, 0, none⟩) 4 8, .slice (some ⟨w.heap.size, 2, none⟩) 8 8]).run Try.prog (((w.alloc (.cells #[.int .u16 i, .int .i64 4, .int .u8 a0, .int .u8 a1, .int .u8 a2, .int .u8 a3, .int .u8 a4, .int .u8 a5, .int .u8 a6, .int .u8 a7, .bool false] 32)).alloc (.cells #[.int .u8 0, .int .u8 0, .int .u8 0, .int .u8 0, .int .u8 0, .int .u8 0, .int .u8 0, .int .u8 0] 30)).drew) = .ok (.int .i64 4) (((w.alloc (.cells #[.int .u16 i, .int .i64 4, .int .u8 a0, .int .u8 a1, .int .u8 a2, .int .u8 a3, .int .u8 a4, .int .u8 a5, .int .u8 a6, .int .u8 a7, .bool false] 32)).alloc (.cells #[.int .u8 a0, .int .u8 a1, .int .u8 a2, .int .u8 a3, .int .u8 0, .int .u8 0, .int .u8 0, .int .u8 0] 30)).drew) := by
    rw [run_copy_row (elem := 5) _ _ 76 76 3 (w.heap.size + 1) 0 4 8 ⟨w.heap.size, 2, none⟩ 8 8 #[.int .u8 0, .int .u8 0, .int .u8 0, .int .u8 0, .int .u8 0, .int .u8 0, .int .u8 0, .int .u8 0] 30 [.int .u8 a0, .int .u8 a1, .int .u8 a2, .int .u8 a3] Try.underlying76 (by kernel_rfl) ?_ rfl ?_ (by simp) (by simp [Value.oneCell'])]
    · refine congrArg (Result.ok _) ?_
      exact setRow_alloc _ _ _ _ _ (by simp)
    · have := heap_alloc_new (w.alloc (.cells #[.int .u16 i, .int .i64 4, .int .u8 a0, .int .u8 a1, .int .u8 a2, .int .u8 a3, .int .u8 a4, .int .u8 a5, .int .u8 a6, .int .u8 a7, .bool false] 32)) (.cells #[.int .u8 0, .int .u8 0, .int .u8 0, .int .u8 0, .int .u8 0, .int .u8 0, .int .u8 0, .int .u8 0] 30)
      rw [show (w.alloc (.cells #[.int .u16 i, .int .i64 4, .int .u8 a0, .int .u8 a1, .int .u8 a2, .int .u8 a3, .int .u8 a4, .int .u8 a5, .int .u8 a6, .int .u8 a7, .bool false] 32)).heap.size = w.heap.size + 1 from by simp] at this
      exact this
    · intro j v hj
      have hc : (((w.alloc (.cells #[.int .u16 i, .int .i64 4, .int .u8 a0, .int .u8 a1, .int .u8 a2, .int .u8 a3, .int .u8 a4, .int .u8 a5, .int .u8 a6, .int .u8 a7, .bool false] 32)).alloc (.cells #[.int .u8 0, .int .u8 0, .int .u8 0, .int .u8 0, .int .u8 0, .int .u8 0, .int .u8 0, .int .u8 0] 30)).drew).cell? ((⟨w.heap.size, 2, none⟩ : Addr).add j) = (w.alloc (.cells #[.int .u16 i, .int .i64 4, .int .u8 a0, .int .u8 a1, .int .u8 a2, .int .u8 a3, .int .u8 a4, .int .u8 a5, .int .u8 a6, .int .u8 a7, .bool false] 32)).cell? ⟨w.heap.size, 2 + j, none⟩ := by
        rw [Addr.add_lit]
        exact World.cell?_alloc_past _ _ _ (by simp)
      rw [hc, World.cell?_alloc_at _ _ _ _ rfl]
      match j, hj with
      | 0, hj => simpa using hj
      | 1, hj => simpa using hj
      | 2, hj => simpa using hj
      | 3, hj => simpa using hj
      | k + 4, hj => simp at hj
  obtain ⟨R, hR⟩ : ∃ R, R = rtB i 4 a0 a1 a2 a3 a4 a5 a6 a7 false := ⟨_, rfl⟩
  rw [← hR]
  have HI := Lib.hid hR
  clear hR
  have e30 := eq30 9998
  go_enter Try.func18, Try.ntmps18
  go_wp2_with fail
  go_big_region
  go_wp2_with fail
  go_ret
  refine ⟨ret_bool ?_, ((((Pu.refl w).alloc _).alloc _).drew)⟩
  rw [HI.out]
  rw [Bool.eq_iff_iff]
  simp [rtB, hi]
  all_goals omega

set_option maxHeartbeats 1000000 in
set_option maxRecDepth 100000 in
theorem right18n5 (i a0 a1 a2 a3 a4 a5 a6 a7 : Int) (hi : i ≤ 2047) (w : World) :
    Calls Try.prog 18 #[fagg i 5 a0 a1 a2 a3 a4 a5 a6 a7 false] w fun e w' => e = .returned (.bool (rtB i 5 a0 a1 a2 a3 a4 a5 a6 a7 false)) ∧ Pu w w' := by
  have hcp : (Builtin.copy_ #[76, 76] 3 #[.slice (some ⟨w.heap.size + 1, 0, none⟩) 5 8, .slice (some ⟨w.heap.size, 2, none⟩) 8 8]).run Try.prog (((w.alloc (.cells #[.int .u16 i, .int .i64 5, .int .u8 a0, .int .u8 a1, .int .u8 a2, .int .u8 a3, .int .u8 a4, .int .u8 a5, .int .u8 a6, .int .u8 a7, .bool false] 32)).alloc (.cells #[.int .u8 0, .int .u8 0, .int .u8 0, .int .u8 0, .int .u8 0, .int .u8 0, .int .u8 0, .int .u8 0] 30)).drew) = .ok (.int .i64 5) (((w.alloc (.cells #[.int .u16 i, .int .i64 5, .int .u8 a0, .int .u8 a1, .int .u8 a2, .int .u8 a3, .int .u8 a4, .int .u8 a5, .int .u8 a6, .int .u8 a7, .bool false] 32)).alloc (.cells #[.int .u8 a0, .int .u8 a1, .int .u8 a2, .int .u8 a3, .int .u8 a4, .int .u8 0, .int .u8 0, .int .u8 0] 30)).drew) := by
    rw [run_copy_row (elem := 5) _ _ 76 76 3 (w.heap.size + 1) 0 5 8 ⟨w.heap.size, 2, none⟩ 8 8 #[.int .u8 0, .int .u8 0, .int .u8 0, .int .u8 0, .int .u8 0, .int .u8 0, .int .u8 0, .int .u8 0] 30 [.int .u8 a0, .int .u8 a1, .int .u8 a2, .int .u8 a3, .int .u8 a4] Try.underlying76 (by kernel_rfl) ?_ rfl ?_ (by simp) (by simp [Value.oneCell'])]
    · refine congrArg (Result.ok _) ?_
      exact setRow_alloc _ _ _ _ _ (by simp)
    · have := heap_alloc_new (w.alloc (.cells #[.int .u16 i, .int .i64 5, .int .u8 a0, .int .u8 a1, .int .u8 a2, .int .u8 a3, .int .u8 a4, .int .u8 a5, .int .u8 a6, .int .u8 a7, .bool false] 32)) (.cells #[.int .u8 0, .int .u8 0, .int .u8 0, .int .u8 0, .int .u8 0, .int .u8 0, .int .u8 0, .int .u8 0] 30)
      rw [show (w.alloc (.cells #[.int .u16 i, .int .i64 5, .int .u8 a0, .int .u8 a1, .int .u8 a2, .int .u8 a3, .int .u8 a4, .int .u8 a5, .int .u8 a6, .int .u8 a7, .bool false] 32)).heap.size = w.heap.size + 1 from by simp] at this
      exact this
    · intro j v hj
      have hc : (((w.alloc (.cells #[.int .u16 i, .int .i64 5, .int .u8 a0, .int .u8 a1, .int .u8 a2, .int .u8 a3, .int .u8 a4, .int .u8 a5, .int .u8 a6, .int .u8 a7, .bool false] 32)).alloc (.cells #[.int .u8 0, .int .u8 0, .int .u8 0, .int .u8 0, .int .u8 0, .int .u8 0, .int .u8 0, .int .u8 0] 30)).drew).cell? ((⟨w.heap.size, 2, none⟩ : Addr).add j) = (w.alloc (.cells #[.int .u16 i, .int .i64 5, .int .u8 a0, .int .u8 a1, .int .u8 a2, .int .u8 a3, .int .u8 a4, .int .u8 a5, .int .u8 a6, .int .u8 a7, .bool false] 32)).cell? ⟨w.heap.size, 2 + j, none⟩ := by
        rw [Addr.add_lit]
        exact World.cell?_alloc_past _ _ _ (by simp)
      rw [hc, World.cell?_alloc_at _ _ _ _ rfl]
      match j, hj with
      | 0, hj => simpa using hj
      | 1, hj => simpa using hj
      | 2, hj => simpa using hj
      | 3, hj => simpa using hj
      | 4, hj => simpa using hj
      | k + 5, hj => simp at hj
  obtain ⟨R, hR⟩ : ∃ R, R = rtB i 5 a0 a1 a2 a3 a4 a5 a6 a7 false := ⟨_, rfl⟩
  rw [← hR]
  have HI := Lib.hid hR
  clear hR
  have e30 := eq30 9998
  go_enter Try.func18, Try.ntmps18
  go_wp2_with fail
  go_big_region
  go_wp2_with fail
  go_ret
  refine ⟨ret_bool ?_, ((((Pu.refl w).alloc _).alloc _).drew)⟩
  rw [HI.out]
  rw [Bool.eq_iff_iff]
  simp [rtB, hi]
  all_goals omega

set_option maxHeartbeats 1000000 in
set_option maxRecDepth 100000 in
theorem right18n6 (i a0 a1 a2 a3 a4 a5 a6 a7 : Int) (hi : i ≤ 2047) (w : World) :
    Calls Try.prog 18 #[fagg i 6 a0 a1 a2 a3 a4 a5 a6 a7 false] w fun e w' => e = .returned (.bool (rtB i 6 a0 a1 a2 a3 a4 a5 a6 a7 false)) ∧ Pu w w' := by
  have hcp : (Builtin.copy_ #[76, 76] 3 #[.slice (some ⟨w.heap.size + 1, 0, none⟩) 6 8, .slice (some ⟨w.heap.size, 2, none⟩) 8 8]).run Try.prog (((w.alloc (.cells #[.int .u16 i, .int .i64 6, .int .u8 a0, .int .u8 a1, .int .u8 a2, .int .u8 a3, .int .u8 a4, .int .u8 a5, .int .u8 a6, .int .u8 a7, .bool false] 32)).alloc (.cells #[.int .u8 0, .int .u8 0, .int .u8 0, .int .u8 0, .int .u8 0, .int .u8 0, .int .u8 0, .int .u8 0] 30)).drew) = .ok (.int .i64 6) (((w.alloc (.cells #[.int .u16 i, .int .i64 6, .int .u8 a0, .int .u8 a1, .int .u8 a2, .int .u8 a3, .int .u8 a4, .int .u8 a5, .int .u8 a6, .int .u8 a7, .bool false] 32)).alloc (.cells #[.int .u8 a0, .int .u8 a1, .int .u8 a2, .int .u8 a3, .int .u8 a4, .int .u8 a5, .int .u8 0, .int .u8 0] 30)).drew) := by
    rw [run_copy_row (elem := 5) _ _ 76 76 3 (w.heap.size + 1) 0 6 8 ⟨w.heap.size, 2, none⟩ 8 8 #[.int .u8 0, .int .u8 0, .int .u8 0, .int .u8 0, .int .u8 0, .int .u8 0, .int .u8 0, .int .u8 0] 30 [.int .u8 a0, .int .u8 a1, .int .u8 a2, .int .u8 a3, .int .u8 a4, .int .u8 a5] Try.underlying76 (by kernel_rfl) ?_ rfl ?_ (by simp) (by simp [Value.oneCell'])]
    · refine congrArg (Result.ok _) ?_
      exact setRow_alloc _ _ _ _ _ (by simp)
    · have := heap_alloc_new (w.alloc (.cells #[.int .u16 i, .int .i64 6, .int .u8 a0, .int .u8 a1, .int .u8 a2, .int .u8 a3, .int .u8 a4, .int .u8 a5, .int .u8 a6, .int .u8 a7, .bool false] 32)) (.cells #[.int .u8 0, .int .u8 0, .int .u8 0, .int .u8 0, .int .u8 0, .int .u8 0, .int .u8 0, .int .u8 0] 30)
      rw [show (w.alloc (.cells #[.int .u16 i, .int .i64 6, .int .u8 a0, .int .u8 a1, .int .u8 a2, .int .u8 a3, .int .u8 a4, .int .u8 a5, .int .u8 a6, .int .u8 a7, .bool false] 32)).heap.size = w.heap.size + 1 from by simp] at this
      exact this
    · intro j v hj
      have hc : (((w.alloc (.cells #[.int .u16 i, .int .i64 6, .int .u8 a0, .int .u8 a1, .int .u8 a2, .int .u8 a3, .int .u8 a4, .int .u8 a5, .int .u8 a6, .int .u8 a7, .bool false] 32)).alloc (.cells #[.int .u8 0, .int .u8 0, .int .u8 0, .int .u8 0, .int .u8 0, .int .u8 0, .int .u8 0, .int .u8 0] 30)).drew).cell? ((⟨w.heap.size, 2, none⟩ : Addr).add j) = (w.alloc (.cells #[.int .u16 i, .int .i64 6, .int .u8 a0, .int .u8 a1, .int .u8 a2, .int .u8 a3, .int .u8 a4, .int .u8 a5, .int .u8 a6, .int .u8 a7, .bool false] 32)).cell? ⟨w.heap.size, 2 + j, none⟩ := by
        rw [Addr.add_lit]
        exact World.cell?_alloc_past _ _ _ (by simp)
      rw [hc, World.cell?_alloc_at _ _ _ _ rfl]
      match j, hj with
      | 0, hj => simpa using hj
      | 1, hj => simpa using hj
      | 2, hj => simpa using hj
      | 3, hj => simpa using hj
      | 4, hj => simpa using hj
      | 5, hj => simpa using hj
      | k + 6, hj => simp at hj
  obtain ⟨R, hR⟩ : ∃ R, R = rtB i 6 a0 a1 a2 a3 a4 a5 a6 a7 false := ⟨_, rfl⟩
  rw [← hR]
  have HI := Lib.hid hR
  clear hR
  have e30 := eq30 9998
  go_enter Try.func18, Try.ntmps18
  go_wp2_with fail
  go_big_region
  go_wp2_with fail
  go_ret
  refine ⟨ret_bool ?_, ((((Pu.refl w).alloc _).alloc _).drew)⟩
  rw [HI.out]
  rw [Bool.eq_iff_iff]
  simp [rtB, hi]
  all_goals omega

set_option maxHeartbeats 1000000 in
set_option maxRecDepth 100000 in
theorem right18n7 (i a0 a1 a2 a3 a4 a5 a6 a7 : Int) (hi : i ≤ 2047) (w : World) :
    Calls Try.prog 18 #[fagg i 7 a0 a1 a2 a3 a4 a5 a6 a7 false] w fun e w' => e = .returned (.bool (rtB i 7 a0 a1 a2 a3 a4 a5 a6 a7 false)) ∧ Pu w w' := by
  have hcp : (Builtin.copy_ #[76, 76] 3 #[.slice (some ⟨w.heap.size + 1, 0, none⟩) 7 8, .slice (some ⟨w.heap.size, 2, none⟩) 8 8]).run Try.prog (((w.alloc (.cells #[.int .u16 i, .int .i64 7, .int .u8 a0, .int .u8 a1, .int .u8 a2, .int .u8 a3, .int .u8 a4, .int .u8 a5, .int .u8 a6, .int .u8 a7, .bool false] 32)).alloc (.cells #[.int .u8 0, .int .u8 0, .int .u8 0, .int .u8 0, .int .u8 0, .int .u8 0, .int .u8 0, .int .u8 0] 30)).drew) = .ok (.int .i64 7) (((w.alloc (.cells #[.int .u16 i, .int .i64 7, .int .u8 a0, .int .u8 a1, .int .u8 a2, .int .u8 a3, .int .u8 a4, .int .u8 a5, .int .u8 a6, .int .u8 a7, .bool false] 32)).alloc (.cells #[.int .u8 a0, .int .u8 a1, .int .u8 a2, .int .u8 a3, .int .u8 a4, .int .u8 a5, .int .u8 a6, .int .u8 0] 30)).drew) := by
    rw [run_copy_row (elem := 5) _ _ 76 76 3 (w.heap.size + 1) 0 7 8 ⟨w.heap.size, 2, none⟩ 8 8 #[.int .u8 0, .int .u8 0, .int .u8 0, .int .u8 0, .int .u8 0, .int .u8 0, .int .u8 0, .int .u8 0] 30 [.int .u8 a0, .int .u8 a1, .int .u8 a2, .int .u8 a3, .int .u8 a4, .int .u8 a5, .int .u8 a6] Try.underlying76 (by kernel_rfl) ?_ rfl ?_ (by simp) (by simp [Value.oneCell'])]
    · refine congrArg (Result.ok _) ?_
      exact setRow_alloc _ _ _ _ _ (by simp)
    · have := heap_alloc_new (w.alloc (.cells #[.int .u16 i, .int .i64 7, .int .u8 a0, .int .u8 a1, .int .u8 a2, .int .u8 a3, .int .u8 a4, .int .u8 a5, .int .u8 a6, .int .u8 a7, .bool false] 32)) (.cells #[.int .u8 0, .int .u8 0, .int .u8 0, .int .u8 0, .int .u8 0, .int .u8 0, .int .u8 0, .int .u8 0] 30)
      rw [show (w.alloc (.cells #[.int .u16 i, .int .i64 7, .int .u8 a0, .int .u8 a1, .int .u8 a2, .int .u8 a3, .int .u8 a4, .int .u8 a5, .int .u8 a6, .int .u8 a7, .bool false] 32)).heap.size = w.heap.size + 1 from by simp] at this
      exact this
    · intro j v hj
      have hc : (((w.alloc (.cells #[.int .u16 i, .int .i64 7, .int .u8 a0, .int .u8 a1, .int .u8 a2, .int .u8 a3, .int .u8 a4, .int .u8 a5, .int .u8 a6, .int .u8 a7, .bool false] 32)).alloc (.cells #[.int .u8 0, .int .u8 0, .int .u8 0, .int .u8 0, .int .u8 0, .int .u8 0, .int .u8 0, .int .u8 0] 30)).drew).cell? ((⟨w.heap.size, 2, none⟩ : Addr).add j) = (w.alloc (.cells #[.int .u16 i, .int .i64 7, .int .u8 a0, .int .u8 a1, .int .u8 a2, .int .u8 a3, .int .u8 a4, .int .u8 a5, .int .u8 a6, .int .u8 a7, .bool false] 32)).cell? ⟨w.heap.size, 2 + j, none⟩ := by
        rw [Addr.add_lit]
        exact World.cell?_alloc_past _ _ _ (by simp)
      rw [hc, World.cell?_alloc_at _ _ _ _ rfl]
      match j, hj with
      | 0, hj => simpa using hj
      | 1, hj => simpa using hj
      | 2, hj => simpa using hj
      | 3, hj => simpa using hj
      | 4, hj => simpa using hj
      | 5, hj => simpa using hj
      | 6, hj => simpa using hj
      | k + 7, hj => simp at hj
  obtain ⟨R, hR⟩ : ∃ R, R = rtB i 7 a0 a1 a2 a3 a4 a5 a6 a7 false := ⟨_, rfl⟩
  rw [← hR]
  have HI := Lib.hid hR
  clear hR
  have e30 := eq30 9998
  go_enter Try.func18, Try.ntmps18
  go_wp2_with fail
  go_big_region
  go_wp2_with fail
  go_ret
  refine ⟨ret_bool ?_, ((((Pu.refl w).alloc _).alloc _).drew)⟩
  rw [HI.out]
  rw [Bool.eq_iff_iff]
  simp [rtB, hi]
  all_goals omega

set_option maxHeartbeats 1000000 in
set_option maxRecDepth 100000 in
theorem right18n8 (i a0 a1 a2 a3 a4 a5 a6 a7 : Int) (hi : i ≤ 2047) (w : World) :
    Calls Try.prog 18 #[fagg i 8 a0 a1 a2 a3 a4 a5 a6 a7 false] w fun e w' => e = .returned (.bool (rtB i 8 a0 a1 a2 a3 a4 a5 a6 a7 false)) ∧ Pu w w' := by
  have hcp : (Builtin.copy_ #[76, 76] 3 #[.slice (some ⟨w.heap.size + 1, 0, none⟩) 8 8, .slice (some ⟨w.heap.size, 2, none⟩) 8 8]).run Try.prog (((w.alloc (.cells #[.int .u16 i, .int .i64 8, .int .u8 a0, .int .u8 a1, .int .u8 a2, .int .u8 a3, .int .u8 a4, .int .u8 a5, .int .u8 a6, .int .u8 a7, .bool false] 32)).alloc (.cells #[.int .u8 0, .int .u8 0, .int .u8 0, .int .u8 0, .int .u8 0, .int .u8 0, .int .u8 0, .int .u8 0] 30)).drew) = .ok (.int .i64 8) (((w.alloc (.cells #[.int .u16 i, .int .i64 8, .int .u8 a0, .int .u8 a1, .int .u8 a2, .int .u8 a3, .int .u8 a4, .int .u8 a5, .int .u8 a6, .int .u8 a7, .bool false] 32)).alloc (.cells #[.int .u8 a0, .int .u8 a1, .int .u8 a2, .int .u8 a3, .int .u8 a4, .int .u8 a5, .int .u8 a6, .int .u8 a7] 30)).drew) := by
    rw [run_copy_row (elem := 5) _ _ 76 76 3 (w.heap.size + 1) 0 8 8 ⟨w.heap.size, 2, none⟩ 8 8 #[.int .u8 0, .int .u8 0, .int .u8 0, .int .u8 0, .int .u8 0, .int .u8 0, .int .u8 0, .int .u8 0] 30 [.int .u8 a0, .int .u8 a1, .int .u8 a2, .int .u8 a3, .int .u8 a4, .int .u8 a5, .int .u8 a6, .int .u8 a7] Try.underlying76 (by kernel_rfl) ?_ rfl ?_ (by simp) (by simp [Value.oneCell'])]
    · refine congrArg (Result.ok _) ?_
      exact setRow_alloc _ _ _ _ _ (by simp)
    · have := heap_alloc_new (w.alloc (.cells #[.int .u16 i, .int .i64 8, .int .u8 a0, .int .u8 a1, .int .u8 a2, .int .u8 a3, .int .u8 a4, .int .u8 a5, .int .u8 a6, .int .u8 a7, .bool false] 32)) (.cells #[.int .u8 0, .int .u8 0, .int .u8 0, .int .u8 0, .int .u8 0, .int .u8 0, .int .u8 0, .int .u8 0] 30)
      rw [show (w.alloc (.cells #[.int .u16 i, .int .i64 8, .int .u8 a0, .int .u8 a1, .int .u8 a2, .int .u8 a3, .int .u8 a4, .int .u8 a5, .int .u8 a6, .int .u8 a7, .bool false] 32)).heap.size = w.heap.size + 1 from by simp] at this
      exact this
    · intro j v hj
      have hc : (((w.alloc (.cells #[.int .u16 i, .int .i64 8, .int .u8 a0, .int .u8 a1, .int .u8 a2, .int .u8 a3, .int .u8 a4, .int .u8 a5, .int .u8 a6, .int .u8 a7, .bool false] 32)).alloc (.cells #[.int .u8 0, .int .u8 0, .int .u8 0, .int .u8 0, .int .u8 0, .int .u8 0, .int .u8 0, .int .u8 0] 30)).drew).cell? ((⟨w.heap.size, 2, none⟩ : Addr).add j) = (w.alloc (.cells #[.int .u16 i, .int .i64 8, .int .u8 a0, .int .u8 a1, .int .u8 a2, .int .u8 a3, .int .u8 a4, .int .u8 a5, .int .u8 a6, .int .u8 a7, .bool false] 32)).cell? ⟨w.heap.size, 2 + j, none⟩ := by
        rw [Addr.add_lit]
        exact World.cell?_alloc_past _ _ _ (by simp)
      rw [hc, World.cell?_alloc_at _ _ _ _ rfl]
      match j, hj with
      | 0, hj => simpa using hj
      | 1, hj => simpa using hj
      | 2, hj => simpa using hj
      | 3, hj => simpa using hj
      | 4, hj => simpa using hj
      | 5, hj => simpa using hj
      | 6, hj => simpa using hj
      | 7, hj => simpa using hj
      | k + 8, hj => simp at hj
  obtain ⟨R, hR⟩ : ∃ R, R = rtB i 8 a0 a1 a2 a3 a4 a5 a6 a7 false := ⟨_, rfl⟩
  rw [← hR]
  have HI := Lib.hid hR
  clear hR
  have e30 := eq30 9998
  go_enter Try.func18, Try.ntmps18
  go_wp2_with fail
  go_big_region
  go_wp2_with fail
  go_ret
  refine ⟨ret_bool ?_, ((((Pu.refl w).alloc _).alloc _).drew)⟩
  rw [HI.out]
  rw [Bool.eq_iff_iff]
  simp [rtB, hi]
  all_goals omega

set_option maxHeartbeats 1000000 in
set_option maxRecDepth 100000 in
theorem right18r (i l a0 a1 a2 a3 a4 a5 a6 a7 : Int) (hi : i ≤ 2047) (h0 : 0 ≤ l) (h8 : l ≤ 8) (w : World) :
    Calls Try.prog 18 #[fagg i l a0 a1 a2 a3 a4 a5 a6 a7 true] w fun e w' => e = .returned (.bool (rtB i l a0 a1 a2 a3 a4 a5 a6 a7 true)) ∧ Pu w w' := by
  obtain ⟨R, hR⟩ : ∃ R, R = rtB i l a0 a1 a2 a3 a4 a5 a6 a7 true := ⟨_, rfl⟩
  rw [← hR]
  have HI := Lib.hid hR
  clear hR
  have e30 := eq30 9998
  go_enter Try.func18, Try.ntmps18
  go_wp2_with fail
  go_ret
  refine ⟨ret_bool ?_, (((Pu.refl w).alloc _).alloc _)⟩
  rw [HI.out]
  rw [Bool.eq_iff_iff]
  simp [rtB, hi, h0, h8]
  all_goals omega
set_option maxHeartbeats 1000000 in
set_option maxRecDepth 100000 in
theorem right18x (i l a0 a1 a2 a3 a4 a5 a6 a7 : Int) (r : Bool) (h : 2047 < i ∨ l < 0 ∨ 8 < l) (w : World) :
    Calls Try.prog 18 #[fagg i l a0 a1 a2 a3 a4 a5 a6 a7 r] w fun e w' => e = .returned (.bool (rtB i l a0 a1 a2 a3 a4 a5 a6 a7 r)) ∧ Pu w w' := by
  have hR : rtB i l a0 a1 a2 a3 a4 a5 a6 a7 r = false := by
    unfold rtB
    rcases h with h | h | h
    · rw [show decide (i ≤ 2047) = false from by simp; omega]; rfl
    · rw [show decide (0 ≤ l) = false from by simp; omega]; simp
    · rw [show decide (l ≤ 8) = false from by simp; omega]; simp
  rw [hR]
  clear hR
  by_cases h1 : 2047 < i
  · clear h
    go_enter Try.func18, Try.ntmps18
    go_wp2_with fail
    go_ret
    exact ⟨rfl, ((Pu.refl w).alloc _)⟩
  · have h1' : i ≤ 2047 := by omega
    by_cases h2 : l < 0
    · clear h h1
      go_enter Try.func18, Try.ntmps18
      go_wp2_with fail
      go_ret
      exact ⟨rfl, ((Pu.refl w).alloc _)⟩
    · have h3 : 8 < l := by omega
      have h2' : 0 ≤ l := by omega
      clear h h1 h2
      go_enter Try.func18, Try.ntmps18
      go_wp2_with fail
      go_ret
      exact ⟨rfl, ((Pu.refl w).alloc _)⟩
theorem right18 (i l a0 a1 a2 a3 a4 a5 a6 a7 : Int) (r : Bool) (w : World) :
    Calls Try.prog 18 #[fagg i l a0 a1 a2 a3 a4 a5 a6 a7 r] w fun e w' => e = .returned (.bool (rtB i l a0 a1 a2 a3 a4 a5 a6 a7 r)) ∧ Pu w w' := by
  by_cases h : 2047 < i ∨ l < 0 ∨ 8 < l
  · exact right18x _ _ _ _ _ _ _ _ _ _ _ h w
  · have hi : i ≤ 2047 := by omega
    cases r with
    | true => exact right18r _ _ _ _ _ _ _ _ _ _ hi (by omega) (by omega) w
    | false =>
      rcases (show l = 0 ∨ l = 1 ∨ l = 2 ∨ l = 3 ∨ l = 4 ∨ l = 5 ∨ l = 6 ∨ l = 7 ∨ l = 8 from by omega) with rfl | rfl | rfl | rfl | rfl | rfl | rfl | rfl | rfl
      · exact right18n0 _ _ _ _ _ _ _ _ _ hi w
      · exact right18n1 _ _ _ _ _ _ _ _ _ hi w
      · exact right18n2 _ _ _ _ _ _ _ _ _ hi w
      · exact right18n3 _ _ _ _ _ _ _ _ _ hi w
      · exact right18n4 _ _ _ _ _ _ _ _ _ hi w
      · exact right18n5 _ _ _ _ _ _ _ _ _ hi w
      · exact right18n6 _ _ _ _ _ _ _ _ _ hi w
      · exact right18n7 _ _ _ _ _ _ _ _ _ hi w
      · exact right18n8 _ _ _ _ _ _ _ _ _ hi w
end Go.Proofs.Ythmfibgjemnlbaa

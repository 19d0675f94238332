import Derived.Test.YtfklhppfehkfaaaLe3
namespace Go.Proofs.Ytfklhppfehkfaaa
open Go.RowKit

set_option maxHeartbeats 400000 in
theorem num01_any (n : Int) (w : World) : Calls Try.prog 18 #[.int .i64 n] w fun e w' => e = .returned (.int .i64 n) ∧ w = w' := by
  go_enter Try.func18, Try.ntmps18
  go_wp2
  go_ret
  exact ⟨rfl, rfl⟩

theorem fits_258 : fitsB 258 2 = true := by decide
theorem fits_0 : fitsB 0 2 = true := by decide
theorem aw_put (w : World) : Calls Try.prog 16 #[.slice (some ⟨w.heap.size, 0, none⟩) 3 3, .int .i64 1, .int .i64 2, .int .u64 258] (w.alloc (.cells #[.int .u8 1, .int .u8 2, .int .u8 3] 5))
    fun e w' => e = .returned (.int .i64 0) ∧ w.alloc (.cells #[.int .u8 1, .int .u8 2, .int .u8 1] 5) = w' := by
  refine (Put_good w.heap.size 0 3 3 1 2 258 (w.alloc (.cells #[.int .u8 1, .int .u8 2, .int .u8 3] 5)) (by decide) (by decide) (by decide) (by decide) (by decide) (by decide) ⟨by decide, by decide⟩ (by decide) ?_ ?_).mono ?_
  · intro k hk
    rcases (by omega : k = 0 ∨ k = 1) with rfl | rfl
    · exact ⟨_, (Blk.new w 5 [.int .u8 1, .int .u8 2, .int .u8 3]).cell 1⟩
    · exact ⟨_, (Blk.new w 5 [.int .u8 1, .int .u8 2, .int .u8 3]).cell 2⟩
  · intro k hk
    exact (Blk.new w 5 [.int .u8 1, .int .u8 2, .int .u8 3]).frozen _
  · rintro e w' ⟨rfl, rfl⟩
    refine ⟨rfl, ?_⟩
    simp only [vs8, leBytes, List.range_succ, List.range_zero, List.nil_append, List.cons_append, List.map_cons, List.map_nil, setRow]
    rw [World.setCell_alloc_new, World.setCell_alloc_new]
    rfl
theorem aw_get (w : World) : Calls Try.prog 19 #[.slice (some ⟨w.heap.size, 0, none⟩) 3 3, .int .i64 0, .int .i64 2] (w.alloc (.cells #[.int .u8 1, .int .u8 2, .int .u8 1] 5))
    fun e w' => e = .returned (.tuple #[.int .u64 513, .int .i64 0]) ∧ w.alloc (.cells #[.int .u8 1, .int .u8 2, .int .u8 1] 5) = w' := by
  refine (Get_good w.heap.size 0 3 3 0 2 [1, 2] (w.alloc (.cells #[.int .u8 1, .int .u8 2, .int .u8 1] 5)) (by decide) (by decide) (by decide) (by decide) (by decide) (by decide) rfl ?_ ?_).mono ?_
  · intro z hz; simp at hz; rcases hz with rfl | rfl <;> exact ⟨by decide, by decide⟩
  · intro k hk
    rcases (by omega : k = 0 ∨ k = 1) with rfl | rfl
    · exact (Blk.new w 5 [.int .u8 1, .int .u8 2, .int .u8 1]).cell 0
    · exact (Blk.new w 5 [.int .u8 1, .int .u8 2, .int .u8 1]).cell 1
  · rintro e w' ⟨rfl, rfl⟩
    exact ⟨rfl, rfl⟩
theorem aw_put2 (w wx : World) : Calls Try.prog 16 #[.slice (some ⟨w.heap.size, 0, none⟩) 3 3, .int .i64 2, .int .i64 2, .int .u64 0] wx
    fun e w' => e = .returned (.int .i64 3) ∧ wx = w' :=
  (Put_bad _ 3 3 2 2 0 wx (by decide) ⟨by decide, by decide⟩ ⟨by decide, by decide⟩ (by decide)).mono fun e w' ⟨h1, h2⟩ => ⟨h1, h2⟩
theorem aw_fits (w : World) : Calls Try.prog 17 #[.int .u64 255, .int .i64 1] w fun e w' => e = .returned (.bool true) ∧ w = w' :=
  (Fits_any 255 1 w ⟨by decide, by decide⟩ ⟨by decide, by decide⟩).mono fun e w' ⟨h1, h2⟩ => ⟨h1, h2⟩
theorem aw_fits2 (w : World) : Calls Try.prog 17 #[.int .u64 256, .int .i64 1] w fun e w' => e = .returned (.bool false) ∧ w = w' :=
  (Fits_any 256 1 w ⟨by decide, by decide⟩ ⟨by decide, by decide⟩).mono fun e w' ⟨h1, h2⟩ => ⟨h1, h2⟩
theorem aw_plus (w : World) : Calls Try.prog 20 #[.slice (some ⟨w.heap.size, 0, none⟩) 3 3] (w.alloc (.cells #[.int .i64 3, .int .i64 (-5), .int .i64 4] 3)) fun e w' => e = .returned (.int .i64 7) ∧ w.alloc (.cells #[.int .i64 3, .int .i64 (-5), .int .i64 4] 3) = w' :=
  (Plus_any _ 3 3 [3, -5, 4] (w.alloc (.cells #[.int .i64 3, .int .i64 (-5), .int .i64 4] 3)) (w.heap.size + 1)
    (fun _ => ⟨w.heap.size, 0, rfl, by omega, fun k u hu => by rw [Nat.zero_add, (Blk.new w 3 [.int .i64 3, .int .i64 (-5), .int .i64 4]).cell]; exact hu⟩) rfl
    (by intro z hz; simp at hz; rcases hz with rfl | rfl | rfl <;> exact ⟨by decide, by decide⟩) (by decide)).mono fun e w' ⟨h1, h2⟩ => ⟨h1, h2⟩
theorem aw_times (w : World) : Calls Try.prog 21 #[.int .i64 3, .int .i64 4] w fun e w' => e = .returned (.int .i64 12) ∧ w = w' :=
  (Times_any 3 4 w ⟨by decide, by decide⟩ ⟨by decide, by decide⟩).mono fun e w' ⟨h1, h2⟩ => ⟨h1, h2⟩
theorem aw_times2 (w : World) : Calls Try.prog 21 #[.int .i64 2147483648, .int .i64 2147483648] w fun e w' => e = .returned (.int .i64 4611686018427387904) ∧ w = w' :=
  (Times_any 2147483648 2147483648 w ⟨by decide, by decide⟩ ⟨by decide, by decide⟩).mono fun e w' ⟨h1, h2⟩ => ⟨h1, h2⟩

set_option maxHeartbeats 800000 in
set_option maxRecDepth 100000 in
theorem awake01_any (w : World) : Calls Try.prog 13 #[] w fun e w' => e = .returned (.bool true) ∧ Below w.heap.size w w' := by
  have hcv := Row.conv (P := Try.prog) (w := w.alloc (.cells #[.int .u8 1, .int .u8 2, .int .u8 1] 5)) (B := w.heap.size + 1) (A := some ⟨w.heap.size, 0, none⟩) (zs := [1, 2, 1])
    (fun _ => ⟨w.heap.size, 0, rfl, by omega, fun k u hu => by rw [Nat.zero_add, (Blk.new w 5 [.int .u8 1, .int .u8 2, .int .u8 1]).cell]; exact hu⟩) 25 5 9 Try.underlying25 Try.underlying5 Try.underlying9 3 3 rfl
  have hst : strOfNums [1, 2, 1] = { data := #[1, 2, 1] } := by decide
  rw [hst] at hcv
  clear hst
  go_enter Try.func13, Try.ntmps13
  go_wp2_with fail
  refine (aw_put w).mono ?_; rintro e w' ⟨rfl, rfl⟩
  go_wp2_with fail
  refine (aw_get w).mono ?_; rintro e w' ⟨rfl, rfl⟩
  go_wp2_with (first | (go_at_call 18; refine (num01_any _ _).mono ?_; rintro e w' ⟨rfl, rfl⟩) | (go_at_call 16; refine (aw_put2 w _).mono ?_; rintro e w' ⟨rfl, rfl⟩))
  refine (aw_fits _).mono ?_; rintro e w' ⟨rfl, rfl⟩
  go_wp2_with fail
  refine (aw_fits2 _).mono ?_; rintro e w' ⟨rfl, rfl⟩
  go_wp2_with fail
  have hpl := aw_plus (w.alloc (.cells #[.int .u8 1, .int .u8 2, .int .u8 1] 5))
  simp only [World.size_alloc] at hpl
  refine hpl.mono ?_; rintro e w' ⟨rfl, rfl⟩
  clear hpl
  go_wp2_with fail
  refine (aw_times _).mono ?_; rintro e w' ⟨rfl, rfl⟩
  go_wp2_with fail
  refine (aw_times2 _).mono ?_; rintro e w' ⟨rfl, rfl⟩
  go_wp2_with fail
  go_ret
  exact ⟨rfl, ((Below.refl _ _).alloc (Nat.le_refl _) _).alloc (by simp) _⟩
end Go.Proofs.Ytfklhppfehkfaaa

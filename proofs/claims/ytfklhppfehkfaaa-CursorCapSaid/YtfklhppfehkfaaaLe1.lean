import Derived.Test.YtfklhppfehkfaaaBase
import Derived.Test.YtfklhppfehkfaaaShelf
import Derived.Test.YtfklhppfehkfaaaLeMath
namespace Go.Proofs.Ytfklhppfehkfaaa
open Go.RowKit

set_option maxHeartbeats 400000 in
theorem sized_any (n : Int) (w : World) (_h0 : -9223372036854775808 ≤ n) (_h1 : n ≤ 9223372036854775807) :
    Calls Try.prog 63 #[.int .i64 n] w fun e w' => e = .returned (.int .i64 (sz n)) ∧ w = w' := by
  go_enter Try.func63, Try.ntmps63
  go_wp2
  all_goals
    go_ret
    exact ⟨ret_int (by unfold sz; omega), rfl⟩

set_option maxHeartbeats 400000 in
theorem Plus_any (A : Option Addr) (n c : Nat) (zs : List Int) (w : World) (B : Nat) (hr : Row w B A (zs.map (Value.int .i64))) (hn : n = zs.length) (hz : ∀ z ∈ zs, I64 z) (hm : n ≤ maxLen) :
    Calls Try.prog 20 #[.slice A n c] w fun e w' => e = .returned (.int .i64 (plusL zs)) ∧ w = w' := by
  unfold maxLen at hm
  have hr' := hr.ints
  clear hr
  subst hn
  go_enter Try.func20, Try.ntmps20
  go_wp2
  go_loop [3, 5, 8] (fun s _ i => ∃ k : Nat, k ≤ zs.length ∧ i = .int .i64 k ∧ s = .int .i64 (plusL (zs.take k))) (fun _ _ i => zs.length - (intOf i).toNat)
  case atStart => exact ⟨0, Nat.zero_le _, rfl, rfl⟩
  case round =>
    obtain ⟨k, hk, rfl, rfl⟩ := hrel
    have hd := plusL_bd (zs.take k)
    obtain ⟨hd0, hd1⟩ := hd
    by_cases hlt : k < zs.length
    · obtain ⟨b, off, rfl, hb, hc⟩ := hr' (by omega)
      have hck := hc k hlt
      have hx := hz _ (getD_mem hlt)
      have hs := plusL_snoc (zs.take k) (zs.getD k 0)
      rw [← take_snoc_getD hlt] at hs
      have HS := Lib.hid hs
      clear hs hc
      generalize zs.getD k 0 = x at *
      obtain ⟨hx0, hx1⟩ := hx
      have h2 := sz_lo x
      have h3 := sz_hi x
      go_wp2_with (go_at_call 63; refine (sized_any _ _ hx0 hx1).mono ?_; rintro e w' ⟨rfl, rfl⟩)
      all_goals
        go_round
        case rel => exact ⟨k + 1, by omega, by go_num, by rw [HS.out]; rfl⟩
        case measure => simp [intOf]; omega
    · obtain rfl : k = zs.length := by omega
      go_wp2
      go_ret
      exact ⟨ret_int (by simp), rfl⟩

theorem Mul64_int (x y : Int) (w : World) (hx0 : 0 ≤ x) (hx : x < 18446744073709551616) (hy0 : 0 ≤ y) (hy : y < 18446744073709551616) :
    Calls Try.prog 64 #[.int .u64 x, .int .u64 y] w fun e w' => e = .returned (.tuple #[.int .u64 (x * y / 18446744073709551616), .int .u64 (x * y % 18446744073709551616)]) ∧ w = w' := by
  obtain ⟨m, rfl⟩ := Int.eq_ofNat_of_zero_le hx0
  obtain ⟨n, rfl⟩ := Int.eq_ofNat_of_zero_le hy0
  refine (Try.bits_Mul64 m n (by omega) (by omega) w).mono ?_
  rintro e w' ⟨rfl, rfl⟩
  refine ⟨?_, rfl⟩
  have h1 : ((m * n / 18446744073709551616 : Nat) : Int) = (m : Int) * n / 18446744073709551616 := by rw [Int.natCast_ediv, Int.natCast_mul]; rfl
  have h2 : ((m * n % 18446744073709551616 : Nat) : Int) = (m : Int) * n % 18446744073709551616 := by rw [Int.natCast_emod, Int.natCast_mul]; rfl
  rw [h1, h2]

set_option maxHeartbeats 400000 in
theorem Times_any (a b : Int) (w : World) (ha : I64 a) (hb : I64 b) :
    Calls Try.prog 21 #[.int .i64 a, .int .i64 b] w fun e w' => e = .returned (.int .i64 (timesS a b)) ∧ w = w' := by
  obtain ⟨ha0, ha1⟩ := ha
  obtain ⟨hb0, hb1⟩ := hb
  have h1 := sz_lo a
  have h2 := sz_hi a
  have h3 := sz_lo b
  have h4 := sz_hi b
  have hp : 0 ≤ sz a * sz b := Int.mul_nonneg h1 h3
  go_enter Try.func21, Try.ntmps21
  go_wp2_with (first | (go_at_call 63; refine (sized_any _ _ (by assumption) (by assumption)).mono ?_; rintro e w' ⟨rfl, rfl⟩) | (go_at_call 64; refine (Mul64_int _ _ _ (by assumption) (by omega) (by assumption) (by omega)).mono ?_; rintro e w' ⟨rfl, rfl⟩))
  all_goals
    go_ret
    exact ⟨ret_int (by unfold timesS; clear h1 h2 h3 h4; generalize sz a * sz b = p at *; omega), rfl⟩

end Go.Proofs.Ytfklhppfehkfaaa

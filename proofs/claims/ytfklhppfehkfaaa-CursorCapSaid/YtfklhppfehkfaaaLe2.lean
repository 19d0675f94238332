import Derived.Test.YtfklhppfehkfaaaLe1
import Derived.Lib.BitFns
namespace Go.Proofs.Ytfklhppfehkfaaa
open Go.RowKit

theorem tmod_bd (n m : Int) (hm : 0 < m) : -m < n.tmod m ∧ n.tmod m < m := by
  refine ⟨?_, Int.tmod_lt_of_pos n hm⟩
  have := Int.tmod_lt_of_pos (-n) hm
  rw [Int.neg_tmod] at this
  omega
theorem rest_num (n m : Int) (hm : 0 < m) : (n.tmod m + m).tmod m = n % m := by
  have hl := tmod_bd n m hm
  rw [Int.tmod_eq_emod_of_nonneg (by omega), Int.add_emod_right]
  rw [Int.tmod_def, Int.sub_emod, Int.mul_emod_right, Int.sub_zero, Int.emod_emod]
theorem rest_wrap (n lo hi : Int) (h0 : 0 ≤ lo) (h1 : lo ≤ hi) (h2 : hi ≤ 2305843009213693952) : wrap64 (lo + (wrap64 (n.tmod (hi - lo + 1) + (hi - lo + 1))).tmod (hi - lo + 1)) = lo + n % (hi - lo + 1) := by
  have hm : 0 < hi - lo + 1 := by omega
  have hl := tmod_bd n _ hm
  have hq0 : 0 ≤ n % (hi - lo + 1) := Int.emod_nonneg _ (by omega)
  have hq1 : n % (hi - lo + 1) < hi - lo + 1 := Int.emod_lt_of_pos _ hm
  rw [IntWalk.wrap64_in (n.tmod (hi - lo + 1) + (hi - lo + 1)) ⟨by omega, by omega⟩, rest_num n _ hm, IntWalk.wrap64_in _ ⟨by omega, by omega⟩]

set_option maxHeartbeats 400000 in
theorem rest_any (n lo hi : Int) (w : World) (hn : I64 n) (h0 : 0 ≤ lo) (h1 : lo ≤ hi) (h2 : hi ≤ 2305843009213693952) :
    Calls Try.prog 15 #[.int .i64 n, .int .i64 lo, .int .i64 hi] w fun e w' => e = .returned (.int .i64 (lo + n % (hi - lo + 1))) ∧ w = w' := by
  obtain ⟨hn0, hn1⟩ := hn
  have hm : 0 < hi - lo + 1 := by omega
  have HR := Lib.hid (rest_wrap n lo hi h0 h1 h2)
  rcases Int.lt_or_le n 0 with hneg | hpos
  · go_enter Try.func15, Try.ntmps15
    go_wp2
    go_ret
    exact ⟨ret_int HR.out, rfl⟩
  · have e := Int.tmod_eq_emod_of_nonneg hpos (b := hi - lo + 1)
    rw [e] at HR
    clear e
    go_enter Try.func15, Try.ntmps15
    go_wp2
    go_ret
    exact ⟨ret_int HR.out, rfl⟩

theorem bitLen_le (k : Nat) : ∀ x : Nat, x < 2 ^ 64 → (Lib.bitLen x ≤ k ↔ x < 2 ^ k) := by
  induction k with
  | zero =>
    intro x hx
    by_cases h0 : x = 0
    · subst h0; exact ⟨fun _ => by decide, fun _ => by decide⟩
    · rw [Lib.bitLen_half x h0 hx]; simp; omega
  | succ k ih =>
    intro x hx
    by_cases h0 : x = 0
    · subst h0; exact ⟨fun _ => Nat.two_pow_pos _, fun _ => by have : Lib.bitLen 0 = 0 := by decide
                                                               omega⟩
    · have := ih (x / 2) (by omega)
      rw [Lib.bitLen_half x h0 hx, Nat.pow_succ]; omega

/-- does so wide a number hold n? -/
def fitsB (n wd : Int) : Bool := decide (1 ≤ wd) && decide (wd ≤ 8) && decide (n < 256 ^ wd.toNat)
theorem fitsB_lo (n wd : Int) (h : ¬ 1 ≤ wd) : fitsB n wd = false := by simp [fitsB, h]
theorem fitsB_hi (n wd : Int) (h : ¬ wd ≤ 8) : fitsB n wd = false := by simp [fitsB, h]
theorem fitsB_mid (n wd : Int) (hn : U64 n) (h1 : 1 ≤ wd) (h2 : wd ≤ 8) : decide ((Lib.bitLen n.toNat : Int) ≤ 8 * wd) = fitsB n wd := by
  obtain ⟨hn0, hn1⟩ := hn
  obtain ⟨m, rfl⟩ := Int.eq_ofNat_of_zero_le hn0
  obtain ⟨k, rfl⟩ := Int.eq_ofNat_of_zero_le (by omega : 0 ≤ wd)
  have := bitLen_le (8 * k) m (by omega)
  have e : (2 : Nat) ^ (8 * k) = 256 ^ k := by rw [Nat.pow_mul]
  have e2 : ((256 : Int) ^ k) = ((256 ^ k : Nat) : Int) := by rw [Int.natCast_pow]; rfl
  simp only [fitsB, h1, h2, decide_true, Bool.true_and, Int.toNat_natCast]
  rw [e] at this
  simp only [e2]
  by_cases hh : m < 256 ^ k
  · rw [decide_eq_true (by omega), decide_eq_true (by omega)]
  · rw [decide_eq_false (by omega), decide_eq_false (by omega)]

set_option maxHeartbeats 400000 in
theorem Fits_any (n wd : Int) (w : World) (hn : U64 n) (hw : I64 wd) :
    Calls Try.prog 17 #[.int .u64 n, .int .i64 wd] w fun e w' => e = .returned (.bool (fitsB n wd)) ∧ w = w' := by
  by_cases h1 : 1 ≤ wd
  · by_cases h2 : wd ≤ 8
    · have HM := Lib.hid (fitsB_mid n wd hn h1 h2)
      obtain ⟨hn0, hn1⟩ := hn
      obtain ⟨hw0, hw1⟩ := hw
      go_enter Try.func17, Try.ntmps17
      go_wp2_with (go_at_call 62; refine (Try.bits_Len64 _ _ (by assumption) (by assumption)).mono ?_; rintro e w' ⟨rfl, rfl⟩)
      go_ret
      exact ⟨ret_bool HM.out, rfl⟩
    · have HM := Lib.hid (fitsB_hi n wd h2)
      obtain ⟨hw0, hw1⟩ := hw
      go_enter Try.func17, Try.ntmps17
      go_wp2
      go_ret
      exact ⟨ret_bool HM.out.symm, rfl⟩
  · have HM := Lib.hid (fitsB_lo n wd h1)
    obtain ⟨hw0, hw1⟩ := hw
    go_enter Try.func17, Try.ntmps17
    go_wp2
    go_ret
    exact ⟨ret_bool HM.out.symm, rfl⟩

/-- which fault a place has -/
def winErr (n at_ wd : Int) : Int := if wd < 1 ∨ wd > 8 then 10 else if at_ < 0 ∨ at_ > n ∨ n - at_ < wd then 3 else 0

theorem winErr_10 {n at_ wd : Int} (h : wd < 1 ∨ wd > 8) : winErr n at_ wd = 10 := by simp [winErr, h]
theorem winErr_3 {n at_ wd : Int} (h0 : 1 ≤ wd) (h1 : wd ≤ 8) (h : at_ < 0 ∨ at_ > n ∨ n - at_ < wd) : winErr n at_ wd = 3 := by
  rw [winErr, if_neg (by omega), if_pos h]
theorem winErr_0 {n at_ wd : Int} (h0 : 1 ≤ wd) (h1 : wd ≤ 8) (h2 : 0 ≤ at_) (h3 : at_ + wd ≤ n) : winErr n at_ wd = 0 := by
  rw [winErr, if_neg (by omega), if_neg (by omega)]
theorem winErr_cases (n at_ wd : Int) : (winErr n at_ wd = 10 ∧ (wd < 1 ∨ wd > 8)) ∨ (winErr n at_ wd = 3 ∧ 1 ≤ wd ∧ wd ≤ 8 ∧ (at_ < 0 ∨ at_ > n ∨ n - at_ < wd)) ∨
    (winErr n at_ wd = 0 ∧ 1 ≤ wd ∧ wd ≤ 8 ∧ 0 ≤ at_ ∧ at_ + wd ≤ n) := by
  unfold winErr; split
  · exact .inl ⟨rfl, by assumption⟩
  · split
    · exact .inr (.inl ⟨rfl, by omega, by omega, by assumption⟩)
    · exact .inr (.inr ⟨rfl, by omega, by omega, by omega, by omega⟩)

set_option maxHeartbeats 400000 in
theorem window_bad (A : Option Addr) (n c : Nat) (at_ wd : Int) (w : World) (hm : n ≤ maxLen) (ha : I64 at_) (hw : I64 wd) (he : winErr n at_ wd ≠ 0) :
    Calls Try.prog 61 #[.slice A n c, .int .i64 at_, .int .i64 wd] w fun e w' => e = .returned (.tuple #[.slice none 0 0, .int .i64 (winErr n at_ wd)]) ∧ w = w' := by
  unfold maxLen at hm
  obtain ⟨ha0, ha1⟩ := ha
  obtain ⟨hw0, hw1⟩ := hw
  rcases winErr_cases n at_ wd with ⟨h, hc⟩ | ⟨h, h1, h2, hc⟩ | ⟨h, hc⟩
  · rw [h]; clear h he
    rcases hc with hc | hc
    all_goals
      by_cases h1 : 1 ≤ wd
      all_goals
        first
        | (exfalso; omega)
        | (go_enter Try.func61, Try.ntmps61
           go_wp2
           go_ret2
           exact ⟨rfl, rfl⟩)
  · rw [h]; clear h he
    by_cases h3 : 0 ≤ at_
    · by_cases h4 : at_ ≤ n
      · have h5 : (n : Int) - at_ < wd := by omega
        go_enter Try.func61, Try.ntmps61
        go_wp2
        go_ret2
        exact ⟨rfl, rfl⟩
      · go_enter Try.func61, Try.ntmps61
        go_wp2
        go_ret2
        exact ⟨rfl, rfl⟩
    · go_enter Try.func61, Try.ntmps61
      go_wp2
      go_ret2
      exact ⟨rfl, rfl⟩
  · exact absurd h he

set_option maxHeartbeats 400000 in
theorem window_good (b off n c at_ wd : Nat) (w : World) (hm : n ≤ maxLen) (hnc : n ≤ c) (hc : c ≤ maxLen) (h1 : 1 ≤ wd) (h2 : wd ≤ 8) (h3 : at_ + wd ≤ n) :
    Calls Try.prog 61 #[.slice (some ⟨b, off, none⟩) n c, .int .i64 at_, .int .i64 wd] w fun e w' => e = .returned (.tuple #[.slice (some ⟨b, off + at_, none⟩) wd (c - at_), .int .i64 0]) ∧ w = w' := by
  unfold maxLen at hm hc
  have e1 : at_ + wd - at_ = wd := by omega
  have HE := Lib.hid e1
  clear e1
  go_enter Try.func61, Try.ntmps61
  go_wp2
  rw [HE.out]
  go_ret2
  exact ⟨rfl, rfl⟩
end Go.Proofs.Ytfklhppfehkfaaa

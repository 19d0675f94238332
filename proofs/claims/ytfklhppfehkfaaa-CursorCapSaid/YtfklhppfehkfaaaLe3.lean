import Derived.Test.YtfklhppfehkfaaaLe2
namespace Go.Proofs.Ytfklhppfehkfaaa
open Go.RowKit

/-- the lower bytes of a number, lowest first -/
def leB (x : Int) (i : Nat) : Int := x / 256 ^ i % 256
def leBytes (x : Int) (k : Nat) : List Int := (List.range k).map (leB x)
theorem leBytes_length (x : Int) (k : Nat) : (leBytes x k).length = k := by simp [leBytes]
theorem leBytes_snoc (x : Int) (k : Nat) : leBytes x (k + 1) = leBytes x k ++ [leB x k] := by simp [leBytes, List.range_succ]
theorem leB_bd (x : Int) (i : Nat) : 0 ≤ leB x i ∧ leB x i ≤ 255 := by
  unfold leB; have h0 := Int.emod_nonneg (x / 256 ^ i) (by decide : (256 : Int) ≠ 0); have h1 := Int.emod_lt_of_pos (x / 256 ^ i) (by decide : (0 : Int) < 256); omega
theorem pow_8 (k : Nat) : (2 : Int) ^ (8 * k) = 256 ^ k := by rw [Int.pow_mul]; rfl
def vs8 (zs : List Int) : List Value := zs.map (Value.int .u8)

set_option maxHeartbeats 400000 in
theorem Put_good (b off n c at_ wd : Nat) (x : Int) (w : World) (hm : n ≤ maxLen) (hnc : n ≤ c) (hc : c ≤ maxLen) (h1 : 1 ≤ wd) (h2 : wd ≤ 8) (h3 : at_ + wd ≤ n) (hx : U64 x)
    (hf : fitsB x wd = true) (hcell : ∀ k, k < wd → ∃ v, w.cell? ⟨b, off + at_ + k, none⟩ = some v) (hfz : ∀ k, k < wd → w.frozen? ⟨b, off + at_ + k, none⟩ = false) :
    Calls Try.prog 16 #[.slice (some ⟨b, off, none⟩) n c, .int .i64 at_, .int .i64 wd, .int .u64 x] w fun e w' => e = .returned (.int .i64 0) ∧ setRow w b (off + at_) (vs8 (leBytes x wd)) = w' := by
  have hwin := window_good b off n c at_ wd w hm hnc hc h1 h2 h3
  have hfit := Fits_any x wd w hx ⟨by omega, by omega⟩
  rw [hf] at hfit
  have HW := Lib.hid hwin
  have HF := Lib.hid hfit
  have HC := Lib.hid hcell
  have HZ := Lib.hid hfz
  clear hwin hfit hf hcell hfz
  obtain ⟨hx0, hx1⟩ := hx
  unfold maxLen at hm hc
  go_enter Try.func16, Try.ntmps16
  go_wp2_with (first | (go_at_call 61; refine HW.out.mono ?_; rintro e w' ⟨rfl, rfl⟩) | (go_at_call 17; refine HF.out.mono ?_; rintro e w' ⟨rfl, rfl⟩))
  go_loopw [11, 28] (fun _ i wr => ∃ k : Nat, k ≤ wd ∧ i = .int .i64 k ∧ wr = setRow w b (off + at_) (vs8 (leBytes x k))) (fun _ i _ => wd - (intOf i).toNat)
  case atStart => exact ⟨0, Nat.zero_le _, rfl, rfl⟩
  case round =>
    obtain ⟨k, hk, rfl, rfl⟩ := hrel
    by_cases hlt : k < wd
    · obtain ⟨v, hv⟩ := HC.out k hlt
      have hz := HZ.out k hlt
      have hv' : (setRow w b (off + at_) (vs8 (leBytes x k))).cell? ⟨b, off + at_ + k, none⟩ = some v := by
        rw [setRow_cell_other _ _ _ _ (by simp [vs8, leBytes_length])]; exact hv
      have hz' : (setRow w b (off + at_) (vs8 (leBytes x k))).frozen? ⟨b, off + at_ + k, none⟩ = false := by
        rw [setRow_frozen]; exact hz
      have hs : setRow w b (off + at_) (vs8 (leBytes x (k + 1))) = (setRow w b (off + at_) (vs8 (leBytes x k))).setCell ⟨b, off + at_ + k, none⟩ (.int .u8 (leB x k)) := by
        simp only [vs8, leBytes_snoc, List.map_append, List.map_cons, List.map_nil]; rw [setRow_snoc]; simp [leBytes_length]
      have HS := Lib.hid hs
      clear hs hv hz
      generalize setRow w b (off + at_) (vs8 (leBytes x k)) = wr at *
      go_wp2
      go_roundw
      case rel => refine ⟨k + 1, by omega, by go_num, ?_⟩; rw [HS.out]; congr 2; unfold leB; rw [pow_8]
      case measure => simp [intOf]; omega
    · obtain rfl : k = wd := by omega
      go_wp2
      go_ret
      exact ⟨rfl, rfl⟩

set_option maxHeartbeats 400000 in
theorem Put_unfit (b off n c at_ wd : Nat) (x : Int) (w : World) (hm : n ≤ maxLen) (hnc : n ≤ c) (hc : c ≤ maxLen) (h1 : 1 ≤ wd) (h2 : wd ≤ 8) (h3 : at_ + wd ≤ n) (hx : U64 x)
    (hf : fitsB x wd = false) :
    Calls Try.prog 16 #[.slice (some ⟨b, off, none⟩) n c, .int .i64 at_, .int .i64 wd, .int .u64 x] w fun e w' => e = .returned (.int .i64 10) ∧ w = w' := by
  have hwin := window_good b off n c at_ wd w hm hnc hc h1 h2 h3
  have hfit := Fits_any x wd w hx ⟨by omega, by omega⟩
  rw [hf] at hfit
  have HW := Lib.hid hwin
  have HF := Lib.hid hfit
  clear hwin hfit hf
  go_enter Try.func16, Try.ntmps16
  go_wp2_with (first | (go_at_call 61; refine HW.out.mono ?_; rintro e w' ⟨rfl, rfl⟩) | (go_at_call 17; refine HF.out.mono ?_; rintro e w' ⟨rfl, rfl⟩))
  go_ret
  exact ⟨rfl, rfl⟩

set_option maxHeartbeats 400000 in
theorem Put_bad (A : Option Addr) (n c : Nat) (at_ wd x : Int) (w : World) (hm : n ≤ maxLen) (ha : I64 at_) (hw : I64 wd) (he : winErr n at_ wd ≠ 0) :
    Calls Try.prog 16 #[.slice A n c, .int .i64 at_, .int .i64 wd, .int .u64 x] w fun e w' => e = .returned (.int .i64 (winErr n at_ wd)) ∧ w = w' := by
  have hwin := window_bad A n c at_ wd w hm ha hw he
  have hb : (winErr n at_ wd != 0) = true := by simpa using he
  have HW := Lib.hid hwin
  clear hwin he
  generalize winErr n at_ wd = er at *
  go_enter Try.func16, Try.ntmps16
  go_wp2_with (go_at_call 61; refine HW.out.mono ?_; rintro e w' ⟨rfl, rfl⟩)
  go_ret
  exact ⟨rfl, rfl⟩

set_option maxHeartbeats 400000 in
theorem Get_bad (A : Option Addr) (n c : Nat) (at_ wd : Int) (w : World) (hm : n ≤ maxLen) (ha : I64 at_) (hw : I64 wd) (he : winErr n at_ wd ≠ 0) :
    Calls Try.prog 19 #[.slice A n c, .int .i64 at_, .int .i64 wd] w fun e w' => e = .returned (.tuple #[.int .u64 0, .int .i64 (winErr n at_ wd)]) ∧ w = w' := by
  have hwin := window_bad A n c at_ wd w hm ha hw he
  have hb : (winErr n at_ wd != 0) = true := by simpa using he
  have HW := Lib.hid hwin
  clear hwin he
  generalize winErr n at_ wd = er at *
  go_enter Try.func19, Try.ntmps19
  go_wp2_with (go_at_call 61; refine HW.out.mono ?_; rintro e w' ⟨rfl, rfl⟩)
  go_ret2
  exact ⟨rfl, rfl⟩

/-- what bytes say, the lowest first -/
def leVal : List Int → Int
  | [] => 0
  | z :: zs => z + 256 * leVal zs
theorem leVal_snoc (zs : List Int) (z : Int) : leVal (zs ++ [z]) = leVal zs + 256 ^ zs.length * z := by
  induction zs with
  | nil => simp [leVal]
  | cons x xs ih => simp only [List.cons_append, leVal, ih, List.length_cons, Int.pow_succ]; rw [Int.mul_add, ← Int.mul_assoc, Int.mul_comm 256 (256 ^ xs.length)]; omega
theorem leVal_bd (zs : List Int) (h : ∀ z ∈ zs, U8 z) : 0 ≤ leVal zs ∧ leVal zs < 256 ^ zs.length := by
  induction zs with
  | nil => exact ⟨Int.le_refl _, by decide⟩
  | cons x xs ih =>
    have hx := h x (by simp)
    have hi := ih (fun z hz => h z (by simp [hz]))
    unfold U8 at hx
    simp only [leVal, List.length_cons, Int.pow_succ]
    omega

theorem or_shift (v z : Int) (k : Nat) (hk : k < 8) (h0 : 0 ≤ v) (h1 : v < 256 ^ k) (hz0 : 0 ≤ z) (hz1 : z ≤ 255) :
    bits BinOp.or IntKind.u64 v (IntKind.u64.wrap (z * 2 ^ (8 * k))) = v + 256 ^ k * z := by
  obtain ⟨a, rfl⟩ := Int.eq_ofNat_of_zero_le h0
  obtain ⟨y, rfl⟩ := Int.eq_ofNat_of_zero_le hz0
  have e : (256 : Int) ^ k = ((256 ^ k : Nat) : Int) := by rw [Int.natCast_pow]; rfl
  have e8 : (256 : Nat) ^ k = 2 ^ (8 * k) := by rw [Nat.pow_mul]
  have hp : 256 ^ k ≤ 256 ^ 7 := Nat.pow_le_pow_right (by decide) (by omega)
  have hp0 : 0 < 256 ^ k := Nat.pow_pos (by decide)
  rw [pow_8, e]
  rw [e] at h1
  have ha : a < 256 ^ k := by omega
  have hm : y * 256 ^ k ≤ 255 * 256 ^ 7 := Nat.mul_le_mul (by omega) hp
  have hlt : y * 256 ^ k < 18446744073709551616 := by omega
  have e2 : IntKind.u64.wrap ((y : Int) * ((256 ^ k : Nat) : Int)) = ((y * 256 ^ k : Nat) : Int) := by
    rw [← Int.natCast_mul, IntKind.wrap_u64]; omega
  rw [e2, bits_or_u64_nat a _ (by omega) hlt]
  have h3 := Nat.two_pow_add_eq_or_of_lt (i := 8 * k) (b := a) (by rw [← e8]; exact ha) y
  rw [← e8] at h3
  rw [Nat.mul_comm y, Nat.or_comm, ← h3, Int.natCast_add, Int.natCast_mul, Int.add_comm]

set_option maxHeartbeats 400000 in
theorem Get_good (b off n c at_ wd : Nat) (zs : List Int) (w : World) (hm : n ≤ maxLen) (hnc : n ≤ c) (hc : c ≤ maxLen) (h1 : 1 ≤ wd) (h2 : wd ≤ 8) (h3 : at_ + wd ≤ n) (hl : zs.length = wd)
    (hz : ∀ z ∈ zs, U8 z) (hcell : ∀ k, k < wd → w.cell? ⟨b, off + at_ + k, none⟩ = some (.int .u8 (zs.getD k 0))) :
    Calls Try.prog 19 #[.slice (some ⟨b, off, none⟩) n c, .int .i64 at_, .int .i64 wd] w fun e w' => e = .returned (.tuple #[.int .u64 (leVal zs), .int .i64 0]) ∧ w = w' := by
  have hwin := window_good b off n c at_ wd w hm hnc hc h1 h2 h3
  have HW := Lib.hid hwin
  have HC := Lib.hid hcell
  have HL := Lib.hid hl
  clear hwin hcell hl
  unfold maxLen at hm hc
  go_enter Try.func19, Try.ntmps19
  go_wp2_with (first | (go_at_call 61; refine HW.out.mono ?_; rintro e w' ⟨rfl, rfl⟩))
  go_loop [10, 11, 12, 25] (fun s _ _ i => ∃ k : Nat, k ≤ wd ∧ i = .int .i64 k ∧ s = .int .u64 (leVal (zs.take k))) (fun _ _ _ i => wd - (intOf i).toNat)
  case atStart => exact ⟨0, Nat.zero_le _, rfl, rfl⟩
  case round =>
    obtain ⟨k, hk, rfl, rfl⟩ := hrel
    by_cases hlt : k < wd
    · have hck := HC.out k hlt
      have hlk : k < zs.length := by have := HL.out; omega
      have hx := hz _ (getD_mem hlk)
      have hs := leVal_snoc (zs.take k) (zs.getD k 0)
      rw [← take_snoc_getD hlk, List.length_take, Nat.min_eq_left (by omega)] at hs
      have HS := Lib.hid hs
      have hb := leVal_bd (zs.take k) (fun z hz' => hz z (List.mem_of_mem_take hz'))
      rw [List.length_take, Nat.min_eq_left (by omega)] at hb
      clear hs
      generalize zs.getD k 0 = z at *
      generalize leVal (zs.take k) = v at *
      obtain ⟨hx0, hx1⟩ := hx
      go_wp2
      all_goals
        go_round
        case rel => refine ⟨k + 1, by omega, by go_num, ?_⟩; rw [HS.out, or_shift v z k (by omega) hb.1 hb.2 hx0 hx1]
        case measure => simp [intOf]; omega
    · obtain rfl : k = wd := by omega
      go_wp2
      go_ret2
      exact ⟨by rw [List.take_of_length_le (by have := HL.out; omega)]; rfl, rfl⟩
end Go.Proofs.Ytfklhppfehkfaaa

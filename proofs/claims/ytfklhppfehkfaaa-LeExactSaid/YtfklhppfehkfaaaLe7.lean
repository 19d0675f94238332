import Derived.Test.YtfklhppfehkfaaaLe6
namespace Go.Proofs.Ytfklhppfehkfaaa
open Go.RowKit

set_option maxHeartbeats 400000 in
theorem refsize_any (n : Int) (w : World) (_h0 : -9223372036854775808 ≤ n) (_h1 : n ≤ 9223372036854775807) :
    Calls Try.prog 94 #[.int .i64 n] w fun e w' => e = .returned (.int .i64 (sz n)) ∧ w = w' := by
  go_enter Try.func94, Try.ntmps94
  go_wp2
  all_goals
    go_ret
    exact ⟨ret_int (by unfold sz; omega), rfl⟩

theorem foldl_huge (zs : List Int) : zs.foldl addS 4611686018427387904 = 4611686018427387904 := by
  have := foldl_addS zs 4611686018427387904 (by omega) (by omega)
  have h := sumS_nn zs
  omega
theorem plusL_stop (zs : List Int) (k : Nat) (hk : k < zs.length) (h : 4611686018427387904 - plusL (zs.take k) < sz (zs.getD k 0)) : plusL zs = 4611686018427387904 := by
  have e : plusL zs = (zs.drop (k + 1)).foldl addS (plusL (zs.take (k + 1))) := by
    conv => lhs; rw [← List.take_append_drop (k + 1) zs]
    unfold plusL; rw [List.foldl_append]
  rw [e, take_snoc_getD hk, plusL_snoc]
  have h1 := plusL_bd (zs.take k)
  have h2 := sz_hi (zs.getD k 0)
  have : addS (plusL (zs.take k)) (zs.getD k 0) = 4611686018427387904 := by unfold addS; omega
  rw [this, foldl_huge]

set_option maxHeartbeats 400000 in
theorem refPlus_any (A : Option Addr) (n c : Nat) (zs : List Int) (w : World) (B : Nat) (hr : Row w B A (zs.map (Value.int .i64))) (hn : n = zs.length) (hz : ∀ z ∈ zs, I64 z) (hm : n ≤ maxLen) :
    Calls Try.prog 93 #[.slice A n c] w fun e w' => e = .returned (.int .i64 (plusL zs)) ∧ w = w' := by
  unfold maxLen at hm
  have hr' := hr.ints
  clear hr
  subst hn
  go_enter Try.func93, Try.ntmps93
  go_wp2
  go_loop [3, 4] (fun s i => ∃ k : Nat, k ≤ zs.length ∧ i = .int .i64 k ∧ s = .int .i64 (plusL (zs.take k))) (fun _ i => zs.length - (intOf i).toNat)
  case atStart => exact ⟨0, Nat.zero_le _, rfl, rfl⟩
  case round =>
    obtain ⟨k, hk, rfl, rfl⟩ := hrel
    have hd := plusL_bd (zs.take k)
    obtain ⟨hd0, hd1⟩ := hd
    by_cases hlt : k < zs.length
    · obtain ⟨b, off, rfl, hb, hc⟩ := hr' (by omega)
      have hck := hc k hlt
      have hx := hz _ (getD_mem hlt)
      have hs := plusL_snoc (zs.take k) (zs.getD k 0)
      rw [← take_snoc_getD hlt] at hs
      have HS := Lib.hid hs
      have HE := Lib.hid (plusL_stop zs k hlt)
      clear hs hc
      generalize zs.getD k 0 = x at *
      obtain ⟨hx0, hx1⟩ := hx
      have h2 := sz_lo x
      have h3 := sz_hi x
      by_cases hbig : 4611686018427387904 - plusL (zs.take k) < sz x
      · go_wp2_with (go_at_call 94; refine (refsize_any _ _ hx0 hx1).mono ?_; rintro e w' ⟨rfl, rfl⟩)
        go_ret
        exact ⟨ret_int (HE.out hbig).symm, rfl⟩
      · go_wp2_with (go_at_call 94; refine (refsize_any _ _ hx0 hx1).mono ?_; rintro e w' ⟨rfl, rfl⟩)
        go_round
        case rel => exact ⟨k + 1, by omega, by go_num, by rw [HS.out]; unfold addS; congr 1; omega⟩
        case measure => simp [intOf]; omega
    · obtain rfl : k = zs.length := by omega
      go_wp2
      go_ret
      exact ⟨ret_int (by simp), rfl⟩

theorem timesS_zero {a b : Int} (h : sz a = 0 ∨ sz b = 0) : timesS a b = 0 := by
  unfold timesS; rcases h with h | h <;> rw [h] <;> simp [m0]
theorem timesS_big {a b : Int} (hb : 0 < sz b) (h : 4611686018427387904 / sz b < sz a) : timesS a b = 4611686018427387904 := by
  have : 4611686018427387904 < sz a * sz b := by
    have h1 := Int.lt_mul_of_ediv_lt hb h
    exact h1
  unfold timesS; omega
theorem timesS_small {a b : Int} (hb : 0 < sz b) (h : sz a ≤ 4611686018427387904 / sz b) : timesS a b = sz a * sz b ∧ sz a * sz b ≤ 4611686018427387904 := by
  have := Int.mul_le_of_le_ediv hb h
  unfold timesS; omega

set_option maxHeartbeats 400000 in
theorem refTimes_any (a b : Int) (w : World) (ha : I64 a) (hb : I64 b) :
    Calls Try.prog 60 #[.int .i64 a, .int .i64 b] w fun e w' => e = .returned (.int .i64 (timesS a b)) ∧ w = w' := by
  obtain ⟨ha0, ha1⟩ := ha
  obtain ⟨hb0, hb1⟩ := hb
  have h1 := sz_lo a
  have h2 := sz_hi a
  have h3 := sz_lo b
  have h4 := sz_hi b
  have HZ := Lib.hid (@timesS_zero a b)
  have HB := Lib.hid (@timesS_big a b)
  have HS := Lib.hid (@timesS_small a b)
  by_cases hz : sz a = 0 ∨ sz b = 0
  · have hz' := HZ.out hz
    have HH := Lib.hid hz'
    clear hz' HZ HB HS
    have hq : ((sz a == 0) || (sz b == 0)) = true := by rcases hz with h | h <;> simp [h]
    clear hz
    go_enter Try.func60, Try.ntmps60
    go_wp2_with (go_at_call 94; refine (refsize_any _ _ (by assumption) (by assumption)).mono ?_; rintro e w' ⟨rfl, rfl⟩)
    all_goals
      go_ret
      exact ⟨ret_int HH.out.symm, rfl⟩
  · have hqa : (sz a == 0) = false := by simp; omega
    have hqb : (sz b == 0) = false := by simp; omega
    have hb1 : 1 ≤ sz b := by omega
    clear hz HZ
    by_cases hbig : 4611686018427387904 / sz b < sz a
    · have HH := Lib.hid (HB.out (by omega) hbig)
      clear HB HS
      go_enter Try.func60, Try.ntmps60
      go_wp2_with (go_at_call 94; refine (refsize_any _ _ (by assumption) (by assumption)).mono ?_; rintro e w' ⟨rfl, rfl⟩)
      go_ret
      exact ⟨ret_int HH.out.symm, rfl⟩
    · obtain ⟨hh, hle⟩ := HS.out (by omega) (by omega)
      have hnn : 0 ≤ sz a * sz b := Int.mul_nonneg h1 h3
      have HH := Lib.hid hh
      clear HB HS hh
      go_enter Try.func60, Try.ntmps60
      go_wp2_with (go_at_call 94; refine (refsize_any _ _ (by assumption) (by assumption)).mono ?_; rintro e w' ⟨rfl, rfl⟩)
      go_ret
      exact ⟨ret_int HH.out.symm, rfl⟩

theorem fits_div (x : Int) (wd : Nat) (h0 : 0 ≤ x) (h1 : 1 ≤ wd) (h2 : wd ≤ 8) : (x / 256 ^ wd == 0) = fitsB x wd := by
  rw [fitsB_iff x wd h1 h2]
  have hp : (0 : Int) < 256 ^ wd := Int.pow_pos (by decide)
  by_cases h : x < 256 ^ wd
  · rw [Int.ediv_eq_zero_of_lt h0 h, decide_eq_true h]; rfl
  · have := Int.le_ediv_of_mul_le hp (a := 1) (b := x) (by omega)
    rw [decide_eq_false h]
    simp; omega
theorem div_step (x : Int) (k : Nat) : x / 256 ^ k / 256 = x / 256 ^ (k + 1) := by
  rw [Int.ediv_ediv_of_nonneg (Int.pow_nonneg (by decide)), Int.pow_succ]

theorem u64_quo (x : Int) (h0 : 0 ≤ x) (h1 : x ≤ 18446744073709551615) : IntKind.u64.wrap (x.tdiv 256) = x / 256 := by
  rw [Int.tdiv_eq_ediv_of_nonneg h0, IntKind.wrap_u64]; omega
theorem u64_rem (x : Int) (h0 : 0 ≤ x) (h1 : x ≤ 18446744073709551615) : IntKind.u64.wrap (x.tmod 256) = x % 256 := by
  rw [Int.tmod_eq_emod_of_nonneg h0, IntKind.wrap_u64]; omega
set_option maxHeartbeats 400000 in
theorem refFits_any (n wd : Int) (w : World) (hn : U64 n) (hw : I64 wd) :
    Calls Try.prog 54 #[.int .u64 n, .int .i64 wd] w fun e w' => e = .returned (.bool (fitsB n wd)) ∧ w = w' := by
  obtain ⟨hw0, hw1⟩ := hw
  obtain ⟨hn0, hn1⟩ := hn
  by_cases h1 : 1 ≤ wd
  · by_cases h2 : wd ≤ 8
    · obtain ⟨d, rfl⟩ := Int.eq_ofNat_of_zero_le (by omega : 0 ≤ wd)
      have HM := Lib.hid (fits_div n d hn0 (by omega) (by omega))
      go_enter Try.func54, Try.ntmps54
      go_wp2
      go_loop [0, 5] (fun s i => ∃ k : Nat, k ≤ d ∧ i = .int .i64 k ∧ s = .int .u64 (n / 256 ^ k)) (fun _ i => d - (intOf i).toNat)
      case atStart => exact ⟨0, Nat.zero_le _, rfl, by simp⟩
      case round =>
        obtain ⟨k, hk, rfl, rfl⟩ := hrel
        have hq0 : 0 ≤ n / 256 ^ k := Int.ediv_nonneg hn0 (Int.pow_nonneg (by decide))
        have HD := Lib.hid (div_step n k)
        by_cases hlt : k < d
        · go_wp2
          go_round
          case rel => exact ⟨k + 1, by omega, by go_num, by rw [← HD.out, u64_quo _ hq0 (Int.le_trans (Int.ediv_le_self _ hn0) hn1)]⟩
          case measure => simp [intOf]; omega
        · obtain rfl : k = d := by omega
          go_wp2
          go_ret
          exact ⟨ret_bool HM.out, rfl⟩
    · have HM := Lib.hid (fitsB_hi n wd h2)
      go_enter Try.func54, Try.ntmps54
      go_wp2
      go_ret
      exact ⟨ret_bool HM.out.symm, rfl⟩
  · have HM := Lib.hid (fitsB_lo n wd h1)
    go_enter Try.func54, Try.ntmps54
    go_wp2
    go_ret
    exact ⟨ret_bool HM.out.symm, rfl⟩

def placeB (n at_ wd : Int) : Bool := decide (0 ≤ at_) && decide (at_ ≤ n) && decide (wd ≤ n - at_)
set_option maxHeartbeats 400000 in
theorem place_any (n at_ wd : Int) (w : World) (hn : 0 ≤ n) (hn1 : n ≤ 9223372036854775807) (ha : I64 at_) :
    Calls Try.prog 92 #[.int .i64 n, .int .i64 at_, .int .i64 wd] w fun e w' => e = .returned (.bool (placeB n at_ wd)) ∧ w = w' := by
  obtain ⟨ha0, ha1⟩ := ha
  by_cases h0 : 0 ≤ at_
  · by_cases h1 : at_ ≤ n
    · go_enter Try.func92, Try.ntmps92
      go_wp2
      go_ret
      exact ⟨ret_bool (by simp [placeB, h0, h1]), rfl⟩
    · go_enter Try.func92, Try.ntmps92
      go_wp2
      go_ret
      exact ⟨ret_bool (by simp [placeB, h1]; omega), rfl⟩
  · go_enter Try.func92, Try.ntmps92
    go_wp2
    go_ret
    exact ⟨ret_bool (by simp [placeB, h0]; omega), rfl⟩
theorem placeB_no {n at_ wd : Int} (h : at_ < 0 ∨ at_ > n ∨ n - at_ < wd) : placeB n at_ wd = false := by
  unfold placeB
  rcases h with h | h | h
  · rw [decide_eq_false (by omega)]; rfl
  · rw [decide_eq_false (by omega : ¬ at_ ≤ n)]; simp
  · rw [decide_eq_false (by omega : ¬ wd ≤ n - at_)]; simp
theorem placeB_yes {n at_ wd : Int} (h0 : 0 ≤ at_) (h1 : at_ + wd ≤ n) (h2 : 1 ≤ wd) : placeB n at_ wd = true := by
  unfold placeB
  rw [decide_eq_true h0, decide_eq_true (by omega), decide_eq_true (by omega)]; rfl

set_option maxHeartbeats 400000 in
theorem refPut_bad (A : Option Addr) (n c : Nat) (at_ wd x : Int) (w : World) (hm : n ≤ maxLen) (ha : I64 at_) (hw : I64 wd) (he : winErr n at_ wd ≠ 0) :
    Calls Try.prog 56 #[.slice A n c, .int .i64 at_, .int .i64 wd, .int .u64 x] w fun e w' => e = .returned (.int .i64 (winErr n at_ wd)) ∧ w = w' := by
  have hpl := place_any n at_ wd w (by omega) (by unfold maxLen at hm; omega) ha
  obtain ⟨hw0, hw1⟩ := hw
  rcases winErr_cases n at_ wd with ⟨h, hc⟩ | ⟨h, h1, h2, hc⟩ | ⟨h, hc⟩
  · rw [h]; clear h he hpl
    rcases hc with hc | hc
    all_goals
      by_cases h1 : 1 ≤ wd
      all_goals
        first
        | (exfalso; omega)
        | (go_enter Try.func56, Try.ntmps56
           go_wp2
           go_ret
           exact ⟨rfl, rfl⟩)
  · rw [h]; rw [placeB_no hc] at hpl; have HP := Lib.hid hpl; clear h he hpl hc
    go_enter Try.func56, Try.ntmps56
    go_wp2_with (go_at_call 92; refine HP.out.mono ?_; rintro e w' ⟨rfl, rfl⟩)
    go_ret
    exact ⟨rfl, rfl⟩
  · exact absurd h he

set_option maxHeartbeats 400000 in
theorem refPut_unfit (A : Option Addr) (n c : Nat) (at_ wd : Nat) (x : Int) (w : World) (hm : n ≤ maxLen) (h1 : 1 ≤ wd) (h2 : wd ≤ 8) (h3 : at_ + wd ≤ n) (hx : U64 x) (hf : fitsB x wd = false) :
    Calls Try.prog 56 #[.slice A n c, .int .i64 at_, .int .i64 wd, .int .u64 x] w fun e w' => e = .returned (.int .i64 10) ∧ w = w' := by
  have hpl := place_any n at_ wd w (by omega) (by unfold maxLen at hm; omega) ⟨by omega, by unfold maxLen at hm; omega⟩
  rw [placeB_yes (by omega) (by omega) (by omega)] at hpl
  have hfit := refFits_any x wd w hx ⟨by omega, by omega⟩
  rw [hf] at hfit
  have HP := Lib.hid hpl
  have HF := Lib.hid hfit
  clear hpl hfit hf
  go_enter Try.func56, Try.ntmps56
  go_wp2_with (first | (go_at_call 92; refine HP.out.mono ?_; rintro e w' ⟨rfl, rfl⟩) | (go_at_call 54; refine HF.out.mono ?_; rintro e w' ⟨rfl, rfl⟩))
  go_ret
  exact ⟨rfl, rfl⟩

set_option maxHeartbeats 400000 in
theorem refPut_good (b off n c at_ wd : Nat) (x : Int) (w : World) (hm : n ≤ maxLen) (h1 : 1 ≤ wd) (h2 : wd ≤ 8) (h3 : at_ + wd ≤ n) (hx : U64 x)
    (hf : fitsB x wd = true) (hcell : ∀ k, k < wd → ∃ v, w.cell? ⟨b, off + at_ + k, none⟩ = some v) (hfz : ∀ k, k < wd → w.frozen? ⟨b, off + at_ + k, none⟩ = false) :
    Calls Try.prog 56 #[.slice (some ⟨b, off, none⟩) n c, .int .i64 at_, .int .i64 wd, .int .u64 x] w fun e w' => e = .returned (.int .i64 0) ∧ setRow w b (off + at_) (vs8 (leBytes x wd)) = w' := by
  have hpl := place_any n at_ wd w (by omega) (by unfold maxLen at hm; omega) ⟨by omega, by unfold maxLen at hm; omega⟩
  rw [placeB_yes (by omega) (by omega) (by omega)] at hpl
  have hfit := refFits_any x wd w hx ⟨by omega, by omega⟩
  rw [hf] at hfit
  have HP := Lib.hid hpl
  have HF := Lib.hid hfit
  have HC := Lib.hid hcell
  have HZ := Lib.hid hfz
  clear hpl hfit hf hcell hfz
  obtain ⟨hx0, hx1⟩ := hx
  unfold maxLen at hm
  go_enter Try.func56, Try.ntmps56
  go_wp2_with (first | (go_at_call 92; refine HP.out.mono ?_; rintro e w' ⟨rfl, rfl⟩) | (go_at_call 54; refine HF.out.mono ?_; rintro e w' ⟨rfl, rfl⟩))
  go_loopw [3, 9] (fun s i wr => ∃ k : Nat, k ≤ wd ∧ i = .int .i64 k ∧ s = .int .u64 (x / 256 ^ k) ∧ wr = setRow w b (off + at_) (vs8 (leBytes x k))) (fun _ i _ => wd - (intOf i).toNat)
  case atStart => exact ⟨0, Nat.zero_le _, rfl, by simp, rfl⟩
  case round =>
    obtain ⟨k, hk, rfl, rfl, rfl⟩ := hrel
    by_cases hlt : k < wd
    · obtain ⟨v, hv⟩ := HC.out k hlt
      have hz := HZ.out k hlt
      have hv' : (setRow w b (off + at_) (vs8 (leBytes x k))).cell? ⟨b, off + (at_ + k), none⟩ = some v := by
        rw [setRow_cell_other _ _ _ _ (by simp [vs8, leBytes_length]; omega), ← Nat.add_assoc]; exact hv
      have hz' : (setRow w b (off + at_) (vs8 (leBytes x k))).frozen? ⟨b, off + (at_ + k), none⟩ = false := by
        rw [setRow_frozen, ← Nat.add_assoc]; exact hz
      have hs : setRow w b (off + at_) (vs8 (leBytes x (k + 1))) = (setRow w b (off + at_) (vs8 (leBytes x k))).setCell ⟨b, off + (at_ + k), none⟩ (.int .u8 (leB x k)) := by
        simp only [vs8, leBytes_snoc, List.map_append, List.map_cons, List.map_nil]; rw [setRow_snoc]; simp [leBytes_length, Nat.add_assoc]
      have hq0 : 0 ≤ x / 256 ^ k := Int.ediv_nonneg hx0 (Int.pow_nonneg (by decide))
      have hq1 : x / 256 ^ k ≤ 18446744073709551615 := Int.le_trans (Int.ediv_le_self _ hx0) hx1
      have HS := Lib.hid hs
      have HD := Lib.hid (div_step x k)
      have hidx : (at_ : Int) + k < n := by omega
      clear hs hv hz
      generalize setRow w b (off + at_) (vs8 (leBytes x k)) = wr at *
      go_wp2
      go_roundw
      case rel => exact ⟨k + 1, by omega, by go_num, by rw [← HD.out], by rw [HS.out]; rfl⟩
      case measure => simp [intOf]; omega
    · obtain rfl : k = wd := by omega
      go_wp2
      go_ret
      exact ⟨rfl, rfl⟩

set_option maxHeartbeats 400000 in
theorem refGet_bad (A : Option Addr) (n c : Nat) (at_ wd : Int) (w : World) (hm : n ≤ maxLen) (ha : I64 at_) (hw : I64 wd) (he : winErr n at_ wd ≠ 0) :
    Calls Try.prog 58 #[.slice A n c, .int .i64 at_, .int .i64 wd] w fun e w' => e = .returned (.tuple #[.int .u64 0, .int .i64 (winErr n at_ wd)]) ∧ w = w' := by
  have hpl := place_any n at_ wd w (by omega) (by unfold maxLen at hm; omega) ha
  obtain ⟨hw0, hw1⟩ := hw
  rcases winErr_cases n at_ wd with ⟨h, hc⟩ | ⟨h, h1, h2, hc⟩ | ⟨h, hc⟩
  · rw [h]; clear h he hpl
    rcases hc with hc | hc
    all_goals
      by_cases h1 : 1 ≤ wd
      all_goals
        first
        | (exfalso; omega)
        | (go_enter Try.func58, Try.ntmps58
           go_wp2
           go_ret2
           exact ⟨rfl, rfl⟩)
  · rw [h]; rw [placeB_no hc] at hpl; have HP := Lib.hid hpl; clear h he hpl hc
    go_enter Try.func58, Try.ntmps58
    go_wp2_with (go_at_call 92; refine HP.out.mono ?_; rintro e w' ⟨rfl, rfl⟩)
    go_ret2
    exact ⟨rfl, rfl⟩
  · exact absurd h he

theorem leVal_drop (zs : List Int) (k : Nat) (h : k < zs.length) : leVal (zs.drop k) = zs.getD k 0 + 256 * leVal (zs.drop (k + 1)) := by
  rw [List.drop_eq_getElem_cons h]; simp [leVal, List.getD_eq_getElem?_getD, List.getElem?_eq_getElem h]

set_option maxHeartbeats 400000 in
theorem refGet_good (b off n c at_ wd : Nat) (zs : List Int) (w : World) (hm : n ≤ maxLen) (h1 : 1 ≤ wd) (h2 : wd ≤ 8) (h3 : at_ + wd ≤ n) (hl : zs.length = wd)
    (hz : ∀ z ∈ zs, U8 z) (hcell : ∀ k, k < wd → w.cell? ⟨b, off + at_ + k, none⟩ = some (.int .u8 (zs.getD k 0))) :
    Calls Try.prog 58 #[.slice (some ⟨b, off, none⟩) n c, .int .i64 at_, .int .i64 wd] w fun e w' => e = .returned (.tuple #[.int .u64 (leVal zs), .int .i64 0]) ∧ w = w' := by
  have hpl := place_any n at_ wd w (by omega) (by unfold maxLen at hm; omega) ⟨by omega, by unfold maxLen at hm; omega⟩
  rw [placeB_yes (by omega) (by omega) (by omega)] at hpl
  have HP := Lib.hid hpl
  have HC := Lib.hid hcell
  have HL := Lib.hid hl
  clear hpl hcell hl
  unfold maxLen at hm
  go_enter Try.func58, Try.ntmps58
  go_wp2_with (go_at_call 92; refine HP.out.mono ?_; rintro e w' ⟨rfl, rfl⟩)
  go_loop [8, 9] (fun s i => ∃ j : Nat, j ≤ wd ∧ i = .int .i64 ((j : Int) - 1) ∧ s = .int .u64 (leVal (zs.drop j))) (fun _ i => (intOf i + 1).toNat)
  case atStart => exact ⟨wd, Nat.le_refl _, rfl, by rw [List.drop_of_length_le (by have := HL.out; omega)]; rfl⟩
  case round =>
    obtain ⟨j, hj, rfl, rfl⟩ := hrel
    cases j with
    | zero =>
      go_wp2
      go_ret2
      exact ⟨rfl, rfl⟩
    | succ k =>
      have e1 : ((k + 1 : Nat) : Int) - 1 = k := by omega
      rw [e1]
      clear e1
      have hck := HC.out k (by omega)
      rw [Nat.add_assoc] at hck
      have hlk : k < zs.length := by have := HL.out; omega
      have hx := hz _ (getD_mem hlk)
      have HS := Lib.hid (leVal_drop zs k hlk)
      have hb := leVal_bd (zs.drop (k + 1)) (fun z hz' => hz z (List.mem_of_mem_drop hz'))
      have hp : (256 : Int) ^ (zs.drop (k + 1)).length ≤ 256 ^ 7 := by
        have : ((256 ^ (zs.drop (k + 1)).length : Nat) : Int) ≤ ((256 ^ 7 : Nat) : Int) := by
          refine Int.ofNat_le.2 (Nat.pow_le_pow_right (by decide) ?_)
          have := HL.out; rw [List.length_drop]; omega
        simpa using this
      generalize zs.getD k 0 = z at *
      generalize leVal (zs.drop (k + 1)) = v at *
      obtain ⟨hx0, hx1⟩ := hx
      obtain ⟨hb0, hb1⟩ := hb
      have hb2 : v ≤ 72057594037927935 := by omega
      clear hb1 hp
      have hidx : (at_ : Int) + k < n := by omega
      go_wp2
      go_round
      case rel => exact ⟨k, by omega, rfl, by rw [HS.out]; congr 1; omega⟩
      case measure => simp [intOf]
end Go.Proofs.Ytfklhppfehkfaaa

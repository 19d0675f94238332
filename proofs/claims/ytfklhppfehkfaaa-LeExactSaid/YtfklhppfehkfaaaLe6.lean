import Derived.Test.YtfklhppfehkfaaaLe5
import Derived.Test.YtfklhppfehkfaaaMem
namespace Go.Proofs.Ytfklhppfehkfaaa
open Go.RowKit

theorem u8_info : (Try.prog.info? 5).map (fun i => (i.zero, i.size, i.bytes)) = some (some (.int .u8 0), 1, 1) := by kernel_rfl

theorem leB_shift (x : Int) (lo i : Nat) : leB x (lo + i) = leB (x / 256 ^ lo) i := by
  unfold leB
  have h : (0 : Int) ≤ 256 ^ lo := Int.pow_nonneg (by decide)
  rw [Int.ediv_ediv_of_nonneg h, Int.pow_add]
theorem leVal_leBytes (x : Int) (hx : 0 ≤ x) (k : Nat) : leVal (leBytes x k) = x % 256 ^ k := by
  induction k with
  | zero => simp [leBytes, leVal, Int.emod_one]
  | succ k ih =>
    rw [leBytes_snoc, leVal_snoc, ih, leBytes_length]
    unfold leB
    have hp : (0 : Int) < 256 ^ k := Int.pow_pos (by decide)
    rw [Int.pow_succ]
    generalize (256 : Int) ^ k = M at *
    have h1 := Int.emod_emod_of_dvd x (Int.dvd_mul_right M 256)
    have h2 : x % (M * 256) = x % M + M * (x / M % 256) := by
      have e1 := Int.emod_add_mul_ediv x M
      have e2 := Int.emod_add_mul_ediv (x / M) 256
      have e3 : x / (M * 256) = x / M / 256 := (Int.ediv_ediv_of_nonneg (by omega)).symm
      have e4 := Int.emod_add_mul_ediv x (M * 256)
      rw [e3] at e4
      have e5 : M * (x / M) = M * (x / M % 256) + M * 256 * (x / M / 256) := by
        conv => lhs; rw [← e2]
        rw [Int.mul_add, Int.mul_assoc]
      omega
    rw [h2]
theorem leVal_from (x : Int) (hx : 0 ≤ x) (lo k : Nat) : leVal ((List.range k).map fun i => leB x (lo + i)) = x / 256 ^ lo % 256 ^ k := by
  have h : (0 : Int) < 256 ^ lo := Int.pow_pos (by decide)
  rw [← leVal_leBytes _ (Int.ediv_nonneg hx (by omega)) k]
  unfold leBytes
  congr 1
  exact List.map_congr_left fun i _ => leB_shift x lo i
/-- a number out of its halves -/
theorem halves (x : Int) (hx : 0 ≤ x) (lo wd : Nat) (h : lo ≤ wd) (hf : x < 256 ^ wd) : x % 256 ^ lo + 256 ^ lo * (x / 256 ^ lo % 256 ^ (wd - lo)) = x := by
  have hp : (0 : Int) < 256 ^ lo := Int.pow_pos (by decide)
  have e : (256 : Int) ^ wd = 256 ^ lo * 256 ^ (wd - lo) := by rw [← Int.pow_add, Nat.add_sub_cancel' h]
  have h1 : x / 256 ^ lo < 256 ^ (wd - lo) := Int.ediv_lt_of_lt_mul hp (by rw [Int.mul_comm, ← e]; exact hf)
  rw [Int.emod_eq_of_lt (Int.ediv_nonneg hx (by omega)) h1]
  exact Int.emod_add_mul_ediv x _
theorem fitsB_iff (x : Int) (wd : Nat) (h1 : 1 ≤ wd) (h2 : wd ≤ 8) : fitsB x wd = decide (x < 256 ^ wd) := by
  simp only [fitsB, Int.toNat_natCast]
  rw [decide_eq_true (by omega), decide_eq_true (by omega)]
  simp
/-- what a slice's cells are behind a writing over -/
theorem put_mid {cs : List Value} {at_ wd k : Nat} {x : Int} (h : at_ + wd ≤ cs.length) (hk : k < wd) : (putAt cs at_ (vs8 (leBytes x wd)))[at_ + k]? = some (.int .u8 (leB x k)) := by
  rw [putAt_get _ _ _ _ (by simp [vs8, leBytes_length]; exact h), if_pos (by simp [vs8, leBytes_length]; exact hk)]
  rw [Nat.add_sub_cancel_left]
  simp [vs8, leBytes, hk]
theorem put_out {cs : List Value} {at_ wd k : Nat} {x : Int} (h : at_ + wd ≤ cs.length) (hk : k < at_ ∨ at_ + wd ≤ k) : (putAt cs at_ (vs8 (leBytes x wd)))[k]? = cs[k]? := by
  rw [putAt_get _ _ _ _ (by simp [vs8, leBytes_length]; exact h), if_neg (by simp [vs8, leBytes_length]; omega)]

theorem mod_self (x : Int) (h0 : 0 ≤ x) (hf : x < 256 ^ 1) : (x % 256 == x) = true := by
  have : x < 256 := by simpa using hf
  simp; omega
theorem leBytes_getD (x : Int) (wd k : Nat) (h : k < wd) : (leBytes x wd).getD k 0 = leB x k := by simp [leBytes, List.getD_eq_getElem?_getD, h]
theorem one_ints (zs : List Int) (k : IntKind) : ∀ u ∈ zs.map (Value.int k), u.oneCell' = true := fun u hu => by
  obtain ⟨z, _, rfl⟩ := List.mem_map.1 hu
  rfl

set_option maxHeartbeats 1000000 in
set_option maxRecDepth 100000 in
theorem LeBack_any (A : Option Addr) (n c : Nat) (zs0 : List Int) (at0 wd0 x cut : Int) (w : World) (hr : Row w w.heap.size A (zs0.map (Value.int .u8))) (hn : n = zs0.length) (hz0 : ∀ z ∈ zs0, U8 z)
    (hnc0 : n ≤ c) (hcm : c ≤ maxLen) (hat : I64 at0) (hwd : I64 wd0) (hx : U64 x) (hcut : I64 cut) :
    Calls Try.prog 4 #[.slice A n c, .int .i64 at0, .int .i64 wd0, .int .u64 x, .int .i64 cut] w fun e w' => e = .returned (.bool true) ∧ Below w.heap.size w w' := by
  obtain ⟨i0, hi, hz0', hz1, hz2⟩ := info_parts u8_info
  subst hn
  unfold maxLen at hcm
  go_enter Try.func4, Try.ntmps4
  go_upto_if 24 with ((refine (awake01_any _).mono ?_; rintro e w1 ⟨rfl, hb1⟩))
  have hr1 := hr.below hb1
  go_cut [0] (fun s0 wx => ∃ L : List Int, s0 = .slice A L.length c ∧ L.length ≤ 2000 ∧ L.length ≤ c ∧ Row wx w.heap.size A (L.map (Value.int .u8)) ∧ (∀ z ∈ L, U8 z) ∧ Below w.heap.size w wx)
  case first =>
    by_cases hbig : 2000 < zs0.length
    · have hc0 : (2000 : Int) ≤ c := by omega
      have hlen : (zs0.take 2000).length = 2000 := by rw [List.length_take]; omega
      have HL := Lib.hid hlen
      clear hlen
      go_wp2_with fail
      go_meet
      exact ⟨zs0.take 2000, by rw [HL.out], by rw [HL.out]; omega, by rw [HL.out]; omega, hr1.take 2000, fun z hz' => hz0 z (List.mem_of_mem_take hz'), hb1⟩
    · go_wp2_with fail
      go_meet
      exact ⟨zs0, rfl, by omega, hnc0, hr1, hz0, hb1⟩
  case rest =>
  obtain ⟨zs, rfl, hm, hnc, hr1', hz, hb1'⟩ := hcut
  clear hr1 hb1 hz0 hr hnc0
  clear w1
  obtain ⟨w1, hw1⟩ : ∃ w1, w1 = wc := ⟨_, rfl⟩
  subst hw1
  go_upto_if 32 with ((refine (rest_nat wd0 1 8 _ hwd (by decide) (by decide)).mono ?_; rintro e w' ⟨wd, ⟨hwd1, hwd2⟩, rfl, rfl⟩))
  go_cut [0] (fun s0 wx => ∃ (A' : Option Addr) (c' : Nat) (L : List Int), s0 = .slice A' L.length c' ∧ wd ≤ L.length ∧ L.length ≤ 2008 ∧ L.length ≤ c' ∧ c' ≤ maxLen ∧ Row wx wx.heap.size A' (L.map (Value.int .u8)) ∧ (∀ z ∈ L, U8 z) ∧ Below w.heap.size w wx)
  case first =>
    by_cases hs : (zs.length : Int) < wd
    · have hone := one_ints zs .u8
      go_wp2_with (first
        | (at_builtin; refine wpList_append_row _ rfl _ _ 25 rfl w1.heap.size 5 i0 (.int .u8 0) 1 1 Try.underlying25 hi hz0' hz1 hz2 rfl (by decide) _ 0 [] rfl (World.ownsRow_nil _ _ _ _) w.heap.size A zs.length c (zs.map (Value.int .u8)) rfl hr1' (by simp) hone (by unfold maxLen; omega) (by omega) (Nat.le_refl _) ?_; intro v2 w2 hown2 hg2 hat2)
        | (at_builtin; refine wpList_append_zeros _ rfl _ _ 25 3 rfl w1.heap.size 5 i0 (.int .u8 0) 1 Try.underlying25 Try.underlying3 hi hz0' hz1 hz2 rfl rfl _ (0 + zs.length) _ rfl hown2 8 rfl (by decide) (by unfold maxLen; omega) (by omega) hg2.size ?_; intro v3 w3 hown3 hg3 hat3))
      obtain ⟨A3, c3, rfl, h3a, h3b, h3c, hr3⟩ := Row.of_own hown3
      go_meet
      have hL : ((zs ++ List.replicate 8 0).map (Value.int .u8)) = [] ++ zs.map (Value.int .u8) ++ List.replicate 8 (Value.int .u8 0) := by simp
      have hlen : (zs ++ List.replicate 8 (0 : Int)).length = 0 + zs.length + 8 := by simp
      refine ⟨A3, c3, zs ++ List.replicate 8 0, by rw [hlen], by omega, by omega, by omega, h3b, by rw [hL]; exact hr3, ?_, ?_⟩
      · intro z hz'
        rcases List.mem_append.1 hz' with h | h
        · exact hz z h
        · rw [List.eq_of_mem_replicate h]; exact ⟨by decide, by decide⟩
      · refine (hb1'.grown hg2 hb1'.size (fun q hq => by cases hq)).grown hg3 (Nat.le_trans hb1'.size hg2.size) (fun q hq => Nat.le_trans hb1'.size (hown2.lt q hq).1)
    · go_wp2_with fail
      go_meet
      exact ⟨A, c, zs, rfl, by omega, by omega, hnc, by unfold maxLen; omega, hr1'.more hb1'.size, hz, hb1'⟩
  case rest =>
  obtain ⟨A2, c2, bs, rfl, h2w, h2n, h2c, h2m, hr2, hz2', hb2⟩ := hcut
  clear hr1' hb1' hz hnc hm hcm
  unfold maxLen at h2m
  obtain ⟨w2, hw2⟩ : ∃ w2, w2 = wc := ⟨_, rfl⟩
  subst hw2
  go_wp2_with fail
  have hsub : ((bs.length : Int) - wd) = ((bs.length - wd : Nat) : Int) := by omega
  rw [hsub]
  clear hsub
  refine (rest_nat at0 0 (bs.length - wd) _ hat (Nat.zero_le _) (by omega)).mono ?_; rintro e w' ⟨p, ⟨hp0, hp1⟩, rfl, rfl⟩
  have hone := one_ints bs .u8
  go_wp2_with (at_builtin; refine wpList_append_row _ rfl _ _ 25 rfl w2.heap.size 5 i0 (.int .u8 0) 1 1 Try.underlying25 hi hz0' hz1 hz2 rfl (by decide) _ 0 [] rfl (World.ownsRow_nil _ _ _ _) w2.heap.size A2 bs.length c2 (bs.map (Value.int .u8)) rfl hr2 (by simp) hone (by unfold maxLen; omega) (by omega) (Nat.le_refl _) ?_; intro v3 w3 hown3 hg3 hat3)
  have hown4 : w3.ownsRow w2.heap.size 5 1 v3 bs.length (bs.map (Value.int .u8)) := by simpa using hown3
  clear hown3
  obtain ⟨g, cs, rfl, hgb, hgl, hblk, hgn, hgm, htake⟩ := own_blk hown4 (by omega)
  have hb3 : Below w2.heap.size w2 w3 := (Below.refl _ _).grown hg3 (Nat.le_refl _) (fun q hq => by cases hq)
  clear hown4 hg3 hat3
  have hcsk : ∀ k, k < bs.length → cs[k]? = some (.int .u8 (bs.getD k 0)) := fun k hk => by
    have e : (cs.take bs.length)[k]? = (bs.map (Value.int .u8))[k]? := by rw [htake]
    rw [List.getElem?_take_of_lt hk, List.getElem?_map, List.getElem?_eq_getElem hk] at e
    rw [e]; simp [List.getD_eq_getElem?_getD, List.getElem?_eq_getElem hk]
  have hgm' := hgm
  unfold maxLen at hgm'
  have hmx : bs.length ≤ maxLen := by unfold maxLen; omega
  by_cases hf : x < 256 ^ wd
  · have hfb : fitsB x wd = true := by rw [fitsB_iff x wd hwd1 hwd2]; exact decide_eq_true hf
    have hput := Put_good g 0 bs.length cs.length p wd x w3 hmx hgn hgm hwd1 hwd2 (by omega) hx hfb
      (fun k hk => ⟨_, by rw [hblk.cell]; exact hcsk _ (by omega)⟩) (fun k hk => hblk.frozen _)
    have hfit := Fits_any x wd
    have hblk2 := hblk.setRow (vs8 (leBytes x wd)) p
    have hbel2 : Below w2.heap.size w2 (setRow w3 g p (vs8 (leBytes x wd))) := hb3.trans (setRow_below hgb _ _ _)
    rw [Nat.zero_add] at hput
    generalize setRow w3 g p (vs8 (leBytes x wd)) = w4 at *
    rw [hfb] at hfit
    have HP := Lib.hid hput; have HF := Lib.hid hfit; have HT := Lib.hid htake; have HC := Lib.hid hcsk
    clear hput hfit htake hcsk hfb
    refine HP.out.mono ?_; rintro e w' ⟨rfl, rfl⟩
    go_wp2_with fail
    refine (HF.out _ hx ⟨by omega, by omega⟩).mono ?_; rintro e w' ⟨rfl, rfl⟩
    have hcell4 : ∀ k, k < wd → w4.cell? ⟨g, p + k, none⟩ = some (.int .u8 (leB x k)) := fun k hk => by rw [hblk2.cell]; exact put_mid (by omega) hk
    have hg1 : ∀ a d : Nat, a + d ≤ wd → 1 ≤ d → ∀ wx, Below w4.heap.size w4 wx → Calls Try.prog 19 #[.slice (some ⟨g, 0, none⟩) bs.length cs.length, .int .i64 ((p + a : Nat) : Int), .int .i64 d] wx
        fun e w' => e = .returned (.tuple #[.int .u64 (x / 256 ^ a % 256 ^ d), .int .i64 0]) ∧ wx = w' := fun a d had hd wx hbx => by
      rw [← leVal_from x hx.1 a d]
      refine Get_good g 0 bs.length cs.length (p + a) d _ wx hmx hgn hgm hd (by omega) (by omega) (by simp) ?_ ?_
      · intro z hz'
        obtain ⟨i, _, rfl⟩ := List.mem_map.1 hz'
        exact leB_bd _ _
      · intro k hk
        rw [hbx.cell hblk2.lt, Nat.zero_add, Nat.add_assoc, hcell4 (a + k) (by omega)]
        simp [List.getD_eq_getElem?_getD, hk]
    go_wp2_with fail
    have hG := hg1 0 wd (by omega) hwd1 w4 (Below.refl _ _)
    rw [Nat.add_zero, Int.pow_zero, Int.ediv_one, Int.emod_eq_of_lt hx.1 hf] at hG
    refine hG.mono ?_; rintro e w' ⟨rfl, rfl⟩
    clear hG
    have hL1 : (cs.take p) = (bs.take p).map (Value.int .u8) := by
      have : (cs.take bs.length).take p = (bs.map (Value.int .u8)).take p := by rw [HT.out]
      rw [List.take_take, Nat.min_eq_left (by omega)] at this
      rw [this, List.map_take]
    have hP1 : ((putAt cs p (vs8 (leBytes x wd))).drop 0).take p = (bs.take p).map (Value.int .u8) := by
      rw [← hL1, List.drop_zero]
      refine List.ext_getElem? fun k => ?_
      rw [List.getElem?_take, List.getElem?_take]
      split
      · exact put_out (by omega) (by omega)
      · rfl
    have hL2 : (cs.drop (p + wd)).take (bs.length - (p + wd)) = (bs.drop (p + wd)).map (Value.int .u8) := by
      rw [List.map_drop, ← HT.out, List.take_drop]; congr 2; omega
    have hP2 : ((putAt cs p (vs8 (leBytes x wd))).drop (p + wd)).take (bs.length - (p + wd)) = (bs.drop (p + wd)).map (Value.int .u8) := by
      rw [← hL2]
      refine List.ext_getElem? fun k => ?_
      rw [List.getElem?_take, List.getElem?_take]
      split
      · rw [List.getElem?_drop, List.getElem?_drop]; exact put_out (by omega) (by omega)
      · rfl
    have hbel3 : Below w2.heap.size w2 w4 := hbel2
    have hr4 := hr2.below hbel3
    have hcv1 : ∀ kd, (convert 25 9 (.slice (some ⟨g, 0, none⟩) p cs.length)).run Try.prog (w4.drewN kd) = .ok (.string (strOfNums (bs.take p))) (w4.drewN kd) := fun kd =>
      Row.str (B := g + 1) (by rw [← hP1]; exact (hblk2.rowAt 0 p).drewN kd) p cs.length (by simp; omega)
    have hcv2 : ∀ kd, (convert 25 9 (.slice A2 p c2)).run Try.prog (w4.drewN kd) = .ok (.string (strOfNums (bs.take p))) (w4.drewN kd) := fun kd =>
      ((hr4.take p).drewN kd).str p c2 (by simp; omega)
    have hsl1 := fun wx => u8_hi (some ⟨g, 0, none⟩) bs.length cs.length p wx (by omega)
    have hsl2 := fun wx => u8_hi A2 bs.length c2 p wx (by omega)
    have hsl3 := fun wx => u8_lo (some ⟨g, 0, none⟩) bs.length cs.length (p + wd) wx (by omega)
    have hsl4 := fun wx => u8_lo A2 bs.length c2 (p + wd) wx (by omega)
    have hr5 : Row w4 (g + 1) (if cs.length = p + wd then some ⟨g, 0, none⟩ else (some ⟨g, 0, none⟩ : Option Addr).map (·.add (p + wd))) ((bs.drop (p + wd)).map (Value.int .u8)) := by
      rw [← hP2]
      have := (hblk2.rowAt 0 bs.length).drop (p + wd) cs.length (by simp [putAt_length]; omega)
      rw [List.drop_zero, List.drop_take] at this
      exact this
    have hr6 : Row w4 w2.heap.size (if c2 = p + wd then A2 else A2.map (·.add (p + wd))) ((bs.drop (p + wd)).map (Value.int .u8)) := by
      rw [List.map_drop]; exact hr4.drop _ _ (by simp; omega)
    generalize (if cs.length = p + wd then some ⟨g, 0, none⟩ else (some ⟨g, 0, none⟩ : Option Addr).map (·.add (p + wd))) = X3 at *
    generalize (if c2 = p + wd then A2 else A2.map (·.add (p + wd))) = X4 at *
    have hcv3 : ∀ kd, (convert 25 9 (.slice X3 (bs.length - (p + wd)) (cs.length - (p + wd)))).run Try.prog (w4.drewN kd) = .ok (.string (strOfNums (bs.drop (p + wd)))) (w4.drewN kd) := fun kd =>
      (hr5.drewN kd).str _ _ (by simp)
    have hcv4 : ∀ kd, (convert 25 9 (.slice X4 (bs.length - (p + wd)) (c2 - (p + wd)))).run Try.prog (w4.drewN kd) = .ok (.string (strOfNums (bs.drop (p + wd)))) (w4.drewN kd) := fun kd =>
      (hr6.drewN kd).str _ _ (by simp)
    rw [Int.natCast_add] at hsl3 hsl4
    have hsum : IntKind.i64.wrap ((p : Int) + wd) = (p : Int) + wd := IntWalk.i64_in _ (by omega)
    clear hr5 hr6 hr4 hL1 hL2 hP1 hP2 hbel3
    go_wp2_with fail
    go_quiet ((go_at_call 18; exact Calls.quiet_of_same ((num01_any _ _).mono fun e w' h => ⟨h.1, h.2.symm⟩)))
    clear hsum hcv1 hcv2 hcv3 hcv4 hsl1 hsl2 hsl3 hsl4
    have hbq : Below w4.heap.size w4 (w4.drewN nq) := below_drewN (Below.refl _ _) _
    have hend : Below w.heap.size w (w4.drewN nq) := hb2.trans ((hbel2.trans (hbq.mono hbel2.size)).mono hb2.size)
    rcases (by omega : wd = 1 ∨ 2 ≤ wd) with rfl | hw2
    · have hc0 : (w4.drewN nq).cell? ⟨g, p, none⟩ = some (.int .u8 (x % 256)) := by
        have := hcell4 0 (by omega)
        rw [hbq.cell hblk2.lt]
        simpa [leB] using this
      have hx0 := hx.1
      have hpl : (p : Int) < bs.length := by omega
      go_wp2_with fail
      go_ret
      exact ⟨ret_bool (mod_self x hx0 hf), hend⟩
    · have hne : ((wd : Int) == 1) = false := by simp; omega
      have hsub : ((wd : Int) - 1) = ((wd - 1 : Nat) : Int) := by omega
      have HS := Lib.hid hsub
      clear hsub
      go_wp2_with fail
      rw [HS.out]
      refine (rest_nat cut 1 (wd - 1) _ hcut (by omega) (by omega)).mono ?_; rintro e w' ⟨low, ⟨hlo1, hlo2⟩, rfl, rfl⟩
      have hG2 := hg1 0 low (by omega) hlo1 _ hbq
      have hG3 := hg1 low (wd - low) (by omega) (by omega) _ hbq
      rw [Nat.add_zero, Int.pow_zero, Int.ediv_one] at hG2
      have e1 : ((p + low : Nat) : Int) = (p : Int) + low := by omega
      have e2 : ((wd - low : Nat) : Int) = (wd : Int) - low := by omega
      rw [e1, e2] at hG3
      have hh : x % 256 ^ low + (x / 256 ^ low % 256 ^ (wd - low)) * 2 ^ (8 * low) = x := by rw [pow_8, Int.mul_comm (x / 256 ^ low % 256 ^ (wd - low))]; exact halves x hx.1 low wd (by omega) hf
      have hy0 : 0 ≤ x % 256 ^ low := Int.emod_nonneg _ (by have : (0 : Int) < 256 ^ low := Int.pow_pos (by decide); omega)
      have hz0 : 0 ≤ x / 256 ^ low % 256 ^ (wd - low) := Int.emod_nonneg _ (by have : (0 : Int) < 256 ^ (wd - low) := Int.pow_pos (by decide); omega)
      clear e1 e2 hg1 hcell4
      generalize x % 256 ^ low = y at *
      generalize x / 256 ^ low % 256 ^ (wd - low) = z at *
      have hzz : IntKind.u64.wrap (z * 2 ^ (8 * low)) = x - y := by
        have hm : 0 ≤ z * 2 ^ (8 * low) := Int.mul_nonneg hz0 (Int.pow_nonneg (by decide))
        have := hx.2
        rw [IntKind.wrap_u64]; omega
      have hx1 := hx.2
      have hxy : y ≤ x := by
        have hm : 0 ≤ z * 2 ^ (8 * low) := Int.mul_nonneg hz0 (Int.pow_nonneg (by decide))
        omega
      have HG2 := Lib.hid hG2; have HG3 := Lib.hid hG3
      clear hG2 hG3 hh HS
      go_wp2_with fail
      refine HG2.out.mono ?_; rintro e w' ⟨rfl, rfl⟩
      go_wp2_with fail
      refine HG3.out.mono ?_; rintro e w' ⟨rfl, rfl⟩
      go_wp2_with (first | (go_at_call 18; refine (num01_any _ _).mono ?_; rintro e w' ⟨rfl, rfl⟩))
      go_ret
      exact ⟨ret_bool (by show (y + (x - y) == x) = true; simp; omega), hend⟩
  · have hfb : fitsB x wd = false := by rw [fitsB_iff x wd hwd1 hwd2]; exact decide_eq_false hf
    have hput := Put_unfit g 0 bs.length cs.length p wd x w3 hmx hgn hgm hwd1 hwd2 (by omega) hx hfb
    have hfit := Fits_any x wd
    rw [hfb] at hfit
    have hcv1 := Row.str (w := w3) (B := g + 1) (A := some ⟨g, 0, none⟩) (zs := bs) (by have := hblk.rowAt 0 bs.length; rwa [List.drop_zero, htake] at this) bs.length cs.length rfl
    have hcv2 := (hr2.below hb3).str bs.length c2 rfl
    have hgt : 0 < x / 2 ^ (8 * wd) := by
      rw [pow_8]
      have hp : (0 : Int) < 256 ^ wd := Int.pow_pos (by decide)
      have := Int.le_ediv_of_mul_le hp (a := 1) (b := x) (by omega)
      omega
    have h8 : (wd : Int) < 8 := by
      rcases (by omega : wd < 8 ∨ wd = 8) with h | h
      · omega
      · subst h; exact absurd (by have := hx.2; omega) hf
    have HP := Lib.hid hput; have HF := Lib.hid hfit; have HT := Lib.hid htake; have HC := Lib.hid hcsk
    clear hput hfit htake hcsk hfb
    refine HP.out.mono ?_; rintro e w' ⟨rfl, rfl⟩
    go_wp2_with fail
    refine (HF.out _ hx ⟨by omega, by omega⟩).mono ?_; rintro e w' ⟨rfl, rfl⟩
    go_wp2_with (first | (go_at_call 18; refine (num01_any _ _).mono ?_; rintro e w' ⟨rfl, rfl⟩))
    go_ret
    exact ⟨rfl, hb2.trans (hb3.mono hb2.size)⟩
end Go.Proofs.Ytfklhppfehkfaaa

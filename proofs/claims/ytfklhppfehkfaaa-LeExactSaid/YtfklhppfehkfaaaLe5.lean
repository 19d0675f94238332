import Derived.Test.YtfklhppfehkfaaaLe4
import Derived.Deep.RegionHeld3
import Derived.Deep.DeepCutAuto
namespace Go.Proofs.Ytfklhppfehkfaaa
open Go.RowKit

theorem rest_nat (n : Int) (lo hi : Nat) (w : World) (hn : I64 n) (h1 : lo ≤ hi) (h2 : (hi : Int) ≤ 2305843009213693952) :
    Calls Try.prog 15 #[.int .i64 n, .int .i64 lo, .int .i64 hi] w fun e w' => ∃ k : Nat, (lo ≤ k ∧ k ≤ hi) ∧ e = .returned (.int .i64 k) ∧ w = w' := by
  refine (rest_any n lo hi w hn (by omega) (by omega) h2).mono ?_
  rintro e w' ⟨rfl, rfl⟩
  have h3 : 0 ≤ n % ((hi : Int) - lo + 1) := Int.emod_nonneg _ (by omega)
  have h4 : n % ((hi : Int) - lo + 1) < (hi : Int) - lo + 1 := Int.emod_lt_of_pos _ (by omega)
  refine ⟨((lo : Int) + n % ((hi : Int) - lo + 1)).toNat, by omega, ?_, rfl⟩
  rw [Int.toNat_of_nonneg (by omega)]

theorem Row.take {w : World} {B : Nat} {A : Option Addr} {zs : List Int} {kd : IntKind} (h : Row w B A (zs.map (Value.int kd))) (k : Nat) : Row w B A ((zs.take k).map (Value.int kd)) := fun hn => by
  obtain ⟨b, off, e, hb, hc⟩ := h (by simp at hn ⊢; omega)
  refine ⟨b, off, e, hb, fun j u hu => hc j u ?_⟩
  rw [List.map_take, List.getElem?_take] at hu
  split at hu
  · exact hu
  · cases hu
theorem Row.drop {w : World} {B : Nat} {A : Option Addr} {xs : List Value} (h : Row w B A xs) (k c : Nat) (hc : xs.length ≤ c) : Row w B (if c = k then A else A.map (·.add k)) (xs.drop k) := fun hn => by
  rw [List.length_drop] at hn
  obtain ⟨b, off, rfl, hb, hcell⟩ := h (by omega)
  rw [if_neg (by omega)]
  refine ⟨b, off + k, ?_, hb, fun j u hu => ?_⟩
  · simp only [Option.map_some, Addr.add]; split <;> simp_all
  · rw [Nat.add_assoc]; exact hcell _ u (by rw [← hu, List.getElem?_drop])
theorem Blk.row {w : World} {b : Nat} {t : TypeId} {cs : List Value} (h : Blk w b t cs) : Row w (b + 1) (some ⟨b, 0, none⟩) cs :=
  fun _ => ⟨b, 0, rfl, by omega, fun k u hu => by rw [Nat.zero_add, h.cell]; exact hu⟩
theorem plusL_I64 (zs : List Int) : I64 (plusL zs) := ⟨by have := (plusL_bd zs).1; omega, by have := (plusL_bd zs).2; omega⟩
theorem Plus_one (x : Int) (w : World) (g : Nat) (hg : w.heap.size = g) (hx : I64 x) : Calls Try.prog 20 #[.slice (some ⟨g, 0, none⟩) 1 1] (w.alloc (.cells #[.int .i64 x] 3))
    fun e w' => e = .returned (.int .i64 (plusL [x])) ∧ w.alloc (.cells #[.int .i64 x] 3) = w' := by
  subst hg
  exact Plus_any _ 1 1 [x] (w.alloc (.cells #[.int .i64 x] 3)) _ (Blk.new w 3 [.int .i64 x]).row rfl (by simpa using hx) (by decide)
theorem Plus_two (x y : Int) (w : World) (g : Nat) (hg : w.heap.size = g) (hx : I64 x) (hy : I64 y) : Calls Try.prog 20 #[.slice (some ⟨g, 0, none⟩) 2 2] (w.alloc (.cells #[.int .i64 x, .int .i64 y] 3))
    fun e w' => e = .returned (.int .i64 (plusL [x, y])) ∧ w.alloc (.cells #[.int .i64 x, .int .i64 y] 3) = w' := by
  subst hg
  exact Plus_any _ 2 2 [x, y] (w.alloc (.cells #[.int .i64 x, .int .i64 y] 3)) _ (Blk.new w 3 [.int .i64 x, .int .i64 y]).row rfl (by simp; exact ⟨hx, hy⟩) (by decide)
theorem timesS_I64 (a b : Int) : I64 (timesS a b) := ⟨by have := (timesS_bd a b).1; omega, by have := (timesS_bd a b).2; omega⟩
theorem int_info : (Try.prog.info? 3).map (fun i => (i.zero, i.size, i.bytes)) = some (some (.int .i64 0), 1, 8) := by kernel_rfl
theorem Row.of_own {w : World} {base : Nat} {e : TypeId} {v : Value} {n : Nat} {xs : List Value} (h : w.ownsRow base e 1 v n xs) : ∃ A c, v = .slice A n c ∧ n ≤ c ∧ c ≤ maxLen ∧ xs.length = n ∧ Row w w.heap.size A xs := by
  have hl : xs.length = n := by have := h.1; omega
  rcases h.2 with ⟨rfl, rfl⟩ | ⟨g, cap, cur, rfl, _, hg, h1, h2, hcs, hp⟩
  · exact ⟨none, 0, rfl, Nat.le_refl _, by decide, hl, fun h0 => by simp_all⟩
  · refine ⟨_, _, rfl, h1, h2, hl, fun hn => ⟨g, 0, rfl, (Array.getElem?_eq_some_iff.1 hg).1, fun k u hu => ?_⟩⟩
    rw [Nat.zero_add, cell_of_row w g k cur e (0, 0) hg]
    have hk : k < xs.length := by
      rcases Nat.lt_or_ge k xs.length with h | h
      · exact h
      · rw [List.getElem?_eq_none h] at hu; cases hu
    rw [← hp, List.getElem?_take_of_lt (by omega)] at hu
    simpa using hu

theorem or_law (a b : Int) : (decide (b < 1) || decide (plusL [a] ≤ timesS a b)) = true := by
  rw [Bool.or_eq_true, decide_eq_true_eq, decide_eq_true_eq]
  rcases Int.lt_or_le b 1 with h | h
  · exact .inl h
  · exact .inr (plusL_le_timesS a b h)

set_option maxHeartbeats 1000000 in
set_option maxRecDepth 100000 in
theorem LeSizes_any (A : Option Addr) (n c : Nat) (zs0 : List Int) (at_ a b d : Int) (w : World) (hr : Row w w.heap.size A (zs0.map (Value.int .i64))) (hn : n = zs0.length) (hz0 : ∀ z ∈ zs0, I64 z)
    (hnc0 : n ≤ c) (hcm : c ≤ maxLen) (hat : I64 at_) (ha : I64 a) (hb : I64 b) (hd : I64 d) :
    Calls Try.prog 5 #[.slice A n c, .int .i64 at_, .int .i64 a, .int .i64 b, .int .i64 d] w fun e w' => e = .returned (.bool true) ∧ Below w.heap.size w w' := by
  obtain ⟨i0, hi, hz0', hz1, hz2⟩ := info_parts int_info
  subst hn
  unfold maxLen at hcm
  go_enter Try.func5, Try.ntmps5
  go_upto_if 21 with ((refine (awake01_any _).mono ?_; rintro e w1 ⟨rfl, hb1⟩))
  have hr1 := hr.below hb1
  go_cut [0] (fun s0 wx => ∃ L : List Int, s0 = .slice A L.length c ∧ L.length ≤ 2000 ∧ L.length ≤ c ∧ Row wx w.heap.size A (L.map (Value.int .i64)) ∧ (∀ z ∈ L, I64 z) ∧ Below w.heap.size w wx)
  case first =>
    by_cases hbig : 2000 < zs0.length
    · have hc0 : (2000 : Int) ≤ c := by omega
      have hlen : (zs0.take 2000).length = 2000 := by rw [List.length_take]; omega
      have HL := Lib.hid hlen
      clear hlen
      go_wp2_with fail
      go_meet
      exact ⟨zs0.take 2000, by rw [HL.out], by rw [HL.out]; omega, by rw [HL.out]; omega, hr1.take 2000, fun z hz' => hz0 z (List.mem_of_mem_take hz'), hb1⟩
    · go_wp2_with fail
      go_meet
      exact ⟨zs0, rfl, by omega, hnc0, hr1, hz0, hb1⟩
  case rest =>
  obtain ⟨zs, rfl, hm, hnc, hr1', hz, hb1'⟩ := hcut
  clear hr1 hb1 hz0 hr hnc0
  have hr1 := hr1'
  have hb1 := hb1'
  clear hr1' hb1'
  go_wp2_with fail
  refine (rest_nat at_ 0 zs.length _ hat (Nat.zero_le _) (by omega)).mono ?_; rintro e w' ⟨k, ⟨hk0, hk1⟩, rfl, rfl⟩
  go_wp2_with fail
  refine (Plus_any _ _ _ zs _ w.heap.size hr1 rfl hz (by unfold maxLen; omega)).mono ?_; rintro e w' ⟨rfl, rfl⟩
  go_wp2_with fail
  go_loopw [13, 14] (fun v i wr => ∃ j : Nat, j ≤ zs.length ∧ i = .int .i64 ((j : Int) - 1) ∧ wr.ownsRow wc.heap.size 3 1 v (zs.length - j) (((zs.drop j).reverse).map (Value.int .i64)) ∧ Below wc.heap.size wc wr) (fun _ i _ => (intOf i + 1).toNat)
  case atStart => exact ⟨zs.length, Nat.le_refl _, rfl, by simpa using World.ownsRow_nil wc _ _ _, Below.refl _ _⟩
  case round =>
    obtain ⟨j, hj, rfl, hown, hbw⟩ := hrel
    have hr2 := hr1.below (hbw.mono hb1.size)
    cases j with
    | zero =>
      obtain ⟨A2, c2, rfl, h2a, h2b, h2c, hr3⟩ := Row.of_own hown
      clear hown
      have hbB : Below w.heap.size wc wr := hbw.mono hb1.size
      have hrev : plusL ((zs.drop 0).reverse) = plusL zs := by rw [List.drop_zero, plusL_reverse]
      have P45 : ∀ wx, Below wr.heap.size wr wx → Calls Try.prog 20 #[.slice A2 zs.length c2] wx fun e w' => e = .returned (.int .i64 (plusL zs)) ∧ wx = w' := fun wx hx => by
        rw [← hrev]
        exact Plus_any _ _ _ _ _ _ (hr3.below hx) (by simp) (fun z hz' => hz z (by simpa using hz')) (by unfold maxLen; omega)
      have P52 : ∀ wx, Below wr.heap.size wr wx → Calls Try.prog 20 #[.slice A k c] wx fun e w' => e = .returned (.int .i64 (plusL (zs.take k))) ∧ wx = w' := fun wx hx =>
        Plus_any A k c (zs.take k) wx w.heap.size (Row.take (hr2.below (hx.mono (Nat.le_trans hb1.size hbw.size))) k) (by simp; omega) (fun z hz' => hz z (List.mem_of_mem_take hz')) (by unfold maxLen; omega)
      have P56 : ∀ wx, Below wr.heap.size wr wx → Calls Try.prog 20 #[.slice (if c = k then A else A.map (·.add k)) (zs.length - k) (c - k)] wx fun e w' => e = .returned (.int .i64 (plusL (zs.drop k))) ∧ wx = w' := fun wx hx =>
        Plus_any _ _ _ (zs.drop k) wx w.heap.size (by rw [List.map_drop]; exact Row.drop (hr2.below (hx.mono (Nat.le_trans hb1.size hbw.size))) k c (by simp; omega)) (by simp) (fun z hz' => hz z (List.mem_of_mem_drop hz')) (by unfold maxLen; omega)
      have P58 : ∀ (b : Nat) wx, Blk wx b 3 [.int .i64 (plusL (zs.take k)), .int .i64 (plusL (zs.drop k))] → Calls Try.prog 20 #[.slice (some ⟨b, 0, none⟩) 2 2] wx fun e w' => e = .returned (.int .i64 (plusL zs)) ∧ wx = w' := fun b wx hx => by
        rw [← plusL_cut zs k]
        exact Plus_any _ _ _ [_, _] wx _ hx.row rfl (by intro z hz; simp at hz; rcases hz with rfl | rfl <;> exact plusL_I64 _) (by decide)
      have HP45 := Lib.hid P45; have HP52 := Lib.hid P52; have HP56 := Lib.hid P56; have HP58 := Lib.hid P58
      clear P45 P52 P56 P58 hrev hr2 hr3
      go_wp2_with fail
      have hk2 : (k : Int) ≤ zs.length := by omega
      have hsl : ∀ wx : World, (Instr.slice 27 (.slice A zs.length c) (some (.int .i64 k)) none none).run Try.prog wx = .ok (.slice (if c = k then A else A.map (·.add k)) (zs.length - k) (c - k)) wx := fun wx => by
        rw [run_slice_l wx 27 A zs.length c Try.underlying27 .i64 k (by omega) hk2]
        simp [go_sem]
      generalize (if c = k then A else A.map (·.add k)) = A3 at *
      have hk3 : (k : Int) ≤ c := by omega
      have hp0 : decide (plusL zs < 0) = false := by have := (plusL_bd zs).1; simp; omega
      have hp1 : decide (4611686018427387904 < plusL zs) = false := by have := (plusL_bd zs).2; simp; omega
      have hk5 : (0 : Int) ≤ k := by omega
      go_region_held3 (fun wx : World => Below wr.heap.size wr wx) (first | exact (Below.refl _ _).drew | exact ((Below.refl _ _).drew).alloc (Nat.le_refl _) _) (first
        | ((with_reducible refine (HP45.out _ ?_).mono ?_); (exact (Below.refl _ _).drew); rintro e w' ⟨rfl, rfl⟩)
        | ((with_reducible refine (HP52.out _ ?_).mono ?_); (exact (Below.refl _ _).drew); rintro e w' ⟨rfl, rfl⟩)
        | ((with_reducible refine (HP56.out _ ?_).mono ?_); (exact (Below.refl _ _).drew); rintro e w' ⟨rfl, rfl⟩)
        | ((with_reducible refine (HP58.out _ _ ?_).mono ?_); (exact Blk.new _ _ [_, _]); rintro e w' ⟨rfl, rfl⟩))
      have hb3 := (hbw.alloc hbw.size (.cells #[.int .i64 (plusL (zs.take k)), .int .i64 (plusL (zs.drop k))] 3)).drew
      generalize (wr.alloc (.cells #[.int .i64 (plusL (zs.take k)), .int .i64 (plusL (zs.drop k))] 3)).drew = w3 at *
      clear HP45 HP52 HP56 HP58 hsl hbw hbB hk2 hk3 hk5 hj
      go_wp2_with fail
      go_loopw [15] (fun i wr => ∃ j : Nat, j ≤ zs.length ∧ i = .int .i64 j ∧ Below wc.heap.size wc wr) (fun i _ => zs.length - (intOf i).toNat)
      case atStart => exact ⟨0, Nat.zero_le _, rfl, hb3⟩
      case round =>
        obtain ⟨j, hj, rfl, hbr⟩ := hrel
        by_cases hlt : j < zs.length
        · have hrr := hr1.below (hbr.mono hb1.size)
          obtain ⟨ab, off, rfl, _, hc⟩ := hrr.ints (by omega)
          have hcj := hc j hlt
          have hle := plusL_one_le zs _ (getD_mem hlt)
          have hxi := hz _ (getD_mem hlt)
          clear hc
          generalize zs.getD j 0 = x at *
          have hdec : decide (plusL zs < plusL [x]) = false := by simpa using hle
          go_wp2_with (first | (go_at_call 20; refine (Plus_one x _ _ rfl hxi).mono ?_; rintro e w' ⟨rfl, rfl⟩))
          go_roundw
          case rel => exact ⟨j + 1, by omega, by go_num, hbr.alloc hbr.size _⟩
          case measure => simp [intOf]; omega
        · have hdone : decide ((j : Int) < (zs.length : Int)) = false := by simp; omega
          go_wp2_with fail
          have hT1 : ∀ wx, Calls Try.prog 21 #[.int .i64 a, .int .i64 b] wx fun e w' => e = .returned (.int .i64 (timesS a b)) ∧ wx = w' := fun wx => Times_any a b wx ha hb
          have hT2 : ∀ wx, Calls Try.prog 21 #[.int .i64 b, .int .i64 a] wx fun e w' => e = .returned (.int .i64 (timesS a b)) ∧ wx = w' := fun wx => by rw [← timesS_comm]; exact Times_any b a wx hb ha
          have hT3 : ∀ wx, Calls Try.prog 21 #[.int .i64 (timesS a b), .int .i64 d] wx fun e w' => e = .returned (.int .i64 (timesS (timesS a b) d)) ∧ wx = w' := fun wx => Times_any _ d wx (timesS_I64 a b) hd
          have hT4 : ∀ wx, Calls Try.prog 21 #[.int .i64 b, .int .i64 d] wx fun e w' => e = .returned (.int .i64 (timesS b d)) ∧ wx = w' := fun wx => Times_any _ d wx hb hd
          have hT5 : ∀ wx, Calls Try.prog 21 #[.int .i64 a, .int .i64 (timesS b d)] wx fun e w' => e = .returned (.int .i64 (timesS (timesS a b) d)) ∧ wx = w' := fun wx => by rw [← timesS_assoc]; exact Times_any _ _ wx ha (timesS_I64 b d)
          have hT6 : ∀ wx, Calls Try.prog 21 #[.int .i64 a, .int .i64 (plusL [b, d])] wx fun e w' => e = .returned (.int .i64 (plusL [timesS a b, timesS a d])) ∧ wx = w' := fun wx => by rw [← timesS_plus]; exact Times_any _ _ wx ha (plusL_I64 _)
          have hT7 : ∀ wx, Calls Try.prog 21 #[.int .i64 a, .int .i64 d] wx fun e w' => e = .returned (.int .i64 (timesS a d)) ∧ wx = w' := fun wx => Times_any _ _ wx ha hd
          have hT8 : ∀ wx, Calls Try.prog 21 #[.int .i64 a, .int .i64 1] wx fun e w' => e = .returned (.int .i64 (plusL [a])) ∧ wx = w' := fun wx => by rw [← timesS_1]; exact Times_any _ _ wx ha ⟨by decide, by decide⟩
          have hT9 : ∀ wx, Calls Try.prog 21 #[.int .i64 a, .int .i64 0] wx fun e w' => e = .returned (.int .i64 0) ∧ wx = w' := fun wx => by
            have := Times_any a 0 wx ha ⟨by decide, by decide⟩
            rwa [timesS_0] at this
          have HT1 := Lib.hid hT1; have HT2 := Lib.hid hT2; have HT3 := Lib.hid hT3; have HT4 := Lib.hid hT4; have HT5 := Lib.hid hT5; have HT6 := Lib.hid hT6; have HT7 := Lib.hid hT7; have HT8 := Lib.hid hT8; have HT9 := Lib.hid hT9
          clear hT1 hT2 hT3 hT4 hT5 hT6 hT7 hT8 hT9
          have hq0 : decide (timesS a b < 0) = false := by have := (timesS_bd a b).1; simp; omega
          have hq1 : decide (4611686018427387904 < timesS a b) = false := by have := (timesS_bd a b).2; simp; omega
          have hi1 := timesS_I64 a b
          have hi2 := timesS_I64 a d
          go_wp2_with (first
            | ((with_reducible refine (HT1.out _).mono ?_); rintro e w' ⟨rfl, rfl⟩)
            | ((with_reducible refine (HT2.out _).mono ?_); rintro e w' ⟨rfl, rfl⟩)
            | ((with_reducible refine (HT3.out _).mono ?_); rintro e w' ⟨rfl, rfl⟩)
            | ((with_reducible refine (HT4.out _).mono ?_); rintro e w' ⟨rfl, rfl⟩)
            | ((with_reducible refine (HT5.out _).mono ?_); rintro e w' ⟨rfl, rfl⟩)
            | ((with_reducible refine (HT6.out _).mono ?_); rintro e w' ⟨rfl, rfl⟩)
            | ((with_reducible refine (HT7.out _).mono ?_); rintro e w' ⟨rfl, rfl⟩)
            | ((with_reducible refine (HT8.out _).mono ?_); rintro e w' ⟨rfl, rfl⟩)
            | ((with_reducible refine (HT9.out _).mono ?_); rintro e w' ⟨rfl, rfl⟩)
            | ((with_reducible refine (Plus_two b d _ _ ?_ hb hd).mono ?_); (simp); rintro e w' ⟨rfl, rfl⟩)
            | ((with_reducible refine (Plus_two (timesS a b) (timesS a d) _ _ ?_ hi1 hi2).mono ?_); (simp); rintro e w' ⟨rfl, rfl⟩)
            | ((with_reducible refine (Plus_one a _ _ ?_ ha).mono ?_); (simp); rintro e w' ⟨rfl, rfl⟩))
          all_goals
            go_ret
            refine ⟨ret_bool ?_, hb1.trans ?_⟩
            · first | rfl | exact or_law a b
            · have hs1 := hbr.size
              have hs2 := hb1.size
              repeat (first | exact hbr.mono hb1.size | refine Below.alloc ?_ (by first | omega | (simp; omega)) _)
    | succ m =>
      have e1 : ((m + 1 : Nat) : Int) - 1 = m := by omega
      rw [e1]
      clear e1
      obtain ⟨ab, off, rfl, _, hc⟩ := hr2.ints (by omega)
      have hcm := hc m (by omega)
      have hs : ((zs.drop m).reverse).map (Value.int .i64) = ((zs.drop (m + 1)).reverse).map (Value.int .i64) ++ [.int .i64 (zs.getD m 0)] := by
        have : zs.drop m = zs.getD m 0 :: zs.drop (m + 1) := by
          rw [List.drop_eq_getElem_cons (by omega : m < zs.length)]; congr 1; simp [List.getD_eq_getElem?_getD, List.getElem?_eq_getElem (by omega : m < zs.length)]
        rw [this]; simp
      generalize ((zs.drop (m + 1)).reverse).map (Value.int .i64) = rs at *
      generalize zs.getD m 0 = x at *
      have HS := Lib.hid hs
      clear hc hs
      go_wp2_with (first
        | (at_builtin; refine wpList_append_own _ rfl _ _ 27 rfl wc.heap.size 3 i0 (.int .i64 0) 1 8 Try.underlying27 hi hz0' hz1 hz2 rfl (by decide) _ _ _ rfl (hown.alloc _) ⟨_, 0, none⟩ 1 1 [.int .i64 x] rfl rfl ?c1 ?c2 ?c3 ?c4 ?c5 ?_))
      case c1 => exact cell_one_new _ _ _
      case c2 => intro u hu; simp at hu; subst hu; rfl
      case c3 => unfold maxLen; omega
      case c4 => omega
      case c5 => have := hbw.size; simp; omega
      intro v2 w2 hown2 hg2 _
      have hb2 : Below wc.heap.size wc w2 := (hbw.alloc hbw.size _).grown hg2 (by have := hbw.size; simp; omega) (fun q hq => (hown.lt q hq).1)
      have hn2 : zs.length - (m + 1) + 1 = zs.length - m := by omega
      rw [hn2, ← HS.out] at hown2
      clear hn2 hg2
      go_wp2_with fail
      go_roundw
      case rel => exact ⟨m, by omega, rfl, hown2, hb2⟩
      case measure => simp [intOf]
end Go.Proofs.Ytfklhppfehkfaaa

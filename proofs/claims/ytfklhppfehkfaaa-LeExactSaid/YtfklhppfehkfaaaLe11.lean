import Derived.Test.YtfklhppfehkfaaaLe10
namespace Go.Proofs.Ytfklhppfehkfaaa
open Go.RowKit

set_option maxHeartbeats 1000000 in
set_option maxRecDepth 100000 in
theorem plays_3 (bA lA : Option Addr) (bn bc ln lc : Nat) (bytes list : List Int) (at_ wd x : Int) (B : Nat) (w : World) (hr : Row w B bA (bytes.map (Value.int .u8))) (hbn : bn = bytes.length) (hz : ∀ z ∈ bytes, U8 z) (hbc : bn ≤ bc) (hbm : bc ≤ maxLen)
    (hrl : Row w B lA (list.map (Value.int .i64))) (hln : ln = list.length) (hzl : ∀ z ∈ list, I64 z) (hlc : ln ≤ lc) (hlm : lc ≤ maxLen) (hat : I64 at_) (hwd : I64 wd) (hx : U64 x) (hB : B ≤ w.heap.size) :
    Calls Try.prog 14 #[.agg #[.int .i64 3, .slice bA bn bc, .int .i64 at_, .int .i64 wd, .int .u64 x, .slice lA ln lc]] w fun e w' => e = .returned (.bool true) ∧ Below w.heap.size w w' := by
  have hat' := hat
  have hwd' := hwd
  subst hln
  subst hbn
  obtain ⟨hat0, hat1⟩ := hat
  obtain ⟨hw0, hw1⟩ := hwd
  unfold maxLen at hbm hlm
  go_enter Try.func14, Try.ntmps14
  go_upto_if 14 with (fail)
  go_cut [2] (fun s2 wx => s2 = .bool false ∧ ∃ bs : List Int, bs.length ≤ 2000 ∧ bs.length ≤ bc ∧ Row w B bA (bs.map (Value.int .u8)) ∧ (∀ z ∈ bs, U8 z) ∧
    wx = w.alloc (.cells #[.int .i64 3, .slice bA bs.length bc, .int .i64 at_, .int .i64 wd, .int .u64 x, .slice lA list.length lc] 29))
  case first =>
    by_cases hbig : 2000 < bytes.length
    · have hc0 : (2000 : Int) ≤ bc := by omega
      have hlen : (bytes.take 2000).length = 2000 := by rw [List.length_take]; omega
      have HL := Lib.hid hlen
      clear hlen
      go_wp2_with fail
      go_meet
      exact ⟨rfl, bytes.take 2000, by rw [HL.out]; exact Nat.le_refl _, by rw [HL.out]; omega, hr.take 2000, fun z hz' => hz z (List.mem_of_mem_take hz'), by rw [HL.out]⟩
    · go_wp2_with fail
      go_meet
      exact ⟨rfl, bytes, by omega, by omega, hr, hz, rfl⟩
  case rest =>
  obtain ⟨rfl, bs, hb2000, hbsc, hrb, hzb, hwc⟩ := hcut
  have hbox : Blk wc w.heap.size 29 [.int .i64 3, .slice bA bs.length bc, .int .i64 at_, .int .i64 wd, .int .u64 x, .slice lA list.length lc] := by rw [hwc]; exact Blk.new _ _ _
  have hbw : Below w.heap.size w wc := by rw [hwc]; exact (Below.refl _ _).alloc (Nat.le_refl _) _
  have hpl : w.heap.size < wc.heap.size := by rw [hwc]; simp
  clear hwc hr hz
  have f0 := hbox.cell 0
  have f1 := hbox.cell 1
  have f2 := hbox.cell 2
  have f3 := hbox.cell 3
  have f4 := hbox.cell 4
  have f5 := hbox.cell 5
  simp only [List.getElem?_cons_zero, List.getElem?_cons_succ] at f0 f1 f2 f3 f4 f5
  have q1 : ((3 : Int) == 1) = false := rfl
  have hrb' := hrb.below (hbw.mono hB)
  go_wp2_with fail
  refine (lent01_any bA bs.length bc bs B wc hrb' rfl hb2000 (Nat.le_trans hB hbw.size)).mono ?_; rintro e w2 ⟨g, cs, rfl, hblk, hgb, hgl, hcs3, hcsm, hctk, hb2⟩
  have hbox2 := hbox.below hb2 hpl
  clear f0 f1 f2 f3 f4 f5
  have f1 := hbox2.cell 1
  have f2 := hbox2.cell 2
  have f3 := hbox2.cell 3
  have f4 := hbox2.cell 4
  simp only [List.getElem?_cons_zero, List.getElem?_cons_succ] at f1 f2 f3 f4
  have hr2 := hrb'.below (hb2.mono (Nat.le_trans hB hbw.size))
  have hmx : bs.length ≤ maxLen := by unfold maxLen; omega
  have hcell : ∀ k, k < bs.length → cs[k]? = some (.int .u8 (bs.getD k 0)) := fun k hk => by
    have e : (cs.take (bs.length + 3))[k]? = (vs8 (bs ++ marks))[k]? := by rw [hctk]
    rw [List.getElem?_take_of_lt (by omega)] at e
    rw [e, vs8, List.map_append, List.getElem?_append_left (by simpa using hk), List.getElem?_map, List.getElem?_eq_getElem hk]
    simp [List.getD_eq_getElem?_getD, List.getElem?_eq_getElem hk]
  have hB2 : B ≤ w2.heap.size := Nat.le_trans (Nat.le_trans hB hbw.size) hb2.size
  have hkept := kept01_any g bs.length bc cs bA bs.length bs B w2 hblk hcs3 hcsm hctk hr2 rfl hb2000 hB2
  have HC := Lib.hid hctk
  clear hctk
  by_cases he : winErr bs.length at_ wd = 0
  · have hcase := winErr_cases bs.length at_ wd
    rcases hcase with ⟨h, _⟩ | ⟨h, _⟩ | ⟨h, h1, h2, h3, h4⟩
    · omega
    · omega
    obtain ⟨p, rfl⟩ := Int.eq_ofNat_of_zero_le h3
    obtain ⟨d, rfl⟩ := Int.eq_ofNat_of_zero_le (by omega : 0 ≤ wd)
    have hzs : ((bs.drop p).take d).length = d := by simp; omega
    have hzg : ∀ k, k < d → ((bs.drop p).take d).getD k 0 = bs.getD (p + k) 0 := fun k hk => by
      simp [List.getD_eq_getElem?_getD, List.getElem?_take, hk, List.getElem?_drop]
    have hG := Get_good g 0 bs.length cs.length p d ((bs.drop p).take d) w2 hmx (by omega) hcsm (by omega) (by omega) (by omega) hzs
      (fun z hz' => hzb z (List.mem_of_mem_drop (List.mem_of_mem_take hz'))) (fun k hk => by rw [Nat.zero_add, hblk.cell, hcell _ (by omega), hzg k hk])
    obtain ⟨b2, off2, hA2, _, hcc⟩ := hr2.ints (by omega)
    have hR : Calls Try.prog 58 #[.slice bA bs.length bc, .int .i64 p, .int .i64 d] w2 fun e w' => e = .returned (.tuple #[.int .u64 (leVal ((bs.drop p).take d)), .int .i64 0]) ∧ w2 = w' := by
      rw [hA2]
      exact refGet_good b2 off2 bs.length bc p d ((bs.drop p).take d) w2 hmx (by omega) (by omega) (by omega) hzs
        (fun z hz' => hzb z (List.mem_of_mem_drop (List.mem_of_mem_take hz'))) (fun k hk => by rw [Nat.add_assoc, hcc _ (by omega), hzg k hk])
    clear hA2 hcc hzg hzs
    generalize leVal ((bs.drop p).take d) = v at *
    have hvv : (v == v) = true := by simp
    have HG := Lib.hid hG; have HR := Lib.hid hR; have HKK := Lib.hid hkept
    clear hG hR hkept he h
    go_wp2_with (first | ((with_reducible refine HG.out.mono ?_); rintro e w' ⟨rfl, rfl⟩) | ((with_reducible refine HR.out.mono ?_); rintro e w' ⟨rfl, rfl⟩) | (go_at_call 18; refine (num01_any _ _).mono ?_; rintro e w' ⟨rfl, rfl⟩) | ((with_reducible refine HKK.out.mono ?_); rintro e w3 ⟨rfl, hb3⟩))
    go_ret
    exact ⟨rfl, hbw.trans ((hb2.trans (hb3.mono hb2.size)).mono hbw.size)⟩
  · have hG := Get_bad (some ⟨g, 0, none⟩) bs.length cs.length at_ wd w2 hmx hat' hwd' he
    have hR := refGet_bad bA bs.length bc at_ wd w2 hmx hat' hwd' he
    have hee : (winErr bs.length at_ wd == winErr bs.length at_ wd) = true := by simp
    have HG := Lib.hid hG; have HR := Lib.hid hR; have HKK := Lib.hid hkept
    clear hG hR hkept he
    go_wp2_with (first | ((with_reducible refine HG.out.mono ?_); rintro e w' ⟨rfl, rfl⟩) | ((with_reducible refine HR.out.mono ?_); rintro e w' ⟨rfl, rfl⟩) | (go_at_call 18; refine (num01_any _ _).mono ?_; rintro e w' ⟨rfl, rfl⟩) | ((with_reducible refine HKK.out.mono ?_); rintro e w3 ⟨rfl, hb3⟩))
    go_ret
    exact ⟨rfl, hbw.trans ((hb2.trans (hb3.mono hb2.size)).mono hbw.size)⟩

set_option maxHeartbeats 1000000 in
set_option maxRecDepth 100000 in
theorem plays_2 (bA lA : Option Addr) (bn bc ln lc : Nat) (bytes list : List Int) (at_ wd x : Int) (B : Nat) (w : World) (hr : Row w B bA (bytes.map (Value.int .u8))) (hbn : bn = bytes.length) (hz : ∀ z ∈ bytes, U8 z) (hbc : bn ≤ bc) (hbm : bc ≤ maxLen)
    (hrl : Row w B lA (list.map (Value.int .i64))) (hln : ln = list.length) (hzl : ∀ z ∈ list, I64 z) (hlc : ln ≤ lc) (hlm : lc ≤ maxLen) (hat : I64 at_) (hwd : I64 wd) (hx : U64 x) (hB : B ≤ w.heap.size) :
    Calls Try.prog 14 #[.agg #[.int .i64 2, .slice bA bn bc, .int .i64 at_, .int .i64 wd, .int .u64 x, .slice lA ln lc]] w fun e w' => e = .returned (.bool true) ∧ Below w.heap.size w w' := by
  have hat' := hat
  have hwd' := hwd
  subst hln
  subst hbn
  obtain ⟨hat0, hat1⟩ := hat
  obtain ⟨hw0, hw1⟩ := hwd
  unfold maxLen at hbm hlm
  go_enter Try.func14, Try.ntmps14
  go_upto_if 14 with (fail)
  go_cut [2] (fun s2 wx => s2 = .bool false ∧ ∃ bs : List Int, bs.length ≤ 2000 ∧ bs.length ≤ bc ∧ Row w B bA (bs.map (Value.int .u8)) ∧ (∀ z ∈ bs, U8 z) ∧
    wx = w.alloc (.cells #[.int .i64 2, .slice bA bs.length bc, .int .i64 at_, .int .i64 wd, .int .u64 x, .slice lA list.length lc] 29))
  case first =>
    by_cases hbig : 2000 < bytes.length
    · have hc0 : (2000 : Int) ≤ bc := by omega
      have hlen : (bytes.take 2000).length = 2000 := by rw [List.length_take]; omega
      have HL := Lib.hid hlen
      clear hlen
      go_wp2_with fail
      go_meet
      exact ⟨rfl, bytes.take 2000, by rw [HL.out]; exact Nat.le_refl _, by rw [HL.out]; omega, hr.take 2000, fun z hz' => hz z (List.mem_of_mem_take hz'), by rw [HL.out]⟩
    · go_wp2_with fail
      go_meet
      exact ⟨rfl, bytes, by omega, by omega, hr, hz, rfl⟩
  case rest =>
  obtain ⟨rfl, bs, hb2000, hbsc, hrb, hzb, hwc⟩ := hcut
  have hbox : Blk wc w.heap.size 29 [.int .i64 2, .slice bA bs.length bc, .int .i64 at_, .int .i64 wd, .int .u64 x, .slice lA list.length lc] := by rw [hwc]; exact Blk.new _ _ _
  have hbw : Below w.heap.size w wc := by rw [hwc]; exact (Below.refl _ _).alloc (Nat.le_refl _) _
  have hpl : w.heap.size < wc.heap.size := by rw [hwc]; simp
  clear hwc hr hz
  have f0 := hbox.cell 0
  have f1 := hbox.cell 1
  have f2 := hbox.cell 2
  have f3 := hbox.cell 3
  have f4 := hbox.cell 4
  have f5 := hbox.cell 5
  simp only [List.getElem?_cons_zero, List.getElem?_cons_succ] at f0 f1 f2 f3 f4 f5
  have q1 : ((2 : Int) == 1) = false := rfl
  have hrb' := hrb.below (hbw.mono hB)
  go_wp2_with fail
  refine (lent01_any bA bs.length bc bs B wc hrb' rfl hb2000 (Nat.le_trans hB hbw.size)).mono ?_; rintro e w2 ⟨g, cs, rfl, hblk, hgb, hgl, hcs3, hcsm, hctk, hb2⟩
  have hbox2 := hbox.below hb2 hpl
  clear f0 f1 f2 f3 f4 f5
  have f1 := hbox2.cell 1
  have f2 := hbox2.cell 2
  have f3 := hbox2.cell 3
  have f4 := hbox2.cell 4
  simp only [List.getElem?_cons_zero, List.getElem?_cons_succ] at f1 f2 f3 f4
  have hr2 := hrb'.below (hb2.mono (Nat.le_trans hB hbw.size))
  have hmx : bs.length ≤ maxLen := by unfold maxLen; omega
  have hcell : ∀ k, k < bs.length → cs[k]? = some (.int .u8 (bs.getD k 0)) := fun k hk => by
    have e : (cs.take (bs.length + 3))[k]? = (vs8 (bs ++ marks))[k]? := by rw [hctk]
    rw [List.getElem?_take_of_lt (by omega)] at e
    rw [e, vs8, List.map_append, List.getElem?_append_left (by simpa using hk), List.getElem?_map, List.getElem?_eq_getElem hk]
    simp [List.getD_eq_getElem?_getD, List.getElem?_eq_getElem hk]
  have hB2 : B ≤ w2.heap.size := Nat.le_trans (Nat.le_trans hB hbw.size) hb2.size
  have HC := Lib.hid hctk
  clear hctk
  obtain ⟨i0, hi, hz0', hz1, hz2⟩ := info_parts u8_info
  have hone := one_ints bs .u8
  have f0 := hbox2.cell 0
  go_wp2_with (at_builtin; refine wpList_append_row _ rfl _ _ 25 rfl w2.heap.size 5 i0 (.int .u8 0) 1 1 Try.underlying25 hi hz0' hz1 hz2 rfl (by decide) _ 0 [] rfl (World.ownsRow_nil _ _ _ _) B bA bs.length bc (bs.map (Value.int .u8)) rfl hr2 (by simp) hone (by unfold maxLen; omega) (by omega) (Nat.le_refl _) ?_; intro v3 w3 hown3 hg3 hat3; have hb3 : Below w2.heap.size w2 w3 := (Below.refl _ _).grown hg3 (Nat.le_refl _) (fun q hq => by cases hq); have hown4 : w3.ownsRow w2.heap.size 5 1 v3 bs.length (bs.map (Value.int .u8)) := (by simpa using hown3); have hbox3 := hbox2.below hb3 hbox2.lt; have f2' := hbox3.cell 2; have f3' := hbox3.cell 3; have f4' := hbox3.cell 4; simp only [List.getElem?_cons_zero, List.getElem?_cons_succ] at f2' f3' f4')
  have hb3' : Below wc.heap.size wc w3 := hb2.trans (hb3.mono hb2.size)
  have hbox' := hbox
  suffices H : ∃ (E : Int) (w4 : World), Below wc.heap.size wc w4 ∧ Calls Try.prog 16 #[.slice (some ⟨g, 0, none⟩) bs.length cs.length, .int .i64 at_, .int .i64 wd, .int .u64 x] w3 (fun e w' => e = .returned (.int .i64 E) ∧ w4 = w') ∧
      Calls Try.prog 56 #[v3, .int .i64 at_, .int .i64 wd, .int .u64 x] w4.drew (fun e w' => e = .returned (.int .i64 E) ∧ Below wc.heap.size wc w' ∧
        Calls Try.prog 57 #[.slice (some ⟨g, 0, none⟩) bs.length cs.length, v3] w' (fun e w'' => e = .returned (.bool true) ∧ Below w'.heap.size w' w'')) by
    obtain ⟨E, w4, hb4, hP, hR⟩ := H
    have hbox4 := hbox'.below hb4 hpl
    have g2 := hbox4.cell 2
    have g3 := hbox4.cell 3
    have g4 := hbox4.cell 4
    simp only [List.getElem?_cons_zero, List.getElem?_cons_succ] at g2 g3 g4
    have hee : (E == E) = true := by simp
    have HP := Lib.hid hP; have HR := Lib.hid hR
    clear hP hR f1 f2 f3 f4 f2' f3' f4' hcell hown3 hown4 hone
    refine HP.out.mono ?_; rintro e w' ⟨rfl, rfl⟩
    go_wp2_with fail
    go_region_held3 (fun wx : World => wx.cell? ⟨w.heap.size, 2, none⟩ = some (.int .i64 at_) ∧ wx.cell? ⟨w.heap.size, 3, none⟩ = some (.int .i64 wd) ∧ wx.cell? ⟨w.heap.size, 4, none⟩ = some (.int .u64 x)) (first | exact ⟨g2, g3, g4⟩ | exact ⟨j2, j3, j4⟩ | exact ⟨k2, k3, k4⟩) (first
      | (go_at_call 18; refine (num01_any _ _).mono ?_; rintro e w' ⟨rfl, rfl⟩)
      | ((with_reducible refine HR.out.mono ?_); rintro e w5 ⟨rfl, hb5, hk5⟩; have HK5 := Lib.hid hk5; clear hk5; have hbox5 := hbox'.below hb5 hpl; have j2 := hbox5.cell 2; have j3 := hbox5.cell 3; have j4 := hbox5.cell 4; simp only [List.getElem?_cons_zero, List.getElem?_cons_succ] at j2 j3 j4)
      | ((with_reducible refine HK5.out.mono ?_); rintro e w6 ⟨rfl, hb6⟩; have hbox6 := hbox5.below hb6 hbox5.lt; have k2 := hbox6.cell 2; have k3 := hbox6.cell 3; have k4 := hbox6.cell 4; simp only [List.getElem?_cons_zero, List.getElem?_cons_succ] at k2 k3 k4))
    go_wp2_with fail
    go_ret
    exact ⟨rfl, hbw.trans ((hb5.trans (hb6.mono hb5.size)).mono hbw.size)⟩
  have hblk3 := hblk.below hb3 hgl
  have hb3w : Below w2.heap.size w2 w3 := hb3
  have hcsz : cs.length ≤ maxLen := hcsm
  have hg2 : g < w2.heap.size := hgl
  obtain ⟨A3, c3, hv3, h3a, h3b, h3c, hr3⟩ := Row.of_own hown4
  have hkeep : Calls Try.prog 57 #[.slice (some ⟨g, 0, none⟩) bs.length cs.length, v3] w3.drew (fun e w'' => e = .returned (.bool true) ∧ Below w3.drew.heap.size w3.drew w'') := by
    rw [hv3]
    exact kept01_any g bs.length c3 cs A3 bs.length bs w3.heap.size w3.drew (hblk3.drew) hcs3 hcsm HC.out hr3.drew rfl hb2000 (Nat.le_refl _)
  rcases winErr_cases bs.length at_ wd with ⟨h, hh⟩ | ⟨h, hh⟩ | ⟨h, h1, h2, h3, h4⟩
  · have he : winErr bs.length at_ wd ≠ 0 := by rw [h]; decide
    refine ⟨winErr bs.length at_ wd, w3, hb3', Put_bad _ _ _ _ _ _ w3 hmx hat' hwd' he, ?_⟩
    rw [hv3]
    refine (refPut_bad A3 bs.length c3 at_ wd x w3.drew hmx hat' hwd' he).mono ?_
    rintro e w' ⟨rfl, rfl⟩
    exact ⟨rfl, hb3'.drew, by rw [← hv3]; exact hkeep⟩
  · have he : winErr bs.length at_ wd ≠ 0 := by rw [h]; decide
    refine ⟨winErr bs.length at_ wd, w3, hb3', Put_bad _ _ _ _ _ _ w3 hmx hat' hwd' he, ?_⟩
    rw [hv3]
    refine (refPut_bad A3 bs.length c3 at_ wd x w3.drew hmx hat' hwd' he).mono ?_
    rintro e w' ⟨rfl, rfl⟩
    exact ⟨rfl, hb3'.drew, by rw [← hv3]; exact hkeep⟩
  · obtain ⟨p, rfl⟩ := Int.eq_ofNat_of_zero_le h3
    obtain ⟨d, rfl⟩ := Int.eq_ofNat_of_zero_le (by omega : 0 ≤ wd)
    cases hf : fitsB x d with
    | false =>
      refine ⟨10, w3, hb3', Put_unfit g 0 bs.length cs.length p d x w3 hmx (by omega) hcsm (by omega) (by omega) (by omega) hx hf, ?_⟩
      rw [hv3]
      refine (refPut_unfit A3 bs.length c3 p d x w3.drew hmx (by omega) (by omega) (by omega) hx hf).mono ?_
      rintro e w' ⟨rfl, rfl⟩
      exact ⟨rfl, hb3'.drew, by rw [← hv3]; exact hkeep⟩
    | true =>
      obtain ⟨g3, cs3, hv3', hg3b, hg3l, hblk3', hg3n, hg3m, htk3⟩ := own_blk hown4 (by omega)
      have hne : g ≠ g3 := by omega
      have hV : (vs8 (leBytes x d)).length = d := by simp [vs8, leBytes_length]
      have hP := Put_good g 0 bs.length cs.length p d x w3 hmx (by omega) hcsm (by omega) (by omega) (by omega) hx hf
        (fun k hk => ⟨_, by rw [hblk3.cell]; exact hcell _ (by omega)⟩) (fun k hk => hblk3.frozen _)
      rw [Nat.zero_add] at hP
      have hb4 : Below wc.heap.size wc (setRow w3 g p (vs8 (leBytes x d))) := hb3'.trans (setRow_below hgb _ _ _)
      refine ⟨0, setRow w3 g p (vs8 (leBytes x d)), hb4, hP, ?_⟩
      rw [hv3']
      have k3 : Blk (setRow w3 g p (vs8 (leBytes x d))) g3 5 cs3 := hblk3'.setRow_far (Ne.symm hne) _ _
      have k1 : Blk (setRow w3 g p (vs8 (leBytes x d))) g 5 (putAt cs p (vs8 (leBytes x d))) := hblk3.setRow _ _
      generalize setRow w3 g p (vs8 (leBytes x d)) = w4 at *
      have hR := refPut_good g3 0 bs.length cs3.length p d x w4.drew hmx (by omega) (by omega) (by omega) hx hf
        (fun k hk => ⟨_, by rw [(k3.drew).cell]; exact List.getElem?_eq_getElem (by omega)⟩) (fun k hk => (k3.drew).frozen _)
      rw [Nat.zero_add] at hR
      refine hR.mono ?_
      rintro e w' ⟨rfl, rfl⟩
      refine ⟨rfl, hb4.drew.trans (setRow_below (Nat.le_trans hb2.size hg3b) _ _ _), ?_⟩
      have k4 := (k1.drew).setRow_far hne (vs8 (leBytes x d)) p
      have k5 := (k3.drew).setRow (vs8 (leBytes x d)) p
      generalize setRow w4.drew g3 p (vs8 (leBytes x d)) = w5 at *
      have hlB : (leBytes x d).length = d := leBytes_length x d
      have ht1 : (putAt cs p (vs8 (leBytes x d))).take (bs.length + 3) = vs8 (putAt bs p (leBytes x d) ++ marks) := by
        rw [putAt_take, HC.out, vs8, vs8, ← putAt_map, putAt_append _ _ _ _ (by omega), vs8]
      have ht2 : ((putAt cs3 p (vs8 (leBytes x d))).drop 0).take bs.length = (putAt bs p (leBytes x d)).map (Value.int .u8) := by
        rw [List.drop_zero, putAt_take, htk3, putAt_map]; rfl
      have hrow := k5.rowAt 0 bs.length
      rw [ht2] at hrow
      have hK := kept01_any g bs.length cs3.length (putAt cs p (vs8 (leBytes x d))) (some ⟨g3, 0, none⟩) bs.length (putAt bs p (leBytes x d)) (g3 + 1) w5 k4 (by rw [putAt_length]; exact hcs3) (by rw [putAt_length]; exact hcsm) ht1
        hrow (by rw [putAt_length]) hb2000 k5.lt
      rw [putAt_length] at hK
      exact hK
end Go.Proofs.Ytfklhppfehkfaaa

import Derived.Test.YtfklhppfehkfaaaLe9
namespace Go.Proofs.Ytfklhppfehkfaaa
open Go.RowKit

set_option maxHeartbeats 1000000 in
set_option maxRecDepth 100000 in
theorem plays_other (kind : Int) (hk : kind ≠ 1 ∧ kind ≠ 2 ∧ kind ≠ 3 ∧ kind ≠ 4 ∧ kind ≠ 5) (bA lA : Option Addr) (bn bc ln lc : Nat) (bytes list : List Int) (at_ wd x : Int) (B : Nat) (w : World) (hr : Row w B bA (bytes.map (Value.int .u8))) (hbn : bn = bytes.length) (hz : ∀ z ∈ bytes, U8 z) (hbc : bn ≤ bc) (hbm : bc ≤ maxLen)
    (hrl : Row w B lA (list.map (Value.int .i64))) (hln : ln = list.length) (hzl : ∀ z ∈ list, I64 z) (hlc : ln ≤ lc) (hlm : lc ≤ maxLen) (hat : I64 at_) (hwd : I64 wd) (hx : U64 x) (hB : B ≤ w.heap.size) :
    Calls Try.prog 14 #[.agg #[.int .i64 kind, .slice bA bn bc, .int .i64 at_, .int .i64 wd, .int .u64 x, .slice lA ln lc]] w fun e w' => e = .returned (.bool true) ∧ Below w.heap.size w w' := by
  have hat' := hat
  have hwd' := hwd
  subst hln
  subst hbn
  obtain ⟨hat0, hat1⟩ := hat
  obtain ⟨hw0, hw1⟩ := hwd
  unfold maxLen at hbm hlm
  go_enter Try.func14, Try.ntmps14
  go_upto_if 14 with (fail)
  go_cut [2] (fun s2 wx => s2 = .bool false ∧ ∃ bs : List Int, bs.length ≤ 2000 ∧ bs.length ≤ bc ∧ Row w B bA (bs.map (Value.int .u8)) ∧ (∀ z ∈ bs, U8 z) ∧
    wx = w.alloc (.cells #[.int .i64 kind, .slice bA bs.length bc, .int .i64 at_, .int .i64 wd, .int .u64 x, .slice lA list.length lc] 29))
  case first =>
    by_cases hbig : 2000 < bytes.length
    · have hc0 : (2000 : Int) ≤ bc := by omega
      have hlen : (bytes.take 2000).length = 2000 := by rw [List.length_take]; omega
      have HL := Lib.hid hlen
      clear hlen
      go_wp2_with fail
      go_meet
      exact ⟨rfl, bytes.take 2000, by rw [HL.out]; exact Nat.le_refl _, by rw [HL.out]; omega, hr.take 2000, fun z hz' => hz z (List.mem_of_mem_take hz'), by rw [HL.out]⟩
    · go_wp2_with fail
      go_meet
      exact ⟨rfl, bytes, by omega, by omega, hr, hz, rfl⟩
  case rest =>
  obtain ⟨rfl, bs, hb2000, hbsc, hrb, hzb, hwc⟩ := hcut
  have hbox : Blk wc w.heap.size 29 [.int .i64 kind, .slice bA bs.length bc, .int .i64 at_, .int .i64 wd, .int .u64 x, .slice lA list.length lc] := by rw [hwc]; exact Blk.new _ _ _
  have hbw : Below w.heap.size w wc := by rw [hwc]; exact (Below.refl _ _).alloc (Nat.le_refl _) _
  have hpl : w.heap.size < wc.heap.size := by rw [hwc]; simp
  clear hwc hr hz
  have f0 := hbox.cell 0
  have f1 := hbox.cell 1
  have f2 := hbox.cell 2
  have f3 := hbox.cell 3
  have f4 := hbox.cell 4
  have f5 := hbox.cell 5
  simp only [List.getElem?_cons_zero, List.getElem?_cons_succ] at f0 f1 f2 f3 f4 f5
  obtain ⟨hk1, hk2, hk3, hk4, hk5⟩ := hk
  have q1 : (kind == 1) = false := by simpa using hk1
  have q2 : (kind == 2) = false := by simpa using hk2
  have q3 : (kind == 3) = false := by simpa using hk3
  have q4 : (kind == 4) = false := by simpa using hk4
  have q5 : (kind == 5) = false := by simpa using hk5
  go_wp2_with fail
  go_ret
  exact ⟨rfl, hbw⟩

set_option maxHeartbeats 1000000 in
set_option maxRecDepth 100000 in
theorem plays_1 (bA lA : Option Addr) (bn bc ln lc : Nat) (bytes list : List Int) (at_ wd x : Int) (B : Nat) (w : World) (hr : Row w B bA (bytes.map (Value.int .u8))) (hbn : bn = bytes.length) (hz : ∀ z ∈ bytes, U8 z) (hbc : bn ≤ bc) (hbm : bc ≤ maxLen)
    (hrl : Row w B lA (list.map (Value.int .i64))) (hln : ln = list.length) (hzl : ∀ z ∈ list, I64 z) (hlc : ln ≤ lc) (hlm : lc ≤ maxLen) (hat : I64 at_) (hwd : I64 wd) (hx : U64 x) (hB : B ≤ w.heap.size) :
    Calls Try.prog 14 #[.agg #[.int .i64 1, .slice bA bn bc, .int .i64 at_, .int .i64 wd, .int .u64 x, .slice lA ln lc]] w fun e w' => e = .returned (.bool true) ∧ Below w.heap.size w w' := by
  have hat' := hat
  have hwd' := hwd
  subst hln
  subst hbn
  obtain ⟨hat0, hat1⟩ := hat
  obtain ⟨hw0, hw1⟩ := hwd
  unfold maxLen at hbm hlm
  go_enter Try.func14, Try.ntmps14
  go_upto_if 14 with (fail)
  go_cut [2] (fun s2 wx => s2 = .bool false ∧ ∃ bs : List Int, bs.length ≤ 2000 ∧ bs.length ≤ bc ∧ Row w B bA (bs.map (Value.int .u8)) ∧ (∀ z ∈ bs, U8 z) ∧
    wx = w.alloc (.cells #[.int .i64 1, .slice bA bs.length bc, .int .i64 at_, .int .i64 wd, .int .u64 x, .slice lA list.length lc] 29))
  case first =>
    by_cases hbig : 2000 < bytes.length
    · have hc0 : (2000 : Int) ≤ bc := by omega
      have hlen : (bytes.take 2000).length = 2000 := by rw [List.length_take]; omega
      have HL := Lib.hid hlen
      clear hlen
      go_wp2_with fail
      go_meet
      exact ⟨rfl, bytes.take 2000, by rw [HL.out]; exact Nat.le_refl _, by rw [HL.out]; omega, hr.take 2000, fun z hz' => hz z (List.mem_of_mem_take hz'), by rw [HL.out]⟩
    · go_wp2_with fail
      go_meet
      exact ⟨rfl, bytes, by omega, by omega, hr, hz, rfl⟩
  case rest =>
  obtain ⟨rfl, bs, hb2000, hbsc, hrb, hzb, hwc⟩ := hcut
  have hbox : Blk wc w.heap.size 29 [.int .i64 1, .slice bA bs.length bc, .int .i64 at_, .int .i64 wd, .int .u64 x, .slice lA list.length lc] := by rw [hwc]; exact Blk.new _ _ _
  have hbw : Below w.heap.size w wc := by rw [hwc]; exact (Below.refl _ _).alloc (Nat.le_refl _) _
  have hpl : w.heap.size < wc.heap.size := by rw [hwc]; simp
  clear hwc hr hz
  have f0 := hbox.cell 0
  have f1 := hbox.cell 1
  have f2 := hbox.cell 2
  have f3 := hbox.cell 3
  have f4 := hbox.cell 4
  have f5 := hbox.cell 5
  simp only [List.getElem?_cons_zero, List.getElem?_cons_succ] at f0 f1 f2 f3 f4 f5
  have hee : (fitsB x wd == fitsB x wd) = true := by simp
  go_wp2_with fail
  go_quiet ((first | (go_at_call 17; exact Calls.quiet_of_same ((Fits_any _ _ _ hx hwd').mono fun e w' h => ⟨h.1, h.2.symm⟩)) | (go_at_call 54; exact Calls.quiet_of_same ((refFits_any _ _ _ hx hwd').mono fun e w' h => ⟨h.1, h.2.symm⟩))))
  go_wp2_with fail
  go_ret
  exact ⟨rfl, below_drewN hbw _⟩

set_option maxHeartbeats 1000000 in
set_option maxRecDepth 100000 in
theorem plays_5 (bA lA : Option Addr) (bn bc ln lc : Nat) (bytes list : List Int) (at_ wd x : Int) (B : Nat) (w : World) (hr : Row w B bA (bytes.map (Value.int .u8))) (hbn : bn = bytes.length) (hz : ∀ z ∈ bytes, U8 z) (hbc : bn ≤ bc) (hbm : bc ≤ maxLen)
    (hrl : Row w B lA (list.map (Value.int .i64))) (hln : ln = list.length) (hzl : ∀ z ∈ list, I64 z) (hlc : ln ≤ lc) (hlm : lc ≤ maxLen) (hat : I64 at_) (hwd : I64 wd) (hx : U64 x) (hB : B ≤ w.heap.size) :
    Calls Try.prog 14 #[.agg #[.int .i64 5, .slice bA bn bc, .int .i64 at_, .int .i64 wd, .int .u64 x, .slice lA ln lc]] w fun e w' => e = .returned (.bool true) ∧ Below w.heap.size w w' := by
  have hat' := hat
  have hwd' := hwd
  subst hln
  subst hbn
  obtain ⟨hat0, hat1⟩ := hat
  obtain ⟨hw0, hw1⟩ := hwd
  unfold maxLen at hbm hlm
  go_enter Try.func14, Try.ntmps14
  go_upto_if 14 with (fail)
  go_cut [2] (fun s2 wx => s2 = .bool false ∧ ∃ bs : List Int, bs.length ≤ 2000 ∧ bs.length ≤ bc ∧ Row w B bA (bs.map (Value.int .u8)) ∧ (∀ z ∈ bs, U8 z) ∧
    wx = w.alloc (.cells #[.int .i64 5, .slice bA bs.length bc, .int .i64 at_, .int .i64 wd, .int .u64 x, .slice lA list.length lc] 29))
  case first =>
    by_cases hbig : 2000 < bytes.length
    · have hc0 : (2000 : Int) ≤ bc := by omega
      have hlen : (bytes.take 2000).length = 2000 := by rw [List.length_take]; omega
      have HL := Lib.hid hlen
      clear hlen
      go_wp2_with fail
      go_meet
      exact ⟨rfl, bytes.take 2000, by rw [HL.out]; exact Nat.le_refl _, by rw [HL.out]; omega, hr.take 2000, fun z hz' => hz z (List.mem_of_mem_take hz'), by rw [HL.out]⟩
    · go_wp2_with fail
      go_meet
      exact ⟨rfl, bytes, by omega, by omega, hr, hz, rfl⟩
  case rest =>
  obtain ⟨rfl, bs, hb2000, hbsc, hrb, hzb, hwc⟩ := hcut
  have hbox : Blk wc w.heap.size 29 [.int .i64 5, .slice bA bs.length bc, .int .i64 at_, .int .i64 wd, .int .u64 x, .slice lA list.length lc] := by rw [hwc]; exact Blk.new _ _ _
  have hbw : Below w.heap.size w wc := by rw [hwc]; exact (Below.refl _ _).alloc (Nat.le_refl _) _
  have hpl : w.heap.size < wc.heap.size := by rw [hwc]; simp
  clear hwc hr hz
  have f0 := hbox.cell 0
  have f1 := hbox.cell 1
  have f2 := hbox.cell 2
  have f3 := hbox.cell 3
  have f4 := hbox.cell 4
  have f5 := hbox.cell 5
  simp only [List.getElem?_cons_zero, List.getElem?_cons_succ] at f0 f1 f2 f3 f4 f5
  have hee : (timesS at_ wd == timesS at_ wd) = true := by simp
  go_wp2_with fail
  go_quiet ((first | (go_at_call 21; exact Calls.quiet_of_same ((Times_any _ _ _ hat' hwd').mono fun e w' h => ⟨h.1, h.2.symm⟩)) | (go_at_call 60; exact Calls.quiet_of_same ((refTimes_any _ _ _ hat' hwd').mono fun e w' h => ⟨h.1, h.2.symm⟩))))
  go_wp2_with fail
  go_ret
  exact ⟨rfl, below_drewN hbw _⟩

set_option maxHeartbeats 1000000 in
set_option maxRecDepth 100000 in
theorem plays_4 (bA lA : Option Addr) (bn bc ln lc : Nat) (bytes list : List Int) (at_ wd x : Int) (B : Nat) (w : World) (hr : Row w B bA (bytes.map (Value.int .u8))) (hbn : bn = bytes.length) (hz : ∀ z ∈ bytes, U8 z) (hbc : bn ≤ bc) (hbm : bc ≤ maxLen)
    (hrl : Row w B lA (list.map (Value.int .i64))) (hln : ln = list.length) (hzl : ∀ z ∈ list, I64 z) (hlc : ln ≤ lc) (hlm : lc ≤ maxLen) (hat : I64 at_) (hwd : I64 wd) (hx : U64 x) (hB : B ≤ w.heap.size) :
    Calls Try.prog 14 #[.agg #[.int .i64 4, .slice bA bn bc, .int .i64 at_, .int .i64 wd, .int .u64 x, .slice lA ln lc]] w fun e w' => e = .returned (.bool true) ∧ Below w.heap.size w w' := by
  have hat' := hat
  have hwd' := hwd
  subst hln
  subst hbn
  obtain ⟨hat0, hat1⟩ := hat
  obtain ⟨hw0, hw1⟩ := hwd
  unfold maxLen at hbm hlm
  go_enter Try.func14, Try.ntmps14
  go_upto_if 14 with (fail)
  go_cut [2] (fun s2 wx => s2 = .bool false ∧ ∃ bs : List Int, bs.length ≤ 2000 ∧ bs.length ≤ bc ∧ Row w B bA (bs.map (Value.int .u8)) ∧ (∀ z ∈ bs, U8 z) ∧
    wx = w.alloc (.cells #[.int .i64 4, .slice bA bs.length bc, .int .i64 at_, .int .i64 wd, .int .u64 x, .slice lA list.length lc] 29))
  case first =>
    by_cases hbig : 2000 < bytes.length
    · have hc0 : (2000 : Int) ≤ bc := by omega
      have hlen : (bytes.take 2000).length = 2000 := by rw [List.length_take]; omega
      have HL := Lib.hid hlen
      clear hlen
      go_wp2_with fail
      go_meet
      exact ⟨rfl, bytes.take 2000, by rw [HL.out]; exact Nat.le_refl _, by rw [HL.out]; omega, hr.take 2000, fun z hz' => hz z (List.mem_of_mem_take hz'), by rw [HL.out]⟩
    · go_wp2_with fail
      go_meet
      exact ⟨rfl, bytes, by omega, by omega, hr, hz, rfl⟩
  case rest =>
  obtain ⟨rfl, bs, hb2000, hbsc, hrb, hzb, hwc⟩ := hcut
  have hbox : Blk wc w.heap.size 29 [.int .i64 4, .slice bA bs.length bc, .int .i64 at_, .int .i64 wd, .int .u64 x, .slice lA list.length lc] := by rw [hwc]; exact Blk.new _ _ _
  have hbw : Below w.heap.size w wc := by rw [hwc]; exact (Below.refl _ _).alloc (Nat.le_refl _) _
  have hpl : w.heap.size < wc.heap.size := by rw [hwc]; simp
  clear hwc hr hz
  have f0 := hbox.cell 0
  have f1 := hbox.cell 1
  have f2 := hbox.cell 2
  have f3 := hbox.cell 3
  have f4 := hbox.cell 4
  have f5 := hbox.cell 5
  simp only [List.getElem?_cons_zero, List.getElem?_cons_succ] at f0 f1 f2 f3 f4 f5
  have hz5 := hbox.frozen 5
  go_upto_if 110 with (fail)
  obtain ⟨w1, hw1⟩ : ∃ w1, w1 = wc := ⟨_, rfl⟩
  subst hw1
  go_cut [] (fun wx => ∃ ls : List Int, ls.length ≤ 2000 ∧ Row w B lA (ls.map (Value.int .i64)) ∧ (∀ z ∈ ls, I64 z) ∧ wx.cell? ⟨w.heap.size, 5, none⟩ = some (.slice lA ls.length lc) ∧ Below w.heap.size w wx)
  case first =>
    by_cases hbig : 2000 < list.length
    · have hc0 : (2000 : Int) ≤ lc := by omega
      have hlen : (list.take 2000).length = 2000 := by rw [List.length_take]; omega
      have HL := Lib.hid hlen
      clear hlen
      have hb5 := hbox.set_ 5 (.slice lA 2000 lc)
      go_wp2_with fail
      go_meet
      exact ⟨list.take 2000, by rw [HL.out]; exact Nat.le_refl _, hrl.take 2000, fun z hz' => hzl z (List.mem_of_mem_take hz'), by rw [HL.out, hb5.cell]; rfl, hbw.setCell (Nat.le_refl _) _⟩
    · go_wp2_with fail
      go_meet
      exact ⟨list, by omega, hrl, hzl, f5, hbw⟩
  case rest =>
  clear f5
  obtain ⟨ls, hl1, hl2, hl3, f5, hbw2⟩ := hcut
  go_wp2_with fail
  refine (sums_any lA ls.length lc ls B _ (hl2.below (hbw2.mono hB)) rfl hl3 hl1 (Nat.le_trans hB hbw2.size)).mono ?_; rintro e w2 ⟨rfl, hb3⟩
  go_wp2_with fail
  go_ret
  exact ⟨rfl, hbw2.trans (hb3.mono hbw2.size)⟩
end Go.Proofs.Ytfklhppfehkfaaa

import Derived.Test.YtfklhppfehkfaaaCur1
import Derived.Laws.CopyOwn
import Derived.Laws.OwnMore
namespace Go.Proofs.Ytfklhppfehkfaaa
open Go.RowKit

/-- an Input in memory: what it holds, where it is, whether it has ended -/
def InpAt (w : World) (base p : Nat) (at_ : Int) (over : Bool) (A : Option Addr) (n c : Nat) (xs : List Int) : Prop :=
  base ≤ p ∧ Blk w p 138 [.slice A n c, .int .i64 at_, .bool over] ∧ OwnS w base 5 A n c (xs.map (Value.int .u8)) ∧ blkOf A ≠ some p

set_option maxHeartbeats 400000 in
theorem INew_good (at_ : Int) (w : World) (h : 0 ≤ at_) (h1 : at_ ≤ 2147483647) : Calls Try.prog 27 #[.int .i64 at_] w fun e w' =>
    e = .returned (.tuple #[.pointer (some ⟨w.heap.size, 0, none⟩), .int .i64 0]) ∧ w.alloc (.cells #[.slice none 0 0, .int .i64 at_, .bool false] 138) = w' := by
  go_enter Try.func27, Try.ntmps27
  go_wp2
  go_ret2
  exact ⟨rfl, rfl⟩
set_option maxHeartbeats 400000 in
theorem INew_bad (at_ : Int) (w : World) (h : at_ < 0 ∨ 2147483647 < at_) : Calls Try.prog 27 #[.int .i64 at_] w fun e w' =>
    e = .returned (.tuple #[.pointer none, .int .i64 3]) ∧ w = w' := by
  by_cases h0 : at_ < 0
  · go_enter Try.func27, Try.ntmps27
    go_wp2
    go_ret2
    exact ⟨rfl, rfl⟩
  · have h2 : 2147483647 < at_ := by omega
    clear h
    go_enter Try.func27, Try.ntmps27
    go_wp2
    go_ret2
    exact ⟨rfl, rfl⟩
theorem INew_at (at_ : Int) (w : World) : InpAt (w.alloc (.cells #[.slice none 0 0, .int .i64 at_, .bool false] 138)) w.heap.size w.heap.size at_ false none 0 0 [] :=
  ⟨Nat.le_refl _, Blk.new w _ [_, _, _], OwnS.nil _ _ _ _, by simp [blkOf]⟩
theorem To_at (most : Int) (w : World) : OutAt (w.alloc (.cells #[.int .i64 most, .slice none 0 0] 141)) w.heap.size w.heap.size most none 0 0 [] :=
  ⟨Nat.le_refl _, Blk.new w _ [_, _], OwnS.nil _ _ _ _, by simp [blkOf]⟩

section
variable (base p : Nat) (at_ : Int) (over : Bool) (A : Option Addr) (n c : Nat) (xs : List Int) (w : World)

set_option maxHeartbeats 400000 in
theorem IAt_any (hb : Blk w p 138 [.slice A n c, .int .i64 at_, .bool over]) :
    Calls Try.prog 34 #[.pointer (some ⟨p, 0, none⟩)] w fun e w' => e = .returned (.int .i64 at_) ∧ w = w' := by
  have f1 := hb.cell 1
  simp only [List.getElem?_cons_zero, List.getElem?_cons_succ] at f1
  go_enter Try.func34, Try.ntmps34
  go_wp2
  go_ret
  exact ⟨rfl, rfl⟩
set_option maxHeartbeats 400000 in
theorem IHeld_any (hb : Blk w p 138 [.slice A n c, .int .i64 at_, .bool over]) :
    Calls Try.prog 35 #[.pointer (some ⟨p, 0, none⟩)] w fun e w' => e = .returned (.int .i64 n) ∧ w = w' := by
  have f1 := hb.cell 0
  simp only [List.getElem?_cons_zero, List.getElem?_cons_succ] at f1
  go_enter Try.func35, Try.ntmps35
  go_wp2
  go_ret
  exact ⟨rfl, rfl⟩
set_option maxHeartbeats 400000 in
theorem IEnded_any (hb : Blk w p 138 [.slice A n c, .int .i64 at_, .bool over]) :
    Calls Try.prog 36 #[.pointer (some ⟨p, 0, none⟩)] w fun e w' => e = .returned (.bool over) ∧ w = w' := by
  have f1 := hb.cell 2
  simp only [List.getElem?_cons_zero, List.getElem?_cons_succ] at f1
  go_enter Try.func36, Try.ntmps36
  go_wp2
  go_ret
  exact ⟨rfl, rfl⟩
set_option maxHeartbeats 400000 in
theorem IEnd_over (hb : Blk w p 138 [.slice A n c, .int .i64 at_, .bool true]) :
    Calls Try.prog 37 #[.pointer (some ⟨p, 0, none⟩)] w fun e w' => e = .returned (.int .i64 30) ∧ w = w' := by
  have f1 := hb.cell 2
  simp only [List.getElem?_cons_zero, List.getElem?_cons_succ] at f1
  go_enter Try.func37, Try.ntmps37
  go_wp2
  go_ret
  exact ⟨rfl, rfl⟩
set_option maxHeartbeats 400000 in
theorem IEnd_good (h : InpAt w base p at_ false A n c xs) :
    Calls Try.prog 37 #[.pointer (some ⟨p, 0, none⟩)] w fun e w' => e = .returned (.int .i64 0) ∧ InpAt w' base p at_ true A n c xs ∧ Fr w w' (fun k => k = p) := by
  obtain ⟨h1, hb, ho, hn⟩ := h
  have f1 := hb.cell 2
  have ff := hb.frozen 2
  simp only [List.getElem?_cons_zero, List.getElem?_cons_succ] at f1
  go_enter Try.func37, Try.ntmps37
  go_wp2
  go_ret
  exact ⟨rfl, ⟨h1, hb.set_ 2 _, ho.far (p := ⟨p, 2, none⟩) hn _, hn⟩, (Fr.refl w (fun k => k = p)).setCell (p := ⟨p, 2, none⟩) rfl _⟩
set_option maxHeartbeats 400000 in
theorem IGive_over (A2 : Option Addr) (m c2 : Nat) (hb : Blk w p 138 [.slice A n c, .int .i64 at_, .bool true]) :
    Calls Try.prog 30 #[.pointer (some ⟨p, 0, none⟩), .slice A2 m c2] w fun e w' => e = .returned (.int .i64 30) ∧ w = w' := by
  have f1 := hb.cell 2
  simp only [List.getElem?_cons_zero, List.getElem?_cons_succ] at f1
  go_enter Try.func30, Try.ntmps30
  go_wp2
  go_ret
  exact ⟨rfl, rfl⟩
set_option maxHeartbeats 1000000 in
theorem IGive_good (A2 : Option Addr) (m c2 : Nat) (zs : List Int) (B : Nat) (h : InpAt w base p at_ false A n c xs) (hr : Row w B A2 (zs.map (Value.int .u8))) (hmz : m = zs.length) (hnm : n + m ≤ 140737488355328) (hbase : base ≤ w.heap.size) :
    Calls Try.prog 30 #[.pointer (some ⟨p, 0, none⟩), .slice A2 m c2] w fun e w' => ∃ A' c', e = .returned (.int .i64 0) ∧ InpAt w' base p at_ false A' (n + m) c' (xs ++ zs) ∧
      (blkOf A' = blkOf A ∨ ∃ q, blkOf A' = some q ∧ w.heap.size ≤ q ∧ q < w'.heap.size) ∧ Fr w w' (fun k => k = p ∨ blkOf A = some k) := by
  obtain ⟨hpb, hb, hown, hne⟩ := h
  obtain ⟨i0, hi, hz0', hz1, hz2⟩ := info_parts u8_info'
  have f0 := hb.cell 0
  have f2 := hb.cell 2
  simp only [List.getElem?_cons_zero, List.getElem?_cons_succ] at f0 f2
  have hone := one_ints' zs .u8
  subst hmz
  have hlt := hb.lt
  go_enter Try.func30, Try.ntmps30
  go_wp2_with (at_builtin; refine wpList_append_ownS _ rfl _ _ 25 rfl base 5 i0 (.int .u8 0) 1 Try.underlying25 hi hz0' hz1 hz2 rfl A n c _ rfl hown B A2 zs.length c2 (zs.map (Value.int .u8)) rfl hr (by simp) hone (by unfold maxLen; omega) (by omega) hbase ?_; intro A' c' w2 hown2 hg2 hat2; have hb2 := hb.grown hg2 (Ne.symm hne); have g1 := hb2.cell 0; have g1f := hb2.frozen 0; simp only [List.getElem?_cons_zero, List.getElem?_cons_succ] at g1)
  go_ret
  have hb3 := hb2.set_ 0 (.slice A' (n + zs.length) c')
  have hne2 : blkOf A' ≠ some p := by
    rcases hat2 with e | ⟨e, elt⟩
    · rw [e]; exact hne
    · rw [e]; intro e2; injection e2 with e2; omega
  refine ⟨A', c', rfl, ⟨hpb, hb3, ?_, hne2⟩, ?_, ?_⟩
  · have := hown2.far (p := ⟨p, 0, none⟩) hne2 (.slice A' (n + zs.length) c')
    simpa using this
  · rcases hat2 with e | ⟨e, elt⟩
    · exact .inl e
    · exact .inr ⟨_, e, Nat.le_refl _, by simpa [World.setCell] using elt⟩
  · exact (Fr.of_grown hg2 (fun q hq => .inr hq)).setCell (p := ⟨p, 0, none⟩) (.inl rfl) _

set_option maxHeartbeats 1000000 in
set_option maxRecDepth 100000 in
theorem gone_any (k : Nat) (h : InpAt w base p at_ over A n c xs) (hk : k ≤ n) (ha0 : 0 ≤ at_) (ha1 : at_ + k ≤ 9223372036854775807) :
    Calls Try.prog 80 #[.pointer (some ⟨p, 0, none⟩), .int .i64 k] w fun e w' => e = .returned (.tuple #[]) ∧ ∃ A', InpAt w' base p (at_ + k) over A' (n - k) (c - k) (xs.drop k) ∧
      blkOf A' = blkOf A ∧ Fr w w' (fun q => q = p) := by
  obtain ⟨hpb, hb, hown, hne⟩ := h
  have hcut := hown.cut k hk
  rw [← List.map_drop] at hcut
  have hblk' : blkOf (if c = k then A else A.map (·.add k)) = blkOf A := by
    split
    · rfl
    · cases A with
      | none => rfl
      | some a => simp [blkOf, Addr.add]; split <;> rfl
  have hsl := fun wx => u8_lo A n c k wx hk
  generalize (if c = k then A else A.map (·.add k)) = A' at *
  have f0 := hb.cell 0
  have f1 := hb.cell 1
  have z0 := hb.frozen 0
  have hb1 := hb.set_ 0 (.slice A' (n - k) (c - k))
  have g1 := hb1.cell 1
  have g1z := hb1.frozen 1
  simp only [List.getElem?_cons_zero, List.getElem?_cons_succ, List.set_cons_zero] at f0 f1 g1
  have hb2 := hb1.set_ 1 (.int .i64 (at_ + k))
  have hne' : blkOf A' ≠ some p := by rw [hblk']; exact hne
  go_enter Try.func80, Try.ntmps80
  go_wp2
  go_end0
  exact ⟨rfl, A', ⟨hpb, hb2, (hcut.far (p := ⟨p, 0, none⟩) hne' _).far (p := ⟨p, 1, none⟩) hne' _, hne'⟩, hblk', ((Fr.refl w (fun k => k = p)).setCell (p := ⟨p, 0, none⟩) rfl _).setCell (p := ⟨p, 1, none⟩) rfl _⟩

set_option maxHeartbeats 400000 in
theorem ITake_none (hb : Blk w p 138 [.slice A 0 c, .int .i64 at_, .bool over]) :
    Calls Try.prog 33 #[.pointer (some ⟨p, 0, none⟩)] w fun e w' => e = .returned (.tuple #[.int .u8 0, .bool false]) ∧ w = w' := by
  have f1 := hb.cell 0
  simp only [List.getElem?_cons_zero, List.getElem?_cons_succ] at f1
  go_enter Try.func33, Try.ntmps33
  go_wp2
  go_ret2
  exact ⟨rfl, rfl⟩
set_option maxHeartbeats 400000 in
theorem ITake_some (x : Int) (h : InpAt w base p at_ over A n c (x :: xs)) (ha0 : 0 ≤ at_) (ha1 : at_ + 1 ≤ 9223372036854775807) :
    Calls Try.prog 33 #[.pointer (some ⟨p, 0, none⟩)] w fun e w' => e = .returned (.tuple #[.int .u8 x, .bool true]) ∧ ∃ A', InpAt w' base p (at_ + 1) over A' (n - 1) (c - 1) xs ∧
      blkOf A' = blkOf A ∧ Fr w w' (fun q => q = p) := by
  have hn : 0 < n := by have := h.2.2.1.1; simp at this; omega
  have hG := gone_any base p at_ over A n c (x :: xs) w 1 h (by omega) ha0 (by omega)
  obtain ⟨hpb, hb, hown, hne⟩ := h
  have hlen := hown.2.2.1
  obtain ⟨b, off, rfl, hbl, hc⟩ := hown.row.ints (by simp)
  have hc0 := hc 0 (by simp)
  rw [Nat.add_zero] at hc0
  have f1 := hb.cell 0
  have hne0 : ((n : Int) == 0) = false := by simp; omega
  have hn1 : (0 : Int) < n := by omega
  simp only [List.getElem?_cons_zero, List.getElem?_cons_succ, List.getD_cons_zero] at f1 hc0
  simp only [List.drop_succ_cons, List.drop_zero] at hG
  have HG := Lib.hid hG
  clear hG hc
  go_enter Try.func33, Try.ntmps33
  go_wp2_with (go_at_call 80; refine HG.out.mono ?_; rintro e w2 ⟨rfl, A', h1, h2, h3⟩)
  go_ret2
  exact ⟨rfl, A', h1, h2, h3⟩
set_option maxHeartbeats 400000 in
theorem ISkip_bad (k : Int) (hb : Blk w p 138 [.slice A n c, .int .i64 at_, .bool over]) (hk : k < 0 ∨ (n : Int) < k) :
    Calls Try.prog 32 #[.pointer (some ⟨p, 0, none⟩), .int .i64 k] w fun e w' => e = .returned (.int .i64 3) ∧ w = w' := by
  have f1 := hb.cell 0
  simp only [List.getElem?_cons_zero, List.getElem?_cons_succ] at f1
  by_cases h0 : k < 0
  · go_enter Try.func32, Try.ntmps32
    go_wp2
    go_ret
    exact ⟨rfl, rfl⟩
  · have h2 : (n : Int) < k := by omega
    clear hk
    go_enter Try.func32, Try.ntmps32
    go_wp2
    go_ret
    exact ⟨rfl, rfl⟩
set_option maxHeartbeats 400000 in
theorem ISkip_good (k : Nat) (h : InpAt w base p at_ over A n c xs) (hk : k ≤ n) (ha0 : 0 ≤ at_) (ha1 : at_ + k ≤ 9223372036854775807) :
    Calls Try.prog 32 #[.pointer (some ⟨p, 0, none⟩), .int .i64 k] w fun e w' => e = .returned (.int .i64 0) ∧ ∃ A', InpAt w' base p (at_ + k) over A' (n - k) (c - k) (xs.drop k) ∧
      blkOf A' = blkOf A ∧ Fr w w' (fun q => q = p) := by
  have hG := gone_any base p at_ over A n c xs w k h hk ha0 ha1
  obtain ⟨hpb, hb, hown, hne⟩ := h
  have f1 := hb.cell 0
  simp only [List.getElem?_cons_zero, List.getElem?_cons_succ] at f1
  have HG := Lib.hid hG
  have hk1 : (k : Int) ≤ n := by omega
  clear hG
  go_enter Try.func32, Try.ntmps32
  go_wp2_with (go_at_call 80; refine HG.out.mono ?_; rintro e w2 ⟨rfl, A', h1, h2, h3⟩)
  go_ret
  exact ⟨rfl, A', h1, h2, h3⟩
set_option maxHeartbeats 400000 in
theorem IPeek_bad (k : Int) (hb : Blk w p 138 [.slice A n c, .int .i64 at_, .bool over]) (hk : k < 0 ∨ (n : Int) < k) :
    Calls Try.prog 31 #[.pointer (some ⟨p, 0, none⟩), .int .i64 k] w fun e w' => e = .returned (.tuple #[.slice none 0 0, .bool false]) ∧ w = w' := by
  have f1 := hb.cell 0
  simp only [List.getElem?_cons_zero, List.getElem?_cons_succ] at f1
  by_cases h0 : k < 0
  · go_enter Try.func31, Try.ntmps31
    go_wp2
    go_ret2
    exact ⟨rfl, rfl⟩
  · have h2 : (n : Int) < k := by omega
    clear hk
    go_enter Try.func31, Try.ntmps31
    go_wp2
    go_ret2
    exact ⟨rfl, rfl⟩

theorem u8_size : (Try.prog.info? 5).map (·.size) = some 1 := by kernel_rfl
theorem make_u8 (k : Nat) (hk : k ≤ 140737488355328) : ∃ Z : List Value, Z.length = k ∧ ∀ w : World, (Instr.makeSlice 25 (.int .i64 k) (.int .i64 k)).run Try.prog w = .ok (.slice (some ⟨w.heap.size, 0, none⟩) k k) (w.alloc (.cells Z.toArray 5)) := by
  obtain ⟨i0, hi, hz0', hz1, hz2⟩ := info_parts u8_info'
  refine ⟨(madeCells #[.int .u8 0] k).toList, by simp [size_madeCells], fun w => ?_⟩
  have := run_make (P := Try.prog) w 25 5 i0 (.int .u8 0) Try.underlying25 hi hz0' .i64 .i64 k k (by omega) (Int.le_refl _) (by rw [hz2]; omega) (by omega)
  rw [hz1] at this
  simpa [Value.cells] using this
set_option maxHeartbeats 1000000 in
theorem IPeek_good (k : Nat) (h : InpAt w base p at_ over A n c xs) (hk : k ≤ n) (hk2 : k ≤ 140737488355328) :
    Calls Try.prog 31 #[.pointer (some ⟨p, 0, none⟩), .int .i64 k] w fun e w' => e = .returned (.tuple #[.slice (some ⟨w.heap.size, 0, none⟩) k k, .bool true]) ∧
      Blk w' w.heap.size 5 ((xs.take k).map (Value.int .u8)) ∧ Below w.heap.size w w' ∧ w.heap.size < w'.heap.size := by
  obtain ⟨hpb, hb, hown, hne⟩ := h
  have f1 := hb.cell 0
  simp only [List.getElem?_cons_zero, List.getElem?_cons_succ] at f1
  obtain ⟨Z, hZ, hmk⟩ := make_u8 k hk2
  have hlt := hb.lt
  have f1' := fun o => (World.cell?_alloc_lt w o ⟨p, 0, none⟩ hb.lt).trans f1
  have hrow := hown.row
  have hnx := hown.1
  rw [List.length_map] at hnx
  have hk1 : (k : Int) ≤ n := by omega
  have hone := one_ints' (xs.take k) .u8
  have HZ := Lib.hid hZ
  have HN := Lib.hid hnx
  clear hZ hnx
  have hsrc : 0 < ((xs.take k).map (Value.int .u8)).length → ∃ ad, A = some ad ∧ ∀ j v, ((xs.take k).map (Value.int .u8))[j]? = some v → (w.alloc (.cells Z.toArray 5)).cell? (ad.add j) = some v := fun h0 => by
    obtain ⟨b, off, rfl, hbl, hc⟩ := hrow.take k h0
    refine ⟨_, rfl, fun j v hj => ?_⟩
    have hplain : (⟨b, off, none⟩ : Addr).add j = ⟨b, off + j, none⟩ := by unfold Addr.add; split <;> simp_all
    rw [hplain, World.cell?_alloc_lt w _ _ hbl]
    exact hc j v hj
  have hca : Hid (((xs.take k).map (Value.int .u8)).length = Nat.min n k) := by
    show _ = _
    rw [List.length_map, List.length_take]; have := HN.out; simp only [Nat.min_def]; split <;> split <;> omega
  have hcb : Hid (0 < ((xs.take k).map (Value.int .u8)).length → (some (⟨w.heap.size, 0, none⟩ : Addr)) = some ⟨w.heap.size, 0, none⟩ ∧ ∃ ad, A = some ad ∧ ∀ j v, ((xs.take k).map (Value.int .u8))[j]? = some v → (w.alloc (.cells Z.toArray 5)).cell? (ad.add j) = some v) := fun h0 => ⟨rfl, hsrc h0⟩
  have hcc : Hid (0 + ((xs.take k).map (Value.int .u8)).length ≤ Z.length) := by
    show _ ≤ _
    rw [List.length_map, List.length_take]; have := HN.out; have := HZ.out; omega
  clear hsrc
  go_enter Try.func31, Try.ntmps31
  go_wp2_with (with_reducible refine wpList_copy_splice rfl (.tmp 20) (.tmp 24) 25 25 rfl 5 Try.underlying25 u8_size (some ⟨w.heap.size, 0, none⟩) A k k n c rfl rfl w.heap.size 0 Z 5 (heap_alloc_new w _) ((xs.take k).map (Value.int .u8)) hca.out hcb.out hcc.out hone w.heap.size w ((Below.refl _ _).alloc (Nat.le_refl _) _) (Nat.le_refl _) ?_)
  intro w2 hw2 hb2
  go_wp2_with fail
  go_ret2
  refine ⟨rfl, ?_, hb2, ?_⟩
  · have e : splice Z 0 ((xs.take k).map (Value.int .u8)) = (xs.take k).map (Value.int .u8) := by
      have h1 : ((xs.take k).map (Value.int .u8)).length = k := by rw [List.length_map, List.length_take]; have := HN.out; omega
      unfold splice
      rw [List.take_zero, List.nil_append, Nat.zero_add, h1, List.drop_of_length_le (by have := HZ.out; omega), List.append_nil]
    have := hw2.out
    unfold Blk
    simp only [List.map_take] at this e ⊢
    rw [e] at this
    exact this
  · have := hw2.out
    exact (Array.getElem?_eq_some_iff.1 this).1
end
end Go.Proofs.Ytfklhppfehkfaaa

import Derived.Test.YtfklhppfehkfaaaOwn
import Derived.Test.YtfklhppfehkfaaaLe4
namespace Go.Proofs.Ytfklhppfehkfaaa
open Go.RowKit

theorem u8_info' : (Try.prog.info? 5).map (fun i => (i.zero, i.size, i.bytes)) = some (some (.int .u8 0), 1, 1) := by kernel_rfl
theorem one_ints' (zs : List Int) (k : IntKind) : ∀ u ∈ zs.map (Value.int k), u.oneCell' = true := fun u hu => by
  obtain ⟨z, _, rfl⟩ := List.mem_map.1 hu
  rfl

set_option maxHeartbeats 400000 in
theorem num03_any (n : Int) (w : World) : Calls Try.prog 28 #[.int .i64 n] w fun e w' => e = .returned (.int .i64 n) ∧ w = w' := by
  go_enter Try.func28, Try.ntmps28
  go_wp2
  go_ret
  exact ⟨rfl, rfl⟩

/-- an Output in memory: its cap, its bytes -/
def OutAt (w : World) (base p : Nat) (most : Int) (A : Option Addr) (n c : Nat) (xs : List Int) : Prop :=
  base ≤ p ∧ Blk w p 141 [.int .i64 most, .slice A n c] ∧ OwnS w base 5 A n c (xs.map (Value.int .u8)) ∧ blkOf A ≠ some p

set_option maxHeartbeats 400000 in
theorem To_good (most : Int) (w : World) (h : 0 ≤ most) (h1 : most ≤ 9223372036854775807) : Calls Try.prog 38 #[.int .i64 most] w fun e w' =>
    e = .returned (.tuple #[.pointer (some ⟨w.heap.size, 0, none⟩), .int .i64 0]) ∧ w.alloc (.cells #[.int .i64 most, .slice none 0 0] 141) = w' := by
  go_enter Try.func38, Try.ntmps38
  go_wp2
  go_ret2
  exact ⟨rfl, rfl⟩
set_option maxHeartbeats 400000 in
theorem To_bad (most : Int) (w : World) (h : most < 0) : Calls Try.prog 38 #[.int .i64 most] w fun e w' =>
    e = .returned (.tuple #[.pointer none, .int .i64 3]) ∧ w = w' := by
  go_enter Try.func38, Try.ntmps38
  go_wp2
  go_ret2
  exact ⟨rfl, rfl⟩

set_option maxHeartbeats 400000 in
theorem OLen_any (p : Nat) (most : Int) (A : Option Addr) (n c : Nat) (w : World) (hb : Blk w p 141 [.int .i64 most, .slice A n c]) :
    Calls Try.prog 40 #[.pointer (some ⟨p, 0, none⟩)] w fun e w' => e = .returned (.int .i64 n) ∧ w = w' := by
  have f1 := hb.cell 1
  simp only [List.getElem?_cons_zero, List.getElem?_cons_succ] at f1
  go_enter Try.func40, Try.ntmps40
  go_wp2
  go_ret
  exact ⟨rfl, rfl⟩

theorem Clone_row (A : Option Addr) (n c : Nat) (zs : List Int) (B : Nat) (w : World) (hr : Row w B A (zs.map (Value.int .u8))) (hn : n = zs.length) (hbig : n ≤ 140737488355328) :
    Calls Try.prog 81 #[.slice A n c] w fun e w' => ∃ v', e = .returned v' ∧ w'.ownsRow w.heap.size 5 1 v' n (zs.map (Value.int .u8)) ∧ Below w.heap.size w w' := by
  rcases A with _ | a
  · have hz : zs = [] := by
      rcases zs with _ | ⟨x, l⟩
      · rfl
      · obtain ⟨b, off, h, _⟩ := hr (by simp)
        cases h
    subst hz; subst hn
    refine (Try.bytes_Clone_nil 0 c w).mono ?_
    rintro e w' ⟨rfl, rfl⟩
    exact ⟨_, rfl, World.ownsRow_nil _ _ _ _, Below.refl _ _⟩
  · refine (Try.bytes_Clone_at a n c zs w hn.symm hbig ?_).mono ?_
    · intro i hi
      obtain ⟨b, off, h, _, hc⟩ := hr.ints (by omega)
      injection h with h
      subst h
      have hplain : (⟨b, off, none⟩ : Addr).add i = ⟨b, off + i, none⟩ := by unfold Addr.add; split <;> simp_all
      rw [hplain]; exact hc i (by omega)
    · rintro e w' ⟨v', he, h1, _, h2⟩
      exact ⟨v', he, h1, h2⟩

set_option maxHeartbeats 400000 in
theorem OBytes_any (p : Nat) (most : Int) (A : Option Addr) (n c : Nat) (zs : List Int) (B : Nat) (w : World) (hb : Blk w p 141 [.int .i64 most, .slice A n c]) (hr : Row w B A (zs.map (Value.int .u8))) (hn : n = zs.length) (hbig : n ≤ 140737488355328) :
    Calls Try.prog 41 #[.pointer (some ⟨p, 0, none⟩)] w fun e w' => ∃ v', e = .returned v' ∧ w'.ownsRow w.heap.size 5 1 v' n (zs.map (Value.int .u8)) ∧ Below w.heap.size w w' := by
  have f1 := hb.cell 1
  simp only [List.getElem?_cons_zero, List.getElem?_cons_succ] at f1
  have HC := Lib.hid (Clone_row A n c zs B w hr hn hbig)
  clear hr hn
  go_enter Try.func41, Try.ntmps41
  go_wp2_with (go_at_call 81; refine HC.out.mono ?_; rintro e w' ⟨v', rfl, ho, hbw⟩)
  go_ret
  exact ⟨v', rfl, ho, hbw⟩

set_option maxHeartbeats 400000 in
theorem OPut_long (p : Nat) (most : Int) (A A2 : Option Addr) (n c m c2 : Nat) (w : World) (hb : Blk w p 141 [.int .i64 most, .slice A n c]) (hm0 : 0 ≤ most) (hm1 : most ≤ 9223372036854775807) (hn : n ≤ 140737488355328) (h : most - n < m) :
    Calls Try.prog 39 #[.pointer (some ⟨p, 0, none⟩), .slice A2 m c2] w fun e w' => e = .returned (.int .i64 4) ∧ Below w.heap.size w w' := by
  have f0 := hb.cell 0
  have f1 := hb.cell 1
  simp only [List.getElem?_cons_zero, List.getElem?_cons_succ] at f0 f1
  have hsub : IntKind.i64.wrap (most - (n : Int)) = most - n := IntWalk.i64_in _ (by omega)
  go_enter Try.func39, Try.ntmps39
  go_wp2_with fail
  go_quiet (fail)
  clear hsub
  go_wp2_with fail
  go_ret
  exact ⟨rfl, below_drewN (Below.refl _ _) _⟩

set_option maxHeartbeats 1000000 in
theorem OPut_fit (base p : Nat) (most : Int) (A A2 : Option Addr) (n c m c2 : Nat) (xs zs : List Int) (B : Nat) (w : World) (ho : OutAt w base p most A n c xs) (hm0 : 0 ≤ most) (hm1 : most ≤ 9223372036854775807)
    (hr : Row w B A2 (zs.map (Value.int .u8))) (hmz : m = zs.length) (hn : n + m ≤ 140737488355328) (h : (m : Int) ≤ most - n) (hbase : base ≤ w.heap.size) :
    Calls Try.prog 39 #[.pointer (some ⟨p, 0, none⟩), .slice A2 m c2] w fun e w' => ∃ A' c', e = .returned (.int .i64 0) ∧ OutAt w' base p most A' (n + m) c' (xs ++ zs) ∧
      (blkOf A' = blkOf A ∨ ∃ q, blkOf A' = some q ∧ w.heap.size ≤ q ∧ q < w'.heap.size) ∧ Fr w w' (fun k => k = p ∨ blkOf A = some k) := by
  obtain ⟨hpb, hb, hown, hne⟩ := ho
  obtain ⟨i0, hi, hz0', hz1, hz2⟩ := info_parts u8_info'
  have f0 := hb.cell 0
  have f1 := hb.cell 1
  simp only [List.getElem?_cons_zero, List.getElem?_cons_succ] at f0 f1
  have hsub : IntKind.i64.wrap (most - (n : Int)) = most - n := IntWalk.i64_in _ (by omega)
  have hnot : decide (most - (n : Int) < m) = false := by simp; omega
  have hone := one_ints' zs .u8
  subst hmz
  have hlt := hb.lt
  go_enter Try.func39, Try.ntmps39
  go_wp2_with fail
  go_quiet (fail)
  clear hsub
  have f1' : (w.drewN nq).cell? ⟨p, 1, none⟩ = some (.slice A n c) := f1
  go_wp2_with (at_builtin; refine wpList_append_ownS _ rfl _ _ 25 rfl base 5 i0 (.int .u8 0) 1 Try.underlying25 hi hz0' hz1 hz2 rfl A n c _ rfl (hown.drewN nq) B A2 zs.length c2 (zs.map (Value.int .u8)) rfl (hr.drewN nq) (by simp) hone (by unfold maxLen; omega) (by omega) hbase ?_; intro A' c' w2 hown2 hg2 hat2; have hb2 := (hb.drewN nq).grown hg2 (Ne.symm hne); have g1 := hb2.cell 1; have g1f := hb2.frozen 1; simp only [List.getElem?_cons_zero, List.getElem?_cons_succ] at g1)
  go_ret
  have hb3 := hb2.set_ 1 (.slice A' (n + zs.length) c')
  have hne2 : blkOf A' ≠ some p := by
    rcases hat2 with e | ⟨e, elt⟩
    · rw [e]; exact hne
    · rw [e]; intro e2; injection e2 with e2; have : (w.drewN nq).heap.size = w.heap.size := rfl; omega
  refine ⟨A', c', rfl, ⟨hpb, hb3, ?_, hne2⟩, ?_, ?_⟩
  · have := hown2.far (p := ⟨p, 1, none⟩) hne2 (.slice A' (n + zs.length) c')
    simpa using this
  · rcases hat2 with e | ⟨e, elt⟩
    · exact .inl e
    · exact .inr ⟨_, e, Nat.le_refl _, by simpa [World.setCell] using elt⟩
  · have hfr : Fr (w.drewN nq) w2 (fun k => k = p ∨ blkOf A = some k) := Fr.of_grown hg2 (fun q hq => .inr hq)
    have hfr2 : Fr w w2 (fun k => k = p ∨ blkOf A = some k) := ⟨hfr.os, hfr.tape, hfr.output, hfr.size, hfr.block⟩
    exact hfr2.setCell (p := ⟨p, 1, none⟩) (.inl rfl) _
end Go.Proofs.Ytfklhppfehkfaaa

import Derived.Test.YtfklhppfehkfaaaLe8
import Derived.OpenShut
namespace Go.Proofs.Ytfklhppfehkfaaa
open Go.RowKit

theorem bits_I64 (op : BinOp) (a b : Int) : I64 (bits op .i64 a b) := bounds_i64 (wf_bits op .i64 a b)

/-- what the two lists of 'sums' hold: the same numbers, a mark behind the first -/
def SumsInv (g L n : Nat) (A2 : Option Addr) (c2 B : Nat) (wr : World) : Prop :=
  ∃ (xs : List Int) (cs : List Value), xs.length = n ∧ (∀ z ∈ xs, I64 z) ∧ Blk wr g 3 cs ∧ cs.length = L ∧ cs.take (n + 1) = (xs ++ [77]).map (Value.int .i64) ∧
    (n = 0 ∨ ∃ g2 cs2, A2 = some ⟨g2, 0, none⟩ ∧ c2 = List.length cs2 ∧ g2 ≠ g ∧ B ≤ g2 ∧ n ≤ cs2.length ∧ Blk wr g2 3 cs2 ∧ cs2.take n = xs.map (Value.int .i64))

theorem SumsInv.keep {g L n : Nat} {A2 : Option Addr} {c2 B : Nat} {w w' : World} (h : SumsInv g L n A2 c2 B w) (hb : Below w.heap.size w w') : SumsInv g L n A2 c2 B w' := by
  obtain ⟨xs, cs, h1, h2, h3, h4, h5, h6⟩ := h
  refine ⟨xs, cs, h1, h2, h3.below hb h3.lt, h4, h5, ?_⟩
  rcases h6 with h | ⟨g2, cs2, e1, e2, e3, e4, e5, e6, e7⟩
  · exact .inl h
  · exact .inr ⟨g2, cs2, e1, e2, e3, e4, e5, e6.below hb e6.lt, e7⟩

set_option maxRecDepth 100000 in
theorem int_hi (A : Option Addr) (n c k : Nat) (w : World) (hk : k ≤ c) : (Instr.slice 27 (.slice A n c) none (some (.int .i64 k)) none).run Try.prog w = .ok (.slice A k c) w := by
  rw [run_slice_h w 27 A n c Try.underlying27 .i64 k (by omega) (by omega)]
  cases A <;> simp [go_sem, Addr.add]

set_option maxHeartbeats 2000000 in
set_option maxRecDepth 100000 in
theorem sums_any (A : Option Addr) (n c : Nat) (zs : List Int) (B : Nat) (w : World) (hr : Row w B A (zs.map (Value.int .i64))) (hn : n = zs.length) (hz : ∀ z ∈ zs, I64 z) (hm : n ≤ 2000) (hB : B ≤ w.heap.size) :
    Calls Try.prog 59 #[.slice A n c] w fun e w' => e = .returned (.bool true) ∧ Below w.heap.size w w' := by
  obtain ⟨i0, hi, hz0', hz1, hz2⟩ := info_parts int_info
  have hone := one_ints zs .i64
  subst hn
  go_enter Try.func59, Try.ntmps59
  go_wp2_with (first
    | (at_builtin; refine wpList_append_row _ rfl _ _ 27 rfl w.heap.size 3 i0 (.int .i64 0) 1 8 Try.underlying27 hi hz0' hz1 hz2 rfl (by decide) _ 0 [] rfl (World.ownsRow_nil _ _ _ _) B A zs.length c (zs.map (Value.int .i64)) rfl hr (by simp) hone (by unfold maxLen; omega) (by omega) (Nat.le_refl _) ?_; intro v2 w2 hown2 hg2 hat2)
    | (at_builtin; refine wpList_append_row _ rfl _ _ 27 rfl w.heap.size 3 i0 (.int .i64 0) 1 8 Try.underlying27 hi hz0' hz1 hz2 rfl (by decide) _ (0 + zs.length) _ rfl (hown2.alloc _) (w2.heap.size + 1) (some ⟨w2.heap.size, 0, none⟩) 1 1 ([77].map (Value.int .i64)) rfl (Blk.new w2 3 ([77].map (Value.int .i64))).row rfl (one_ints [77] .i64) (by unfold maxLen; omega) (by omega) (by have := hg2.size; simp; omega) ?_; intro v3 w3 hown3 hg3 hat3; obtain ⟨g, cs, rfl, hgb, hgl, hblk, hgn, hgm, htake⟩ := own_blk hown3 (by omega); have hsl := fun wx => int_hi (some ⟨g, 0, none⟩) (0 + zs.length + 1) cs.length zs.length wx (by omega); have hb3 : Below w.heap.size w w3 := (((Below.refl _ _).grown hg2 (Nat.le_refl _) (fun q hq => by cases hq)).alloc hg2.size _).grown hg3 (by have := hg2.size; simp; omega) (fun q hq => (hown2.lt q hq).1); have hr3 := hr.below (hb3.mono hB))
    | (at_builtin; refine wpList_append_row _ rfl _ _ 27 rfl w3.heap.size 3 i0 (.int .i64 0) 1 8 Try.underlying27 hi hz0' hz1 hz2 rfl (by decide) _ 0 [] rfl (World.ownsRow_nil _ _ _ _) B A zs.length c (zs.map (Value.int .i64)) rfl hr3 (by simp) hone (by unfold maxLen; omega) (by omega) (Nat.le_refl _) ?_; intro v4 w4 hown4 hg4 hat4))
  have hb4 : Below w3.heap.size w3 w4 := (Below.refl _ _).grown hg4 (Nat.le_refl _) (fun q hq => by cases hq)
  have hbase : Below w.heap.size w w4 := hb3.trans (hb4.mono hb3.size)
  have hblk4 := hblk.below hb4 hgl
  rw [Nat.zero_add] at htake hown4
  obtain ⟨A2, c2, rfl, h4a, h4b, h4c, hr4⟩ := Row.of_own hown4
  have hinv : SumsInv g cs.length zs.length A2 c2 w3.heap.size w4 := by
    refine ⟨zs, cs, rfl, hz, hblk4, rfl, by rw [htake]; simp, ?_⟩
    rcases Nat.eq_zero_or_pos zs.length with h0 | h0
    · exact .inl h0
    · obtain ⟨g2, cs2, e1, e2, e3, e4, e5, e6, e7⟩ := own_blk hown4 h0
      injection e1 with e1 _ e1c
      exact .inr ⟨g2, cs2, e1, e1c, by omega, e2, e5, e4, by simpa using e7⟩
  have hgn' : zs.length + 1 ≤ cs.length := by omega
  unfold maxLen at hgm h4b
  generalize cs.length = L at *
  have hn63 : zs.length ≤ maxLen := by unfold maxLen; omega
  clear hr4 hown4 hown3 hown2 hg2 hg3 hg4 hat2 hat3 hat4 hblk hblk4 htake hsl hr3 hone hr hz h4c hgn
  generalize zs.length = n at *
  have hgb0 := hgb
  have hg4 : g < w4.heap.size := Nat.lt_of_lt_of_le hgl hb4.size
  go_loopw [5, 6] (fun t _ wr => ∃ k : Nat, k ≤ 2 ∧ t = .int .i64 k ∧ SumsInv g L n A2 c2 w3.heap.size wr ∧ Below w.heap.size w4 wr) (fun t _ _ => 2 - (intOf t).toNat)
  case atStart => exact ⟨0, by omega, rfl, hinv, Below.refl _ _⟩
  case round =>
    obtain ⟨k, hk, rfl, hI, hbr⟩ := hrel
    clear hinv
    have hI' := hI
    obtain ⟨xs, cs1, hx1, hx2, hbk, hx4, hx5, hx6⟩ := hI
    by_cases hlt : k < 2
    · have hrow1 : Row wr (g + 1) (some ⟨g, 0, none⟩) (xs.map (Value.int .i64)) := by
        have h1 := hbk.rowAt 0 n
        have e : (cs1.drop 0).take n = xs.map (Value.int .i64) := by
          have : (cs1.take (n + 1)).take n = ((xs ++ [77]).map (Value.int .i64)).take n := by rw [hx5]
          rw [List.take_take, Nat.min_eq_left (by omega)] at this
          rw [List.drop_zero, this]; simp [← hx1]
        rwa [e] at h1
      have hrow2 : Row wr wr.heap.size A2 (xs.map (Value.int .i64)) := by
        rcases hx6 with h0 | ⟨g2, cs2, rfl, e2, e3, e4, e5, e6, e7⟩
        · intro h; simp at h; omega
        · have h1 := (e6.rowAt 0 n).more (show g2 + 1 ≤ wr.heap.size from e6.lt)
          rwa [List.drop_zero, e7] at h1
      have hP1 := Plus_any (some ⟨g, 0, none⟩) n L xs wr _ hrow1 hx1.symm hx2 hn63
      have hP2 := refPlus_any A2 n c2 xs wr _ hrow2 hx1.symm hx2 hn63
      have h77 : wr.cell? ⟨g, n, none⟩ = some (.int .i64 77) := by
        rw [hbk.cell]
        have : (cs1.take (n + 1))[n]? = ((xs ++ [77]).map (Value.int .i64))[n]? := by rw [hx5]
        rw [List.getElem?_take_of_lt (by omega)] at this
        rw [this]; simp [← hx1]
      have hsl := fun wx => int_hi (some ⟨g, 0, none⟩) n L (n + 1) wx hgn'
      have e1 : ((n + 1 : Nat) : Int) = (n : Int) + 1 := by omega
      rw [e1] at hsl
      clear e1
      have hlt1 : (n : Int) < (n : Int) + 1 := by omega
      have hneq : (plusL xs != plusL xs) = false := by simp
      have HP1 := Lib.hid hP1; have HP2 := Lib.hid hP2; have HX5 := Lib.hid hx5; have HX6 := Lib.hid hx6; have HX1 := Lib.hid hx1; have HX4 := Lib.hid hx4
      clear hP1 hP2 hx5 hx6 hx1 hx4
      go_wp2_with (first | (go_at_call 20; refine HP1.out.mono ?_; rintro e w' ⟨rfl, rfl⟩) | (go_at_call 93; refine HP2.out.mono ?_; rintro e w' ⟨rfl, rfl⟩))
      clear hsl h77
      obtain ⟨wo, rfl⟩ : ∃ wo : World, wo = wr := ⟨_, rfl⟩
      go_loopw [6] (fun i wr => ∃ j : Nat, j ≤ n ∧ i = .int .i64 j ∧ Below wo.heap.size wo wr) (fun i _ => n - (intOf i).toNat)
      case atStart => exact ⟨0, Nat.zero_le _, rfl, Below.refl _ _⟩
      case round =>
        obtain ⟨j, hj, rfl, hbx⟩ := hrel
        have hbk2 := hbk.below hbx hbk.lt
        by_cases hjn : j < n
        · rcases HX6.out with h0 | ⟨g2, cs2, rfl, e2, e3, e4, e5, e6, e7⟩
          · omega
          · have hbk3 := e6.below hbx e6.lt
            have hc1 : wr.cell? ⟨g, j, none⟩ = some (.int .i64 (xs.getD j 0)) := by
              have := hrow1 (by simp; have := HX1.out; omega)
              obtain ⟨b, off, e, hbl, hcc⟩ := this
              injection e with e; injection e with ea eb; subst ea; subst eb
              have := hcc j (.int .i64 (xs.getD j 0)) (by rw [List.getElem?_map, List.getElem?_eq_getElem (by have := HX1.out; omega)]; simp [List.getD_eq_getElem?_getD, List.getElem?_eq_getElem (by have := HX1.out; omega : j < xs.length)])
              rw [Nat.zero_add] at this
              rw [hbx.cell hbk.lt]; exact this
            have hc2 : wr.cell? ⟨g2, j, none⟩ = some (.int .i64 (xs.getD j 0)) := by
              rw [hbk3.cell]
              have : (cs2.take n)[j]? = (xs.map (Value.int .i64))[j]? := by rw [e7]
              rw [List.getElem?_take_of_lt hjn] at this
              rw [this, List.getElem?_map, List.getElem?_eq_getElem (by have := HX1.out; omega)]
              simp [List.getD_eq_getElem?_getD, List.getElem?_eq_getElem (by have := HX1.out; omega : j < xs.length)]
            generalize xs.getD j 0 = x at *
            have hxx : (x != x) = false := by simp
            have hjn1 : (j : Int) < n := by omega
            clear e7 e2 hx2
            go_wp2_with fail
            go_quiet (fail)
            go_wp2_with fail
            go_roundw
            case rel => exact ⟨j + 1, by omega, by go_num, below_drewN hbx _⟩
            case measure => simp [intOf]; omega
        · have hdone : decide ((j : Int) < (n : Int)) = false := by simp; omega
          rcases Nat.eq_zero_or_pos n with h0 | h0
          · have hz0 : decide (0 < (n : Int)) = false := by simp; omega
            go_wp2_with fail
            go_roundw
            case rel => exact ⟨k + 1, by omega, by go_num, hI'.keep hbx, hbr.trans (hbx.mono (Nat.le_trans hbase.size hbr.size))⟩
            case measure => simp [intOf]; omega
          · have hz0 : decide (0 < (n : Int)) = true := by simp; omega
            rcases HX6.out with h0' | ⟨g2, cs2, rfl, e2, e3, e4, e5, e6, e7⟩
            · omega
            have hbk3 := e6.below hbx e6.lt
            have hcy1 : (xs.getD 0 0) ∈ xs := getD_mem (by have := HX1.out; omega)
            have hc1 : wr.cell? ⟨g, 0, none⟩ = some (.int .i64 (xs.getD 0 0)) := by
              rw [hbk2.cell]
              have : (cs1.take (n + 1))[0]? = ((xs ++ [77]).map (Value.int .i64))[0]? := by rw [HX5.out]
              rw [List.getElem?_take_of_lt (by omega)] at this
              rw [this, List.getElem?_map, List.getElem?_append_left (by have := HX1.out; omega), List.getElem?_eq_getElem (by have := HX1.out; omega)]
              simp [List.getD_eq_getElem?_getD, List.getElem?_eq_getElem (by have := HX1.out; omega : 0 < xs.length)]
            have hf1 := hbk2.frozen 0
            have hc3 : wr.cell? ⟨g2, 0, none⟩ = some (cs2.getD 0 undef) := by
              rw [hbk3.cell]; simp [List.getD_eq_getElem?_getD, List.getElem?_eq_getElem (by omega : 0 < cs2.length)]
            have hlen1 : 0 < cs1.length := by have := HX4.out; omega
            have hn0 : (0 : Int) < n := by omega
            have he3 := Ne.symm e3
            have HX2 := Lib.hid hx2
            have HXS : ∃ x0, xs.getD 0 0 = x0 := ⟨_, rfl⟩
            obtain ⟨x0, hx0⟩ := HXS
            rw [hx0] at hc1
            have hy := bits_I64 .xor x0 5
            have hbk4 := hbk2.set_ 0 (.int .i64 (bits .xor .i64 x0 5))
            have hbk5 := hbk3.far (p := ⟨g, 0, none⟩) e3 (.int .i64 (bits .xor .i64 x0 5))
            have hbk6 := hbk4.far (p := ⟨g2, 0, none⟩) (Ne.symm e3) (.int .i64 (bits .xor .i64 x0 5))
            have hbk7 := hbk5.set_ 0 (.int .i64 (bits .xor .i64 x0 5))
            have hc2 : (wr.setCell ⟨g, 0, none⟩ (.int .i64 (bits .xor .i64 x0 5))).cell? ⟨g, 0, none⟩ = some (.int .i64 (bits .xor .i64 x0 5)) := by rw [hbk4.cell]; simp [hlen1]
            have hf3 := hbk3.frozen 0
            have hf5 := hbk5.frozen 0
            have hc5 : (wr.setCell ⟨g, 0, none⟩ (.int .i64 (bits .xor .i64 x0 5))).cell? ⟨g2, 0, none⟩ = some (cs2.getD 0 undef) := by
              rw [hbk5.cell]; simp [List.getD_eq_getElem?_getD, List.getElem?_eq_getElem (by omega : 0 < cs2.length)]
            have HX0 := Lib.hid hx0
            clear hx0 hx2 hcy1
            generalize cs2.getD 0 undef = q0 at *
            go_wp2_with fail
            go_roundw
            case rel =>
              refine ⟨k + 1, by omega, by go_num, ?_, ?_⟩
              · refine ⟨xs.set 0 (bits .xor .i64 x0 5), cs1.set 0 (.int .i64 (bits .xor .i64 x0 5)), by simp [HX1.out], ?_, hbk6, by simp [HX4.out], ?_, .inr ⟨g2, _, rfl, ?_, e3, e4, ?_, hbk7, ?_⟩⟩
                · intro z hz'
                  rcases List.mem_or_eq_of_mem_set hz' with h | h
                  · exact HX2.out z h
                  · rw [h]; exact hy
                · rw [List.take_set, HX5.out, List.map_append, List.map_append, List.map_set, List.set_append_left _ _ (by simp; have := HX1.out; omega)]
                · simpa using e2
                · simp; omega
                · rw [List.take_set, e7, List.map_set]
              · exact ((hbr.trans (hbx.mono (Nat.le_trans hbase.size hbr.size))).setCell hgb _).setCell (Nat.le_trans hb3.size e4) _
            case measure => simp [intOf]; omega
    · have hk2 : decide ((k : Int) < 2) = false := by simp; omega
      go_wp2_with fail
      go_ret
      exact ⟨rfl, hbase.trans hbr⟩
end Go.Proofs.Ytfklhppfehkfaaa

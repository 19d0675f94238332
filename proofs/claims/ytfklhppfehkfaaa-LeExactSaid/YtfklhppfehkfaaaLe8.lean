import Derived.Test.YtfklhppfehkfaaaLe7
namespace Go.Proofs.Ytfklhppfehkfaaa
open Go.RowKit

def marks : List Int := [90, 165, 51]

set_option maxHeartbeats 1000000 in
theorem lent01_any (A : Option Addr) (n c : Nat) (zs : List Int) (B : Nat) (w : World) (hr : Row w B A (zs.map (Value.int .u8))) (hn : n = zs.length) (hm : n ≤ 2000) (hB : B ≤ w.heap.size) :
    Calls Try.prog 55 #[.slice A n c] w fun e w' => ∃ g cs, e = .returned (.slice (some ⟨g, 0, none⟩) n (List.length cs)) ∧ Blk w' g 5 cs ∧ w.heap.size ≤ g ∧ g < w'.heap.size ∧
      n + 3 ≤ cs.length ∧ cs.length ≤ maxLen ∧ cs.take (n + 3) = vs8 (zs ++ marks) ∧ Below w.heap.size w w' := by
  obtain ⟨i0, hi, hz0', hz1, hz2⟩ := info_parts u8_info
  have hone := one_ints zs .u8
  subst hn
  go_enter Try.func55, Try.ntmps55
  go_wp2_with (first
    | (at_builtin; refine wpList_append_row _ rfl _ _ 25 rfl w.heap.size 5 i0 (.int .u8 0) 1 1 Try.underlying25 hi hz0' hz1 hz2 rfl (by decide) _ 0 [] rfl (World.ownsRow_nil _ _ _ _) B A zs.length c (zs.map (Value.int .u8)) rfl hr (by simp) hone (by unfold maxLen; omega) (by omega) (Nat.le_refl _) ?_; intro v2 w2 hown2 hg2 hat2)
    | (at_builtin; refine wpList_append_row _ rfl _ _ 25 rfl w.heap.size 5 i0 (.int .u8 0) 1 1 Try.underlying25 hi hz0' hz1 hz2 rfl (by decide) _ (0 + zs.length) _ rfl (hown2.alloc _) (w2.heap.size + 1) (some ⟨w2.heap.size, 0, none⟩) 3 3 (marks.map (Value.int .u8)) rfl (Blk.new w2 5 (marks.map (Value.int .u8))).row rfl (one_ints marks .u8) (by unfold maxLen; omega) (by omega) (by have := hg2.size; simp; omega) ?_; intro v3 w3 hown3 hg3 hat3; obtain ⟨g, cs, rfl, hgb, hgl, hblk, hgn, hgm, htake⟩ := own_blk hown3 (by omega); have hsl := fun wx => u8_hi (some ⟨g, 0, none⟩) (0 + zs.length + 3) cs.length zs.length wx (by omega)))
  go_ret
  refine ⟨g, cs, rfl, hblk, hgb, hgl, by omega, hgm, ?_, ?_⟩
  · rw [Nat.zero_add] at htake
    rw [htake]; simp [vs8]
  · exact (((Below.refl _ _).grown hg2 (Nat.le_refl _) (fun q hq => by cases hq)).alloc hg2.size _).grown hg3 (by have := hg2.size; simp; omega) (fun q hq => (hown2.lt q hq).1)

set_option maxHeartbeats 2000000 in
set_option maxRecDepth 100000 in
theorem kept01_any (g n0 c : Nat) (cs : List Value) (A : Option Addr) (n : Nat) (zs : List Int) (B : Nat) (w : World) (hblk : Blk w g 5 cs) (hcs : n + 3 ≤ cs.length) (hcm : cs.length ≤ maxLen) (htk : cs.take (n + 3) = vs8 (zs ++ marks))
    (hr : Row w B A (zs.map (Value.int .u8))) (hn : n = zs.length) (hm : n ≤ 2000) (hB : B ≤ w.heap.size) :
    Calls Try.prog 57 #[.slice (some ⟨g, 0, none⟩) n0 cs.length, .slice A n c] w fun e w' => e = .returned (.bool true) ∧ Below w.heap.size w w' := by
  obtain ⟨i0, hi, hz0', hz1, hz2⟩ := info_parts u8_info
  have hone := one_ints zs .u8
  subst hn
  have hsl := fun wx => u8_hi (some ⟨g, 0, none⟩) n0 cs.length (zs.length + 3) wx (by omega)
  have e3 : ((zs.length + 3 : Nat) : Int) = (zs.length : Int) + 3 := by omega
  rw [e3] at hsl
  clear e3
  have hcv : ∀ wx, Below w.heap.size w wx → (convert 25 9 (.slice (some ⟨g, 0, none⟩) (zs.length + 3) cs.length)).run Try.prog wx = .ok (.string (strOfNums (zs ++ marks))) wx := fun wx hx =>
    Row.str (B := g + 1) (by have := (hblk.rowAt 0 (zs.length + 3)).keep (w' := wx) (fun p hp => hx.cell (by have := hblk.lt; omega)); rw [List.drop_zero, htk] at this; exact this) _ _ (by simp [marks])
  have hsum : IntKind.i64.wrap ((zs.length : Int) + 3) = (zs.length : Int) + 3 := IntWalk.i64_in _ (by omega)
  go_enter Try.func57, Try.ntmps57
  go_wp2_with fail
  have hcvA := hcv w.drew (Below.refl _ _).drew
  have hcvB := hcv (w.alloc (.cells #[.int .u8 90, .int .u8 165, .int .u8 51] 5)).drew ((Below.refl _ _).alloc (Nat.le_refl _) _).drew
  have HCV := Lib.hid hcv
  clear hcv
  go_region_law (first
    | (refine step_append_row _ rfl _ _ 25 rfl w.heap.size 5 i0 (.int .u8 0) 1 1 Try.underlying25 hi hz0' hz1 hz2 rfl (by decide) _ 0 [] rfl (World.ownsRow_nil _ _ _ _) B A zs.length c (zs.map (Value.int .u8)) rfl (by first | exact hr.drew | exact (hr.drew).alloc hB _) (by simp) hone (by unfold maxLen; omega) (by omega) (by simp) ?_; intro v2 w2 hown2 hg2 hat2; have hb2 : Below w.heap.size w w2 := Below.grown (by first | exact (Below.refl _ _).drew | exact (Below.refl _ _).drew.alloc (Nat.le_refl _) _) hg2 (by simp) (fun q hq => by cases hq); have hs2 := hb2.size; have hcvC := HCV.out w2 hb2; have hcvD := HCV.out (w2.alloc (.cells #[.int .u8 90, .int .u8 165, .int .u8 51] 5)) (hb2.alloc hs2 _))
    | (refine step_append_row _ rfl _ _ 25 rfl w.heap.size 5 i0 (.int .u8 0) 1 1 Try.underlying25 hi hz0' hz1 hz2 rfl (by decide) _ (0 + zs.length) _ rfl (hown2.alloc _) (w2.heap.size + 1) (some ⟨w2.heap.size, 0, none⟩) 3 3 (marks.map (Value.int .u8)) rfl (Blk.new w2 5 (marks.map (Value.int .u8))).row rfl (one_ints marks .u8) (by unfold maxLen; omega) (by omega) (by simp; omega) ?_; intro v3 w3 hown3 hg3 hat3; have hb3 : Below w.heap.size w w3 := (hb2.alloc hs2 _).grown hg3 (by simp; omega) (fun q hq => (hown2.lt q hq).1); obtain ⟨A3, c3, rfl, h3a, h3b, h3c, hr3⟩ := Row.of_own hown3; have hcv3 := Row.str (zs := zs ++ marks) (by simpa using hr3) (zs.length + 3) c3 (by simp [marks]); have hcvE := HCV.out w3 hb3)
    | (refine step_append_row _ rfl _ _ 25 rfl w.heap.size 5 i0 (.int .u8 0) 1 1 Try.underlying25 hi hz0' hz1 hz2 rfl (by decide) _ (0 + zs.length) _ rfl hown2 (w.heap.size + 1) (some ⟨w.heap.size, 0, none⟩) 3 3 (marks.map (Value.int .u8)) rfl (((Blk.new w.drew 5 (marks.map (Value.int .u8))).grown hg2 nofun).row) rfl (one_ints marks .u8) (by unfold maxLen; omega) (by omega) hs2 ?_; intro v3 w3 hown3 hg3 hat3; have hb3 : Below w.heap.size w w3 := hb2.grown hg3 hs2 (fun q hq => (hown2.lt q hq).1); obtain ⟨A3, c3, rfl, h3a, h3b, h3c, hr3⟩ := Row.of_own hown3; have hcv3 := Row.str (zs := zs ++ marks) (by simpa using hr3) (zs.length + 3) c3 (by simp [marks]); have hcvE := HCV.out w3 hb3))
  all_goals
    go_wp2_with fail
    go_ret
    exact ⟨rfl, hb3⟩
end Go.Proofs.Ytfklhppfehkfaaa

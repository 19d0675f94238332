import Derived.Test.YtfklhppfehkfaaaCur3
namespace Go.Proofs.Ytfklhppfehkfaaa
open Go.RowKit

theorem u8s (zs : List Int) (h : zs.all (fun z => decide (0 ≤ z) && decide (z ≤ 255)) = true) : ∀ z ∈ zs, U8 z := fun z hz => by
  have := List.all_eq_true.1 h z hz
  simp at this
  exact this
theorem bytes_row (w : World) (zs : List Int) : Row (w.alloc (.cells (zs.map (Value.int .u8)).toArray 5)) (w.heap.size + 1) (some ⟨w.heap.size, 0, none⟩) (zs.map (Value.int .u8)) := (Blk.new w 5 (zs.map (Value.int .u8))).row

theorem InpAt.fr {w w' : World} {S : Nat → Prop} {base p : Nat} {at_ : Int} {over : Bool} {A : Option Addr} {n c : Nat} {xs : List Int} (h : InpAt w base p at_ over A n c xs) (hf : Fr w w' S) (hp : ¬ S p) (hA : ∀ q, blkOf A = some q → ¬ S q) :
    InpAt w' base p at_ over A n c xs := ⟨h.1, hf.blk h.2.1 hp, hf.own h.2.2.1 hA, h.2.2.2⟩
theorem OutAt.fr {w w' : World} {S : Nat → Prop} {base p : Nat} {most : Int} {A : Option Addr} {n c : Nat} {xs : List Int} (h : OutAt w base p most A n c xs) (hf : Fr w w' S) (hp : ¬ S p) (hA : ∀ q, blkOf A = some q → ¬ S q) :
    OutAt w' base p most A n c xs := ⟨h.1, hf.blk h.2.1 hp, hf.own h.2.2.1 hA, h.2.2.2⟩
theorem InpAt.below {w w' : World} {base p : Nat} {at_ : Int} {over : Bool} {A : Option Addr} {n c : Nat} {xs : List Int} (h : InpAt w base p at_ over A n c xs) (hb : Below w.heap.size w w') : InpAt w' base p at_ over A n c xs :=
  h.fr (Fr.of_below hb (fun _ => False)) (fun h => h) (fun _ _ h => h)
theorem OutAt.below {w w' : World} {base p : Nat} {most : Int} {A : Option Addr} {n c : Nat} {xs : List Int} (h : OutAt w base p most A n c xs) (hb : Below w.heap.size w w') : OutAt w' base p most A n c xs :=
  h.fr (Fr.of_below hb (fun _ => False)) (fun h => h) (fun _ _ h => h)
theorem bytes2 (w : World) (x y : Int) : Row (w.alloc (.cells #[.int .u8 x, .int .u8 y] 5)) (w.heap.size + 1) (some ⟨w.heap.size, 0, none⟩) ([x, y].map (Value.int .u8)) := (Blk.new w 5 [.int .u8 x, .int .u8 y]).row
theorem bytes3 (w : World) (x y z : Int) : Row (w.alloc (.cells #[.int .u8 x, .int .u8 y, .int .u8 z] 5)) (w.heap.size + 1) (some ⟨w.heap.size, 0, none⟩) ([x, y, z].map (Value.int .u8)) := (Blk.new w 5 [.int .u8 x, .int .u8 y, .int .u8 z]).row

set_option maxHeartbeats 2000000 in
set_option maxRecDepth 100000 in
theorem awake03_any (w : World) : Calls Try.prog 22 #[] w fun e w' => e = .returned (.bool true) ∧ Below w.heap.size w w' := by
  go_enter Try.func22, Try.ntmps22
  go_wp2_with fail
  refine (INew_good 7 w (by decide) (by decide)).mono ?_; rintro e w' ⟨rfl, hw1⟩
  have hI1 := INew_at 7 w
  rw [hw1] at hI1
  have hB1 : Below w.heap.size w w' := by rw [← hw1]; exact (Below.refl _ _).alloc (Nat.le_refl _) _
  clear hw1
  obtain ⟨w1, rfl⟩ : ∃ w1, w1 = w' := ⟨_, rfl⟩
  go_wp2_with fail
  refine (INew_bad (-1) w1 (by decide)).mono ?_; rintro e w' ⟨rfl, rfl⟩
  go_wp2_with fail
  refine (To_good 3 w1 (by decide) (by decide)).mono ?_; rintro e w' ⟨rfl, hw2⟩
  have hO2 := To_at 3 w1
  rw [hw2] at hO2
  have hB2 : Below w1.heap.size w1 w' := by rw [← hw2]; exact (Below.refl _ _).alloc (Nat.le_refl _) _
  have hs2 : w'.heap.size = w1.heap.size + 1 := by rw [← hw2]; simp
  clear hw2
  obtain ⟨w2, rfl⟩ : ∃ w2, w2 = w' := ⟨_, rfl⟩
  have hs1 := hI1.2.1.lt
  obtain ⟨p, hp⟩ : ∃ p, p = w.heap.size := ⟨_, rfl⟩
  obtain ⟨q, hq⟩ : ∃ q, q = w1.heap.size := ⟨_, rfl⟩
  rw [← hp] at hI1 hB1 hs1
  rw [← hq] at hO2 hB2 hs1 hs2
  rw [← hp, ← hq]
  have HP := Lib.hid hp; have HQ := Lib.hid hq; have HS2 := Lib.hid hs2
  have hs2' : w2.heap.size ≤ q + 1 := by omega
  have hs2'' : q + 1 ≤ w2.heap.size := by omega
  clear hp hq hs2
  go_wp2_with (first | (go_at_call 28; refine (num03_any _ _).mono ?_; rintro e w' ⟨rfl, rfl⟩))
  have hI2 := hI1.below (hB2.mono (Nat.le_refl _) |> fun h => (by have := HQ.out; rw [this] at h; exact h))
  refine (IGive_good p p 7 none 0 0 [] (w2.alloc (.cells #[.int .u8 1, .int .u8 2, .int .u8 3] 5)) _ 3 3 [1, 2, 3] _ (hI2.below ((Below.refl _ _).alloc (Nat.le_refl _) _)) (bytes3 w2 1 2 3) rfl (by decide) (by simp; omega)).mono ?_
  rintro e w3 ⟨A3, c3, rfl, hI3, hA3, hF3⟩
  have hF3' : Fr w2 w3 (fun k => k = p) := ((Fr.of_below ((Below.refl _ _).alloc (Nat.le_refl _) _) (fun k => k = p)).trans hF3 (fun k _ h => by rcases h with h | h; exact h; cases h))
  have hO3 := hO2.fr hF3' (by omega) (fun k h => by cases h)
  have hA3q : blkOf A3 = some q → False := fun h => by
    rcases hA3 with e | ⟨k, e, hk⟩
    · rw [e] at h; cases h
    · rw [e] at h; injection h with h; simp at hk; omega
  go_wp2_with fail
  refine (ITake_some p p 7 false A3 3 c3 [2, 3] w3 1 hI3 (by decide) (by decide)).mono ?_
  rintro e w4 ⟨rfl, A4, hI4, hA4, hF4⟩
  have hI4' : InpAt w4 p p 8 false A4 2 (c3 - 1) [2, 3] := hI4
  have hO4 := hO3.fr hF4 (by omega) (fun k h => by cases h)
  clear hI4
  go_wp2_with fail
  refine (IPeek_good p p 8 false A4 2 (c3 - 1) [2, 3] w4 2 hI4' (by decide) (by decide)).mono ?_
  rintro e w5 ⟨rfl, hblk5, hb5, hlt5⟩
  have hI5 := hI4'.below hb5
  have hO5 := hO4.below hb5
  have hcv : (convert 25 9 (.slice (some ⟨w4.heap.size, 0, none⟩) 2 2)).run Try.prog w5 = .ok (.string { data := #[2, 3] }) w5 := Row.str (zs := [2, 3]) hblk5.row 2 2 rfl
  have hk3 := ISkip_bad p 8 false A4 2 (c3 - 1) w5 3 hI5.2.1 (by decide)
  have hk2 := ISkip_good p p 8 false A4 2 (c3 - 1) [2, 3] w5 2 hI5 (by decide) (by decide) (by decide)
  have HK3 := Lib.hid hk3; have HK2 := Lib.hid hk2
  clear hk3 hk2
  go_wp2_with (first | (go_at_call 28; refine (num03_any _ _).mono ?_; rintro e w' ⟨rfl, rfl⟩) | (go_at_call_of 32 (Value.int .i64 3); refine HK3.out.mono ?_; rintro e w' ⟨rfl, rfl⟩))
  refine HK2.out.mono ?_
  rintro e w6 ⟨rfl, A6, hI6, hA6, hF6⟩
  have hI6' : InpAt w6 p p 10 false A6 0 (c3 - 1 - 2) [] := hI6
  have hO6 := hO5.fr hF6 (by omega) (fun k h => by cases h)
  clear hI6 hcv
  go_wp2_with (first | (go_at_call 28; refine (num03_any _ _).mono ?_; rintro e w' ⟨rfl, rfl⟩) | (go_at_call 34; refine (IAt_any _ _ _ _ _ _ _ hI6'.2.1).mono ?_; rintro e w' ⟨rfl, rfl⟩) | (go_at_call 35; refine (IHeld_any _ _ _ _ _ _ _ hI6'.2.1).mono ?_; rintro e w' ⟨rfl, rfl⟩))
  refine (IEnd_good p p 10 A6 0 (c3 - 1 - 2) [] w6 hI6').mono ?_
  rintro e w7 ⟨rfl, hI7, hF7⟩
  have hO7 := hO6.fr hF7 (by omega) (fun k h => by cases h)
  go_wp2_with (first | (go_at_call 28; refine (num03_any _ _).mono ?_; rintro e w' ⟨rfl, rfl⟩) | (go_at_call 30; refine (IGive_over p 10 A6 0 (c3 - 1 - 2) w7 none 0 0 hI7.2.1).mono ?_; rintro e w' ⟨rfl, rfl⟩) | (go_at_call 36; refine (IEnded_any _ _ _ _ _ _ _ hI7.2.1).mono ?_; rintro e w' ⟨rfl, rfl⟩))
  have hsz : q + 1 ≤ w7.heap.size := hO7.2.1.lt
  refine (OPut_fit q q 3 none _ 0 0 2 2 [] [1, 2] _ (w7.alloc (.cells #[.int .u8 1, .int .u8 2] 5)) (hO7.below ((Below.refl _ _).alloc (Nat.le_refl _) _)) (by decide) (by decide) (bytes2 w7 1 2) rfl (by decide) (by decide) (by simp; omega)).mono ?_
  rintro e w8 ⟨A8, c8, rfl, hO8, hA8, hF8⟩
  have hO8' : OutAt w8 q q 3 A8 2 c8 [1, 2] := hO8
  have hl8 := hO8'.2.1.lt
  clear hO8
  go_wp2_with (first | (go_at_call 28; refine (num03_any _ _).mono ?_; rintro e w' ⟨rfl, rfl⟩))
  have hO9 := hO8'.below ((Below.refl w8.heap.size w8).alloc (Nat.le_refl _) (.cells #[.int .u8 1, .int .u8 2] 5))
  refine (OPut_long q 3 A8 _ 2 c8 2 2 (w8.alloc (.cells #[.int .u8 1, .int .u8 2] 5)) hO9.2.1 (by decide) (by decide) (by decide) (by decide)).mono ?_
  rintro e w10 ⟨rfl, hb10⟩
  have hO10 := hO9.below hb10
  clear hO9
  go_wp2_with (first | (go_at_call 28; refine (num03_any _ _).mono ?_; rintro e w' ⟨rfl, rfl⟩))
  refine (OPatch_good q q 3 A8 2 c8 [1, 2] w10 0 2 513 hO10 (by decide) (by decide) (by decide) ⟨by decide, by decide⟩ (by decide)).mono ?_
  rintro e w11 ⟨rfl, hO11, hF11⟩
  have hO11' : OutAt w11 q q 3 A8 2 c8 [1, 2] := hO11
  clear hO11
  go_wp2_with (first | (go_at_call 28; refine (num03_any _ _).mono ?_; rintro e w' ⟨rfl, rfl⟩))
  refine (OBytes_any q 3 A8 2 c8 [1, 2] _ w11 hO11'.2.1 hO11'.2.2.1.row rfl (by decide)).mono ?_
  rintro e w12 ⟨v12, rfl, hown12, hb12⟩
  obtain ⟨A12, c12, rfl, _, _, _, hr12⟩ := Row.of_own hown12
  have hcv : (convert 25 9 (.slice A12 2 c12)).run Try.prog w12 = .ok (.string { data := #[1, 2] }) w12 := Row.str (zs := [1, 2]) hr12 2 c12 rfl
  have hO12 := hO11'.below hb12
  go_wp2_with (first | (go_at_call 40; refine (OLen_any _ _ _ _ _ _ hO12.2.1).mono ?_; rintro e w' ⟨rfl, rfl⟩))
  go_ret
  have s3 := hF3'.size
  have s4 := hF4.size
  have s5 := hb5.size
  have s6 := hF6.size
  have s7 := hF7.size
  have s8 := hF8.size
  have s10 := hb10.size
  have s11 := hF11.size
  have s7a : (w7.alloc (.cells #[.int .u8 1, .int .u8 2] 5)).heap.size = w7.heap.size + 1 := by simp
  have s8a : (w8.alloc (.cells #[.int .u8 1, .int .u8 2] 5)).heap.size = w8.heap.size + 1 := by simp
  have hpw : p = w.heap.size := HP.out
  have hqw : q = w1.heap.size := HQ.out
  have b2 : Below p w w2 := hB1.trans (hB2.mono (by omega))
  have b3 : Below p w w3 := b2.trans (hF3'.below (by omega) (fun k h => by omega))
  have b4 : Below p w w4 := b3.trans (hF4.below (by omega) (fun k h => by omega))
  have b5 : Below p w w5 := b4.trans (hb5.mono (by omega))
  have b6 : Below p w w6 := b5.trans (hF6.below (by omega) (fun k h => by omega))
  have b7 : Below p w w7 := b6.trans (hF7.below (by omega) (fun k h => by omega))
  have b8 : Below p w w8 := (b7.alloc (by omega) _).trans (hF8.below (by omega) (fun k h => by rcases h with h | h; omega; cases h))
  have b10 : Below p w w10 := (b8.alloc (by omega) _).trans (hb10.mono (by omega))
  have b11 : Below p w w11 := b10.trans (hF11.below (by omega) (fun k h => by
    rcases hA8 with e | ⟨k', e, hk⟩
    · rw [e] at h; cases h
    · rw [e] at h; injection h with h; omega))
  rw [← hpw]
  exact ⟨rfl, b11.trans (hb12.mono (by omega))⟩
end Go.Proofs.Ytfklhppfehkfaaa

import Derived.Test.YtfklhppfehkfaaaCur2
namespace Go.Proofs.Ytfklhppfehkfaaa
open Go.RowKit

theorem putAt_drop {α : Type} (vs : List α) : ∀ (cs : List α) (o k : Nat), (putAt cs (k + o) vs).drop k = putAt (cs.drop k) o vs := by
  induction vs with
  | nil => intro cs o k; rfl
  | cons x xs ih =>
    intro cs o k
    rw [putAt, putAt, show k + o + 1 = k + (o + 1) by omega, ih]
    congr 1
    rw [List.drop_set, if_neg (by omega)]
    congr 1; omega

section
variable (base p : Nat) (most : Int) (A : Option Addr) (n c : Nat) (xs : List Int) (w : World)
set_option maxHeartbeats 400000 in
theorem OPatch_bad (at_ wd x : Int) (hb : Blk w p 141 [.int .i64 most, .slice A n c]) (hm : n ≤ maxLen) (ha : I64 at_) (hw : I64 wd) (he : winErr n at_ wd ≠ 0) :
    Calls Try.prog 42 #[.pointer (some ⟨p, 0, none⟩), .int .i64 at_, .int .i64 wd, .int .u64 x] w fun e w' => e = .returned (.int .i64 (winErr n at_ wd)) ∧ w = w' := by
  have f1 := hb.cell 1
  simp only [List.getElem?_cons_zero, List.getElem?_cons_succ] at f1
  have HP := Lib.hid (Put_bad A n c at_ wd x w hm ha hw he)
  clear he
  go_enter Try.func42, Try.ntmps42
  go_wp2_with (go_at_call 16; refine HP.out.mono ?_; rintro e w' ⟨rfl, rfl⟩)
  go_ret
  exact ⟨rfl, rfl⟩
set_option maxHeartbeats 400000 in
theorem OPatch_unfit (at_ wd : Nat) (x : Int) (h : OutAt w base p most A n c xs) (h1 : 1 ≤ wd) (h2 : wd ≤ 8) (h3 : at_ + wd ≤ n) (hx : U64 x) (hf : fitsB x wd = false) :
    Calls Try.prog 42 #[.pointer (some ⟨p, 0, none⟩), .int .i64 at_, .int .i64 wd, .int .u64 x] w fun e w' => e = .returned (.int .i64 10) ∧ w = w' := by
  obtain ⟨hpb, hb, ⟨hn, hnc, hcm, hh⟩, hne⟩ := h
  have f1 := hb.cell 1
  simp only [List.getElem?_cons_zero, List.getElem?_cons_succ] at f1
  rcases hh with h0 | ⟨g, off, cs, rfl, hgb, hk, hoc, htk⟩
  · omega
  have HP := Lib.hid (Put_unfit g off n c at_ wd x w (by omega) hnc hcm h1 h2 h3 hx hf)
  clear hf hn htk
  go_enter Try.func42, Try.ntmps42
  go_wp2_with (go_at_call 16; refine HP.out.mono ?_; rintro e w' ⟨rfl, rfl⟩)
  go_ret
  exact ⟨rfl, rfl⟩
set_option maxHeartbeats 400000 in
theorem OPatch_good (at_ wd : Nat) (x : Int) (h : OutAt w base p most A n c xs) (h1 : 1 ≤ wd) (h2 : wd ≤ 8) (h3 : at_ + wd ≤ n) (hx : U64 x) (hf : fitsB x wd = true) :
    Calls Try.prog 42 #[.pointer (some ⟨p, 0, none⟩), .int .i64 at_, .int .i64 wd, .int .u64 x] w fun e w' => e = .returned (.int .i64 0) ∧ OutAt w' base p most A n c (putAt xs at_ (leBytes x wd)) ∧ Fr w w' (fun k => blkOf A = some k) := by
  obtain ⟨hpb, hb, ⟨hn, hnc, hcm, hh⟩, hne⟩ := h
  have f1 := hb.cell 1
  simp only [List.getElem?_cons_zero, List.getElem?_cons_succ] at f1
  rcases hh with h0 | ⟨g, off, cs, rfl, hgb, hk, hoc, htk⟩
  · omega
  have hlen : (vs8 (leBytes x wd)).length = wd := by simp [vs8, leBytes_length]
  have HP := Lib.hid (Put_good g off n c at_ wd x w (by omega) hnc hcm h1 h2 h3 hx hf (fun k hk' => ⟨_, by rw [hk.cell]; exact List.getElem?_eq_getElem (by omega)⟩) (fun k hk' => hk.frozen _))
  clear hf
  have hgp : g ≠ p := fun e => hne (by rw [← e]; rfl)
  have hk2 := hk.setRow (vs8 (leBytes x wd)) (off + at_)
  have hb2 := hb.setRow_far (Ne.symm hgp) (vs8 (leBytes x wd)) (off + at_)
  have hfr : Fr w (Proofs.Ytfklhppfehkfaaa.setRow w g (off + at_) (vs8 (leBytes x wd))) (fun k => blkOf (some ⟨g, off, none⟩) = some k) := by
    have : ∀ (vs : List Value) (w0 : World) (o : Nat), Fr w w0 (fun k => blkOf (some ⟨g, off, none⟩) = some k) → Fr w (Proofs.Ytfklhppfehkfaaa.setRow w0 g o vs) (fun k => blkOf (some ⟨g, off, none⟩) = some k) := by
      intro vs
      induction vs with
      | nil => intro w0 o h; exact h
      | cons v vs ih => intro w0 o h; exact ih _ _ (h.setCell (p := ⟨g, o, none⟩) rfl v)
    exact this _ _ _ (Fr.refl w _)
  have hgoal : OutAt (Proofs.Ytfklhppfehkfaaa.setRow w g (off + at_) (vs8 (leBytes x wd))) base p most (some ⟨g, off, none⟩) n c (putAt xs at_ (leBytes x wd)) := by
    refine ⟨hpb, hb2, ⟨by simpa [putAt_length] using hn, hnc, hcm, .inr ⟨g, off, _, rfl, hgb, hk2, by rw [putAt_length]; exact hoc, ?_⟩⟩, hne⟩
    rw [putAt_drop, putAt_take, htk, vs8, putAt_map]
  generalize Proofs.Ytfklhppfehkfaaa.setRow w g (off + at_) (vs8 (leBytes x wd)) = w2 at *
  clear hn htk hlen
  go_enter Try.func42, Try.ntmps42
  go_wp2_with (go_at_call 16; refine HP.out.mono ?_; rintro e w' ⟨rfl, rfl⟩)
  go_ret
  exact ⟨rfl, hgoal, hfr⟩
end
end Go.Proofs.Ytfklhppfehkfaaa

import Derived.Laws.Bits64b
import Derived.Test.YtjeplogcfedmeaaP10
set_option linter.all false
section
namespace Go.Proofs.Ytjeplogcfedmeaa
open Go.RowKit
set_option maxRecDepth 100000
set_option maxHeartbeats 8000000
theorem rcheck_any (e : Bool) (C : List InsM) (N : List Int) (hC : C.length ≤ 140737488355328) (hN : N.length ≤ 140737488355328) : PCall Try.prog 17 [pG e C N] (fun r => r = vFa (chkF e C N)) := by
 obtain ⟨G, hG⟩ : ∃ G, chkF e C N = G := ⟨_, rfl⟩
 rw [hG]
 unfold chkF at hG
 by_cases h1 : 1048576 < C.length
 ·have e1 : ((C.length : Int) > 1048576) = True := eq_true (by omega)
  rw [if_pos (.inl h1)] at hG
  rw [← hG]
  unfold pG
  refine go_fn (tyOf_ok _) Try.func17 rfl rfl (by rw [Try.results17]) Try.ntmps17 rfl fun E => ?_
  (repeat' (first | exact trivial | (with_reducible first | apply awA | apply awD | apply awF | apply awG) | ((with_reducible first | apply awn | refine awQ ?_ | refine awR ?_); intro r hr; simp only [go_sem, Nat.reduceBEq, Nat.reduceLT, Nat.reduceLeDiff, Nat.reduceAdd, Nat.reduceMul, reduceCtorEq, encIs_len, v8_len, e1] at hr; subst hr; (first | refine awV ?_ ?_ | refine endK ?_ ?_ | (refine condK (fun h => ?_) (fun h => ?_) <;> (try simp only [go_sem, reduceCtorEq] at h) <;> (try (exfalso; omega))))))) <;> (try omega)
  all_goals rfl
 have e1 : ((C.length : Int) > 1048576) = False := eq_false (by omega)
 by_cases h2 : 1048576 < N.length
 ·have e2 : ((N.length : Int) > 1048576) = True := eq_true (by omega)
  rw [if_pos (.inr h2)] at hG
  rw [← hG]
  unfold pG
  refine go_fn (tyOf_ok _) Try.func17 rfl rfl (by rw [Try.results17]) Try.ntmps17 rfl fun E => ?_
  (repeat' (first | exact trivial | (with_reducible first | apply awA | apply awD | apply awF | apply awG) | ((with_reducible first | apply awn | refine awQ ?_ | refine awR ?_); intro r hr; simp only [go_sem, Nat.reduceBEq, Nat.reduceLT, Nat.reduceLeDiff, Nat.reduceAdd, Nat.reduceMul, reduceCtorEq, encIs_len, v8_len, e1, e2] at hr; subst hr; (first | refine awV ?_ ?_ | refine endK ?_ ?_ | (refine condK (fun h => ?_) (fun h => ?_) <;> (try simp only [go_sem, reduceCtorEq] at h) <;> (try (exfalso; omega))))))) <;> (try omega)
  all_goals rfl
 have e2 : ((N.length : Int) > 1048576) = False := eq_false (by omega)
 rw [if_neg (by omega)] at hG
 have hr : ∀ k, k < C.length → PCall Try.prog 26 [pG e C N, vI k] (fun r => r = vB (rightF e C N k)) := fun k hk => formed_right e C N hk ▸ formed_any e C N (by omega) (by omega) k hk
 unfold pG at *
 refine go_fn (tyOf_ok _) Try.func17 rfl rfl (by rw [Try.results17]) Try.ntmps17 rfl fun E => ?_
 (repeat' (first | exact trivial | (with_reducible first | apply awA | apply awB | apply awC | apply awF) | ((with_reducible first | apply awn | refine awQ ?_); intro r hr; simp only [go_sem, Nat.reduceBEq, Nat.reduceLT, Nat.reduceLeDiff, Nat.reduceAdd, Nat.reduceMul, reduceCtorEq, encIs_len, v8_len, e1, e2] at hr; subst hr; (first | refine awV ?_ ?_ | (refine condK (fun h => ?_) (fun h => ?_) <;> (try simp only [go_sem, reduceCtorEq] at h) <;> (try (exfalso; omega))))))) <;> (try omega)
 refine go_loop [1, 2, 3] [1, 2] (fun i : Nat => ⟨[(1, true, .ptr 1 1 0 0), (2, true, .ptr 1 2 0 0), (3, true, vI i)], [(1, .var [vB e, .lst 4 (encIs C), .lst 1 (v8 N)]), (2, .var [vI 0, vI 0])]⟩)
  (fun i => i ≤ C.length ∧ firstBad (rightF e C N) i (C.length - i) = firstBad (rightF e C N) 0 C.length) (fun i => C.length - i) 0 (by simp only [go_sem, Nat.reduceBEq] <;> exact rfl) ⟨Nat.zero_le _, rfl⟩ ?_
 intro i ⟨hi, hinv⟩
 have hwi := wrap_i64 (n := (i : Int) + 1) (by omega)
 by_cases hlt : i < C.length
 ·have e3 : ((i : Int) < (C.length : Int)) = True := eq_true (by omega)
  have hri := hr i hlt
  obtain ⟨m, hm⟩ : ∃ m, C.length - i = m + 1 := ⟨C.length - i - 1, by omega⟩
  rw [hm] at hinv
  unfold firstBad at hinv
  cases hb : rightF e C N i with
  | true =>
   rw [hb] at hri
   rw [if_pos hb] at hinv
   (repeat' (first | exact trivial | (with_reducible first | apply awA | apply awB | apply awC | apply awF | apply awI) | ((with_reducible first | apply awn | apply awo | refine awQ ?_); intro r hr; simp only [go_sem, Nat.reduceBEq, Nat.reduceLT, Nat.reduceLeDiff, Nat.reduceAdd, Nat.reduceMul, e3, hwi, encIs_len] at hr; subst hr; (first | refine caA (fun _ => hri) rfl ?_ ?_ ?_ | refine awV ?_ ?_ | (refine condK (fun h => ?_) (fun h => ?_) <;> (try simp only [go_sem, reduceCtorEq] at h) <;> (try (exfalso; omega))))))) <;> (try omega)
   refine ⟨i + 1, ?_, ⟨hlt, ?_⟩, by omega⟩
   ·simp only [go_sem, Nat.reduceBEq]
    try exact rfl
   ·rw [show C.length - (i + 1) = m by omega, hinv]
    cases hx : C.length with
    | zero => omega
    | succ z => rfl
  | false =>
   rw [hb] at hri
   rw [if_neg (by rw [hb]; decide)] at hinv
   have hG2 : ((140 : Int), (i : Int)) = G := by
    rw [← hG]
    have : firstBad (rightF e C N) 0 C.length = some i := by
     rw [hinv]
     cases hx : C.length with
     | zero => omega
     | succ z => rfl
    rw [this]
   rw [← hG2]
   (repeat' (first | exact trivial | (with_reducible first | apply awA | apply awB | apply awC | apply awD | apply awF | apply awG | apply awJ) | ((with_reducible first | apply awn | apply awo | refine awQ ?_ | refine awR ?_); intro r hr; simp only [go_sem, Nat.reduceBEq, Nat.reduceLT, Nat.reduceLeDiff, Nat.reduceAdd, Nat.reduceMul, e3, encIs_len] at hr; subst hr; (first | refine caA (fun _ => hri) rfl ?_ ?_ ?_ | refine awV ?_ ?_ | refine endK ?_ ?_ | (refine condK (fun h => ?_) (fun h => ?_) <;> (try simp only [go_sem, reduceCtorEq] at h) <;> (try (exfalso; omega))))))) <;> (try omega)
   all_goals rfl
 ·have e3 : ((i : Int) < (C.length : Int)) = False := eq_false (by omega)
  rw [show C.length - i = 0 by omega] at hinv
  have hn : firstBad (rightF e C N) 0 C.length = none := by rw [← hinv]; rfl
  rw [hn] at hG
  clear hinv hr
  (repeat' (first | exact trivial | (with_reducible first | apply awA | apply awB | apply awE | apply awF | apply awH | apply awK) | ((with_reducible first | apply awn | refine awQ ?_); intro r hr; simp only [go_sem, Nat.reduceBEq, Nat.reduceLT, Nat.reduceLeDiff, Nat.reduceAdd, Nat.reduceMul, e3, encIs_len] at hr; subst hr; (first | refine awV ?_ ?_ | (refine condK (fun h => ?_) (fun h => ?_) <;> (try simp only [go_sem, reduceCtorEq] at h) <;> (try (exfalso; omega))))))) <;> (try omega)
  refine go_loop [1, 2, 4] [1, 2] (fun i : Nat => ⟨[(1, true, .ptr 1 1 0 0), (2, true, .ptr 1 2 0 0), (4, true, vI i)], [(1, .var [vB e, .lst 4 (encIs C), .lst 1 (v8 N)]), (2, .var [vI 0, vI 0])]⟩)
   (fun i => i ≤ N.length ∧ firstBad (fun i => entryB C.length (N.getD i 0)) i (N.length - i) = firstBad (fun i => entryB C.length (N.getD i 0)) 0 N.length) (fun i => N.length - i) 0 (by simp only [go_sem, Nat.reduceBEq] <;> exact rfl) ⟨Nat.zero_le _, rfl⟩ ?_
  clear e3 hwi hlt hi i
  intro i ⟨hi, hinv⟩
  have hwi := wrap_i64 (n := (i : Int) + 1) (by omega)
  have zi : ((i : Int)).toNat = i := by omega
  have hwc := wrap_i64 (n := (C.length : Int) - 1) (by omega)
  by_cases hlt : i < N.length
  ·have e3 : ((i : Int) < (N.length : Int)) = True := eq_true (by omega)
   have gi := v8_get hlt
   have hgd : N.getD i 0 = N[i] := by simp [List.getD, hlt]
   have hin := rin_any N[i] 0 ((C.length : Int) - 1)
   obtain ⟨m, hm⟩ : ∃ m, N.length - i = m + 1 := ⟨N.length - i - 1, by omega⟩
   rw [hm] at hinv
   unfold firstBad at hinv
   rw [hgd] at hinv
   cases hb : inF N[i] 0 ((C.length : Int) - 1) with
   | true =>
    rw [hb] at hin
    rw [if_pos (show entryB C.length N[i] = true from hb)] at hinv
    (repeat' (first | exact trivial | (with_reducible first | apply awA | apply awB | apply awC | apply awF | apply awI) | (refine aw_draw (id := 11) (t := (.node [0, 1, 2, 3, 4, 5, 6, 7, 8, 9, 10] [])) (drR [1] [40] []) mixed (by kernel_rfl) (by kernel_rfl) (fun _ _ h => h) ?_) | (refine at_done (by simp only [go_sem]; exact rfl) ?_) | (refine at_alt (by simp only [go_sem]; exact rfl) ?_) | refine qalt_normal ?_ | refine ats_cons ?_ ?_ | exact ats_nil | ((with_reducible first | apply awn | apply awp | refine awQ ?_); intro r hr; simp only [go_sem, Nat.reduceBEq, Nat.reduceLT, Nat.reduceLeDiff, Nat.reduceAdd, Nat.reduceMul, reduceCtorEq, e3, zi, hwi, hwc, gi, encIs_len, v8_len] at hr; subst hr; (first | refine caA (fun _ => hin) rfl ?_ ?_ ?_ | refine awV ?_ ?_ | (refine condK (fun h => ?_) (fun h => ?_) <;> (try simp only [go_sem, reduceCtorEq] at h) <;> (try (exfalso; omega))))))) <;> (try omega)
    refine ⟨i + 1, ?_, ⟨hlt, ?_⟩, by omega⟩
    ·simp only [go_sem, Nat.reduceBEq]
     try exact rfl
    ·rw [show N.length - (i + 1) = m by omega, hinv]
     cases hx : N.length with
     | zero => omega
     | succ z => rfl
   | false =>
    rw [hb] at hin
    rw [if_neg (by unfold entryB; rw [hb]; decide)] at hinv
    have hG2 : ((3 : Int), (i : Int)) = G := by
     rw [← hG]
     have : firstBad (fun i => entryB C.length (N.getD i 0)) 0 N.length = some i := by
      rw [hinv]
      cases hx : N.length with
      | zero => omega
      | succ z => rfl
     rw [this]
    rw [← hG2]
    (repeat' (first | exact trivial | (with_reducible first | apply awA | apply awB | apply awC | apply awD | apply awF | apply awG | apply awJ) | (refine aw_draw (id := 11) (t := (.node [0, 1, 2, 3, 4, 5, 6, 7, 8, 9, 10] [])) (drR [1] [40] []) mixed (by kernel_rfl) (by kernel_rfl) (fun _ _ h => h) ?_) | (refine at_done (by simp only [go_sem]; exact rfl) ?_) | (refine at_alt (by simp only [go_sem]; exact rfl) ?_) | refine qalt_normal ?_ | refine ats_cons ?_ ?_ | exact ats_nil | ((with_reducible first | apply awn | apply awp | refine awQ ?_ | refine awR ?_); intro r hr; simp only [go_sem, Nat.reduceBEq, Nat.reduceLT, Nat.reduceLeDiff, Nat.reduceAdd, Nat.reduceMul, reduceCtorEq, e3, zi, hwc, gi, encIs_len, v8_len] at hr; subst hr; (first | refine caA (fun _ => hin) rfl ?_ ?_ ?_ | refine awV ?_ ?_ | refine endK ?_ ?_ | (refine condK (fun h => ?_) (fun h => ?_) <;> (try simp only [go_sem, reduceCtorEq] at h) <;> (try (exfalso; omega))))))) <;> (try omega)
    all_goals rfl
  ·have e3 : ((i : Int) < (N.length : Int)) = False := eq_false (by omega)
   rw [show N.length - i = 0 by omega] at hinv
   have hn : firstBad (fun i => entryB C.length (N.getD i 0)) 0 N.length = none := by rw [← hinv]; rfl
   rw [hn] at hG
   rw [← hG]
   (repeat' (first | exact trivial | (with_reducible first | apply awA | apply awD | apply awE | apply awF | apply awH | apply awK) | ((with_reducible first | apply awn | refine awQ ?_ | refine awR ?_); intro r hr; simp only [go_sem, Nat.reduceBEq, Nat.reduceLT, Nat.reduceLeDiff, Nat.reduceAdd, Nat.reduceMul, e3, v8_len] at hr; subst hr; (first | refine awV ?_ ?_ | refine endK ?_ ?_ | (refine condK (fun h => ?_) (fun h => ?_) <;> (try simp only [go_sem, reduceCtorEq] at h) <;> (try (exfalso; omega))))))) <;> (try omega)
   all_goals rfl
end Go.Proofs.Ytjeplogcfedmeaa
end
section
namespace Go.Proofs.Ytjeplogcfedmeaa
open Go.RowKit
set_option maxRecDepth 100000
set_option maxHeartbeats 8000000
def broughtF (x lo hi : Int) : Int :=
 if hi < lo then max x lo else if inF x lo hi = true then max x lo
 else if x.tmod (hi - lo + 1) < 0 then lo + (x.tmod (hi - lo + 1) + (hi - lo + 1)) else lo + x.tmod (hi - lo + 1)
theorem broughtF_in (x : Int) {lo hi : Int} (h : lo ≤ hi) : lo ≤ broughtF x lo hi ∧ broughtF x lo hi ≤ hi := by
 unfold broughtF
 rw [if_neg (by omega)]
 have h1 := Int.tmod_lt_of_pos x (show 0 < hi - lo + 1 by omega)
 have h2 := Int.lt_tmod_of_pos x (show 0 < hi - lo + 1 by omega)
 generalize x.tmod (hi - lo + 1) = t at *
 by_cases hx : inF x lo hi = true
 ·rw [if_pos hx]
  simp only [inF, Bool.and_eq_true, decide_eq_true_eq] at hx
  rw [Int.max_def]
  split <;> omega
 ·rw [if_neg hx]
  split <;> omega
theorem brought_any (x lo hi : Int) (hl : -1000000000 ≤ lo ∧ lo ≤ 1000000000 ∧ -1000000000 ≤ hi ∧ hi ≤ 1000000000) : PCall Try.prog 21 [vI x, vI lo, vI hi] (fun r => r = vI (broughtF x lo hi)) := by
 unfold broughtF
 by_cases h1 : hi < lo
 ·have e1 : (hi < lo) = True := eq_true h1
  rw [if_pos h1]
  refine go_fn (tyOf_ok _) Try.func21 rfl rfl (by rw [Try.results21]) Try.ntmps21 rfl fun E => ?_
  (repeat' (first | exact trivial | (with_reducible first | apply awA | apply awD | apply awF | apply awG) | ((with_reducible first | apply awn | apply awo | refine awQ ?_ | refine awR ?_); intro r hr; simp only [go_sem, Nat.reduceBEq, Nat.reduceLT, Nat.reduceAdd, reduceCtorEq, e1] at hr; subst hr; (first | refine caB 27 (vB true) ?_ ?_ ?_ | refine awV ?_ ?_ | refine endK ?_ ?_ | (refine condK (fun h => ?_) (fun h => ?_) <;> (try simp only [go_sem, reduceCtorEq] at h) <;> (try (exfalso; omega))))))) <;> (try omega)
  all_goals rfl
 ·have e1 : (hi < lo) = False := eq_false h1
  rw [if_neg h1]
  have hin := rin_any x lo hi
  cases hb : inF x lo hi with
  | true =>
   rw [hb] at hin
   rw [if_pos rfl]
   refine go_fn (tyOf_ok _) Try.func21 rfl rfl (by rw [Try.results21]) Try.ntmps21 rfl fun E => ?_
   (repeat' (first | exact trivial | (with_reducible first | apply awA | apply awD | apply awF | apply awG) | ((with_reducible first | apply awn | apply awo | refine awQ ?_ | refine awR ?_); intro r hr; simp only [go_sem, Nat.reduceBEq, Nat.reduceLT, Nat.reduceAdd, reduceCtorEq, e1] at hr; subst hr; (first | refine caA (fun _ => hin) rfl ?_ ?_ ?_ | refine awV ?_ ?_ | refine endK ?_ ?_ | (refine condK (fun h => ?_) (fun h => ?_) <;> (try simp only [go_sem, reduceCtorEq] at h) <;> (try (exfalso; omega))))))) <;> (try omega)
   all_goals rfl
  | false =>
   rw [hb] at hin
   rw [if_neg (by decide)]
   have w1 : IntKind.i64.wrap (hi - lo) = hi - lo := wrap_i64 (by omega)
   have w2 := wrap_i64 (n := hi - lo + 1) (by omega)
   have e2 : (hi - lo + 1 = 0) = False := eq_false (by omega)
   have t1 := Int.tmod_lt_of_pos x (show 0 < hi - lo + 1 by omega)
   have t2 := Int.lt_tmod_of_pos x (show 0 < hi - lo + 1 by omega)
   by_cases h3 : x.tmod (hi - lo + 1) < 0
   ·have e3 : (x.tmod (hi - lo + 1) < 0) = True := eq_true h3
    rw [if_pos h3]
    have w3 := wrap_i64 (n := x.tmod (hi - lo + 1) + (hi - lo + 1)) (by omega)
    have w4 := wrap_i64 (n := lo + (x.tmod (hi - lo + 1) + (hi - lo + 1))) (by omega)
    refine go_fn (tyOf_ok _) Try.func21 rfl rfl (by rw [Try.results21]) Try.ntmps21 rfl fun E => ?_
    (repeat' (first | exact trivial | (with_reducible first | apply awA | apply awC | apply awD | apply awF) | ((with_reducible first | apply awn | apply awo | refine awQ ?_ | refine awR ?_); intro r hr; simp only [go_sem, Nat.reduceBEq, Nat.reduceLT, Nat.reduceAdd, reduceCtorEq, e1, w1, w2, w3, w4, e2, e3] at hr; subst hr; (first | refine caA (fun _ => hin) rfl ?_ ?_ ?_ | refine awV ?_ ?_ | refine endK ?_ ?_ | (refine condK (fun h => ?_) (fun h => ?_) <;> (try simp only [go_sem, reduceCtorEq] at h) <;> (try (exfalso; omega))))))) <;> (try omega)
    all_goals rfl
   ·have e3 : (x.tmod (hi - lo + 1) < 0) = False := eq_false h3
    rw [if_neg h3]
    have w4 := wrap_i64 (n := lo + x.tmod (hi - lo + 1)) (by omega)
    refine go_fn (tyOf_ok _) Try.func21 rfl rfl (by rw [Try.results21]) Try.ntmps21 rfl fun E => ?_
    (repeat' (first | exact trivial | (with_reducible first | apply awA | apply awC | apply awD | apply awF) | ((with_reducible first | apply awn | apply awo | refine awQ ?_ | refine awR ?_); intro r hr; simp only [go_sem, Nat.reduceBEq, Nat.reduceLT, Nat.reduceAdd, reduceCtorEq, e1, w1, w2, w4, e2, e3] at hr; subst hr; (first | refine caA (fun _ => hin) rfl ?_ ?_ ?_ | refine awV ?_ ?_ | refine endK ?_ ?_ | (refine condK (fun h => ?_) (fun h => ?_) <;> (try simp only [go_sem, reduceCtorEq] at h) <;> (try (exfalso; omega))))))) <;> (try omega)
    all_goals rfl
def powF (i : Int) : Int := if i = 0 then 1 else if i = 1 then 2 else if i = 2 then 4 else 8
def madeF (nC nN : Nat) (w x : Int) : Int :=
 if w = 107 then broughtF x (-1) 63 else
 if w = 112 then broughtF x (-1) 63 else
 if w = 75 then broughtF x 0 61 else
 if w = 119 then powF (broughtF x 0 3) else
 if w = 109 then 2 else
 if w = 102 then broughtF x 4 400 else
 if w = 110 then broughtF x 1 1048576 else
 if w = 115 then broughtF x 1 64 else
 if w = 103 then broughtF x 0 255 else
 if w = 108 then broughtF x 0 300 else
 if w = 76 then broughtF x (-1) 16777215 else
 if w = 114 then max (broughtF x 0 300) 1 else
 if w = 122 then broughtF x 1 16777216 else
 if w = 116 then broughtF x 0 ((nC : Int) - 1) else
 if w = 121 then broughtF x 0 ((nN : Int) - 1) else 0
theorem made_any (e : Bool) (C : List InsM) (N : List Int) (hC : C.length ≤ 100000000) (hN : N.length ≤ 100000000) (w x : Int) : PCall Try.prog 23 [pG e C N, vU8 w, vI x] (fun r => r = vI (madeF C.length N.length w x)) := by
 have hw1 := wrap_i64 (n := (C.length : Int) - 1) (by omega)
 have hw2 := wrap_i64 (n := (N.length : Int) - 1) (by omega)
 unfold pG
 refine go_fn (tyOf_ok _) Try.func23 rfl rfl (by rw [Try.results23]) Try.ntmps23 rfl fun E => ?_
 (repeat' (first | exact trivial | (with_reducible first | apply awA | apply awB | apply awC | apply awD | apply awF | apply awG | apply awI | apply awJ) | ((with_reducible first | apply awn | apply awo | refine awQ ?_ | refine awR ?_); intro r hr; simp only [go_sem, Nat.reduceBEq, Nat.reduceLT, Nat.reduceLeDiff, Nat.reduceAdd, Nat.reduceMul, hw1, hw2, encIs_len, v8_len] at hr; subst hr; (first | refine caA (fun _ => brought_any _ _ _ (by omega)) rfl ?_ ?_ ?_ | refine awV ?_ ?_ | refine endK ?_ ?_ | (refine condK (fun h => ?_) (fun h => ?_) <;> (try simp only [go_sem] at h) <;> (try (exfalso; omega))))))) <;> (try omega)
 all_goals first | (subst_vars; rfl) | (unfold madeF; simp only [*, if_false]; rfl) | skip
 have hw : w = 119 := by assumption
 subst hw
 have hb := broughtF_in x (show (0 : Int) ≤ 3 by omega)
 show _ = vI (powF (broughtF x 0 3))
 generalize broughtF x 0 3 = b at *
 obtain rfl | rfl | rfl | rfl : b = 0 ∨ b = 1 ∨ b = 2 ∨ b = 3 := by omega
 all_goals rfl
theorem inF_iff {n lo hi : Int} : inF n lo hi = true ↔ lo ≤ n ∧ n ≤ hi := by simp [inF]
theorem made_fit {nC nN : Nat} (h1 : 1 ≤ nC) (h2 : 1 ≤ nN) {w : Int} (hw : letters.contains w = true) (ha : w ≠ 97) (x : Int) : fitF nC nN w (madeF nC nN w x) = true := by
 simp only [letters, List.contains_cons, List.contains_nil, Bool.or_false, Bool.or_eq_true, beq_iff_eq] at hw
 rcases hw with rfl | rfl | rfl | rfl | rfl | rfl | rfl | rfl | rfl | rfl | rfl | rfl | rfl | rfl | rfl | rfl | rfl
 ·simp [fitF, madeF]
 ·simp only [fitF, madeF, if_true]; exact inF_iff.2 (broughtF_in x (by omega))
 ·simp only [fitF, madeF, if_true, Int.reduceEq, if_false]; exact inF_iff.2 (broughtF_in x (by omega))
 ·simp only [fitF, madeF, if_true, Int.reduceEq, if_false]; have := broughtF_in x (show (0 : Int) ≤ 61 by omega); exact inF_iff.2 (by omega)
 ·simp only [fitF, madeF, if_true, Int.reduceEq, if_false]
  have hb := broughtF_in x (show (0 : Int) ≤ 3 by omega)
  generalize broughtF x 0 3 = b at *
  obtain rfl | rfl | rfl | rfl : b = 0 ∨ b = 1 ∨ b = 2 ∨ b = 3 := by omega
  all_goals rfl
 ·simp only [fitF, madeF, if_true, Int.reduceEq, if_false]; exact inF_iff.2 (by omega)
 ·simp only [fitF, madeF, if_true, Int.reduceEq, if_false]; have := broughtF_in x (show (4 : Int) ≤ 400 by omega); exact inF_iff.2 (by omega)
 ·simp only [fitF, madeF, if_true, Int.reduceEq, if_false]; exact inF_iff.2 (broughtF_in x (by omega))
 ·simp only [fitF, madeF, if_true, Int.reduceEq, if_false]; exact inF_iff.2 (broughtF_in x (by omega))
 ·exact absurd rfl ha
 ·simp only [fitF, madeF, if_true, Int.reduceEq, if_false]; exact inF_iff.2 (broughtF_in x (by omega))
 ·simp only [fitF, madeF, if_true, Int.reduceEq, if_false]; have := broughtF_in x (show (0 : Int) ≤ 300 by omega); exact inF_iff.2 (by omega)
 ·simp only [fitF, madeF, if_true, Int.reduceEq, if_false]; exact inF_iff.2 (broughtF_in x (by omega))
 ·simp only [fitF, madeF, if_true, Int.reduceEq, if_false]
  have := broughtF_in x (show (0 : Int) ≤ 300 by omega)
  rw [Bool.or_eq_true]
  exact .inr (inF_iff.2 (by rw [Int.max_def]; split <;> omega))
 ·simp only [fitF, madeF, if_true, Int.reduceEq, if_false]; exact inF_iff.2 (broughtF_in x (by omega))
 ·simp only [fitF, madeF, if_true, Int.reduceEq, if_false]; exact inF_iff.2 (broughtF_in x (by omega))
 ·simp only [fitF, madeF, if_true, Int.reduceEq, if_false]; exact inF_iff.2 (broughtF_in x (by omega))
end Go.Proofs.Ytjeplogcfedmeaa
end
section
namespace Go.Proofs.Ytjeplogcfedmeaa
open Go.RowKit
set_option maxRecDepth 100000
set_option maxHeartbeats 8000000
theorem lend_G (e : Bool) (C : List InsM) (N : List Int) (hC : C.length ≤ 100000000) (hN : N.length ≤ 100000000) :
  GCall Try.prog 18 [pG e C N] [] (.agg [vB e, .ref 37 4 7 0 C.length, .ref 3 1 13 0 N.length]) [(7, .row 37 4 (encIs C ++ [cIns ⟨-901, 0, 0, 0⟩])), (13, .row 3 1 (v8 N ++ [[vI (-902)]]))] := by
 have tC : List.take C.length (encIs C) = encIs C := List.take_of_length_le (by rw [encIs_len]; omega)
 have tN : List.take N.length (v8 N) = v8 N := List.take_of_length_le (by rw [v8_len]; omega)
 unfold pG
 refine go_fnG (tyOf_ok _) Try.func18 rfl rfl (by rw [Try.results18]) Try.ntmps18 rfl fun E => ?_
 (repeat' (first | exact trivial | (with_reducible first | apply awA | apply awD | apply awF) | (refine aw_draw (id := 3) (t := (.node [0, 1, 2, 3, 4, 5, 6, 7, 8, 9, 10, 11, 12, 13] [])) (drR [1] [] []) mixed (by kernel_rfl) (by kernel_rfl) (fun _ _ h => h) ?_) | (refine at_done (by simp only [go_sem]; exact rfl) ?_) | (refine at_alt (by simp only [go_sem]; exact rfl) ?_) | refine qalt_normal ?_ | refine ats_cons ?_ ?_ | exact ats_nil | ((with_reducible first | apply awn | apply awp | refine awT ?_); intro r hr; simp only [go_sem, Nat.reduceBEq, Nat.reduceLT, Nat.reduceLeDiff, Nat.reduceAdd, Nat.reduceMul, Nat.reduceEqDiff, encIs_len, v8_len, tC, tN] at hr; subst hr; (first | refine awV ?_ ?_ | refine endGK ?_ ?_ ?_)))) <;> (try omega)
 ·simp only [List.length_append, encIs_len, List.length_cons, List.length_nil]; omega
 ·simp only [List.length_append, v8_len, List.length_cons, List.length_nil]; omega
 ·simp only [List.length_append, encIs_len, v8_len, List.length_cons, List.length_nil]; omega
 all_goals first | exact AV.up_rfl _ | (repeat first | exact obUp_nil | refine obUp_cons rfl ?_)
theorem GCallE.ren2 {P : Program} {f : Nat} {args : List AV} {A : Type} {I : A → Prop} {r : A → AV} {a b a' b' : Nat} {o1 o2 : A → AObj} (h : GCallE P f args [] I r (fun q => [(a, o1 q), (b, o2 q)])) (hab : a ≠ b) (hab' : a' ≠ b') (hl : a < 10000 ∧ b < 10000 ∧ a' < 10000 ∧ b' < 10000) :
  GCallE P f args [] I (fun q => (r q).ren [(a, a'), (b, b')]) (fun q => [(a', (o1 q).ren [(a, a'), (b, b')]), (b', (o2 q).ren [(a, a'), (b, b')])]) := by
 refine ⟨h.1, fun w F β vs hI hsz hv => (h.2 w F β vs hI hsz hv).mono fun e w' hq => ?_⟩
 obtain ⟨q, v, β', hq, he, ho, hr⟩ := hq
 let σ : Nat → Option Nat := fun d => if 10000 ≤ d then β' d else if d = a' then β' a else if d = b' then β' b else none
 have hσ : ∀ d x, σ d = some x → ∃ d', β' d' = some x ∧ ((10000 ≤ d ∧ d' = d) ∨ (d = a' ∧ d' = a) ∨ (d = b' ∧ d' = b)) := fun d x hd => by
  simp only [σ] at hd
  split at hd
  ·exact ⟨d, hd, .inl ⟨by assumption, rfl⟩⟩
  ·split at hd
   ·exact ⟨a, hd, .inr (.inl ⟨by assumption, rfl⟩)⟩
   ·split at hd
    ·exact ⟨b, hd, .inr (.inr ⟨by assumption, rfl⟩)⟩
    ·cases hd
 have hGF : ∀ x, GF F β β' w w' x → GF F β σ w w' x := fun x hx => ⟨hx.1, hx.2.1, fun d hd => by
  obtain ⟨d', hd', -⟩ := hσ d x hd
  exact hx.2.2 d' hd'⟩
 have hρ : ∀ d e x, lk [(a, a'), (b, b')] d = some e → β' d = some x → σ e = some x := fun d e x hd hx => by
  rw [lk_cons, lk_cons] at hd
  by_cases h1 : a = d
  ·subst h1
   simp only [beq_self_eq_true, cond_true, Option.some.injEq] at hd
   subst hd
   simp only [σ]
   rw [if_neg (by omega), if_pos trivial]
   exact hx
  ·rw [bif_ne h1] at hd
   by_cases h2 : b = d
   ·subst h2
    simp only [beq_self_eq_true, cond_true, Option.some.injEq] at hd
    subst hd
    simp only [σ]
    rw [if_neg (by omega), if_neg (fun g => hab' g.symm), if_pos trivial]
    exact hx
   ·rw [bif_ne h2] at hd
    cases hd
 refine ⟨q, v, σ, hq, he, ⟨ho.keeps, fun d e x h1 h2 => ?_, fun d x hd => ?_, fun d x hd hx => ?_, ho.fs, fun d o hd => ?_⟩, hr.ren hGF hρ⟩
 ·obtain ⟨d1, g1, k1⟩ := hσ d x h1
  obtain ⟨d2, g2, k2⟩ := hσ e x h2
  have := ho.inj d1 d2 x g1 g2
  omega
 ·obtain ⟨d', hd', hk⟩ := hσ d x hd
  obtain ⟨h1, h2⟩ := ho.rng d' x hd'
  refine ⟨h1.elim .inl fun g => ?_, h2⟩
  have := (hI.rng d' x g).2.2.1
  rcases hk with ⟨-, rfl⟩ | hk | hk
  ·exact .inr g
  ·omega
  ·omega
 ·simp only [σ]
  rw [if_pos (hI.rng d x hx).2.2.1]
  exact ho.fx d x hd hx
 ·rw [lk_cons, lk_cons] at hd
  by_cases h1 : a' = d
  ·subst h1
   simp only [beq_self_eq_true, cond_true, Option.some.injEq] at hd
   subst hd
   have hoo := ho.ob a (o1 q) (by rw [lk_cons]; simp)
   exact hoo.ren hGF hρ fun x hx => hρ a a' x (by rw [lk_cons]; simp) hx
  ·rw [bif_ne h1] at hd
   by_cases h2 : b' = d
   ·subst h2
    simp only [beq_self_eq_true, cond_true, Option.some.injEq] at hd
    subst hd
    have hoo := ho.ob b (o2 q) (by rw [lk_cons, lk_cons, bif_ne hab]; simp)
    exact hoo.ren hGF hρ fun x hx => hρ b b' x (by rw [lk_cons, lk_cons, bif_ne hab]; simp) hx
   ·rw [bif_ne h2] at hd
    cases hd
end Go.Proofs.Ytjeplogcfedmeaa
end
section
namespace Go.Proofs.Ytjeplogcfedmeaa
open Go.RowKit
set_option maxRecDepth 100000
set_option maxHeartbeats 8000000
def tellF (n : Nat) (f : FormM) : Bool :=
 !f.known ||
 ((if n = 8 ∨ n = 41 then decide (f.name = kindO ∨ f.name = kindC) && decide (bAt f.has 0 = 97) && decide (bAt f.has 1 = 32) && decide (bAt f.has 2 = 32)
  else !decide (f.name = kindO ∨ f.name = kindC) && (List.range 3).all fun i => !decide (bAt f.has i = 97))
 && (!decide (f.name = kindU) || decide (bAt f.has 0 = 75) && decide (bAt f.has 1 = 109))
 && (!decide (f.name = kindN') || decide (bAt f.has 0 = 108) && decide (bAt f.has 1 = 109) && decide (bAt f.has 2 = 119))
 && (!decide (f.name = kindP) || decide (bAt f.has 0 = 107) && decide (bAt f.has 1 = 112)))
theorem tell_low : (List.range 48).all (fun n => tellF n (formR true n) && tellF n (formR false n)) = true := by decide +kernel
theorem known_low {e : Bool} {op : Int} (h : (formR e op).known = true) : ∃ n : Nat, op = n ∧ n < 48 := by
 by_cases g : op < 0 ∨ 48 ≤ op
 ·rw [formR_out e g] at h; cases h
 ·exact ⟨op.toNat, by omega, by omega⟩
structure Told (op : Int) (f : FormM) : Prop where
 arm : op = 8 ∨ op = 41 → (f.name = kindO ∨ f.name = kindC) ∧ bAt f.has 0 = 97 ∧ bAt f.has 1 = 32 ∧ bAt f.has 2 = 32
 no : ¬ (op = 8 ∨ op = 41) → ¬ (f.name = kindO ∨ f.name = kindC) ∧ ∀ i, i < 3 → bAt f.has i ≠ 97
 u : f.name = kindU → bAt f.has 0 = 75 ∧ bAt f.has 1 = 109
 n : f.name = kindN' → bAt f.has 0 = 108 ∧ bAt f.has 1 = 109 ∧ bAt f.has 2 = 119
 p : f.name = kindP → bAt f.has 0 = 107 ∧ bAt f.has 1 = 112
theorem told {e : Bool} {op : Int} (h : (formR e op).known = true) : Told op (formR e op) := by
 obtain ⟨n, rfl, hn⟩ := known_low h
 have ht : tellF n (formR e n) = true := by
  have := List.all_eq_true.1 tell_low n (List.mem_range.2 hn)
  rw [Bool.and_eq_true] at this
  cases e
  ·exact this.2
  ·exact this.1
 unfold tellF at ht
 rw [h] at ht
 simp only [Bool.not_true, Bool.false_or, Bool.and_eq_true] at ht
 obtain ⟨⟨⟨h1, h2⟩, h3⟩, h4⟩ := ht
 refine ⟨fun g => ?_, fun g => ?_, fun g => ?_, fun g => ?_, fun g => ?_⟩
 ·rw [if_pos (by omega)] at h1
  simpa only [Bool.and_eq_true, decide_eq_true_eq, and_assoc] using h1
 ·rw [if_neg (by omega)] at h1
  simp only [Bool.and_eq_true, Bool.not_eq_true', decide_eq_false_iff_not, List.all_eq_true, List.mem_range] at h1
  exact ⟨h1.1, fun i hi => h1.2 i hi⟩
 ·simpa [g] using h2
 ·simpa [g, and_assoc] using h3
 ·simpa [g] using h4
theorem known_d {op : Int} (h : 1 ≤ op ∧ op ≤ 20) : (formR false op).known = true := by
 unfold formR
 split
 ·rfl
 ·rw [if_neg (fun g => by cases g.1), if_pos ⟨rfl, h⟩]
theorem known_e {op : Int} (h : op = 9 ∨ op = 19 ∨ op = 20 ∨ (33 ≤ op ∧ op ≤ 47)) : (formR true op).known = true := by
 unfold formR
 split
 ·rfl
 ·rw [if_pos ⟨rfl, by omega⟩]
structure Good (e : Bool) (nC nN : Nat) (x : InsM) : Prop where
 known : (formR e x.op).known = true
 arm : x.op = 8 ∨ x.op = 41 → x.b = 0 ∧ x.c = 0
 fit : ¬ (x.op = 8 ∨ x.op = 41) → fitB nC nN (formR e x.op) x = true ∧ ∀ C k, restR (formR e x.op).name C k x = true
theorem restR_no {nm : ByteArray} (h : ¬ (nm = kindO ∨ nm = kindC)) (hU : nm ≠ kindU) (hN : nm ≠ kindN') (hP : nm ≠ kindP) (C : List InsM) (k : Nat) (x : InsM) : restR nm C k x = true := by
 unfold restR
 rw [if_neg hU, if_neg hN, if_neg hP, if_neg h]
theorem good_made {e : Bool} {op : Int} {nC nN : Nat} (h : (formR e op).known = true) (h1 : 1 ≤ nC) (h2 : 1 ≤ nN) (a b c : Int)
  (hp : ¬ ((formR e op).name = kindP ∧ (madeF nC nN (bAt (formR e op).has 0) a = -1 ∨ madeF nC nN (bAt (formR e op).has 1) b = -1))) :
  Good e nC nN ⟨op, madeF nC nN (bAt (formR e op).has 0) a, madeF nC nN (bAt (formR e op).has 1) b, madeF nC nN (bAt (formR e op).has 2) c⟩ := by
 have T := told h
 obtain ⟨-, -, hL, -⟩ := same_rest h
 refine ⟨h, fun g => ?_, fun g => ?_⟩
 ·obtain ⟨-, -, g1, g2⟩ := T.arm g
  dsimp only
  rw [g1, g2]
  exact ⟨rfl, rfl⟩
 ·obtain ⟨g0, g1⟩ := T.no g
  refine ⟨?_, fun C k => ?_⟩
  ·unfold fitB
   dsimp only
   rw [made_fit h1 h2 (hL 0 (by decide)).1 (g1 0 (by decide)), made_fit h1 h2 (hL 1 (by decide)).1 (g1 1 (by decide)), made_fit h1 h2 (hL 2 (by decide)).1 (g1 2 (by decide))]
   rfl
  ·dsimp only
   by_cases hU : (formR e op).name = kindU
   ·obtain ⟨l0, l1⟩ := T.u hU
    rw [l0, l1, hU]
    have q0 : madeF nC nN 75 a = broughtF a 0 61 := rfl
    have q1 : madeF nC nN 109 b = 2 := rfl
    rw [q0, q1]
    have := broughtF_in a (show (0 : Int) ≤ 61 by omega)
    generalize broughtF a 0 61 = t at *
    unfold restR
    rw [if_pos rfl]
    dsimp only
    rw [wrap_i64 (by omega)]
    exact decide_eq_true (by omega)
   by_cases hN : (formR e op).name = kindN'
   ·obtain ⟨l0, l1, l2⟩ := T.n hN
    rw [l0, l1, l2, hN]
    have q0 : madeF nC nN 108 a = broughtF a 0 300 := rfl
    have q1 : madeF nC nN 109 b = 2 := rfl
    have q2 : madeF nC nN 119 c = powF (broughtF c 0 3) := rfl
    rw [q0, q1, q2]
    have := broughtF_in a (show (0 : Int) ≤ 300 by omega)
    have hc := broughtF_in c (show (0 : Int) ≤ 3 by omega)
    generalize broughtF a 0 300 = t at *
    generalize broughtF c 0 3 = s at *
    have hs : 1 ≤ powF s ∧ powF s ≤ 8 := by
     obtain rfl | rfl | rfl | rfl : s = 0 ∨ s = 1 ∨ s = 2 ∨ s = 3 := by omega
     all_goals decide
    generalize powF s = z at *
    unfold restR
    rw [if_neg (by decide), if_pos rfl]
    dsimp only
    rw [wrap_i64 (n := 2 * z) (by omega), wrap_i64 (by omega)]
    exact decide_eq_true (by omega)
   by_cases hP : (formR e op).name = kindP
   ·have hp1 : madeF nC nN (bAt (formR e op).has 0) a ≠ -1 := fun q => hp ⟨hP, .inl q⟩
    have hp2 : madeF nC nN (bAt (formR e op).has 1) b ≠ -1 := fun q => hp ⟨hP, .inr q⟩
    rw [hP]
    unfold restR
    rw [if_neg (by decide), if_neg (by decide), if_pos rfl]
    dsimp only
    rw [decide_eq_false hp1, decide_eq_false hp2]
    rfl
   ·exact restR_no g0 hU hN hP C k _
theorem good_part {e : Bool} {op : Int} {nC nN : Nat} (h : (formR e op).known = true) (h1 : 1 ≤ nC) (h2 : 1 ≤ nN) (c : Int) (hp : (formR e op).name = kindP) :
  Good e nC nN ⟨op, -1, -1, madeF nC nN (bAt (formR e op).has 2) c⟩ := by
 have T := told h
 obtain ⟨-, -, hL, -⟩ := same_rest h
 have g : ¬ (op = 8 ∨ op = 41) := fun g => by
  have := (T.arm g).1
  rw [hp] at this
  revert this
  decide
 obtain ⟨g0, g1⟩ := T.no g
 refine ⟨h, fun q => absurd q g, fun _ => ⟨?_, fun C k => ?_⟩⟩
 ·obtain ⟨l0, l1⟩ := T.p hp
  unfold fitB
  dsimp only
  rw [made_fit h1 h2 (hL 2 (by decide)).1 (g1 2 (by decide)), l0, l1]
  rfl
 ·dsimp only
  rw [hp]
  unfold restR
  rw [if_neg (by decide), if_neg (by decide), if_pos rfl]
  rfl
theorem insAt_set {X : List InsM} {i : Nat} {y : InsM} (h : i < X.length) (j : Nat) : insAt (X.set i y) j = if j = i then y else insAt X j := by
 unfold insAt
 by_cases g : j = i
 ·subst g
  simp [List.getD, h]
 ·rw [if_neg g]
  simp [List.getD, Ne.symm g, show ¬ i = j from fun q => g q.symm]
theorem armsL_at (C : List InsM) (k : Nat) (a : Int) (j : Nat) : (armsL C k a)[j]? = if j < a.toNat then C[k + 1 + j]? else none := by
 unfold armsL
 rw [List.getElem?_drop, List.getElem?_take]
 by_cases h : j < a.toNat
 ·rw [if_pos h, if_pos (by omega)]
 ·rw [if_neg h, if_neg (by omega)]
theorem armsL_set {Y : List InsM} {t j : Nat} {y : InsM} {a : Int} (h : t ≤ j ∨ j + 1 + a.toNat ≤ t) : armsL (Y.set t y) j a = armsL Y j a := by
 refine List.ext_getElem? fun n => ?_
 rw [armsL_at, armsL_at]
 by_cases g : n < a.toNat
 ·rw [if_pos g, if_pos g, List.getElem?_set, if_neg (by omega)]
 ·rw [if_neg g, if_neg g]
theorem armsOK_op : ∀ {R l : List InsM}, armsOK l R = true → ∀ y ∈ R, y.op = 9
 | [], _, _, y, hy => by cases hy
 | z :: R, l, h, y, hy => by
  unfold armsOK at h
  simp only [Bool.and_eq_true, decide_eq_true_eq] at h
  rcases List.mem_cons.1 hy with rfl | hy
  ·exact h.1.1
  ·exact armsOK_op h.2 y hy
theorem armsRF_set {Y : List InsM} {t j : Nat} {y : InsM} (ht : t < Y.length) (hj : j ≠ t) (h9 : (insAt Y t).op ≠ 9) (h : armsRF Y j = true) : armsRF (Y.set t y) j = true := by
 unfold armsRF at h ⊢
 rw [insAt_set ht, if_neg hj, List.length_set]
 split at h
 ·cases h
 ·rename_i hl
  rw [if_neg hl]
  by_cases g : t ≤ j ∨ j + 1 + (insAt Y j).a.toNat ≤ t
  ·rw [armsL_set g]; exact h
  ·exfalso
   refine h9 (armsOK_op h (insAt Y t) (List.mem_of_getElem? (i := t - j - 1) ?_))
   rw [armsL_at, if_pos (by omega), show j + 1 + (t - j - 1) = t by omega]
   simp [insAt, List.getD, ht]
structure Done (e : Bool) (nC nN : Nat) (Y : List InsM) (j : Nat) : Prop where
 good : Good e nC nN (insAt Y j)
 arms : (insAt Y j).op = 8 ∨ (insAt Y j).op = 41 → (1 ≤ (insAt Y j).a ∧ (insAt Y j).a ≤ 64) ∧ armsRF Y j = true
theorem Done.set {e : Bool} {nC nN : Nat} {Y : List InsM} {t j : Nat} {y : InsM} (h : Done e nC nN Y j) (ht : t < Y.length) (hj : j ≠ t) (h9 : (insAt Y t).op = 8 ∨ (insAt Y t).op = 41) : Done e nC nN (Y.set t y) j := by
 refine ⟨?_, ?_⟩
 ·rw [insAt_set ht, if_neg hj]; exact h.good
 ·rw [insAt_set ht, if_neg hj]
  exact fun g => ⟨(h.arms g).1, armsRF_set ht hj (by omega) (h.arms g).2⟩
theorem good_ret (e : Bool) (nC nN : Nat) : Good e nC nN ⟨20, 0, 0, 0⟩ := by
 refine ⟨by cases e <;> rfl, fun h => ⟨rfl, rfl⟩, fun _ => ⟨by cases e <;> rfl, fun C k => by cases e <;> rfl⟩⟩
theorem Done.formed {e : Bool} {N : List Int} {Y : List InsM} {j : Nat} (h : Done e Y.length N.length Y j) : formedF e Y N j = true := by
 unfold formedF
 dsimp only
 have hk := h.good.known
 rw [hk]
 by_cases g : (insAt Y j).op = 8 ∨ (insAt Y j).op = 41
 ·obtain ⟨h1, h2⟩ := h.arms g
  obtain ⟨hb, hc⟩ := h.good.arm g
  obtain ⟨n0, l0, l1, l2⟩ := (told hk).arm g
  have hr : restR (formR e (insAt Y j).op).name Y j (insAt Y j) = true := by
   unfold restR
   have h1 : ¬ (formR e (insAt Y j).op).name = kindU := by rcases n0 with q | q <;> rw [q] <;> decide
   have h3 : ¬ (formR e (insAt Y j).op).name = kindN' := by rcases n0 with q | q <;> rw [q] <;> decide
   have h4 : ¬ (formR e (insAt Y j).op).name = kindP := by rcases n0 with q | q <;> rw [q] <;> decide
   rw [if_neg h1, if_neg h3, if_neg h4, if_pos n0]
   exact h2
  rw [hr]
  unfold fitB
  rw [l0, l1, l2, hb, hc]
  have : fitF Y.length N.length 97 (insAt Y j).a = true := by
   show inF (insAt Y j).a 1 64 = true
   exact inF_iff.2 h1
  rw [this]
  rfl
 ·obtain ⟨h1, h2⟩ := h.good.fit g
  rw [h1, h2 Y j]
  rfl
theorem chk_made {e : Bool} {N : List Int} {Y : List InsM} (hY : Y.length ≤ 1000) (hN : N.length ≤ 1000) (h1 : ∀ j, j < Y.length → Done e Y.length N.length Y j) (h2 : ∀ n ∈ N, 0 ≤ n ∧ n < Y.length) : chkF e Y N = (0, 0) :=
 chkF_iff.2 ⟨⟨by omega, by omega⟩, fun k hk => by rw [← formed_right e Y N hk]; exact (h1 k hk).formed, h2⟩
end Go.Proofs.Ytjeplogcfedmeaa
end
section
namespace Go.Proofs.Ytjeplogcfedmeaa
open Go.RowKit
set_option maxRecDepth 100000
set_option maxHeartbeats 8000000
section
variable {P : Program} {E : Env} {s : AState} {n : Nat} {Q : Exit → AState → Prop}
theorem go_cutS {α : Type} {a c e d : Code} (o : Operand) (ts os : List Nat) (sh : α → AState) (inv : α → Prop)
  (h1 : AWp P E n (.seq a (.cond o c e)) (ASeq (fun s' => ∃ y, s'.keep ts os = sh y ∧ inv y) Q) s) (h2 : ∀ y, inv y → AWp P E n d Q (sh y)) : AWp P E n (.seq a (.cond o c e)) (ASeq (AWp P E n d Q) Q) s := fun a w hw => wp_mono (h1 a w hw) fun e a' w' hl => by
 cases e with
 | normal =>
  obtain ⟨s', ⟨y, g1, g2⟩, g3⟩ := hl
  refine ⟨s'.keep ts os, ?_, g3.weaken (fun t p => lk_keep s'.fr t p ts) (fun d o => lk_keep s'.ob d o os)⟩
  rw [g1]
  exact h2 y g2
 | _ => exact hl
theorem go_cutR {α : Type} {ops : Array Oper} {b : Bool} {d : Code} (id : Nat) (ts os : List Nat) (sh : α → AState) (inv : α → Prop)
  (h1 : AWp P E n (.region id ops b) (ASeq (fun s' => ∃ y, s'.keep ts os = sh y ∧ inv y) Q) s) (h2 : ∀ y, inv y → AWp P E n d Q (sh y)) : AWp P E n (.region id ops b) (ASeq (AWp P E n d Q) Q) s := fun a w hw => wp_mono (h1 a w hw) fun e a' w' hl => by
 cases e with
 | normal =>
  obtain ⟨s', ⟨y, g1, g2⟩, g3⟩ := hl
  refine ⟨s'.keep ts os, ?_, g3.weaken (fun t p => lk_keep s'.fr t p ts) (fun d o => lk_keep s'.ob d o os)⟩
  rw [g1]
  exact h2 y g2
 | _ => exact hl
end
theorem made1_G (e : Bool) (C : List InsM) (N : List Int) (h1 : 0 < C.length) (h2 : C.length ≤ 60) (h3 : 0 < N.length) (h4 : N.length ≤ 100000000) (hok : chkF e C N = (0, 0)) :
  GCall Try.prog 13 [pG e C N, vI 60] [] (.agg [vB e, .ref 37 4 45 0 C.length, .ref 3 1 51 0 N.length]) [(45, .row 37 4 (encIs C)), (51, .row 3 1 (v8 N))] := by
 have tC : List.take C.length (encIs C) = encIs C := List.take_of_length_le (by rw [encIs_len]; omega)
 have tN : List.take N.length (v8 N) = v8 N := List.take_of_length_le (by rw [v8_len]; omega)
 have hc := rcheck_any e C N (by omega) (by omega)
 rw [hok] at hc
 have e1 : ((C.length : Int) > 0) = True := eq_true (by omega)
 have e2 : ((C.length : Int) ≤ 60) = True := eq_true (by omega)
 have e3 : ((N.length : Int) > 0) = True := eq_true (by omega)
 unfold pG at *
 refine go_fnG (tyOf_ok _) Try.func13 rfl rfl (by rw [Try.results13]) Try.ntmps13 rfl fun E => ?_
 (repeat' (first | exact trivial | (with_reducible first | apply awA | apply awD | apply awF | apply awG) | ((with_reducible first | apply awn | apply awo | refine awQ ?_ | refine awT ?_); intro r hr; simp only [go_sem, Nat.reduceBEq, Nat.reduceLT, Nat.reduceLeDiff, Nat.reduceAdd, Nat.reduceMul, Nat.reduceEqDiff, reduceCtorEq, encIs_len, v8_len, tC, tN, e1, e2, e3] at hr; subst hr; (first | refine caA (fun _ => hc) rfl ?_ ?_ ?_ | refine awV ?_ ?_ | refine endGK ?_ ?_ ?_ | (refine condK (fun h => ?_) (fun h => ?_) <;> (try simp only [go_sem, reduceCtorEq] at h) <;> (try (exfalso; omega))))))) <;> (try omega)
 all_goals first | exact AV.up_rfl _ | (repeat first | exact obUp_nil | refine obUp_cons rfl ?_)
theorem repl_ins (n : Nat) : (List.replicate n [vI 0, vI 0, vI 0, vI 0] : List (List AV)) = encIs (List.replicate n ⟨0, 0, 0, 0⟩) := by simp [encIs, encI]
theorem repl_v8 (n : Nat) : (List.replicate n [vI 0] : List (List AV)) = v8 (List.replicate n 0) := by simp [v8]
theorem encIs_set (X : List InsM) (i : Nat) (o a b c : Int) : (encIs X).set i [vI o, vI a, vI b, vI c] = encIs (X.set i ⟨o, a, b, c⟩) := by simp [encIs, encI, List.map_set]
theorem v8_set (Z : List Int) (i : Nat) (x : Int) : (v8 Z).set i [vI x] = v8 (Z.set i x) := by simp [v8, List.map_set]
theorem insAt_get4 {X : List InsM} {i : Nat} (h : i < X.length) : (encIs X)[i]? = some [vI (insAt X i).op, vI (insAt X i).a, vI (insAt X i).b, vI (insAt X i).c] := insAt_get h
theorem made2_E (e : Bool) (C : List InsM) (N : List Int) (hC : C.length ≤ 100000000) (hN : N.length ≤ 100000000) (hno : ¬ (0 < C.length ∧ C.length ≤ 60 ∧ 0 < N.length ∧ chkF e C N = (0, 0))) :
  GCallE Try.prog 13 [pG e C N, vI 60] [] (fun q : List InsM × List Int => chkF e q.1 q.2 = (0, 0) ∧ (1 ≤ q.1.length ∧ q.1.length ≤ 61) ∧ 1 ≤ q.2.length ∧ q.2.length ≤ 21) (fun q => .agg [vB e, .ref 37 4 61 0 q.1.length, .ref 3 1 68 0 q.2.length]) (fun q => [(61, .row 37 4 (encIs q.1)), (68, .row 3 1 (v8 q.2))]) := by
 have hc := rcheck_any e C N (by omega) (by omega)
 unfold pG at *
 refine go_fnE (tyOf_ok _) Try.func13 rfl rfl (by rw [Try.results13]) Try.ntmps13 rfl fun E => ?_
 (repeat' (first | exact trivial | (refine go_cutS (.tmp 40) [1, 2, 4, 5] [2, 4, 5] (fun _ : Unit => ⟨[(1, true, vI 60), (2, true, .ptr 1 2 0 0), (4, true, .ptr 1 4 0 0), (5, true, .ptr 1 5 0 0)], [(2, .var [vB e, .lst 4 (encIs C), .lst 1 (v8 N)]), (4, .var [vB false, .v (.slice none 0 0), .v (.slice none 0 0)]), (5, .var [vB e, .v (.slice none 0 0), .v (.slice none 0 0)])]⟩) (fun _ => True) (hold ?_) ?_) | (with_reducible first | apply awA | apply awF) | ((with_reducible apply awn); intro r hr; simp only [go_sem, Nat.reduceBEq, Nat.reduceLT, Nat.reduceLeDiff, Nat.reduceAdd, Nat.reduceMul] at hr; subst hr; (first | refine awV ?_ ?_)))) <;> (try omega)
 ·refine ⟨?_⟩
  by_cases h1 : 0 < C.length
  ·have e1 : ((C.length : Int) > 0) = True := eq_true (by omega)
   by_cases h2 : C.length ≤ 60
   ·have e2 : ((C.length : Int) ≤ 60) = True := eq_true (by omega)
    by_cases h3 : 0 < N.length
    ·have e3 : ((N.length : Int) > 0) = True := eq_true (by omega)
     have hz : ¬ (chkF e C N).1 = 0 := fun h => hno ⟨h1, h2, h3, chkF_err.1 h⟩
     have e4 : ((chkF e C N).1 = 0) = False := eq_false hz
     (repeat' (first | exact trivial | (with_reducible first | apply awA | apply awC | apply awF) | ((with_reducible first | apply awn | apply awo | refine awQ ?_); intro r hr; simp only [go_sem, Nat.reduceBEq, Nat.reduceLT, Nat.reduceLeDiff, Nat.reduceAdd, Nat.reduceMul, reduceCtorEq, encIs_len, v8_len, e1, e2, e3, e4] at hr; subst hr; (first | refine caA (fun _ => hc) rfl ?_ ?_ ?_ | refine awV ?_ ?_ | (refine condK (fun h => ?_) (fun h => ?_) <;> (try simp only [go_sem, reduceCtorEq] at h) <;> (try (exfalso; omega))))))) <;> (try omega)
     exact ⟨(), rfl, trivial⟩
    ·have e3 : ((N.length : Int) > 0) = False := eq_false (by omega)
     (repeat' (first | exact trivial | (with_reducible first | apply awA | apply awC | apply awF) | ((with_reducible first | apply awn | apply awo | refine awQ ?_); intro r hr; simp only [go_sem, Nat.reduceBEq, Nat.reduceLT, Nat.reduceLeDiff, Nat.reduceAdd, Nat.reduceMul, reduceCtorEq, encIs_len, v8_len, e1, e2, e3] at hr; subst hr; (first | refine caB 17 (vFa (0, 0)) ?_ ?_ ?_ | refine awV ?_ ?_ | (refine condK (fun h => ?_) (fun h => ?_) <;> (try simp only [go_sem, reduceCtorEq] at h) <;> (try (exfalso; omega))))))) <;> (try omega)
     exact ⟨(), rfl, trivial⟩
   ·have e2 : ((C.length : Int) ≤ 60) = False := eq_false (by omega)
    (repeat' (first | exact trivial | (with_reducible first | apply awA | apply awC | apply awF) | ((with_reducible first | apply awn | apply awo | refine awQ ?_); intro r hr; simp only [go_sem, Nat.reduceBEq, Nat.reduceLT, Nat.reduceLeDiff, Nat.reduceAdd, Nat.reduceMul, reduceCtorEq, encIs_len, v8_len, e1, e2] at hr; subst hr; (first | refine caB 17 (vFa (0, 0)) ?_ ?_ ?_ | refine awV ?_ ?_ | (refine condK (fun h => ?_) (fun h => ?_) <;> (try simp only [go_sem, reduceCtorEq] at h) <;> (try (exfalso; omega))))))) <;> (try omega)
    exact ⟨(), rfl, trivial⟩
  ·have e1 : ((C.length : Int) > 0) = False := eq_false (by omega)
   (repeat' (first | exact trivial | (with_reducible first | apply awA | apply awC | apply awF) | ((with_reducible first | apply awn | apply awo | refine awQ ?_); intro r hr; simp only [go_sem, Nat.reduceBEq, Nat.reduceLT, Nat.reduceLeDiff, Nat.reduceAdd, Nat.reduceMul, reduceCtorEq, encIs_len, v8_len, e1] at hr; subst hr; (first | refine caB 17 (vFa (0, 0)) ?_ ?_ ?_ | refine awV ?_ ?_ | (refine condK (fun h => ?_) (fun h => ?_) <;> (try simp only [go_sem, reduceCtorEq] at h) <;> (try (exfalso; omega))))))) <;> (try omega)
   exact ⟨(), rfl, trivial⟩
 intro _ _
 clear hc hno
 obtain ⟨m, hm⟩ : ∃ m : Nat, min (C.length : Int) 60 = m := ⟨min C.length 60, by omega⟩
 obtain ⟨k, hk⟩ : ∃ k : Nat, min (N.length : Int) 20 = k := ⟨min N.length 20, by omega⟩
 have hmC : m ≤ C.length ∧ m ≤ 60 := by omega
 have hkN : k ≤ N.length ∧ k ≤ 20 := by omega
 obtain ⟨M, hM⟩ : ∃ M, m + 1 = M := ⟨_, rfl⟩
 obtain ⟨K, hK⟩ : ∃ K, k + 1 = K := ⟨_, rfl⟩
 have w1 : IntKind.i64.wrap ((m : Int) + 1) = (M : Int) := by rw [wrap_i64 (by omega)]; omega
 have w2 : IntKind.i64.wrap ((k : Int) + 1) = (K : Int) := by rw [wrap_i64 (by omega)]; omega
 have r1 := repl_ins M
 have r2 := repl_v8 K
 obtain ⟨X0, hX0⟩ : ∃ X, List.replicate M (⟨0, 0, 0, 0⟩ : InsM) = X := ⟨_, rfl⟩
 obtain ⟨Z0, hZ0⟩ : ∃ X, List.replicate K (0 : Int) = X := ⟨_, rfl⟩
 have lX0 : X0.length = M := by rw [← hX0, List.length_replicate]
 have lZ0 : Z0.length = K := by rw [← hZ0, List.length_replicate]
 have aZ0 : ∀ z ∈ Z0, 0 ≤ z ∧ z ≤ (m : Int) := fun z hz => by
  rw [← hZ0] at hz
  rw [(List.mem_replicate.1 hz).2]
  omega
 rw [hX0] at r1
 rw [hZ0] at r2
 (repeat' (first | exact trivial | (with_reducible first | apply awA | apply awB | apply awF) | ((with_reducible apply awn); intro r hr; simp only [go_sem, Nat.reduceBEq, Nat.reduceLT, Nat.reduceLeDiff, Nat.reduceAdd, Nat.reduceMul, encIs_len, v8_len, hm, hk, w1, w2, r1, r2, Int.cast_ofNat_Int] at hr; subst hr; (first | refine awV ?_ ?_)))) <;> (try omega)
 clear r1 r2 w1 w2 hm hk hX0 hZ0
 refine go_loop [2, 4, 5, 6, 7] [2, 4, 5, 61, 68] (fun q : Nat × List InsM => ⟨[(2, true, .ptr 1 2 0 0), (4, true, .ptr 1 4 0 0), (5, true, .ptr 1 5 0 0), (6, true, vI m), (7, true, vI q.1)], [(2, .var [vB e, .lst 4 (encIs C), .lst 1 (v8 N)]), (4, .var [vB false, .v (.slice none 0 0), .v (.slice none 0 0)]), (5, .var [vB e, .ref 37 4 61 0 M, .ref 3 1 68 0 K]), (61, .row 37 4 (encIs q.2)), (68, .row 3 1 (v8 Z0))]⟩)
  (fun q => q.1 ≤ m ∧ q.2.length = M ∧ ∀ j, j < q.1 → Good e M K (insAt q.2 j)) (fun q => m - q.1) (0, X0) (by simp only [go_sem, Nat.reduceBEq] <;> exact rfl) ⟨Nat.zero_le _, lX0, fun j hj => by omega⟩ ?_
 intro ⟨i, X⟩ ⟨hi, lX, hG⟩
 dsimp only at hi lX hG ⊢
 have hwi := wrap_i64 (n := (i : Int) + 1) (by omega)
 have zi : ((i : Int)).toNat = i := by omega
 have tX : List.take M (encIs X) = encIs X := List.take_of_length_le (by rw [encIs_len]; omega)
 have tZ : List.take K (v8 Z0) = v8 Z0 := List.take_of_length_le (by rw [v8_len]; omega)
 have gX := insAt_get4 (X := X) (i := i) (by omega)
 by_cases hlt : i < m
 ·have e1 : ((i : Int) < (m : Int)) = True := eq_true (by omega)
  have gx := insAt_get (C := C) (k := i) (by omega)
  generalize insAt C i = x at gx
  have hb1 := brought_any x.op 1 20 (by omega)
  have hb2 := brought_any x.op 33 47 (by omega)
  have hq1 := broughtF_in x.op (show (1 : Int) ≤ 20 by omega)
  have hq2 := broughtF_in x.op (show (33 : Int) ≤ 47 by omega)
  generalize broughtF x.op 1 20 = o1 at hb1 hq1
  generalize broughtF x.op 33 47 = o2 at hb2 hq2
  (repeat' (first | exact trivial | (refine go_cutS (.tmp 91) [2, 4, 5, 6, 7, 8] [2, 4, 5, 61, 68] (fun o : Int => ⟨[(2, true, .ptr 1 2 0 0), (4, true, .ptr 1 4 0 0), (5, true, .ptr 1 5 0 0), (6, true, vI m), (7, true, vI i), (8, true, vI o)], [(2, .var [vB e, .lst 4 (encIs C), .lst 1 (v8 N)]), (4, .var [vB false, .v (.slice none 0 0), .v (.slice none 0 0)]), (5, .var [vB e, .ref 37 4 61 0 M, .ref 3 1 68 0 K]), (61, .row 37 4 (encIs X)), (68, .row 3 1 (v8 Z0))]⟩) (fun o => (formR e o).known = true) (hold ?_) ?_) | (with_reducible first | apply awA | apply awB | apply awC | apply awF) | ((with_reducible first | apply awn | apply awo | refine awQ ?_); intro r hr; simp only [go_sem, Nat.reduceBEq, Nat.reduceLT, Nat.reduceLeDiff, Nat.reduceAdd, Nat.reduceMul, e1, zi, gx, encIs_len] at hr; subst hr; (first | refine caA (fun _ => hb1) rfl ?_ ?_ ?_ | refine awV ?_ ?_ | (refine condK (fun h => ?_) (fun h => ?_) <;> (try simp only [go_sem, reduceCtorEq] at h) <;> (try (exfalso; omega))))))) <;> (try omega)
  ·refine ⟨?_⟩
   cases e with
   | false =>
    (repeat' (first | exact trivial | (with_reducible first | apply awA | apply awC | apply awF) | ((with_reducible first | apply awn | refine awQ ?_); intro r hr; simp only [go_sem, Nat.reduceBEq, Nat.reduceLT, Nat.reduceLeDiff, Nat.reduceAdd, Nat.reduceMul, reduceCtorEq] at hr; subst hr; (first | refine caA (fun _ => hb1) rfl ?_ ?_ ?_ | refine caA (fun _ => hb2) rfl ?_ ?_ ?_ | refine awV ?_ ?_ | (refine condK (fun h => ?_) (fun h => ?_) <;> (try simp only [go_sem, reduceCtorEq] at h) <;> (try (exfalso; omega))))))) <;> (try omega)
    exact ⟨o1, rfl, known_d hq1⟩
   | true =>
    by_cases h9 : o1 = 9
    ·have e9 : (o1 = 9) = True := eq_true h9
     (repeat' (first | exact trivial | (with_reducible first | apply awA | apply awC | apply awF) | ((with_reducible first | apply awn | refine awQ ?_); intro r hr; simp only [go_sem, Nat.reduceBEq, Nat.reduceLT, Nat.reduceLeDiff, Nat.reduceAdd, Nat.reduceMul, reduceCtorEq, e9] at hr; subst hr; (first | refine caA (fun _ => hb1) rfl ?_ ?_ ?_ | refine caA (fun _ => hb2) rfl ?_ ?_ ?_ | refine awV ?_ ?_ | (refine condK (fun h => ?_) (fun h => ?_) <;> (try simp only [go_sem, reduceCtorEq] at h) <;> (try (exfalso; omega))))))) <;> (try omega)
     exact ⟨o1, rfl, known_e (.inl h9)⟩
    ·have e9 : (o1 = 9) = False := eq_false h9
     by_cases h19 : o1 < 19
     ·have e19 : (o1 < 19) = True := eq_true h19
      (repeat' (first | exact trivial | (with_reducible first | apply awA | apply awF) | ((with_reducible first | apply awn | apply awo | refine awQ ?_); intro r hr; simp only [go_sem, Nat.reduceBEq, Nat.reduceLT, Nat.reduceLeDiff, Nat.reduceAdd, Nat.reduceMul, reduceCtorEq, zi, gx, encIs_len, e9, e19] at hr; subst hr; (first | refine caA (fun _ => hb1) rfl ?_ ?_ ?_ | refine caA (fun _ => hb2) rfl ?_ ?_ ?_ | refine awV ?_ ?_ | (refine condK (fun h => ?_) (fun h => ?_) <;> (try simp only [go_sem, reduceCtorEq] at h) <;> (try (exfalso; omega))))))) <;> (try omega)
      exact ⟨o2, rfl, known_e (.inr (.inr (.inr hq2)))⟩
     ·have e19 : (o1 < 19) = False := eq_false h19
      (repeat' (first | exact trivial | (with_reducible first | apply awA | apply awC | apply awF) | ((with_reducible first | apply awn | refine awQ ?_); intro r hr; simp only [go_sem, Nat.reduceBEq, Nat.reduceLT, Nat.reduceLeDiff, Nat.reduceAdd, Nat.reduceMul, reduceCtorEq, e9, e19] at hr; subst hr; (first | refine caA (fun _ => hb1) rfl ?_ ?_ ?_ | refine caA (fun _ => hb2) rfl ?_ ?_ ?_ | refine awV ?_ ?_ | (refine condK (fun h => ?_) (fun h => ?_) <;> (try simp only [go_sem, reduceCtorEq] at h) <;> (try (exfalso; omega))))))) <;> (try omega)
      exact ⟨o1, rfl, known_e (by omega)⟩
  ·intro o ho
   clear hb1 hb2 hq1 hq2
   have hf := of_any e o
   have h3 := (same_rest ho).2.1
   have hgm := fun hp => good_made ho (nC := M) (nN := K) (by omega) (by omega) x.a x.b x.c hp
   have hgp := fun hp => good_part ho (nC := M) (nN := K) (by omega) (by omega) x.c hp
   have ma0 := made_any e X Z0 (by omega) (by omega) (bAt (formR e o).has 0) x.a
   have ma1 := made_any e X Z0 (by omega) (by omega) (bAt (formR e o).has 1) x.b
   have ma2 := made_any e X Z0 (by omega) (by omega) (bAt (formR e o).has 2) x.c
   rw [lX, lZ0] at ma0 ma1 ma2
   generalize formR e o = f at *
   obtain ⟨nm, hs, kn⟩ := f
   dsimp only at hf h3 hgm hgp ma0 ma1 ma2 ho
   subst ho
   generalize madeF M K (bAt hs 0) x.a = y0 at *
   generalize madeF M K (bAt hs 1) x.b = y1 at *
   generalize madeF M K (bAt hs 2) x.c = y2 at *
   have g0 : ((hs.size : Nat) : Int) = 3 := by omega
   unfold pG at *
   have s1 := encIs_set X i o (-1) (-1) y2
   have s2 := encIs_set X i o y0 y1 y2
   (repeat' (first | exact trivial | (refine go_cutR 16 [2, 4, 5, 6, 7, 9, 11] [2, 4, 5, 9, 11, 61, 68] (fun _ : Unit => ⟨[(2, true, .ptr 1 2 0 0), (4, true, .ptr 1 4 0 0), (5, true, .ptr 1 5 0 0), (6, true, vI m), (7, true, vI i), (9, true, .ptr 1 9 0 0), (11, true, .ptr 1 11 0 0)], [(2, .var [vB e, .lst 4 (encIs C), .lst 1 (v8 N)]), (4, .var [vB false, .v (.slice none 0 0), .v (.slice none 0 0)]), (5, .var [vB e, .ref 37 4 61 0 M, .ref 3 1 68 0 K]), (9, .var [.v (.string nm), .v (.string hs)]), (11, .var [vI o, vI y0, vI y1, vI y2]), (61, .row 37 4 (encIs X)), (68, .row 3 1 (v8 Z0))]⟩) (fun _ => True) (hold ?_) ?_) | (with_reducible first | apply awA | apply awF) | ((with_reducible first | apply awn | apply awo); intro r hr; simp only [go_sem, Nat.reduceBEq, Nat.reduceLT, Nat.reduceLeDiff, Nat.reduceAdd, Nat.reduceMul] at hr; subst hr; (first | refine caA (fun _ => hf) rfl ?_ ?_ ?_ | refine caA (fun _ => ma0) rfl ?_ ?_ ?_ | refine caA (fun _ => ma1) rfl ?_ ?_ ?_ | refine caA (fun _ => ma2) rfl ?_ ?_ ?_ | refine awV ?_ ?_)))) <;> (try omega)
   ·refine ⟨?_⟩
    (repeat' (first | exact trivial | (with_reducible apply awF) | (refine aw_draw (id := 16) (t := (.node [0, 1, 2, 3, 4, 5, 6, 7, 8, 9, 10, 12, 13, 14, 15, 16, 17, 18, 19, 20, 21, 23, 24, 25, 26, 27, 28, 29, 30, 31, 32] [(.node [11] [(.node [22] [(.node [33, 34, 35, 36] []), (.node [35, 33, 34, 36] [])]), (.node [35, 22, 33, 34, 36] [])]), (.node [35, 11, 22, 33, 34, 36] [])])) (drR [5, 9, 2] [116, 127, 138] []) mixed (by kernel_rfl) (by kernel_rfl) (fun _ _ h => h) ?_) | (refine at_done (by simp only [go_sem]; exact rfl) ?_) | (refine at_alt (by simp only [go_sem]; exact rfl) ?_) | refine qalt_normal ?_ | refine ats_cons ?_ ?_ | exact ats_nil | ((with_reducible apply awp); intro r hr; simp only [go_sem, Nat.reduceBEq, Nat.reduceLT, Nat.reduceLeDiff, Nat.reduceAdd, Nat.reduceMul, reduceCtorEq, zi, gx, encIs_len, v8_len, lX, lZ0, tX, tZ, g0, Int.reduceToNat, Int.reduceLT, Int.reduceLE] at hr; subst hr; (first | refine caA (fun _ => ma0) rfl ?_ ?_ ?_ | refine caA (fun _ => ma1) rfl ?_ ?_ ?_ | refine caA (fun _ => ma2) rfl ?_ ?_ ?_ | refine awV ?_ ?_)))) <;> (try omega)
    all_goals exact ⟨(), rfl, trivial⟩
   ·intro _ _
    (repeat' (first | exact trivial | (with_reducible first | apply awA | apply awC | apply awF | apply awI) | ((with_reducible first | apply awn | refine awQ ?_); intro r hr; simp only [go_sem, Nat.reduceBEq, Nat.reduceLT, Nat.reduceLeDiff, Nat.reduceAdd, Nat.reduceMul, zi, encIs_len, lX] at hr; subst hr; (first | refine awV ?_ ?_ | (refine condK (fun h => ?_) (fun h => ?_) <;> (try simp only [go_sem] at h) <;> (try (exfalso; omega))))))) <;> (try omega)
    ·exact fun h => ⟨h, fun g => ⟨h, g⟩⟩
    ·have hg := hgp (show nm = kindP ∧ _ from h).1
     refine ⟨(i + 1, X.set i ⟨o, -1, -1, y2⟩), ?_, ⟨hlt, by rw [List.length_set, lX], fun j hj => ?_⟩, by dsimp only; omega⟩
     ·simp only [hwi, gX, s1, go_sem, Nat.reduceBEq]
      try exact rfl
     ·dsimp only
      rw [insAt_set (by omega)]
      split
      ·exact hg
      ·exact hG j (by dsimp only at hj; omega)
    ·have hg := hgm (fun q => by rcases h with h | h; (· exact h q.1); (· exact q.2.elim h.1 h.2))
     refine ⟨(i + 1, X.set i ⟨o, y0, y1, y2⟩), ?_, ⟨hlt, by rw [List.length_set, lX], fun j hj => ?_⟩, by dsimp only; omega⟩
     ·simp only [hwi, gX, s2, go_sem, Nat.reduceBEq]
      try exact rfl
     ·dsimp only
      rw [insAt_set (by omega)]
      split
      ·exact hg
      ·exact hG j (by dsimp only at hj; omega)
 ·have e1 : ((i : Int) < (m : Int)) = False := eq_false (by omega)
  obtain rfl : i = m := by omega
  have s1 := encIs_set X i 20 0 0 0
  (repeat' (first | exact trivial | (with_reducible first | apply awA | apply awB | apply awE | apply awF | apply awH | apply awK) | ((with_reducible first | apply awn | refine awQ ?_); intro r hr; simp only [go_sem, Nat.reduceBEq, Nat.reduceLT, Nat.reduceLeDiff, Nat.reduceAdd, Nat.reduceMul, e1, zi, encIs_len, lX, gX, s1] at hr; subst hr; (first | refine awV ?_ ?_ | (refine condK (fun h => ?_) (fun h => ?_) <;> (try simp only [go_sem, reduceCtorEq] at h) <;> (try (exfalso; omega))))))) <;> (try omega)
  have lX1 : (X.set i ⟨20, 0, 0, 0⟩).length = M := by rw [List.length_set, lX]
  have hr1 : insAt (X.set i ⟨20, 0, 0, 0⟩) i = ⟨20, 0, 0, 0⟩ := by rw [insAt_set (by omega), if_pos rfl]
  have hG1 : ∀ j, j < i → Good e M K (insAt (X.set i ⟨20, 0, 0, 0⟩) j) := fun j hj => by rw [insAt_set (by omega), if_neg (by omega)]; exact hG j hj
  clear s1 gX tX hG e1 hwi hlt
  generalize X.set i ⟨20, 0, 0, 0⟩ = X1 at *
  clear lX X
  refine go_loop [2, 4, 5, 6, 12] [2, 4, 5, 61, 68] (fun q : Nat × List InsM => ⟨[(2, true, .ptr 1 2 0 0), (4, true, .ptr 1 4 0 0), (5, true, .ptr 1 5 0 0), (6, true, vI i), (12, true, vI q.1)], [(2, .var [vB e, .lst 4 (encIs C), .lst 1 (v8 N)]), (4, .var [vB false, .v (.slice none 0 0), .v (.slice none 0 0)]), (5, .var [vB e, .ref 37 4 61 0 M, .ref 3 1 68 0 K]), (61, .row 37 4 (encIs q.2)), (68, .row 3 1 (v8 Z0))]⟩)
   (fun q => q.1 ≤ i ∧ q.2.length = M ∧ insAt q.2 i = ⟨20, 0, 0, 0⟩ ∧ (∀ j, q.1 ≤ j → j < i → Good e M K (insAt q.2 j)) ∧ ∀ j, j < q.1 → Done e M K q.2 j) (fun q => i - q.1) (0, X1) (by simp only [go_sem, Nat.reduceBEq] <;> exact rfl) ⟨Nat.zero_le _, lX1, hr1, fun j _ hj => hG1 j hj, fun j hj => by omega⟩ ?_
  intro ⟨t, Y⟩ ⟨ht, lY, hret, hgo, hdo⟩
  dsimp only at ht lY hret hgo hdo ⊢
  clear hG1 hr1 lX1
  have hwt := wrap_i64 (n := (t : Int) + 1) (by omega)
  have zt : ((t : Int)).toNat = t := by omega
  by_cases hlt : t < i
  ·have e2 : ((t : Int) < (i : Int)) = True := eq_true (by omega)
   have gY := insAt_get4 (X := Y) (i := t) (by omega)
   have hg := hgo t (Nat.le_refl _) hlt
   have hYY : Y.set t (insAt Y t) = Y := by simp [insAt, List.getD, show t < Y.length by omega]
   obtain ⟨y, hy⟩ : ∃ y, insAt Y t = y := ⟨_, rfl⟩
   rw [hy] at gY hg hYY
   obtain ⟨op, a, b, c⟩ := y
   dsimp only at gY
   by_cases hu : op = 8 ∨ op = 41
   ·(repeat' (first | exact trivial | (refine go_cutK 4 [2, 4, 5, 6, 12, 13] [2, 4, 5, 61, 68] (fun q : Nat × Int => ⟨[(2, true, .ptr 1 2 0 0), (4, true, .ptr 1 4 0 0), (5, true, .ptr 1 5 0 0), (6, true, vI i), (12, true, vI t), (13, true, vI q.1)], [(2, .var [vB e, .lst 4 (encIs C), .lst 1 (v8 N)]), (4, .var [vB false, .v (.slice none 0 0), .v (.slice none 0 0)]), (5, .var [vB e, .ref 37 4 61 0 M, .ref 3 1 68 0 K]), (61, .row 37 4 (encIs (Y.set t ⟨op, q.2, b, c⟩))), (68, .row 3 1 (v8 Z0))]⟩) (fun q => q.1 ≤ 64 ∧ t + 1 + q.1 ≤ i ∧ armsOK [] (armsL Y t q.1) = true) (hold ?_) ?_) | (with_reducible first | apply awA | apply awB | apply awC | apply awF) | ((with_reducible first | apply awn | refine awQ ?_); intro r hr; simp only [go_sem, Nat.reduceBEq, Nat.reduceLT, Nat.reduceLeDiff, Nat.reduceAdd, Nat.reduceMul, e2, zt, gY] at hr; subst hr; (first | refine awV ?_ ?_ | (refine condK (fun h => ?_) (fun h => ?_) <;> (try simp only [go_sem, reduceCtorEq] at h) <;> (try (exfalso; omega))))))) <;> (try omega)
    ·refine ⟨?_⟩
     (repeat' (first | exact trivial | (with_reducible apply awB) | ((with_reducible first | apply awn | apply awo | apply awp | refine awQ ?_ | refine awR ?_ | refine awS ?_ | refine aweR ?_ | refine aweN ?_); intro r hr; simp only [go_sem, Nat.reduceBEq, Nat.reduceBneDiff, Nat.reduceLT, Nat.reduceLeDiff, Nat.reduceAdd, Nat.reduceMul, Nat.reduceSub, Nat.reduceEqDiff, reduceCtorEq] at hr; subst hr))) <;> (try omega)
     refine go_loop [2, 4, 5, 6, 12, 13] [2, 4, 5, 61, 68] (fun q : Nat × Int => ⟨[(2, true, .ptr 1 2 0 0), (4, true, .ptr 1 4 0 0), (5, true, .ptr 1 5 0 0), (6, true, vI i), (12, true, vI t), (13, true, vI q.1)], [(2, .var [vB e, .lst 4 (encIs C), .lst 1 (v8 N)]), (4, .var [vB false, .v (.slice none 0 0), .v (.slice none 0 0)]), (5, .var [vB e, .ref 37 4 61 0 M, .ref 3 1 68 0 K]), (61, .row 37 4 (encIs (Y.set t ⟨op, q.2, b, c⟩))), (68, .row 3 1 (v8 Z0))]⟩) (fun q => q.1 ≤ 64 ∧ t + 1 + q.1 ≤ i ∧ armsOK [] (armsL Y t q.1) = true) (fun q => 64 - q.1) (0, a) (by simp only [hYY, go_sem, Nat.reduceBEq] <;> exact rfl) ⟨by omega, by omega, by simp [armsL, armsOK]⟩ ?_
     intro ⟨n, a'⟩ ⟨hn, hni, har⟩
     dsimp only at hn hni har ⊢
     have lY' : (Y.set t ⟨op, a', b, c⟩).length = M := by rw [List.length_set, lY]
     have gY' := insAt_get4 (X := Y.set t ⟨op, a', b, c⟩) (i := t) (by omega)
     rw [insAt_set (by omega), if_pos rfl] at gY'
     have gZ := insAt_get4 (X := Y.set t ⟨op, a', b, c⟩) (i := t + 1 + n) (by omega)
     rw [insAt_set (by omega), if_neg (by omega)] at gZ
     have w3 := wrap_i64 (n := (t : Int) + 1 + n) (by omega)
     have z3 : ((t : Int) + 1 + n).toNat = t + 1 + n := by omega
     have w4 := wrap_i64 (n := (n : Int) + 1) (by omega)
     have s3 := encIs_set (Y.set t ⟨op, a', b, c⟩) t op ((n : Int) + 1) b c
     rw [List.set_set] at s3
     have lY2 : (Y.set t ⟨op, (n : Int) + 1, b, c⟩).length = M := by rw [List.length_set, lY]
     have tY : List.take M (encIs (Y.set t ⟨op, (n : Int) + 1, b, c⟩)) = encIs (Y.set t ⟨op, (n : Int) + 1, b, c⟩) := List.take_of_length_le (by rw [encIs_len]; omega)
     have hai : insAt (Y.set t ⟨op, (n : Int) + 1, b, c⟩) t = ⟨op, (n : Int) + 1, b, c⟩ := by rw [insAt_set (by omega), if_pos rfl]
     have haL : armsRF (Y.set t ⟨op, (n : Int) + 1, b, c⟩) t = true → armsOK [] (armsL Y t ((n : Int) + 1)) = true := fun h => by
      unfold armsRF at h
      rw [hai] at h
      split at h
      ·cases h
      ·rwa [armsL_set (.inl (Nat.le_refl _))] at h
     have ha : n < 64 → PCall Try.prog 24 [pG e (Y.set t ⟨op, (n : Int) + 1, b, c⟩) Z0, vI t] (fun r => r = vB (armsRF (Y.set t ⟨op, (n : Int) + 1, b, c⟩) t)) := fun hn => arms_any e _ Z0 (by omega) t (by omega) (by rw [hai]; dsimp only; omega)
     generalize armsRF (Y.set t ⟨op, (n : Int) + 1, b, c⟩) t = B at *
     obtain ⟨Y1, hY1⟩ : ∃ Z, Y.set t ⟨op, a', b, c⟩ = Z := ⟨_, rfl⟩
     obtain ⟨Y2, hY2⟩ : ∃ Z, Y.set t ⟨op, (n : Int) + 1, b, c⟩ = Z := ⟨_, rfl⟩
     rw [hY1] at gY' gZ s3 lY' ⊢
     rw [hY2] at s3 lY2 tY ha
     dsimp only at gY'
     by_cases c1 : t + 1 + n < i ∧ n < 64 ∧ (insAt Y (t + 1 + n)).op = 9
     ·have f1 : ((t : Int) + 1 + n < (i : Int)) = True := eq_true (by omega)
      have f2 : ((n : Int) < 64) = True := eq_true (by omega)
      have f3 : ((insAt Y (t + 1 + n)).op = 9) = True := eq_true c1.2.2
      have ha' := ha c1.2.1
      unfold pG at ha'
      cases B with
      | true =>
       (repeat' (first | exact trivial | (with_reducible first | apply awA | apply awB | apply awC | apply awF | apply awI) | ((with_reducible first | apply awn | apply awo | refine awQ ?_); intro r hr; simp only [go_sem, Nat.reduceBEq, Nat.reduceLT, Nat.reduceLeDiff, Nat.reduceAdd, Nat.reduceMul, reduceCtorEq, zt, hwt, w3, z3, w4, gY', gZ, s3, encIs_len, v8_len, lY', lY2, lZ0, tY, tZ, f1, f2, f3] at hr; subst hr; (first | refine caA (fun _ => ha') rfl ?_ ?_ ?_ | refine awV ?_ ?_ | (refine condK (fun h => ?_) (fun h => ?_) <;> (try simp only [go_sem, reduceCtorEq] at h) <;> (try (exfalso; omega))))))) <;> (try omega)
       refine ⟨(n + 1, (n : Int) + 1), ?_, ⟨by dsimp only; omega, by dsimp only; omega, by simpa using haL rfl⟩, by dsimp only; omega⟩
       ·simp only [hY2, Int.natCast_add, Int.cast_ofNat_Int, go_sem, Nat.reduceBEq]
        try exact rfl
      | false =>
       (repeat' (first | exact trivial | (with_reducible first | apply awA | apply awB | apply awC | apply awE | apply awF | apply awH | apply awK | refine awM (by decide) ?_) | ((with_reducible first | apply awn | apply awo | refine awQ ?_); intro r hr; simp only [go_sem, Nat.reduceBEq, Nat.reduceLT, Nat.reduceLeDiff, Nat.reduceAdd, Nat.reduceMul, reduceCtorEq, zt, hwt, w3, z3, w4, gY', gZ, s3, encIs_len, v8_len, lY', lY2, lZ0, tY, tZ, f1, f2, f3] at hr; subst hr; (first | refine caA (fun _ => ha') rfl ?_ ?_ ?_ | refine awV ?_ ?_ | (refine condK (fun h => ?_) (fun h => ?_) <;> (try simp only [go_sem, reduceCtorEq] at h) <;> (try (exfalso; omega))))))) <;> (try omega)
       refine ⟨(n, (n : Int) + 1), ?_, hn, hni, har⟩
       ·simp only [hY2, go_sem, Nat.reduceBEq]
        try exact rfl
     ·by_cases d1 : t + 1 + n < i
      ·have f1 : ((t : Int) + 1 + n < (i : Int)) = True := eq_true (by omega)
       by_cases d2 : n < 64
       ·have f2 : ((n : Int) < 64) = True := eq_true (by omega)
        have f3 : ((insAt Y (t + 1 + n)).op = 9) = False := eq_false (fun q => c1 ⟨d1, d2, q⟩)
        (repeat' (first | exact trivial | (with_reducible first | apply awA | apply awE | apply awF | apply awH | apply awK) | ((with_reducible first | apply awn | refine awQ ?_); intro r hr; simp only [go_sem, Nat.reduceBEq, Nat.reduceLT, Nat.reduceLeDiff, Nat.reduceAdd, Nat.reduceMul, reduceCtorEq, hwt, w3, z3, gZ, f1, f2, f3] at hr; subst hr; (first | refine awV ?_ ?_ | (refine condK (fun h => ?_) (fun h => ?_) <;> (try simp only [go_sem, reduceCtorEq] at h) <;> (try (exfalso; omega))))))) <;> (try omega)
        refine ⟨(n, a'), ?_, hn, hni, har⟩
        ·simp only [hY1, go_sem, Nat.reduceBEq]
         try exact rfl
       ·exfalso; omega
      ·have f1 : ((t : Int) + 1 + n < (i : Int)) = False := eq_false (by omega)
       (repeat' (first | exact trivial | (with_reducible first | apply awA | apply awE | apply awF | apply awH | apply awK) | ((with_reducible first | apply awn | refine awQ ?_); intro r hr; simp only [go_sem, Nat.reduceBEq, Nat.reduceLT, Nat.reduceLeDiff, Nat.reduceAdd, Nat.reduceMul, reduceCtorEq, hwt, w3, z3, gZ, f1] at hr; subst hr; (first | refine awV ?_ ?_ | (refine condK (fun h => ?_) (fun h => ?_) <;> (try simp only [go_sem, reduceCtorEq] at h) <;> (try (exfalso; omega))))))) <;> (try omega)
       refine ⟨(n, a'), ?_, hn, hni, har⟩
       ·simp only [hY1, go_sem, Nat.reduceBEq]
        try exact rfl
    ·intro ⟨n, a'⟩ ⟨hn, hni, har⟩
     dsimp only at hn hni har ⊢
     have lY' : (Y.set t ⟨op, a', b, c⟩).length = M := by rw [List.length_set, lY]
     have gY' := insAt_get4 (X := Y.set t ⟨op, a', b, c⟩) (i := t) (by omega)
     rw [insAt_set (by omega), if_pos rfl] at gY'
     have s3 := encIs_set (Y.set t ⟨op, a', b, c⟩) t op n b c
     rw [List.set_set] at s3
     have gY2 := insAt_get4 (X := Y.set t ⟨op, n, b, c⟩) (i := t) (by rw [List.length_set]; omega)
     rw [insAt_set (by omega), if_pos rfl] at gY2
     have lY2 : (Y.set t ⟨op, n, b, c⟩).length = M := by rw [List.length_set, lY]
     have s4 := encIs_set (Y.set t ⟨op, n, b, c⟩) t 20 0 0 0
     rw [List.set_set] at s4
     dsimp only at gY' gY2
     by_cases hn0 : n = 0
     ·have e0 : ((n : Int) = 0) = True := eq_true (by omega)
      (repeat' (first | exact trivial | (with_reducible first | apply awA | apply awF | apply awI) | ((with_reducible first | apply awn | refine awQ ?_); intro r hr; simp only [go_sem, Nat.reduceBEq, Nat.reduceLT, Nat.reduceLeDiff, Nat.reduceAdd, Nat.reduceMul, zt, hwt, gY', gY2, s3, s4, encIs_len, lY', lY2, e0] at hr; subst hr; (first | refine awV ?_ ?_ | (refine condK (fun h => ?_) (fun h => ?_) <;> (try simp only [go_sem, reduceCtorEq] at h) <;> (try (exfalso; omega))))))) <;> (try omega)
      refine ⟨(t + 1, Y.set t ⟨20, 0, 0, 0⟩), ?_, ⟨hlt, by rw [List.length_set, lY], by dsimp only; rw [insAt_set (by omega), if_neg (by omega)]; exact hret, fun j h1 h2 => ?_, fun j hj => ?_⟩, by dsimp only; omega⟩
      ·simp only [go_sem, Nat.reduceBEq]
       try exact rfl
      ·dsimp only
       rw [insAt_set (by omega), if_neg (by dsimp only at h1; omega)]
       exact hgo j (by dsimp only at h1; omega) h2
      ·dsimp only at hj ⊢
       by_cases hjt : j = t
       ·subst hjt
        refine ⟨?_, ?_⟩
        ·rw [insAt_set (by omega), if_pos rfl]; exact good_ret e M K
        ·rw [insAt_set (by omega), if_pos rfl]; exact fun q => by dsimp only at q; omega
       ·exact (hdo j (by omega)).set (by omega) hjt (by rw [hy]; exact hu)
     ·have e0 : ((n : Int) = 0) = False := eq_false (by omega)
      (repeat' (first | exact trivial | (with_reducible first | apply awA | apply awC | apply awF | apply awI) | ((with_reducible first | apply awn | refine awQ ?_); intro r hr; simp only [go_sem, Nat.reduceBEq, Nat.reduceLT, Nat.reduceLeDiff, Nat.reduceAdd, Nat.reduceMul, zt, hwt, gY', s3, encIs_len, lY', e0] at hr; subst hr; (first | refine awV ?_ ?_ | (refine condK (fun h => ?_) (fun h => ?_) <;> (try simp only [go_sem, reduceCtorEq] at h) <;> (try (exfalso; omega))))))) <;> (try omega)
      refine ⟨(t + 1, Y.set t ⟨op, n, b, c⟩), ?_, ⟨hlt, lY2, by dsimp only; rw [insAt_set (by omega), if_neg (by omega)]; exact hret, fun j h1 h2 => ?_, fun j hj => ?_⟩, by dsimp only; omega⟩
      ·simp only [go_sem, Nat.reduceBEq]
       try exact rfl
      ·dsimp only
       rw [insAt_set (by omega), if_neg (by dsimp only at h1; omega)]
       exact hgo j (by dsimp only at h1; omega) h2
      ·dsimp only at hj ⊢
       by_cases hjt : j = t
       ·subst hjt
        refine ⟨?_, fun _ => ?_⟩
        ·rw [insAt_set (by omega), if_pos rfl]
         exact ⟨hg.known, hg.arm, fun q => absurd hu q⟩
        ·refine ⟨by rw [insAt_set (by omega), if_pos rfl]; dsimp only; omega, ?_⟩
         unfold armsRF
         rw [insAt_set (by omega), if_pos rfl, List.length_set, armsL_set (.inl (Nat.le_refl _))]
         dsimp only
         rw [if_neg (by omega)]
         exact har
       ·exact (hdo j (by omega)).set (by omega) hjt (by rw [hy]; exact hu)
   ·have u1 : (op = 8) = False := eq_false (fun q => hu (.inl q))
    have u2 : (op = 41) = False := eq_false (fun q => hu (.inr q))
    (repeat' (first | exact trivial | (with_reducible first | apply awA | apply awB | apply awC | apply awE | apply awF | apply awH | apply awK) | ((with_reducible first | apply awn | refine awQ ?_); intro r hr; simp only [go_sem, Nat.reduceBEq, Nat.reduceLT, Nat.reduceLeDiff, Nat.reduceAdd, Nat.reduceMul, reduceCtorEq, e2, zt, gY, u1, u2] at hr; subst hr; (first | refine awV ?_ ?_ | (refine condK (fun h => ?_) (fun h => ?_) <;> (try simp only [go_sem, reduceCtorEq] at h) <;> (try (exfalso; omega))))))) <;> (try omega)
    refine ⟨(t + 1, Y), ?_, ⟨hlt, lY, hret, fun j h1 h2 => hgo j (by dsimp only at h1; omega) h2, fun j hj => ?_⟩, by dsimp only; omega⟩
    ·simp only [hwt, go_sem, Nat.reduceBEq]
     try exact rfl
    ·dsimp only at hj ⊢
     by_cases hjt : j = t
     ·subst hjt
      exact ⟨by rw [hy]; exact hg, fun q => absurd (by rw [hy] at q; exact q) hu⟩
     ·exact hdo j (by omega)
  ·have e2 : ((t : Int) < (i : Int)) = False := eq_false (by omega)
   obtain rfl : t = i := by omega
   have hall : ∀ j, j < M → Done e M K Y j := fun j hj => by
    by_cases hjt : j = t
    ·subst hjt
     refine ⟨by rw [hret]; exact good_ret e M K, fun q => by rw [hret] at q; dsimp only at q; omega⟩
    ·exact hdo j (by omega)
   clear hdo hgo hret hwt
   (repeat' (first | exact trivial | (with_reducible first | apply awA | apply awB | apply awE | apply awF | apply awH | apply awK) | ((with_reducible first | apply awn | refine awQ ?_); intro r hr; simp only [go_sem, Nat.reduceBEq, Nat.reduceLT, e2] at hr; subst hr; (first | refine awV ?_ ?_ | (refine condK (fun h => ?_) (fun h => ?_) <;> (try simp only [go_sem, reduceCtorEq] at h) <;> (try (exfalso; omega))))))) <;> (try omega)
   refine go_loop [2, 4, 5, 6, 14] [2, 4, 5, 61, 68] (fun q : Nat × List Int => ⟨[(2, true, .ptr 1 2 0 0), (4, true, .ptr 1 4 0 0), (5, true, .ptr 1 5 0 0), (6, true, vI t), (14, true, vI q.1)], [(2, .var [vB e, .lst 4 (encIs C), .lst 1 (v8 N)]), (4, .var [vB false, .v (.slice none 0 0), .v (.slice none 0 0)]), (5, .var [vB e, .ref 37 4 61 0 M, .ref 3 1 68 0 K]), (61, .row 37 4 (encIs Y)), (68, .row 3 1 (v8 q.2))]⟩)
    (fun q => q.1 ≤ K ∧ q.2.length = K ∧ ∀ z ∈ q.2, 0 ≤ z ∧ z ≤ (t : Int)) (fun q => K - q.1) (0, Z0) (by simp only [go_sem, Nat.reduceBEq] <;> exact rfl) ⟨Nat.zero_le _, lZ0, aZ0⟩ ?_
   clear tZ aZ0 lZ0
   intro ⟨u, Z⟩ ⟨hu, lZ, hZ⟩
   dsimp only at hu lZ hZ ⊢
   have hwu := wrap_i64 (n := (u : Int) + 1) (by omega)
   have zu : ((u : Int)).toNat = u := by omega
   by_cases hlu : u < K
   ·have e3 : ((u : Int) < (K : Int)) = True := eq_true (by omega)
    by_cases hun : u < N.length
    ·have e4 : ((u : Int) < (N.length : Int)) = True := eq_true (by omega)
     have gN := v8_get hun
     have gZ := v8_get (show u < Z.length by omega)
     have hb := brought_any N[u] 0 t (by omega)
     have hq := broughtF_in N[u] (show (0 : Int) ≤ t by omega)
     generalize broughtF N[u] 0 t = x at hb hq
     have s5 := v8_set Z u x
     (repeat' (first | exact trivial | (with_reducible first | apply awA | apply awB | apply awC | apply awF | apply awI) | (refine aw_draw (id := 38) (t := (.node [0, 1, 2, 3, 4, 5, 6, 7, 8, 9, 10, 11] [])) (drR [5, 2] [254] []) mixed (by kernel_rfl) (by kernel_rfl) (fun _ _ h => h) ?_) | (refine at_done (by simp only [go_sem]; exact rfl) ?_) | (refine at_alt (by simp only [go_sem]; exact rfl) ?_) | refine qalt_normal ?_ | refine ats_cons ?_ ?_ | exact ats_nil | ((with_reducible first | apply awn | apply awp | refine awQ ?_); intro r hr; simp only [go_sem, Nat.reduceBEq, Nat.reduceLT, Nat.reduceLeDiff, Nat.reduceAdd, Nat.reduceMul, reduceCtorEq, e3, e4, zu, gN, gZ, s5, v8_len, lZ] at hr; subst hr; (first | refine caA (fun _ => hb) rfl ?_ ?_ ?_ | refine awV ?_ ?_ | (refine condK (fun h => ?_) (fun h => ?_) <;> (try simp only [go_sem, reduceCtorEq] at h) <;> (try (exfalso; omega))))))) <;> (try omega)
     all_goals refine ⟨(u + 1, Z.set u x), ?_, ⟨hlu, by rw [List.length_set, lZ], fun z hz => ?_⟩, by dsimp only; omega⟩
     ·simp only [hwu, go_sem, Nat.reduceBEq]
      try exact rfl
     ·dsimp only at hz
      rcases List.mem_or_eq_of_mem_set hz with h | h
      ·exact hZ z h
      ·rw [h]; omega
    ·have e4 : ((u : Int) < (N.length : Int)) = False := eq_false (by omega)
     (repeat' (first | exact trivial | (with_reducible first | apply awA | apply awB | apply awC | apply awF | apply awI) | ((with_reducible first | apply awn | refine awQ ?_); intro r hr; simp only [go_sem, Nat.reduceBEq, Nat.reduceLT, Nat.reduceLeDiff, Nat.reduceAdd, Nat.reduceMul, e3, e4, v8_len] at hr; subst hr; (first | refine awV ?_ ?_ | (refine condK (fun h => ?_) (fun h => ?_) <;> (try simp only [go_sem, reduceCtorEq] at h) <;> (try (exfalso; omega))))))) <;> (try omega)
     refine ⟨(u + 1, Z), ?_, ⟨hlu, lZ, hZ⟩, by dsimp only; omega⟩
     ·simp only [hwu, go_sem, Nat.reduceBEq]
      try exact rfl
   ·have e3 : ((u : Int) < (K : Int)) = False := eq_false (by omega)
    have hc := chk_made (e := e) (Y := Y) (N := Z) (by omega) (by omega) (by rw [lY, lZ]; exact hall) (fun z hz => by have := hZ z hz; omega)
    (repeat' (first | exact trivial | (with_reducible first | apply awA | apply awD | apply awE | apply awF | apply awH | apply awK) | ((with_reducible first | apply awn | refine awQ ?_ | refine aweR ?_); intro r hr; simp only [go_sem, Nat.reduceBEq, Nat.reduceLT, Nat.reduceLeDiff, Nat.reduceAdd, Nat.reduceMul, e3] at hr; subst hr; (first | refine awV ?_ ?_ | refine endEK ?_ ?_ | (refine condK (fun h => ?_) (fun h => ?_) <;> (try simp only [go_sem, reduceCtorEq] at h) <;> (try (exfalso; omega))))))) <;> (try omega)
    all_goals refine ⟨(Y, Z), ⟨hc, by dsimp only; omega, by dsimp only; omega⟩, ?_, ?_⟩
    ·dsimp only; rw [lY, lZ]; exact AV.up_rfl _
    ·repeat first | exact obUp_nil | refine obUp_cons rfl ?_
end Go.Proofs.Ytjeplogcfedmeaa
end
section
namespace Go.Proofs.Ytjeplogcfedmeaa
open Go.RowKit
set_option maxRecDepth 100000
set_option maxHeartbeats 8000000
section
variable {P : Program}
theorem GCall.toEu {f : Nat} {args : List AV} {ob : List (Nat × AObj)} {A : Type} {I : A → Prop} {r : A → AV} {ob1 : A → List (Nat × AObj)} {r0 : AV} {ob0 : List (Nat × AObj)} (h : GCall P f args ob r0 ob0) (q : A) (hI : I q) (h1 : r q = r0) (h2 : ob1 q = ob0) : GCallE P f args ob I r ob1 :=
 ⟨h.1, fun w F β vs g1 g2 g3 => (h.2 w F β vs g1 g2 g3).mono fun e w' ⟨v, β', he, ho, hr⟩ => ⟨q, v, β', hI, he, by rw [h2]; exact ho, by rw [h1]; exact hr⟩⟩
theorem GCallE.impu {f : Nat} {args : List AV} {ob : List (Nat × AObj)} {A B : Type} {I : A → Prop} {J : B → Prop} {r : A → AV} {r' : B → AV} {ob1 : A → List (Nat × AObj)} {ob2 : B → List (Nat × AObj)} (h : GCallE P f args ob I r ob1) (g : ∀ q, I q → ∃ p, J p ∧ r' p = r q ∧ ob2 p = ob1 q) : GCallE P f args ob J r' ob2 :=
 ⟨h.1, fun w F β vs g1 g2 g3 => (h.2 w F β vs g1 g2 g3).mono fun e w' ⟨q, v, β', hI, he, ho, hr⟩ => by
  obtain ⟨p, hJ, e1, e2⟩ := g q hI
  exact ⟨p, v, β', hJ, he, by rw [e2]; exact ho, by rw [e1]; exact hr⟩⟩
theorem GCallE.toP {f : Nat} {args : List AV} {A : Type} {I : A → Prop} {r : A → AV} {ob1 : A → List (Nat × AObj)} (h : GCallE P f args [] I r ob1) (hok : ∀ q, I q → (r q).snapOK { fr := [], ob := ob1 q }) : PCall P f args (fun x => ∃ q, I q ∧ x = (r q).snap { fr := [], ob := ob1 q }) := by
 refine ⟨h.1, fun w F vs hF hl ha => ?_⟩
 refine (h.2 w F (fun _ => none) vs ⟨hF, fun _ _ _ h => (by cases h), fun _ _ h => (by cases h), fun _ _ h => (by cases h)⟩ hl ha).mono fun e w' ⟨q, v, β', hI, he, hout, hr⟩ => ?_
 let E : Env := ⟨w, F, fun _ => none, fun _ _ h => (by cases h), hF, fun _ _ h => (by cases h)⟩
 have hs : SRel E { fr := [], ob := ob1 q } #[] w' β' := ⟨hout.inj, fun d b hb => ⟨(hout.rng d b hb).1, (hout.rng d b hb).2⟩, hout.keeps.trans (Keeps.refl _ _) (fun _ _ h => h), hout.ob, fun _ _ _ h => (by cases h), fun _ _ h => (by cases h), fun _ _ _ h => (by cases h), fun _ _ _ _ _ h => (by cases h)⟩
 refine ⟨v, _, he, ⟨q, hI, rfl⟩, hout.keeps.below (fun b ⟨_, h⟩ => by cases h), ?_⟩
 exact snap_ok hs (fun b hb => by
  rcases hb.2.1 with h | h | ⟨_, h⟩
  ·exact .inl h
  ·exact .inr ⟨h, hb.1⟩
  ·cases h) (fun d b hb => by
  rcases (hout.rng d b hb).1 with h | h
  ·exact .inr ⟨h, (hout.rng d b hb).2⟩
  ·cases h) hr (hok q hI)
end
theorem encIs_cat (a b : List InsM) : encIs (a ++ b) = encIs a ++ encIs b := by simp [encIs]
theorem v8_cat (a b : List Int) : v8 (a ++ b) = v8 a ++ v8 b := by simp [v8]
theorem made_E (e : Bool) (C : List InsM) (N : List Int) (hC : C.length ≤ 100000000) (hN : N.length ≤ 100000000) :
  GCallE Try.prog 13 [pG e C N, vI 60] [] (fun q : List InsM × List Int => chkF e q.1 q.2 = (0, 0) ∧ (1 ≤ q.1.length ∧ q.1.length ≤ 61) ∧ 1 ≤ q.2.length) (fun q => .agg [vB e, .ref 37 4 8001 0 q.1.length, .ref 3 1 8002 0 q.2.length]) (fun q => [(8001, .row 37 4 (encIs q.1)), (8002, .row 3 1 (v8 q.2))]) := by
 by_cases h : 0 < C.length ∧ C.length ≤ 60 ∧ 0 < N.length ∧ chkF e C N = (0, 0)
 ·have h1 := made1_G e C N h.1 h.2.1 h.2.2.1 hN h.2.2.2
  have h2 := GCall.toEu (A := List InsM × List Int) (I := fun q => chkF e q.1 q.2 = (0, 0) ∧ (1 ≤ q.1.length ∧ q.1.length ≤ 61) ∧ 1 ≤ q.2.length) (r := fun q => .agg [vB e, .ref 37 4 45 0 q.1.length, .ref 3 1 51 0 q.2.length]) (ob1 := fun q => [(45, .row 37 4 (encIs q.1)), (51, .row 3 1 (v8 q.2))]) h1 (C, N) ⟨h.2.2.2, ⟨h.1, by have := h.2.1; dsimp only; omega⟩, h.2.2.1⟩ rfl rfl
  exact h2.ren2 (a' := 8001) (b' := 8002) (by decide) (by decide) (by decide)
 ·have h2 := (made2_E e C N hC hN h).impu (J := fun q : List InsM × List Int => chkF e q.1 q.2 = (0, 0) ∧ (1 ≤ q.1.length ∧ q.1.length ≤ 61) ∧ 1 ≤ q.2.length) (fun q hq => ⟨q, ⟨hq.1, hq.2.1, hq.2.2.1⟩, rfl, rfl⟩)
  exact h2.ren2 (a' := 8001) (b' := 8002) (by decide) (by decide) (by decide)
theorem made15_E (e : Bool) (C : List InsM) (N : List Int) (hC : C.length ≤ 100000000) (hN : N.length ≤ 100000000) :
  GCallE Try.prog 9 [pG e C N] [] (fun q : List InsM × List Int × List InsM × List Int => chkF e q.1 q.2.1 = (0, 0) ∧ 1 ≤ q.1.length ∧ q.1.length ≤ 100) (fun q => .agg [vB e, .ref 37 4 8001 0 q.1.length, .ref 3 1 8002 0 q.2.1.length]) (fun q => [(8001, .row 37 4 (encIs (q.1 ++ q.2.2.1))), (8002, .row 3 1 (v8 (q.2.1 ++ q.2.2.2)))]) := by
 have hc := rcheck_any e C N (by omega) (by omega)
 have hM := made_E e C N hC hN
 have hL := lend_G e C N hC hN
 unfold pG at *
 refine go_fnE (tyOf_ok _) Try.func9 rfl rfl (by rw [Try.results9]) Try.ntmps9 rfl fun E => ?_
 (repeat' (first | exact trivial | (refine go_cutR 1 [1, 2, 24] [1, 2] (fun b : Bool => ⟨[(1, true, .ptr 1 1 0 0), (2, true, .ptr 1 2 0 0), (24, true, vB b)], [(1, .var [vB e, .lst 4 (encIs C), .lst 1 (v8 N)]), (2, .var [vB false, .v (.slice none 0 0), .v (.slice none 0 0)])]⟩) (fun b => b = false → (1 ≤ C.length ∧ C.length ≤ 100) ∧ chkF e C N = (0, 0)) (hold ?_) ?_) | (with_reducible first | apply awA | apply awF) | ((with_reducible apply awn); intro r hr; simp only [go_sem, Nat.reduceBEq, Nat.reduceLT] at hr; subst hr; (first | refine awV ?_ ?_)))) <;> (try omega)
 ·refine ⟨?_⟩
  clear hM hL
  by_cases h1 : C.length < 1
  ·have e1 : ((C.length : Int) < 1) = True := eq_true (by omega)
   (repeat' (first | exact trivial | (with_reducible apply awF) | ((with_reducible first | apply awn | apply awo); intro r hr; simp only [go_sem, Nat.reduceBEq, Nat.reduceLT, Nat.reduceLeDiff, Nat.reduceAdd, Nat.reduceMul, reduceCtorEq, encIs_len, v8_len, e1] at hr; subst hr; (first | refine caB 17 (vFa (0, 0)) ?_ ?_ ?_ | refine awV ?_ ?_)))) <;> (try omega)
   exact ⟨true, rfl, fun h => by cases h⟩
  have e1 : ((C.length : Int) < 1) = False := eq_false (by omega)
  by_cases h2 : C.length > 100
  ·have e2 : ((C.length : Int) > 100) = True := eq_true (by omega)
   (repeat' (first | exact trivial | (with_reducible apply awF) | ((with_reducible first | apply awn | apply awo); intro r hr; simp only [go_sem, Nat.reduceBEq, Nat.reduceLT, Nat.reduceLeDiff, Nat.reduceAdd, Nat.reduceMul, reduceCtorEq, encIs_len, v8_len, e1, e2] at hr; subst hr; (first | refine caB 17 (vFa (0, 0)) ?_ ?_ ?_ | refine awV ?_ ?_)))) <;> (try omega)
   exact ⟨true, rfl, fun h => by cases h⟩
  have e2 : ((C.length : Int) > 100) = False := eq_false (by omega)
  by_cases h3 : N.length > 20
  ·have e3 : ((N.length : Int) > 20) = True := eq_true (by omega)
   (repeat' (first | exact trivial | (with_reducible apply awF) | ((with_reducible first | apply awn | apply awo); intro r hr; simp only [go_sem, Nat.reduceBEq, Nat.reduceLT, Nat.reduceLeDiff, Nat.reduceAdd, Nat.reduceMul, reduceCtorEq, encIs_len, v8_len, e1, e2, e3] at hr; subst hr; (first | refine caB 17 (vFa (0, 0)) ?_ ?_ ?_ | refine awV ?_ ?_)))) <;> (try omega)
   exact ⟨true, rfl, fun h => by cases h⟩
  have e3 : ((N.length : Int) > 20) = False := eq_false (by omega)
  by_cases h4 : (chkF e C N).1 = 0
  ·have e4 : ((chkF e C N).1 = 0) = True := eq_true h4
   (repeat' (first | exact trivial | (with_reducible apply awF) | ((with_reducible first | apply awn | apply awo); intro r hr; simp only [go_sem, Nat.reduceBEq, Nat.reduceLT, Nat.reduceLeDiff, Nat.reduceAdd, Nat.reduceMul, reduceCtorEq, encIs_len, v8_len, e1, e2, e3, e4] at hr; subst hr; (first | refine caA (fun _ => hc) rfl ?_ ?_ ?_ | refine awV ?_ ?_)))) <;> (try omega)
   exact ⟨false, rfl, fun _ => ⟨⟨by omega, by omega⟩, chkF_err.1 h4⟩⟩
  ·have e4 : ((chkF e C N).1 = 0) = False := eq_false h4
   (repeat' (first | exact trivial | (with_reducible apply awF) | ((with_reducible first | apply awn | apply awo); intro r hr; simp only [go_sem, Nat.reduceBEq, Nat.reduceLT, Nat.reduceLeDiff, Nat.reduceAdd, Nat.reduceMul, reduceCtorEq, encIs_len, v8_len, e1, e2, e3, e4] at hr; subst hr; (first | refine caA (fun _ => hc) rfl ?_ ?_ ?_ | refine awV ?_ ?_)))) <;> (try omega)
   exact ⟨true, rfl, fun h => by cases h⟩
 intro b hb
 cases b with
 | true =>
  clear hL hc
  (repeat' (first | exact trivial | (with_reducible apply awA) | ((with_reducible first | apply awn | refine awQ ?_); intro r hr; simp only [go_sem, Nat.reduceBEq, Nat.reduceLT, Nat.reduceLeDiff, Nat.reduceAdd, Nat.reduceMul] at hr; subst hr; (first | refine awW ?_ ?_ | (refine condK (fun h => ?_) (fun h => ?_) <;> (try simp only [go_sem, reduceCtorEq] at h) <;> (try (exfalso; omega))))) | (refine go_callGE [] [(8001, 8001), (8002, 8002)] [8001, 8002] [] ?_; intro r hr; simp only [go_sem, Nat.reduceBEq, Nat.reduceLT] at hr; subst hr; refine callGV (hM) rfl rfl (by first | exact .inl rfl | exact .inr rfl) ?_ (.inl rfl) (fun q hq => hold ?_)))) <;> (try omega)
  refine ⟨?_⟩
  obtain ⟨⟨X, Z⟩, hX⟩ : ∃ z, z = q := ⟨_, rfl⟩
  subst hX
  have hI := hq
  clear hq
  (repeat' (first | exact trivial | (with_reducible first | apply awD | apply awF | apply awG) | ((with_reducible first | apply awo | refine aweR ?_); intro r hr; simp only [go_sem, Nat.reduceBEq, Nat.reduceLT, Nat.reduceLeDiff, Nat.reduceAdd, Nat.reduceMul] at hr; subst hr; (first | refine awV ?_ ?_ | refine endEK ?_ ?_)))) <;> (try omega)
  refine ⟨(X, Z, [], []), ⟨hI.1, hI.2.1.1, by have := hI.2.1.2; dsimp only at this ⊢; omega⟩, AV.up_rfl _, ?_⟩
  simp only [List.append_nil]
  repeat first | exact obUp_nil | refine obUp_cons rfl ?_
 | false =>
  (repeat' (first | exact trivial | (with_reducible first | apply awA | apply awC | apply awD | apply awF) | ((with_reducible first | apply awn | apply awo | refine awQ ?_ | refine aweR ?_); intro r hr; simp only [go_sem, Nat.reduceBEq, Nat.reduceLT, Nat.reduceLeDiff, Nat.reduceAdd, Nat.reduceMul] at hr; subst hr; (first | refine awV ?_ ?_ | refine awW ?_ ?_ | refine endEK ?_ ?_ | (refine condK (fun h => ?_) (fun h => ?_) <;> (try simp only [go_sem, reduceCtorEq] at h) <;> (try (exfalso; omega))))) | (refine go_callGE [] [(7, 8001), (13, 8002)] [8001, 8002] [] ?_; intro r hr; simp only [go_sem, Nat.reduceBEq, Nat.reduceLT] at hr; subst hr; refine callGK (hL) rfl rfl (by first | exact .inl rfl | exact .inr rfl) ?_ (.inl rfl) ?_))) <;> (try omega)
  refine ⟨(C, N, [⟨-901, 0, 0, 0⟩], [-902]), ⟨(hb rfl).2, (hb rfl).1⟩, AV.up_rfl _, ?_⟩
  simp only [encIs_cat, v8_cat]
  repeat first | exact obUp_nil | refine obUp_cons rfl ?_
theorem made15_P (e : Bool) (C : List InsM) (N : List Int) (hC : C.length ≤ 100000000) (hN : N.length ≤ 100000000) :
  PCall Try.prog 9 [pG e C N] (fun r => ∃ X Z, r = pG e X Z ∧ chkF e X Z = (0, 0) ∧ 1 ≤ X.length ∧ X.length ≤ 100) := by
 refine ((made15_E e C N hC hN).toP fun q hq => ?_).mono fun r ⟨⟨X, Z, RX, RZ⟩, hI, hr⟩ => ⟨X, Z, hr.trans ?_, hI⟩
 ·simp [AV.snapOK, AV.snapOK.snapOKL, lk, encIs_len, v8_len]
 ·have e1 : (encIs (X ++ RX)).take X.length = encIs X := by rw [encIs_cat, List.take_append_of_le_length (by rw [encIs_len]; omega), List.take_of_length_le (by rw [encIs_len]; omega)]
  have e2 : (v8 (Z ++ RZ)).take Z.length = v8 Z := by rw [v8_cat, List.take_append_of_le_length (by rw [v8_len]; omega), List.take_of_length_le (by rw [v8_len]; omega)]
  simp only [AV.snap, AV.snap.snapL, lk, Nat.zero_add, List.drop_zero, Nat.reduceBEq, cond_true, cond_false, e1, e2]
  rfl
end Go.Proofs.Ytjeplogcfedmeaa
end
section
namespace Go.Proofs.Ytjeplogcfedmeaa
open Go.RowKit
set_option maxRecDepth 100000
def Ext (L L' : LkM) : Prop := L'.length = L.length ∧ ∀ k s, L.getD k none = some s → L'.getD k none = some s
theorem Ext.refl (L : LkM) : Ext L L := ⟨rfl, fun _ _ h => h⟩
theorem Ext.trans {a b c : LkM} (h : Ext a b) (g : Ext b c) : Ext a c := ⟨g.1.trans h.1, fun k s hk => g.2 k s (h.2 k s hk)⟩
theorem Ext.some {L L' : LkM} (h : Ext L L') {k : Nat} (hk : (L.getD k none).isSome = true) : (L'.getD k none).isSome = true := by
 cases hs : L.getD k none with
 | none => rw [hs] at hk; cases hk
 | some s => rw [h.2 k s hs]; rfl
theorem Ext.st {L L' : LkM} (h : Ext L L') {k : Nat} (hk : (L.getD k none).isSome = true) : stAt L' k = stAt L k := by
 unfold stAt
 cases hs : L.getD k none with
 | none => rw [hs] at hk; cases hk
 | some s => rw [h.2 k s hs]
theorem handF_ext {e : Bool} {C : List InsM} {L L' : LkM} {k : Nat} {s : StM} {t : Int} (hk : k < L.length) (h : handF e C L k s t = .some L') : Ext L L' ∧ (L'.getD k none).isSome = true := by
 unfold handF at h
 split at h
 ·rename_i hn
  injection h with h
  subst h
  refine ⟨⟨by simp, fun j s' hj => ?_⟩, by simp [List.getD, hk]⟩
  by_cases hjk : k = j
  ·subst hjk; rw [hn] at hj; cases hj
  ·simp only [List.getD, List.getElem?_set_ne hjk] at hj ⊢; exact hj
 ·rename_i s0 hs
  split at h
  ·injection h with h; subst h; exact ⟨Ext.refl _, by rw [hs]; rfl⟩
  ·split at h
   ·injection h with h; subst h; exact ⟨Ext.refl _, by rw [hs]; rfl⟩
   ·cases h
theorem handS_ext {e : Bool} {C : List InsM} {t : Int} {E : EfM} {arms : Bool} : ∀ {ks : List Int} {w : Nat} {L L' : LkM}, (∀ j ∈ ks, j.toNat < L.length) → handS e C t E arms ks w L = .ok L' → Ext L L' ∧ ∀ j ∈ ks, (L'.getD j.toNat none).isSome = true
 | [], w, L, L', _, h => by
  unfold handS at h
  injection h with h
  subst h
  exact ⟨Ext.refl _, fun j hj => by cases hj⟩
 | k :: ks, w, L, L', hlt, h => by
  unfold handS at h
  split at h
  ·cases h
  ·rename_i L1 h1
   obtain ⟨g1, g2⟩ := handF_ext (hlt k (.head _)) h1
   obtain ⟨g3, g4⟩ := handS_ext (fun j hj => by rw [g1.1]; exact hlt j (.tail _ hj)) h
   refine ⟨g1.trans g3, fun j hj => ?_⟩
   rcases List.mem_cons.1 hj with rfl | hj
   ·exact g3.some g2
   ·exact g4 j hj
theorem handS_err {e : Bool} {C : List InsM} {t : Int} {E : EfM} {arms : Bool} : ∀ {ks : List Int} {w : Nat} {L : LkM} {j : Int}, handS e C t E arms ks w L = .error j → j ∈ ks
 | [], w, L, j, h => by unfold handS at h; cases h
 | k :: ks, w, L, j, h => by
  unfold handS at h
  split at h
  ·injection h with h; rw [h]; exact .head _
  ·exact .tail _ (handS_err h)
structure FirstI (e : Bool) (C : List InsM) (t : Int) (L : LkM) (D : List Nat) : Prop where
 len : L.length = C.length
 nd : D.Nodup
 dok : ∀ k ∈ D, k < C.length ∧ (L.getD k none).isSome = true
 cl : ∀ k ∈ D, ∀ j ∈ waysF C k (insAt C k), j < C.length ∧ (L.getD j.toNat none).isSome = true
 st : ∀ k ∈ D, ∃ t' ≤ t, (standF e (insAt C k) (stAt L k) t').2 = true
theorem FirstI.hand {e : Bool} {C : List InsM} {t : Int} {L L' : LkM} {D : List Nat} (h : FirstI e C t L D) (hx : Ext L L') : FirstI e C t L' D :=
 ⟨hx.1.trans h.len, h.nd, fun k hk => ⟨(h.dok k hk).1, hx.some (h.dok k hk).2⟩, fun k hk j hj => ⟨(h.cl k hk j hj).1, hx.some (h.cl k hk j hj).2⟩, fun k hk => by
  obtain ⟨t', h1, h2⟩ := h.st k hk
  exact ⟨t', h1, by rw [hx.st (h.dok k hk).2]; exact h2⟩⟩
theorem FirstI.up {e : Bool} {C : List InsM} {t t' : Int} {L : LkM} {D : List Nat} (h : FirstI e C t L D) (ht : t ≤ t') : FirstI e C t' L D := ⟨h.len, h.nd, h.dok, h.cl, fun k hk => by
 obtain ⟨t0, h1, h2⟩ := h.st k hk
 exact ⟨t0, Int.le_trans h1 ht, h2⟩⟩
theorem FirstI.dlen {e : Bool} {C : List InsM} {t : Int} {L : LkM} {D : List Nat} (h : FirstI e C t L D) : D.length ≤ C.length := nodup_le h.nd fun k hk => (h.dok k hk).1
def PosW (C : List InsM) : Prop := ∀ k, k < C.length → ∀ j ∈ waysF C k (insAt C k), 0 ≤ j
theorem goesF_ok {e : Bool} {C : List InsM} (hp : PosW C) {t : Int} {L L' : LkM} {D : List Nat} {k : Nat} (h : FirstI e C t L D) (hk : k < C.length) (hs : (L.getD k none).isSome = true) (hD : k ∉ D) (hg : goesF e C k L t = .ok L') : FirstI e C t L' (k :: D) ∧ Ext L L' := by
 unfold goesF at hg
 dsimp only at hg
 split at hg
 ·cases hg
 ·rename_i hn
  simp only [not_or, Bool.not_eq_false, Bool.not_eq_true] at hn
  obtain ⟨h1, h2⟩ := hn
  have hlt : ∀ j ∈ waysF C k (insAt C k), j < C.length := fun j hj => by
   have := List.any_eq_false.1 h2 j hj
   simpa using this
  obtain ⟨g1, g2⟩ := handS_ext (fun j hj => by have := hlt j hj; have := hp k hk j hj; rw [h.len]; omega) hg
  have hh := h.hand g1
  refine ⟨⟨hh.len, List.nodup_cons.2 ⟨hD, h.nd⟩, fun j hj => ?_, fun j hj i hi => ?_, fun j hj => ?_⟩, g1⟩
  ·rcases List.mem_cons.1 hj with rfl | hj
   ·exact ⟨hk, g1.some hs⟩
   ·exact hh.dok j hj
  ·rcases List.mem_cons.1 hj with rfl | hj
   ·exact ⟨hlt i hi, g2 i hi⟩
   ·exact hh.cl j hj i hi
  ·rcases List.mem_cons.1 hj with rfl | hj
   ·exact ⟨t, Int.le_refl _, by rw [g1.st hs]; exact h1⟩
   ·exact hh.st j hj
theorem goesF_err {e : Bool} {C : List InsM} (hp : PosW C) {t : Int} {L : LkM} {k : Nat} {j : Int} (hk : k < C.length) (hg : goesF e C k L t = .error j) : 0 ≤ j ∧ j < C.length := by
 unfold goesF at hg
 dsimp only at hg
 split at hg
 ·injection hg with hg; omega
 ·rename_i hn
  simp only [not_or, Bool.not_eq_true] at hn
  have hj := handS_err hg
  have h1 := List.any_eq_false.1 hn.2 j hj
  have := hp k hk j hj
  simp at h1
  omega
theorem nextF_some {L : LkM} {D : List Nat} {k : Nat} (h : nextF L D = some k) : k < L.length ∧ (L.getD k none).isSome = true ∧ k ∉ D := by
 unfold nextF at h
 have h1 := List.find?_some h
 have h2 := List.mem_of_find?_eq_some h
 rw [List.mem_range] at h2
 unfold waitsB at h1
 simp only [Bool.and_eq_true, Bool.not_eq_true', decide_eq_false_iff_not] at h1
 exact ⟨h2, h1.1, h1.2⟩
theorem nextF_none {L : LkM} {D : List Nat} (h : nextF L D = none) {k : Nat} (hk : (L.getD k none).isSome = true) : k ∈ D := by
 unfold nextF at h
 rw [List.find?_eq_none] at h
 have hlt : k < L.length := by
  rcases Nat.lt_or_ge k L.length with h' | h'
  ·exact h'
  ·simp [List.getD, List.getElem?_eq_none h'] at hk
 have := h k (List.mem_range.2 hlt)
 unfold waitsB at this
 rw [hk] at this
 simpa using this
theorem loopF_ok {e : Bool} {C : List InsM} (hp : PosW C) {t : Int} : ∀ {f : Nat} {L L' : LkM} {D D' : List Nat}, FirstI e C t L D → C.length + 1 ≤ f + D.length → loopF e C t f L D = .ok (L', D') → FirstI e C t L' D' ∧ Ext L L' ∧ ∀ k, (L'.getD k none).isSome = true → k ∈ D'
 | 0, L, L', D, D', h, hf, _ => by have := h.dlen; omega
 | f + 1, L, L', D, D', h, hf, hl => by
  unfold loopF at hl
  split at hl
  ·rename_i hn
   injection hl with hl
   injection hl with h1 h2
   subst h1
   subst h2
   exact ⟨h, Ext.refl _, fun k hk => nextF_none hn hk⟩
  ·rename_i k hn
   obtain ⟨h1, h2, h3⟩ := nextF_some hn
   rw [h.len] at h1
   split at hl
   ·cases hl
   ·rename_i L1 hg
    obtain ⟨g1, g2⟩ := goesF_ok hp h h1 h2 h3 hg
    obtain ⟨g3, g4, g5⟩ := loopF_ok hp g1 (by rw [List.length_cons]; omega) hl
    exact ⟨g3, g2.trans g4, g5⟩
theorem loopF_err {e : Bool} {C : List InsM} (hp : PosW C) {t : Int} {j : Int} : ∀ {f : Nat} {L : LkM} {D : List Nat}, FirstI e C t L D → loopF e C t f L D = .error j → 0 ≤ j ∧ j < C.length
 | 0, L, D, _, h => by unfold loopF at h; cases h
 | f + 1, L, D, h, hl => by
  unfold loopF at hl
  split at hl
  ·cases hl
  ·rename_i k hn
   obtain ⟨h1, h2, h3⟩ := nextF_some hn
   rw [h.len] at h1
   split at hl
   ·rename_i j' hg
    injection hl with hl
    rw [← hl]
    exact goesF_err hp h1 hg
   ·rename_i L1 hg
    exact loopF_err hp (goesF_ok hp h h1 h2 h3 hg).1 hl
theorem firstL_ok {e : Bool} {C : List InsM} (hp : PosW C) : ∀ {N : List Int} {t : Int} {L L' : LkM} {D D' : List Nat}, (∀ n ∈ N, 0 ≤ n ∧ n < C.length) → FirstI e C t L D → (∀ k, (L.getD k none).isSome = true → k ∈ D) → firstL e C N t L D = .ok (L', D') →
  (∃ t', FirstI e C t' L' D' ∧ t' ≤ t + N.length) ∧ Ext L L' ∧ (∀ k, (L'.getD k none).isSome = true → k ∈ D') ∧ ∀ (i : Nat) (n : Int), N[i]? = some n → (L'.getD n.toNat none).isSome = true ∧ ∃ L1 D1, FirstI e C (t + i) L1 D1 ∧ (∀ k, (L1.getD k none).isSome = true → k ∈ D1) ∧ (L1.getD n.toNat none).isSome = true
 | [], t, L, L', D, D', _, h, ha, hf => by
  unfold firstL at hf
  injection hf with hf
  injection hf with h1 h2
  subst h1
  subst h2
  exact ⟨⟨t, h, by simp⟩, Ext.refl _, ha, fun i n hi => by simp at hi⟩
 | n :: ns, t, L, L', D, D', hN, h, ha, hf => by
  unfold firstL at hf
  split at hf
  ·cases hf
  ·rename_i L1 h1
   have hn := hN n (.head _)
   obtain ⟨g1, g2⟩ := handF_ext (by rw [h.len]; omega) h1
   split at hf
   ·cases hf
   ·rename_i L2 D2 h2
    obtain ⟨g3, g4, g5⟩ := loopF_ok hp (h.hand g1) (by have := h.dlen; omega) h2
    obtain ⟨⟨t', q1, q2⟩, q3, q4, q5⟩ := firstL_ok hp (fun m hm => hN m (.tail _ hm)) (g3.up (by omega : t ≤ t + 1)) g5 hf
    refine ⟨⟨t', q1, by rw [List.length_cons]; omega⟩, (g1.trans g4).trans q3, q4, fun i m hi => ?_⟩
    cases i with
    | zero =>
     simp only [List.getElem?_cons_zero, Option.some.injEq] at hi
     subst hi
     exact ⟨(g4.trans q3).some g2, L2, D2, by simpa using g3, g5, g4.some g2⟩
    | succ i =>
     obtain ⟨r1, L3, D3, r2, r3⟩ := q5 i m (by simpa using hi)
     exact ⟨r1, L3, D3, by rw [show t + ((i + 1 : Nat) : Int) = t + 1 + i by omega]; exact r2, r3⟩
theorem firstL_err {e : Bool} {C : List InsM} (hp : PosW C) {j : Int} : ∀ {N : List Int} {t : Int} {L : LkM} {D : List Nat}, (∀ n ∈ N, 0 ≤ n ∧ n < C.length) → FirstI e C t L D → firstL e C N t L D = .error j → 0 ≤ j ∧ j < C.length
 | [], t, L, D, _, _, hf => by unfold firstL at hf; cases hf
 | n :: ns, t, L, D, hN, h, hf => by
  unfold firstL at hf
  have hn := hN n (.head _)
  split at hf
  ·injection hf with hf; rw [← hf]; exact hn
  ·rename_i L1 h1
   obtain ⟨g1, g2⟩ := handF_ext (by rw [h.len]; omega) h1
   split at hf
   ·rename_i j' h2
    injection hf with hf
    rw [← hf]
    exact loopF_err hp (h.hand g1) h2
   ·rename_i L2 D2 h2
    obtain ⟨g3, _, _⟩ := loopF_ok hp (h.hand g1) (by have := h.dlen; omega) h2
    exact firstL_err hp (fun m hm => hN m (.tail _ hm)) (g3.up (by omega : t ≤ t + 1)) hf
theorem FirstI.init (e : Bool) (C : List InsM) : FirstI e C 0 (List.replicate C.length none) [] := ⟨by simp, List.nodup_nil, fun _ h => (by cases h), fun _ h => (by cases h), fun _ h => (by cases h)⟩
theorem init_none (C : List InsM) (k : Nat) : ((List.replicate C.length (none : Option StM)).getD k none).isSome = false := by
 simp only [List.getD, List.getElem?_replicate]
 split <;> rfl
theorem stand_call {x : InsM} {s : StM} {t : Int} (h : (standF false x s t).2 = true) (ho : x.op = 16) : x.c < t := by
 unfold standF decS at h
 simp only [reduceCtorEq, if_false] at h
 rw [if_pos ho] at h
 split at h
 ·cases h
 ·omega
theorem looked_of {e : Bool} {C : List InsM} {N : List Int} (hc : chkF e C N = (0, 0)) {L : LkM} {D : List Nat} (h : firstF e C N = .ok (L, D)) : LookedOK C N := by
 obtain ⟨_, hr, hN⟩ := chkF_ok hc
 have hp : PosW C := fun k hk j hj => (ways_in hr hk j hj).1
 intro t n hn
 obtain ⟨_, _, _, h4⟩ := firstL_ok hp hN (FirstI.init e C) (fun k hk => by rw [init_none] at hk; cases hk) h
 obtain ⟨_, L1, D1, g1, g2, g3⟩ := h4 t n hn
 refine ⟨fun k => k ∈ D1, g2 _ g3, fun B hB => ⟨fun k hk => (g1.dok k hk).1, fun k hk j hj => ?_, fun k hk ho => ?_⟩⟩
 ·exact ⟨hp k (g1.dok k hk).1 j hj, g2 _ (g1.cl k hk j hj).2⟩
 ·obtain ⟨he, h0, _⟩ := right_call (hr k (g1.dok k hk).1) ho
  subst he
  obtain ⟨t', h1, h2⟩ := g1.st k hk
  have := stand_call h2 ho
  omega
end Go.Proofs.Ytjeplogcfedmeaa
end
section
namespace Go.Proofs.Ytjeplogcfedmeaa
open Go.RowKit
set_option maxRecDepth 100000
set_option maxHeartbeats 8000000
theorem and_pred_lt {n : Nat} (h : n ≠ 0) : n &&& (n - 1) < n := by
 have := Nat.and_le_right (n := n) (m := n - 1)
 omega
def popc (n : Nat) : Nat := if h : n = 0 then 0 else popc (n &&& (n - 1)) + 1
termination_by n
decreasing_by exact and_pred_lt h
theorem popc_0 : popc 0 = 0 := by rw [popc]; simp
theorem popc_s {n : Nat} (h : n ≠ 0) : popc n = popc (n &&& (n - 1)) + 1 := by rw [popc]; simp [h]
theorem and_even (m : Nat) : (2 * m) &&& (2 * m - 1) = 2 * (m &&& (m - 1)) := by
 apply Nat.eq_of_testBit_eq
 intro i
 rcases Nat.eq_zero_or_pos m with h0 | h0
 ·subst h0; simp
 ·have h1 : 2 * m - 1 = 2 * (m - 1) + 1 := by omega
  rw [h1]
  cases i with
  | zero => simp [Nat.testBit_zero, Nat.mul_mod_right]
  | succ i =>
   rw [Nat.testBit_and, Nat.testBit_succ, Nat.testBit_succ, Nat.testBit_succ, show 2 * m / 2 = m by omega, show (2 * (m - 1) + 1) / 2 = m - 1 by omega, show 2 * (m &&& (m - 1)) / 2 = m &&& (m - 1) by omega, Nat.testBit_and]
theorem and_odd (m : Nat) : (2 * m + 1) &&& (2 * m + 1 - 1) = 2 * m := by
 rw [Nat.add_sub_cancel]
 apply Nat.eq_of_testBit_eq
 intro i
 cases i with
 | zero => simp [Nat.testBit_zero]
 | succ i => rw [Nat.testBit_and, Nat.testBit_succ, Nat.testBit_succ, show (2 * m + 1) / 2 = m by omega, show 2 * m / 2 = m by omega, Bool.and_self]
theorem popc_even (m : Nat) : popc (2 * m) = popc m := by
 induction m using Nat.strongRecOn with
 | ind m ih =>
  by_cases h0 : m = 0
  ·subst h0; rfl
  ·rw [popc_s (by omega), popc_s h0, and_even, ih _ (and_pred_lt h0)]
theorem popc_le : ∀ (k n : Nat), n < 2 ^ k → popc n ≤ k
 | 0, n, h => by
  have : n = 0 := by simpa using h
  subst this
  rw [popc_0]
  exact Nat.le_refl _
 | k + 1, n, h => by
  have h2 : n / 2 < 2 ^ k := by rw [Nat.pow_succ] at h; omega
  have ih := popc_le k (n / 2) h2
  rcases Nat.mod_two_eq_zero_or_one n with h0 | h0
  ·rw [show n = 2 * (n / 2) by omega, popc_even]; omega
  ·rw [show n = 2 * (n / 2) + 1 by omega, popc_s (by omega), and_odd, popc_even]; omega
def modU (x : Int) : Nat := (x % 18446744073709551616).toNat
theorem modU_lt (x : Int) : modU x < 18446744073709551616 := by unfold modU; omega
theorem ofInt_modU (x : Int) : (BitVec.ofInt 64 x).toNat = modU x := by
 rw [BitVec.toNat_ofInt]; rfl
theorem bits_step (k : Int) : bits .and .u64 k (IntKind.u64.wrap (k - 1)) = ((modU k &&& modU (k - 1) : Nat) : Int) := by
 have h1 : modU (IntKind.u64.wrap (k - 1)) = modU (k - 1) := by rw [IntKind.wrap_u64]; unfold modU; omega
 have hx : modU k &&& modU (k - 1) < 2 ^ 64 := Nat.and_lt_two_pow _ (modU_lt _)
 show IntKind.u64.wrap ((BitVec.ofInt 64 k &&& BitVec.ofInt 64 (IntKind.u64.wrap (k - 1))).toNat : Int) = _
 rw [BitVec.toNat_and, ofInt_modU, ofInt_modU, h1, IntKind.wrap_u64]
 omega
theorem step_nat {n : Nat} (h0 : n ≠ 0) (h : n < 18446744073709551616) : modU n &&& modU ((n : Int) - 1) = n &&& (n - 1) := by
 have h1 : modU n = n := by unfold modU; omega
 have h2 : modU ((n : Int) - 1) = n - 1 := by unfold modU; omega
 rw [h1, h2]
def cntK (k : Int) : Nat := if k = 0 then 0 else popc (modU k &&& modU (k - 1)) + 1
theorem cntK_nat {n : Nat} (h : n < 18446744073709551616) : cntK n = popc n := by
 unfold cntK
 by_cases h0 : n = 0
 ·subst h0; rw [popc_0]; rfl
 ·rw [if_neg (by omega), step_nat h0 h, ← popc_s h0]
theorem cntK_le (k : Int) : cntK k ≤ 65 := by
 unfold cntK
 split
 ·omega
 ·have := popc_le 64 (modU k &&& modU (k - 1)) (Nat.and_lt_two_pow _ (modU_lt _))
  omega
def shapeF (s : StM) : Int :=
 if s.place = 4 then 1 else if s.place = 1 ∨ s.place = 3 then 2 else if s.place = 2 then 2 + cntK s.kids
 else if s.place = 6 then IntKind.i64.wrap (1 + s.left) else if s.place = 7 then 66 else 0
theorem shape_any (s : StM) : PCall Try.prog 25 [vSt s] (fun r => r = vI (shapeF s)) := by
 obtain ⟨p, k, t, q, f, l⟩ := s
 unfold shapeF
 dsimp only
 by_cases h2 : p = 2
 ·subst h2
  simp only [Int.reduceEq, if_false, or_self, if_true]
  have hb := cntK_le k
  refine go_fn (tyOf_ok _) Try.func25 rfl rfl (by rw [Try.results25]) Try.ntmps25 rfl fun E => ?_
  (repeat' (first | exact trivial | (with_reducible first | apply awA | apply awB | apply awF) | ((with_reducible first | apply awn | refine awQ ?_); intro r hr; simp only [go_sem, Nat.reduceBEq, Nat.reduceLT, Nat.reduceLeDiff, Nat.reduceAdd, Nat.reduceMul, Int.reduceEq] at hr; subst hr; (first | refine awV ?_ ?_ | (refine condK (fun h => ?_) (fun h => ?_) <;> (try simp only [go_sem, reduceCtorEq] at h) <;> (try (exfalso; omega))))))) <;> (try omega)
  refine go_loop [3, 4] [] (fun x : Nat × Int => ⟨[(3, true, vI x.1), (4, true, .v (.int .u64 x.2))], []⟩) (fun x => (x.1 : Int) + cntK x.2 = 2 + cntK k ∧ x.1 ≤ 67) (fun x => cntK x.2) (2, k) (by simp only [go_sem, Nat.reduceBEq] <;> exact rfl) ⟨rfl, by omega⟩ ?_
  intro ⟨n, z⟩ ⟨h1, h2⟩
  simp only at h1 h2 ⊢
  have hw := wrap_i64 (n := (n : Int) + 1) (by omega)
  by_cases hz : z = 0
  ·have ez : (z = 0) = True := eq_true hz
   subst hz
   have : cntK 0 = 0 := rfl
   rw [this] at h1
   rw [← h1]
   (repeat' (first | exact trivial | (with_reducible first | apply awA | apply awD | apply awE | apply awF | apply awG | apply awH | apply awJ | apply awK) | ((with_reducible first | apply awn | refine awQ ?_ | refine awR ?_); intro r hr; simp only [go_sem, Nat.reduceBEq, Nat.reduceLT] at hr; subst hr; (first | refine awV ?_ ?_ | refine endK ?_ ?_ | (refine condK (fun h => ?_) (fun h => ?_) <;> (try simp only [go_sem, reduceCtorEq] at h) <;> (try (exfalso; omega))))))) <;> (try omega)
   all_goals first | (show AV.v _ = AV.v _; simp) | skip
  ·have ez : (z = 0) = False := eq_false hz
   have hc : cntK z = popc (modU z &&& modU (z - 1)) + 1 := by unfold cntK; rw [if_neg hz]
   have hlt : modU z &&& modU (z - 1) < 18446744073709551616 := Nat.lt_of_le_of_lt Nat.and_le_left (modU_lt z)
   have hn := cntK_nat hlt
   have hbs := bits_step z
   generalize modU z &&& modU (z - 1) = z' at hc hlt hn hbs
   (repeat' (first | exact trivial | (with_reducible first | apply awA | apply awB | apply awC | apply awF | apply awI) | ((with_reducible first | apply awn | refine awQ ?_); intro r hr; simp only [go_sem, Nat.reduceBEq, Nat.reduceLT, ez, hw, hbs] at hr; subst hr; (first | refine awV ?_ ?_ | (refine condK (fun h => ?_) (fun h => ?_) <;> (try simp only [go_sem, reduceCtorEq] at h) <;> (try (exfalso; omega))))))) <;> (try omega)
   refine ⟨(n + 1, (z' : Int)), ?_, ⟨by show ((n + 1 : Nat) : Int) + cntK z' = _; omega, by show n + 1 ≤ 67; omega⟩, by show cntK z' < cntK z; omega⟩
   simp only [Int.natCast_add, Int.cast_ofNat_Int, go_sem, Nat.reduceBEq]
   try exact rfl
 ·have e2 : (p = 2) = False := eq_false h2
  simp only [e2, if_false]
  refine go_fn (tyOf_ok _) Try.func25 rfl rfl (by rw [Try.results25]) Try.ntmps25 rfl fun E => ?_
  (repeat' (first | exact trivial | (with_reducible first | apply awA | apply awB | apply awC | apply awD | apply awF | apply awG | apply awI | apply awJ) | ((with_reducible first | apply awn | refine awQ ?_ | refine awR ?_); intro r hr; simp only [go_sem, Nat.reduceBEq, Nat.reduceLT, Nat.reduceLeDiff, Nat.reduceAdd, Nat.reduceMul, e2] at hr; subst hr; (first | refine awV ?_ ?_ | refine endK ?_ ?_ | (refine condK (fun h => ?_) (fun h => ?_) <;> (try simp only [go_sem, reduceCtorEq] at h) <;> (try (exfalso; omega))))))) <;> (try omega)
  all_goals first | (simp_all; done) | (simp_all; rfl) | skip
end Go.Proofs.Ytjeplogcfedmeaa
end

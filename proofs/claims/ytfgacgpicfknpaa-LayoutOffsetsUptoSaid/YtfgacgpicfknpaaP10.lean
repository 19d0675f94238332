import Derived.Test.YtfgacgpicfknpaaP9
set_option linter.all false
section
namespace Go.Proofs.Ytfgacgpicfknpaa
open Go.RowKit
set_option maxRecDepth 100000
set_option maxHeartbeats 8000000
theorem offsets_ok {x : Int} {xs o : List Int} (h : offsets x xs = (o, 0)) : 0 ≤ x ∧ (∀ n ∈ xs, 0 ≤ n) ∧ offs x xs = some o := by
  unfold offsets at h
  split at h
  · injection h with _ h; cases h
  · split at h
    · injection h with _ h; cases h
    · rename_i h1 h2
      split at h
      · injection h with _ h; cases h
      · rename_i l hl
        injection h with h _
        subst h
        exact ⟨by omega, fun n hn => by
          rcases Int.lt_or_le n 0 with h | h
          · exact absurd ⟨n, hn, h⟩ h2
          · exact h, hl⟩
theorem offs_I64 {x : Int} {xs o : List Int} (hx : 0 ≤ x) (hn : ∀ n ∈ xs, 0 ≤ n) (h : offs x xs = some o) : ∀ z ∈ o, 0 ≤ z ∧ z ≤ 4294967295 := by
  induction xs generalizing x o with
  | nil => simp only [offs, Option.some.injEq] at h; subst h; intro z hz; cases hz
  | cons n ns ih =>
    unfold offs at h
    split at h
    · cases h
    rw [Option.map_eq_some_iff] at h
    obtain ⟨o1, h1, rfl⟩ := h
    have := hn n (.head _)
    intro z hz
    rcases List.mem_cons.1 hz with rfl | hz
    · omega
    · exact ih (by omega) (fun m hm => hn m (.tail _ hm)) h1 z hz
theorem sum_succ {xs : List Int} {k : Nat} (h : k < xs.length) : (xs.take (k + 1)).sum = (xs.take k).sum + xs[k] := by
  rw [List.take_succ_eq_append_getElem h, List.sum_append]; simp
theorem layBack_any (x : Int) (hx : I64 x) (xs : List Int) (hl : xs.length ≤ 1048576) (hxs : ∀ z ∈ xs, I64 z) (os : List Int) (hol : os.length ≤ 1048576) (hos : ∀ z ∈ os, I64 z) (e : Int) (he64 : I64 e) :
    PCall Try.prog 5 [vI x, .lst 1 (v8 xs), .lst 1 (v8 os), vI e] (fun r => r = vB true) := by
  refine go_fn (tyOf_ok _) Try.func5 rfl rfl (by rw [Try.results5]) Try.ntmps5 rfl fun E => ?_
  have ho := offsets_any x hx xs (by omega) hxs
  have hB := lengths_any x hx os (by omega) hos e he64
  by_cases h0 : (offsets x xs).2 = 0
  case neg =>
    have e0 : ((offsets x xs).2 = 0) = False := eq_false h0
    rw [lerr] at ho
    have hC := hB
    have hA1 : True := trivial
    have hA2 := e0
    by_cases he : (lengths x os e).2.2 = 0
    case neg =>
      have ee : ((lengths x os e).2.2 = 0) = False := eq_false he
      have e0 : (lengths x os e).1 = [] := by
        unfold lengths at he ⊢
        split
        · rfl
        · split
          · rfl
          · exfalso; apply he; simp_all
      (repeat' (first
    | exact trivial
    | (with_reducible first | refine aw_seq ?_ | refine aw_block ?_ | refine aw_skip ?_ | refine aw_ret ?_ | refine aw_exit ?_ | refine aseq_normal ?_ | refine aseq_ret ?_ | refine aseq_exit ?_ | refine ablk_normal ?_ | refine ablk_ret ?_ | refine ablk_hit ?_ | refine aw_region ?_ | refine go_nil ?_ | refine al_of ?_)
    | with_reducible refine ablk_miss (by decide) ?_
    | ((with_reducible refine al_id ?_); refine go_run (tyOf_ok _) [] (by simp only [go_sem, Nat.reduceBEq, Nat.reduceBneDiff, Nat.reduceLT, Nat.reduceLeDiff, Nat.reduceAdd, Nat.reduceMul, Nat.reduceSub, Nat.reduceEqDiff, reduceCtorEq, lerr3, ee, e0, hA1, hA2, Int.cast_ofNat_Int, Int.reduceToNat, Int.reduceEq, Int.reduceLT, Int.reduceLE, Int.reduceNe]; exact rfl) ?_ ?_)
    | (refine aw_cond (by simp only [go_sem, Nat.reduceBEq, Nat.reduceBneDiff, Nat.reduceLT, Nat.reduceLeDiff, Nat.reduceAdd, Nat.reduceMul, Nat.reduceSub, Nat.reduceEqDiff, reduceCtorEq, lerr3, ee, e0, hA1, hA2, Int.cast_ofNat_Int, Int.reduceToNat, Int.reduceEq, Int.reduceLT, Int.reduceLE, Int.reduceNe]; exact rfl) (by simp only [go_sem, Nat.reduceBEq, Nat.reduceBneDiff, Nat.reduceLT, Nat.reduceLeDiff, Nat.reduceAdd, Nat.reduceMul, Nat.reduceSub, Nat.reduceEqDiff, reduceCtorEq]) (fun h => ?_) (fun h => ?_) <;> (try simp only [decide_eq_true_eq, decide_eq_false_iff_not, Bool.not_eq_true', Bool.not_eq_false', Bool.or_eq_true, Bool.or_eq_false_iff, Bool.and_eq_true, Bool.and_eq_false_iff, Decidable.not_not, reduceCtorEq] at h) <;> (try (exfalso; omega)))
    | (first | refine aend_ret (by simp only [go_sem, Nat.reduceBEq, Nat.reduceBneDiff, Nat.reduceLT, Nat.reduceLeDiff, Nat.reduceAdd, Nat.reduceMul, Nat.reduceSub, Nat.reduceEqDiff, reduceCtorEq, lerr3, ee, e0, hA1, hA2, Int.cast_ofNat_Int, Int.reduceToNat, Int.reduceEq, Int.reduceLT, Int.reduceLE, Int.reduceNe]; exact rfl) ?_ ?_ | refine aend_normal (by simp only [go_sem, Nat.reduceBEq, Nat.reduceBneDiff, Nat.reduceLT, Nat.reduceLeDiff, Nat.reduceAdd, Nat.reduceMul, Nat.reduceSub, Nat.reduceEqDiff, reduceCtorEq, lerr3, ee, e0, hA1, hA2, Int.cast_ofNat_Int, Int.reduceToNat, Int.reduceEq, Int.reduceLT, Int.reduceLE, Int.reduceNe]; exact rfl) ?_ ?_)
    | (refine go_call (by simp only [go_sem, Nat.reduceBEq, Nat.reduceBneDiff, Nat.reduceLT, Nat.reduceLeDiff, Nat.reduceAdd, Nat.reduceMul, Nat.reduceSub, Nat.reduceEqDiff, reduceCtorEq, lerr3, ee, e0, hA1, hA2, Int.cast_ofNat_Int, Int.reduceToNat, Int.reduceEq, Int.reduceLT, Int.reduceLE, Int.reduceNe]; exact rfl) ?_ (fun _ => awake13) rfl ?_)
    | (refine go_call1 (by simp only [go_sem, Nat.reduceBEq, Nat.reduceBneDiff, Nat.reduceLT, Nat.reduceLeDiff, Nat.reduceAdd, Nat.reduceMul, Nat.reduceSub, Nat.reduceEqDiff, reduceCtorEq, lerr3, ee, e0, hA1, hA2, Int.cast_ofNat_Int, Int.reduceToNat, Int.reduceEq, Int.reduceLT, Int.reduceLE, Int.reduceNe]; exact rfl) ?_ rfl (by simp only [go_sem, Nat.reduceBEq, Nat.reduceBneDiff, Nat.reduceLT, Nat.reduceLeDiff, Nat.reduceAdd, Nat.reduceMul, Nat.reduceSub, Nat.reduceEqDiff, reduceCtorEq, lerr3, ee, e0, hA1, hA2, Int.cast_ofNat_Int, Int.reduceToNat, Int.reduceEq, Int.reduceLT, Int.reduceLE, Int.reduceNe]) (by simp only [go_sem, Nat.reduceBEq, Nat.reduceBneDiff, Nat.reduceLT, Nat.reduceLeDiff, Nat.reduceAdd, Nat.reduceMul, Nat.reduceSub, Nat.reduceEqDiff, reduceCtorEq, lerr3, ee, e0, hA1, hA2, Int.cast_ofNat_Int, Int.reduceToNat, Int.reduceEq, Int.reduceLT, Int.reduceLE, Int.reduceNe]) (ho) ?_)
    | (refine go_call1 (by simp only [go_sem, Nat.reduceBEq, Nat.reduceBneDiff, Nat.reduceLT, Nat.reduceLeDiff, Nat.reduceAdd, Nat.reduceMul, Nat.reduceSub, Nat.reduceEqDiff, reduceCtorEq, lerr3, ee, e0, hA1, hA2, Int.cast_ofNat_Int, Int.reduceToNat, Int.reduceEq, Int.reduceLT, Int.reduceLE, Int.reduceNe]; exact rfl) ?_ rfl (by simp only [go_sem, Nat.reduceBEq, Nat.reduceBneDiff, Nat.reduceLT, Nat.reduceLeDiff, Nat.reduceAdd, Nat.reduceMul, Nat.reduceSub, Nat.reduceEqDiff, reduceCtorEq, lerr3, ee, e0, hA1, hA2, Int.cast_ofNat_Int, Int.reduceToNat, Int.reduceEq, Int.reduceLT, Int.reduceLE, Int.reduceNe]) (by simp only [go_sem, Nat.reduceBEq, Nat.reduceBneDiff, Nat.reduceLT, Nat.reduceLeDiff, Nat.reduceAdd, Nat.reduceMul, Nat.reduceSub, Nat.reduceEqDiff, reduceCtorEq, lerr3, ee, e0, hA1, hA2, Int.cast_ofNat_Int, Int.reduceToNat, Int.reduceEq, Int.reduceLT, Int.reduceLE, Int.reduceNe]) (hB) ?_)
    | (refine go_call1 (by simp only [go_sem, Nat.reduceBEq, Nat.reduceBneDiff, Nat.reduceLT, Nat.reduceLeDiff, Nat.reduceAdd, Nat.reduceMul, Nat.reduceSub, Nat.reduceEqDiff, reduceCtorEq, lerr3, ee, e0, hA1, hA2, Int.cast_ofNat_Int, Int.reduceToNat, Int.reduceEq, Int.reduceLT, Int.reduceLE, Int.reduceNe]; exact rfl) ?_ rfl (by simp only [go_sem, Nat.reduceBEq, Nat.reduceBneDiff, Nat.reduceLT, Nat.reduceLeDiff, Nat.reduceAdd, Nat.reduceMul, Nat.reduceSub, Nat.reduceEqDiff, reduceCtorEq, lerr3, ee, e0, hA1, hA2, Int.cast_ofNat_Int, Int.reduceToNat, Int.reduceEq, Int.reduceLT, Int.reduceLE, Int.reduceNe]) (by simp only [go_sem, Nat.reduceBEq, Nat.reduceBneDiff, Nat.reduceLT, Nat.reduceLeDiff, Nat.reduceAdd, Nat.reduceMul, Nat.reduceSub, Nat.reduceEqDiff, reduceCtorEq, lerr3, ee, e0, hA1, hA2, Int.cast_ofNat_Int, Int.reduceToNat, Int.reduceEq, Int.reduceLT, Int.reduceLE, Int.reduceNe]) (hC) ?_)
    | (refine go_call (by simp only [go_sem, Nat.reduceBEq, Nat.reduceBneDiff, Nat.reduceLT, Nat.reduceLeDiff, Nat.reduceAdd, Nat.reduceMul, Nat.reduceSub, Nat.reduceEqDiff, reduceCtorEq, lerr3, ee, e0, hA1, hA2, Int.cast_ofNat_Int, Int.reduceToNat, Int.reduceEq, Int.reduceLT, Int.reduceLE, Int.reduceNe]; exact rfl) ?_ (fun _ => same_any xs xs (by omega)) rfl ?_) | fail)) <;> (try omega)
      exact rfl
    have ee : ((lengths x os e).2.2 = 0) = True := eq_true he
    have hlen : lengths x os e = (diffs os e os.length, 0, 0) ∧ 0 ≤ x ∧ OffOK x os e := by
      unfold lengths at he ⊢
      split at he
      · cases he
      · rename_i hx0
        split at he
        · cases he
        · rename_i hn
          rw [List.find?_range_eq_none] at hn
          rw [if_neg hx0]
          have := offOK_of (x := x) (os := os) (e := e) fun i hi => by simpa using hn i hi
          exact ⟨rfl, by omega, this⟩
    obtain ⟨hlen, hx0, hOK⟩ := hlen
    (repeat' (first
    | exact trivial
    | (with_reducible first | refine aw_seq ?_ | refine aw_block ?_ | refine aw_skip ?_ | refine aw_ret ?_ | refine aw_exit ?_ | refine aseq_normal ?_ | refine aseq_ret ?_ | refine aseq_exit ?_ | refine ablk_normal ?_ | refine ablk_ret ?_ | refine ablk_hit ?_ | refine aw_region ?_ | refine go_nil ?_ | refine al_of ?_)
    | with_reducible refine ablk_miss (by decide) ?_
    | ((with_reducible refine al_id ?_); refine go_run (tyOf_ok _) [] (by simp only [go_sem, Nat.reduceBEq, Nat.reduceBneDiff, Nat.reduceLT, Nat.reduceLeDiff, Nat.reduceAdd, Nat.reduceMul, Nat.reduceSub, Nat.reduceEqDiff, reduceCtorEq, lerr3, ee, hA1, hA2, hlen, Int.cast_ofNat_Int, Int.reduceToNat, Int.reduceEq, Int.reduceLT, Int.reduceLE, Int.reduceNe]; exact rfl) ?_ ?_)
    | (refine aw_cond (by simp only [go_sem, Nat.reduceBEq, Nat.reduceBneDiff, Nat.reduceLT, Nat.reduceLeDiff, Nat.reduceAdd, Nat.reduceMul, Nat.reduceSub, Nat.reduceEqDiff, reduceCtorEq, lerr3, ee, hA1, hA2, hlen, Int.cast_ofNat_Int, Int.reduceToNat, Int.reduceEq, Int.reduceLT, Int.reduceLE, Int.reduceNe]; exact rfl) (by simp only [go_sem, Nat.reduceBEq, Nat.reduceBneDiff, Nat.reduceLT, Nat.reduceLeDiff, Nat.reduceAdd, Nat.reduceMul, Nat.reduceSub, Nat.reduceEqDiff, reduceCtorEq]) (fun h => ?_) (fun h => ?_) <;> (try simp only [decide_eq_true_eq, decide_eq_false_iff_not, Bool.not_eq_true', Bool.not_eq_false', Bool.or_eq_true, Bool.or_eq_false_iff, Bool.and_eq_true, Bool.and_eq_false_iff, Decidable.not_not, reduceCtorEq] at h) <;> (try (exfalso; omega)))
    | (first | refine aend_ret (by simp only [go_sem, Nat.reduceBEq, Nat.reduceBneDiff, Nat.reduceLT, Nat.reduceLeDiff, Nat.reduceAdd, Nat.reduceMul, Nat.reduceSub, Nat.reduceEqDiff, reduceCtorEq, lerr3, ee, hA1, hA2, hlen, Int.cast_ofNat_Int, Int.reduceToNat, Int.reduceEq, Int.reduceLT, Int.reduceLE, Int.reduceNe]; exact rfl) ?_ ?_ | refine aend_normal (by simp only [go_sem, Nat.reduceBEq, Nat.reduceBneDiff, Nat.reduceLT, Nat.reduceLeDiff, Nat.reduceAdd, Nat.reduceMul, Nat.reduceSub, Nat.reduceEqDiff, reduceCtorEq, lerr3, ee, hA1, hA2, hlen, Int.cast_ofNat_Int, Int.reduceToNat, Int.reduceEq, Int.reduceLT, Int.reduceLE, Int.reduceNe]; exact rfl) ?_ ?_)
    | (refine go_call (by simp only [go_sem, Nat.reduceBEq, Nat.reduceBneDiff, Nat.reduceLT, Nat.reduceLeDiff, Nat.reduceAdd, Nat.reduceMul, Nat.reduceSub, Nat.reduceEqDiff, reduceCtorEq, lerr3, ee, hA1, hA2, hlen, Int.cast_ofNat_Int, Int.reduceToNat, Int.reduceEq, Int.reduceLT, Int.reduceLE, Int.reduceNe]; exact rfl) ?_ (fun _ => awake13) rfl ?_)
    | (refine go_call1 (by simp only [go_sem, Nat.reduceBEq, Nat.reduceBneDiff, Nat.reduceLT, Nat.reduceLeDiff, Nat.reduceAdd, Nat.reduceMul, Nat.reduceSub, Nat.reduceEqDiff, reduceCtorEq, lerr3, ee, hA1, hA2, hlen, Int.cast_ofNat_Int, Int.reduceToNat, Int.reduceEq, Int.reduceLT, Int.reduceLE, Int.reduceNe]; exact rfl) ?_ rfl (by simp only [go_sem, Nat.reduceBEq, Nat.reduceBneDiff, Nat.reduceLT, Nat.reduceLeDiff, Nat.reduceAdd, Nat.reduceMul, Nat.reduceSub, Nat.reduceEqDiff, reduceCtorEq, lerr3, ee, hA1, hA2, hlen, Int.cast_ofNat_Int, Int.reduceToNat, Int.reduceEq, Int.reduceLT, Int.reduceLE, Int.reduceNe]) (by simp only [go_sem, Nat.reduceBEq, Nat.reduceBneDiff, Nat.reduceLT, Nat.reduceLeDiff, Nat.reduceAdd, Nat.reduceMul, Nat.reduceSub, Nat.reduceEqDiff, reduceCtorEq, lerr3, ee, hA1, hA2, hlen, Int.cast_ofNat_Int, Int.reduceToNat, Int.reduceEq, Int.reduceLT, Int.reduceLE, Int.reduceNe]) (ho) ?_)
    | (refine go_call1 (by simp only [go_sem, Nat.reduceBEq, Nat.reduceBneDiff, Nat.reduceLT, Nat.reduceLeDiff, Nat.reduceAdd, Nat.reduceMul, Nat.reduceSub, Nat.reduceEqDiff, reduceCtorEq, lerr3, ee, hA1, hA2, hlen, Int.cast_ofNat_Int, Int.reduceToNat, Int.reduceEq, Int.reduceLT, Int.reduceLE, Int.reduceNe]; exact rfl) ?_ rfl (by simp only [go_sem, Nat.reduceBEq, Nat.reduceBneDiff, Nat.reduceLT, Nat.reduceLeDiff, Nat.reduceAdd, Nat.reduceMul, Nat.reduceSub, Nat.reduceEqDiff, reduceCtorEq, lerr3, ee, hA1, hA2, hlen, Int.cast_ofNat_Int, Int.reduceToNat, Int.reduceEq, Int.reduceLT, Int.reduceLE, Int.reduceNe]) (by simp only [go_sem, Nat.reduceBEq, Nat.reduceBneDiff, Nat.reduceLT, Nat.reduceLeDiff, Nat.reduceAdd, Nat.reduceMul, Nat.reduceSub, Nat.reduceEqDiff, reduceCtorEq, lerr3, ee, hA1, hA2, hlen, Int.cast_ofNat_Int, Int.reduceToNat, Int.reduceEq, Int.reduceLT, Int.reduceLE, Int.reduceNe]) (hB) ?_)
    | (refine go_call1 (by simp only [go_sem, Nat.reduceBEq, Nat.reduceBneDiff, Nat.reduceLT, Nat.reduceLeDiff, Nat.reduceAdd, Nat.reduceMul, Nat.reduceSub, Nat.reduceEqDiff, reduceCtorEq, lerr3, ee, hA1, hA2, hlen, Int.cast_ofNat_Int, Int.reduceToNat, Int.reduceEq, Int.reduceLT, Int.reduceLE, Int.reduceNe]; exact rfl) ?_ rfl (by simp only [go_sem, Nat.reduceBEq, Nat.reduceBneDiff, Nat.reduceLT, Nat.reduceLeDiff, Nat.reduceAdd, Nat.reduceMul, Nat.reduceSub, Nat.reduceEqDiff, reduceCtorEq, lerr3, ee, hA1, hA2, hlen, Int.cast_ofNat_Int, Int.reduceToNat, Int.reduceEq, Int.reduceLT, Int.reduceLE, Int.reduceNe]) (by simp only [go_sem, Nat.reduceBEq, Nat.reduceBneDiff, Nat.reduceLT, Nat.reduceLeDiff, Nat.reduceAdd, Nat.reduceMul, Nat.reduceSub, Nat.reduceEqDiff, reduceCtorEq, lerr3, ee, hA1, hA2, hlen, Int.cast_ofNat_Int, Int.reduceToNat, Int.reduceEq, Int.reduceLT, Int.reduceLE, Int.reduceNe]) (hC) ?_)
    | (refine go_call (by simp only [go_sem, Nat.reduceBEq, Nat.reduceBneDiff, Nat.reduceLT, Nat.reduceLeDiff, Nat.reduceAdd, Nat.reduceMul, Nat.reduceSub, Nat.reduceEqDiff, reduceCtorEq, lerr3, ee, hA1, hA2, hlen, Int.cast_ofNat_Int, Int.reduceToNat, Int.reduceEq, Int.reduceLT, Int.reduceLE, Int.reduceNe]; exact rfl) ?_ (fun _ => same_any xs xs (by omega)) rfl ?_) | fail)) <;> (try omega)
    refine go_loop [0, 2, 17, 20] [] (fun i : Nat => ⟨[(0, true, vI x), (2, true, .lst 1 (v8 os)), (17, true, .lst 1 (v8 (diffs os e os.length))), (20, true, vI i)], []⟩)
      (fun i => i ≤ os.length ∧ ∀ k (hk : k < os.length), k < i → os[k] ≤ 4294967295) (fun i => os.length - i) 0 (by simp only [go_sem, Nat.reduceBEq, Nat.reduceBneDiff, Nat.reduceLT, Nat.reduceLeDiff, Nat.reduceAdd, Nat.reduceMul, Nat.reduceSub, Nat.reduceEqDiff, reduceCtorEq]; exact rfl) ⟨Nat.zero_le _, fun k hk h => by omega⟩ ?_
    intro i ⟨hi, hb⟩
    have hw1 := wrap_i64 (n := (i : Int) + 1) (by omega)
    by_cases hlt : i < os.length
    · have g1 := v8_get hlt
      have e1 : ((i : Int) < os.length) = True := eq_true (by omega)
      (repeat' (first
    | exact trivial
    | (with_reducible first | refine aw_seq ?_ | refine aw_block ?_ | refine aw_skip ?_ | refine aw_ret ?_ | refine aw_exit ?_ | refine aseq_normal ?_ | refine aseq_ret ?_ | refine aseq_exit ?_ | refine ablk_normal ?_ | refine ablk_ret ?_ | refine ablk_hit ?_ | refine aw_region ?_ | refine go_nil ?_ | refine al_of ?_)
    | with_reducible refine ablk_miss (by decide) ?_
    | ((with_reducible refine al_id ?_); refine go_run (tyOf_ok _) [] (by simp only [go_sem, Nat.reduceBEq, Nat.reduceBneDiff, Nat.reduceLT, Nat.reduceLeDiff, Nat.reduceAdd, Nat.reduceMul, Nat.reduceSub, Nat.reduceEqDiff, reduceCtorEq, hw1, e1, g1]; exact rfl) ?_ ?_)
    | (refine aw_cond (by simp only [go_sem, Nat.reduceBEq, Nat.reduceBneDiff, Nat.reduceLT, Nat.reduceLeDiff, Nat.reduceAdd, Nat.reduceMul, Nat.reduceSub, Nat.reduceEqDiff, reduceCtorEq, hw1, e1, g1]; exact rfl) (by simp only [go_sem, Nat.reduceBEq, Nat.reduceBneDiff, Nat.reduceLT, Nat.reduceLeDiff, Nat.reduceAdd, Nat.reduceMul, Nat.reduceSub, Nat.reduceEqDiff, reduceCtorEq]) (fun h => ?_) (fun h => ?_) <;> (try simp only [decide_eq_true_eq, decide_eq_false_iff_not, Bool.not_eq_true', Bool.not_eq_false', Bool.or_eq_true, Bool.or_eq_false_iff, Bool.and_eq_true, Bool.and_eq_false_iff, Decidable.not_not, reduceCtorEq] at h) <;> (try (exfalso; omega)))
    | (first | refine aend_ret (by simp only [go_sem, Nat.reduceBEq, Nat.reduceBneDiff, Nat.reduceLT, Nat.reduceLeDiff, Nat.reduceAdd, Nat.reduceMul, Nat.reduceSub, Nat.reduceEqDiff, reduceCtorEq, hw1, e1, g1]; exact rfl) ?_ ?_ | refine aend_normal (by simp only [go_sem, Nat.reduceBEq, Nat.reduceBneDiff, Nat.reduceLT, Nat.reduceLeDiff, Nat.reduceAdd, Nat.reduceMul, Nat.reduceSub, Nat.reduceEqDiff, reduceCtorEq, hw1, e1, g1]; exact rfl) ?_ ?_) | fail)) <;> (try omega)
      · exact rfl
      · refine ⟨i + 1, by simp only [go_sem, Nat.reduceBEq, Nat.reduceBneDiff, Nat.reduceLT, Nat.reduceLeDiff, Nat.reduceAdd, Nat.reduceMul, Nat.reduceSub, Nat.reduceEqDiff, reduceCtorEq]; exact rfl, ⟨hlt, fun k hk hki => ?_⟩, by omega⟩
        rcases Nat.lt_or_ge k i with h' | h'
        · exact hb k hk h'
        · have : k = i := by omega
          subst this; omega
    · have e1 : ((i : Int) < os.length) = False := eq_false (by omega)
      have hb' : ∀ o ∈ os, 0 ≤ o ∧ o ≤ 4294967295 := fun o ho' => by
        obtain ⟨k, hk, rfl⟩ := List.getElem_of_mem ho'
        have := bad_nonneg hx0 k hk fun j hj => offOK_bad hOK j (by omega)
        rw [getD_lt hk] at this
        exact ⟨this, hb k hk (by omega)⟩
      have hod := offs_of_diffs os x e hOK hb'
      have hdn := diffs_nonneg hOK
      have hofs : offsets x (diffs os e os.length) = (os, 0) := by
        unfold offsets
        rw [if_neg (by omega), if_neg (fun ⟨n, h1, h2⟩ => by have := hdn n h1; omega), hod]
      have hD := offsets_any x hx (diffs os e os.length) (by rw [diffs_length]; omega) (fun z hz => by
        have h0 := hdn z hz
        obtain ⟨k, hk, rfl⟩ := List.mem_map.1 hz
        rw [List.mem_range] at hk
        have h1 := hb' _ (List.getElem_mem hk)
        have h2 : os.getD (k + 1) e ≤ 9223372036854775807 := by
          rcases Nat.lt_or_ge (k + 1) os.length with h | h
          · rw [getD_lt h]; have := hb' _ (List.getElem_mem h); omega
          · rw [List.getD_eq_getElem?_getD, List.getElem?_eq_none h]; exact he64.2
        rw [getD_lt hk] at h0 ⊢
        exact ⟨by omega, by omega⟩)
      rw [hofs, lerr] at hD
      (repeat' (first
    | exact trivial
    | (with_reducible first | refine aw_seq ?_ | refine aw_block ?_ | refine aw_skip ?_ | refine aw_ret ?_ | refine aw_exit ?_ | refine aseq_normal ?_ | refine aseq_ret ?_ | refine aseq_exit ?_ | refine ablk_normal ?_ | refine ablk_ret ?_ | refine ablk_hit ?_ | refine aw_region ?_ | refine go_nil ?_ | refine al_of ?_)
    | with_reducible refine ablk_miss (by decide) ?_
    | ((with_reducible refine al_id ?_); refine go_run (tyOf_ok _) [] (by simp only [go_sem, Nat.reduceBEq, Nat.reduceBneDiff, Nat.reduceLT, Nat.reduceLeDiff, Nat.reduceAdd, Nat.reduceMul, Nat.reduceSub, Nat.reduceEqDiff, reduceCtorEq, hw1, e1, Int.cast_ofNat_Int, Int.reduceToNat, Int.reduceEq, Int.reduceLT, Int.reduceLE, Int.reduceNe]; exact rfl) ?_ ?_)
    | (refine aw_cond (by simp only [go_sem, Nat.reduceBEq, Nat.reduceBneDiff, Nat.reduceLT, Nat.reduceLeDiff, Nat.reduceAdd, Nat.reduceMul, Nat.reduceSub, Nat.reduceEqDiff, reduceCtorEq, hw1, e1, Int.cast_ofNat_Int, Int.reduceToNat, Int.reduceEq, Int.reduceLT, Int.reduceLE, Int.reduceNe]; exact rfl) (by simp only [go_sem, Nat.reduceBEq, Nat.reduceBneDiff, Nat.reduceLT, Nat.reduceLeDiff, Nat.reduceAdd, Nat.reduceMul, Nat.reduceSub, Nat.reduceEqDiff, reduceCtorEq]) (fun h => ?_) (fun h => ?_) <;> (try simp only [decide_eq_true_eq, decide_eq_false_iff_not, Bool.not_eq_true', Bool.not_eq_false', Bool.or_eq_true, Bool.or_eq_false_iff, Bool.and_eq_true, Bool.and_eq_false_iff, Decidable.not_not, reduceCtorEq] at h) <;> (try (exfalso; omega)))
    | (first | refine aend_ret (by simp only [go_sem, Nat.reduceBEq, Nat.reduceBneDiff, Nat.reduceLT, Nat.reduceLeDiff, Nat.reduceAdd, Nat.reduceMul, Nat.reduceSub, Nat.reduceEqDiff, reduceCtorEq, hw1, e1, Int.cast_ofNat_Int, Int.reduceToNat, Int.reduceEq, Int.reduceLT, Int.reduceLE, Int.reduceNe]; exact rfl) ?_ ?_ | refine aend_normal (by simp only [go_sem, Nat.reduceBEq, Nat.reduceBneDiff, Nat.reduceLT, Nat.reduceLeDiff, Nat.reduceAdd, Nat.reduceMul, Nat.reduceSub, Nat.reduceEqDiff, reduceCtorEq, hw1, e1, Int.cast_ofNat_Int, Int.reduceToNat, Int.reduceEq, Int.reduceLT, Int.reduceLE, Int.reduceNe]; exact rfl) ?_ ?_)
    | (refine go_call1 (by simp only [go_sem, Nat.reduceBEq, Nat.reduceBneDiff, Nat.reduceLT, Nat.reduceLeDiff, Nat.reduceAdd, Nat.reduceMul, Nat.reduceSub, Nat.reduceEqDiff, reduceCtorEq, hw1, e1, Int.cast_ofNat_Int, Int.reduceToNat, Int.reduceEq, Int.reduceLT, Int.reduceLE, Int.reduceNe]; exact rfl) ?_ rfl (by simp only [go_sem, Nat.reduceBEq, Nat.reduceBneDiff, Nat.reduceLT, Nat.reduceLeDiff, Nat.reduceAdd, Nat.reduceMul, Nat.reduceSub, Nat.reduceEqDiff, reduceCtorEq, hw1, e1, Int.cast_ofNat_Int, Int.reduceToNat, Int.reduceEq, Int.reduceLT, Int.reduceLE, Int.reduceNe]) (by simp only [go_sem, Nat.reduceBEq, Nat.reduceBneDiff, Nat.reduceLT, Nat.reduceLeDiff, Nat.reduceAdd, Nat.reduceMul, Nat.reduceSub, Nat.reduceEqDiff, reduceCtorEq, hw1, e1, Int.cast_ofNat_Int, Int.reduceToNat, Int.reduceEq, Int.reduceLT, Int.reduceLE, Int.reduceNe]) (hD) ?_)
    | (refine go_call (by simp only [go_sem, Nat.reduceBEq, Nat.reduceBneDiff, Nat.reduceLT, Nat.reduceLeDiff, Nat.reduceAdd, Nat.reduceMul, Nat.reduceSub, Nat.reduceEqDiff, reduceCtorEq, hw1, e1, Int.cast_ofNat_Int, Int.reduceToNat, Int.reduceEq, Int.reduceLT, Int.reduceLE, Int.reduceNe]; exact rfl) ?_ (fun _ => same_any os os (by omega)) rfl ?_) | fail)) <;> (try omega)
      exact rfl
  obtain ⟨hx0, hn0, hofs⟩ := offsets_ok (x := x) (xs := xs) (o := (offsets x xs).1) (by rw [← h0])
  generalize hoo : (offsets x xs).1 = o at hofs
  have hoe : offsets x xs = (o, 0) := by rw [← hoo, ← h0]
  rw [hoe, lerr] at ho
  obtain ⟨hol', hdf, hOKo⟩ := offs_back xs x o hx0 hn0 hofs
  have hoI := offs_I64 hx0 hn0 hofs
  have hx63 : x ≤ 9223372036854775807 := hx.2
  have hsn := sum_nonneg xs hn0
  (repeat' (first
    | exact trivial
    | (with_reducible first | refine aw_seq ?_ | refine aw_block ?_ | refine aw_skip ?_ | refine aw_ret ?_ | refine aw_exit ?_ | refine aseq_normal ?_ | refine aseq_ret ?_ | refine aseq_exit ?_ | refine ablk_normal ?_ | refine ablk_ret ?_ | refine ablk_hit ?_ | refine aw_region ?_ | refine go_nil ?_ | refine al_of ?_)
    | with_reducible refine ablk_miss (by decide) ?_
    | ((with_reducible refine al_id ?_); refine go_run (tyOf_ok _) [] (by simp only [go_sem, Nat.reduceBEq, Nat.reduceBneDiff, Nat.reduceLT, Nat.reduceLeDiff, Nat.reduceAdd, Nat.reduceMul, Nat.reduceSub, Nat.reduceEqDiff, reduceCtorEq, Int.cast_ofNat_Int, Int.reduceToNat, Int.reduceEq, Int.reduceLT, Int.reduceLE, Int.reduceNe]; exact rfl) ?_ ?_)
    | (refine aw_cond (by simp only [go_sem, Nat.reduceBEq, Nat.reduceBneDiff, Nat.reduceLT, Nat.reduceLeDiff, Nat.reduceAdd, Nat.reduceMul, Nat.reduceSub, Nat.reduceEqDiff, reduceCtorEq, Int.cast_ofNat_Int, Int.reduceToNat, Int.reduceEq, Int.reduceLT, Int.reduceLE, Int.reduceNe]; exact rfl) (by simp only [go_sem, Nat.reduceBEq, Nat.reduceBneDiff, Nat.reduceLT, Nat.reduceLeDiff, Nat.reduceAdd, Nat.reduceMul, Nat.reduceSub, Nat.reduceEqDiff, reduceCtorEq]) (fun h => ?_) (fun h => ?_) <;> (try simp only [decide_eq_true_eq, decide_eq_false_iff_not, Bool.not_eq_true', Bool.not_eq_false', Bool.or_eq_true, Bool.or_eq_false_iff, Bool.and_eq_true, Bool.and_eq_false_iff, Decidable.not_not, reduceCtorEq] at h) <;> (try (exfalso; omega)))
    | (first | refine aend_ret (by simp only [go_sem, Nat.reduceBEq, Nat.reduceBneDiff, Nat.reduceLT, Nat.reduceLeDiff, Nat.reduceAdd, Nat.reduceMul, Nat.reduceSub, Nat.reduceEqDiff, reduceCtorEq, Int.cast_ofNat_Int, Int.reduceToNat, Int.reduceEq, Int.reduceLT, Int.reduceLE, Int.reduceNe]; exact rfl) ?_ ?_ | refine aend_normal (by simp only [go_sem, Nat.reduceBEq, Nat.reduceBneDiff, Nat.reduceLT, Nat.reduceLeDiff, Nat.reduceAdd, Nat.reduceMul, Nat.reduceSub, Nat.reduceEqDiff, reduceCtorEq, Int.cast_ofNat_Int, Int.reduceToNat, Int.reduceEq, Int.reduceLT, Int.reduceLE, Int.reduceNe]; exact rfl) ?_ ?_)
    | (refine go_call (by simp only [go_sem, Nat.reduceBEq, Nat.reduceBneDiff, Nat.reduceLT, Nat.reduceLeDiff, Nat.reduceAdd, Nat.reduceMul, Nat.reduceSub, Nat.reduceEqDiff, reduceCtorEq, Int.cast_ofNat_Int, Int.reduceToNat, Int.reduceEq, Int.reduceLT, Int.reduceLE, Int.reduceNe]; exact rfl) ?_ (fun _ => awake13) rfl ?_)
    | (refine go_call1 (by simp only [go_sem, Nat.reduceBEq, Nat.reduceBneDiff, Nat.reduceLT, Nat.reduceLeDiff, Nat.reduceAdd, Nat.reduceMul, Nat.reduceSub, Nat.reduceEqDiff, reduceCtorEq, Int.cast_ofNat_Int, Int.reduceToNat, Int.reduceEq, Int.reduceLT, Int.reduceLE, Int.reduceNe]; exact rfl) ?_ rfl (by simp only [go_sem, Nat.reduceBEq, Nat.reduceBneDiff, Nat.reduceLT, Nat.reduceLeDiff, Nat.reduceAdd, Nat.reduceMul, Nat.reduceSub, Nat.reduceEqDiff, reduceCtorEq, Int.cast_ofNat_Int, Int.reduceToNat, Int.reduceEq, Int.reduceLT, Int.reduceLE, Int.reduceNe]) (by simp only [go_sem, Nat.reduceBEq, Nat.reduceBneDiff, Nat.reduceLT, Nat.reduceLeDiff, Nat.reduceAdd, Nat.reduceMul, Nat.reduceSub, Nat.reduceEqDiff, reduceCtorEq, Int.cast_ofNat_Int, Int.reduceToNat, Int.reduceEq, Int.reduceLT, Int.reduceLE, Int.reduceNe]) (ho) ?_) | fail)) <;> (try omega)
  refine go_loop [0, 1, 2, 3, 9, 11, 12, 13] [] (fun y : Nat × Int × Bool => ⟨[(0, true, vI x), (1, true, .lst 1 (v8 xs)), (2, true, .lst 1 (v8 os)), (3, true, vI e), (9, true, .lst 1 (v8 o)), (11, true, vI y.2.1), (12, true, vB y.2.2), (13, true, vI y.1)], []⟩)
    (fun y => y.1 ≤ xs.length ∧ 0 ≤ y.2.1 ∧ y.2.1 ≤ 9223372036854775807 ∧ (y.2.2 = true → y.2.1 = x + (xs.take y.1).sum)) (fun y => xs.length - y.1) (0, x, true) (by simp only [go_sem, Nat.reduceBEq, Nat.reduceBneDiff, Nat.reduceLT, Nat.reduceLeDiff, Nat.reduceAdd, Nat.reduceMul, Nat.reduceSub, Nat.reduceEqDiff, reduceCtorEq]; exact rfl) ⟨Nat.zero_le _, hx0, by simp only; omega, fun _ => by simp⟩ ?_
  intro ⟨i, all, fits⟩ ⟨hi, ha0, ha1, hfit⟩
  simp only at hi ha0 ha1 hfit ⊢
  have hw1 := wrap_i64 (n := (i : Int) + 1) (by omega)
  have hw2 := wrap_i64 (n := 4611686018427387904 - all) (by omega)
  by_cases hlt : i < xs.length
  · have g1 := v8_get hlt
    have e1 : ((i : Int) < xs.length) = True := eq_true (by omega)
    have hn := hn0 _ (List.getElem_mem hlt)
    have hss := sum_succ hlt
    cases fits with
    | false =>
      (repeat' (first
    | exact trivial
    | (with_reducible first | refine aw_seq ?_ | refine aw_block ?_ | refine aw_skip ?_ | refine aw_ret ?_ | refine aw_exit ?_ | refine aseq_normal ?_ | refine aseq_ret ?_ | refine aseq_exit ?_ | refine ablk_normal ?_ | refine ablk_ret ?_ | refine ablk_hit ?_ | refine aw_region ?_ | refine go_nil ?_ | refine al_of ?_)
    | with_reducible refine ablk_miss (by decide) ?_
    | ((with_reducible refine al_id ?_); refine go_run (tyOf_ok _) [] (by simp only [go_sem, Nat.reduceBEq, Nat.reduceBneDiff, Nat.reduceLT, Nat.reduceLeDiff, Nat.reduceAdd, Nat.reduceMul, Nat.reduceSub, Nat.reduceEqDiff, reduceCtorEq, hw1, hw2, e1, g1]; exact rfl) ?_ ?_)
    | (refine aw_cond (by simp only [go_sem, Nat.reduceBEq, Nat.reduceBneDiff, Nat.reduceLT, Nat.reduceLeDiff, Nat.reduceAdd, Nat.reduceMul, Nat.reduceSub, Nat.reduceEqDiff, reduceCtorEq, hw1, hw2, e1, g1]; exact rfl) (by simp only [go_sem, Nat.reduceBEq, Nat.reduceBneDiff, Nat.reduceLT, Nat.reduceLeDiff, Nat.reduceAdd, Nat.reduceMul, Nat.reduceSub, Nat.reduceEqDiff, reduceCtorEq]) (fun h => ?_) (fun h => ?_) <;> (try simp only [decide_eq_true_eq, decide_eq_false_iff_not, Bool.not_eq_true', Bool.not_eq_false', Bool.or_eq_true, Bool.or_eq_false_iff, Bool.and_eq_true, Bool.and_eq_false_iff, Decidable.not_not, reduceCtorEq] at h) <;> (try (exfalso; omega)))
    | (first | refine aend_ret (by simp only [go_sem, Nat.reduceBEq, Nat.reduceBneDiff, Nat.reduceLT, Nat.reduceLeDiff, Nat.reduceAdd, Nat.reduceMul, Nat.reduceSub, Nat.reduceEqDiff, reduceCtorEq, hw1, hw2, e1, g1]; exact rfl) ?_ ?_ | refine aend_normal (by simp only [go_sem, Nat.reduceBEq, Nat.reduceBneDiff, Nat.reduceLT, Nat.reduceLeDiff, Nat.reduceAdd, Nat.reduceMul, Nat.reduceSub, Nat.reduceEqDiff, reduceCtorEq, hw1, hw2, e1, g1]; exact rfl) ?_ ?_) | fail)) <;> (try omega)
      exact ⟨(i + 1, all, false), by simp only [go_sem, Nat.reduceBEq, Nat.reduceBneDiff, Nat.reduceLT, Nat.reduceLeDiff, Nat.reduceAdd, Nat.reduceMul, Nat.reduceSub, Nat.reduceEqDiff, reduceCtorEq]; exact rfl, ⟨hlt, ha0, ha1, fun h => by cases h⟩, by simp only; omega⟩
    | true =>
      have hfit := hfit rfl
      have hw3 := fun h : xs[i] ≤ 4611686018427387904 - all => wrap_i64 (n := all + xs[i]) (by omega)
      by_cases hle : xs[i] ≤ 4611686018427387904 - all
      · have e2 : (xs[i] ≤ 4611686018427387904 - all) = True := eq_true hle
        (repeat' (first
    | exact trivial
    | (with_reducible first | refine aw_seq ?_ | refine aw_block ?_ | refine aw_skip ?_ | refine aw_ret ?_ | refine aw_exit ?_ | refine aseq_normal ?_ | refine aseq_ret ?_ | refine aseq_exit ?_ | refine ablk_normal ?_ | refine ablk_ret ?_ | refine ablk_hit ?_ | refine aw_region ?_ | refine go_nil ?_ | refine al_of ?_)
    | with_reducible refine ablk_miss (by decide) ?_
    | ((with_reducible refine al_id ?_); refine go_run (tyOf_ok _) [] (by simp only [go_sem, Nat.reduceBEq, Nat.reduceBneDiff, Nat.reduceLT, Nat.reduceLeDiff, Nat.reduceAdd, Nat.reduceMul, Nat.reduceSub, Nat.reduceEqDiff, reduceCtorEq, hw1, hw2, hw3 hle, e1, e2, g1]; exact rfl) ?_ ?_)
    | (refine aw_cond (by simp only [go_sem, Nat.reduceBEq, Nat.reduceBneDiff, Nat.reduceLT, Nat.reduceLeDiff, Nat.reduceAdd, Nat.reduceMul, Nat.reduceSub, Nat.reduceEqDiff, reduceCtorEq, hw1, hw2, hw3 hle, e1, e2, g1]; exact rfl) (by simp only [go_sem, Nat.reduceBEq, Nat.reduceBneDiff, Nat.reduceLT, Nat.reduceLeDiff, Nat.reduceAdd, Nat.reduceMul, Nat.reduceSub, Nat.reduceEqDiff, reduceCtorEq]) (fun h => ?_) (fun h => ?_) <;> (try simp only [decide_eq_true_eq, decide_eq_false_iff_not, Bool.not_eq_true', Bool.not_eq_false', Bool.or_eq_true, Bool.or_eq_false_iff, Bool.and_eq_true, Bool.and_eq_false_iff, Decidable.not_not, reduceCtorEq] at h) <;> (try (exfalso; omega)))
    | (first | refine aend_ret (by simp only [go_sem, Nat.reduceBEq, Nat.reduceBneDiff, Nat.reduceLT, Nat.reduceLeDiff, Nat.reduceAdd, Nat.reduceMul, Nat.reduceSub, Nat.reduceEqDiff, reduceCtorEq, hw1, hw2, hw3 hle, e1, e2, g1]; exact rfl) ?_ ?_ | refine aend_normal (by simp only [go_sem, Nat.reduceBEq, Nat.reduceBneDiff, Nat.reduceLT, Nat.reduceLeDiff, Nat.reduceAdd, Nat.reduceMul, Nat.reduceSub, Nat.reduceEqDiff, reduceCtorEq, hw1, hw2, hw3 hle, e1, e2, g1]; exact rfl) ?_ ?_) | fail)) <;> (try omega)
        exact ⟨(i + 1, all + xs[i], true), by simp only [go_sem, Nat.reduceBEq, Nat.reduceBneDiff, Nat.reduceLT, Nat.reduceLeDiff, Nat.reduceAdd, Nat.reduceMul, Nat.reduceSub, Nat.reduceEqDiff, reduceCtorEq]; exact rfl, ⟨hlt, by simp only; omega, by simp only; omega, fun _ => by simp only; rw [hss]; omega⟩, by simp only; omega⟩
      · have e2 : (xs[i] ≤ 4611686018427387904 - all) = False := eq_false hle
        (repeat' (first
    | exact trivial
    | (with_reducible first | refine aw_seq ?_ | refine aw_block ?_ | refine aw_skip ?_ | refine aw_ret ?_ | refine aw_exit ?_ | refine aseq_normal ?_ | refine aseq_ret ?_ | refine aseq_exit ?_ | refine ablk_normal ?_ | refine ablk_ret ?_ | refine ablk_hit ?_ | refine aw_region ?_ | refine go_nil ?_ | refine al_of ?_)
    | with_reducible refine ablk_miss (by decide) ?_
    | ((with_reducible refine al_id ?_); refine go_run (tyOf_ok _) [] (by simp only [go_sem, Nat.reduceBEq, Nat.reduceBneDiff, Nat.reduceLT, Nat.reduceLeDiff, Nat.reduceAdd, Nat.reduceMul, Nat.reduceSub, Nat.reduceEqDiff, reduceCtorEq, hw1, hw2, e1, e2, g1]; exact rfl) ?_ ?_)
    | (refine aw_cond (by simp only [go_sem, Nat.reduceBEq, Nat.reduceBneDiff, Nat.reduceLT, Nat.reduceLeDiff, Nat.reduceAdd, Nat.reduceMul, Nat.reduceSub, Nat.reduceEqDiff, reduceCtorEq, hw1, hw2, e1, e2, g1]; exact rfl) (by simp only [go_sem, Nat.reduceBEq, Nat.reduceBneDiff, Nat.reduceLT, Nat.reduceLeDiff, Nat.reduceAdd, Nat.reduceMul, Nat.reduceSub, Nat.reduceEqDiff, reduceCtorEq]) (fun h => ?_) (fun h => ?_) <;> (try simp only [decide_eq_true_eq, decide_eq_false_iff_not, Bool.not_eq_true', Bool.not_eq_false', Bool.or_eq_true, Bool.or_eq_false_iff, Bool.and_eq_true, Bool.and_eq_false_iff, Decidable.not_not, reduceCtorEq] at h) <;> (try (exfalso; omega)))
    | (first | refine aend_ret (by simp only [go_sem, Nat.reduceBEq, Nat.reduceBneDiff, Nat.reduceLT, Nat.reduceLeDiff, Nat.reduceAdd, Nat.reduceMul, Nat.reduceSub, Nat.reduceEqDiff, reduceCtorEq, hw1, hw2, e1, e2, g1]; exact rfl) ?_ ?_ | refine aend_normal (by simp only [go_sem, Nat.reduceBEq, Nat.reduceBneDiff, Nat.reduceLT, Nat.reduceLeDiff, Nat.reduceAdd, Nat.reduceMul, Nat.reduceSub, Nat.reduceEqDiff, reduceCtorEq, hw1, hw2, e1, e2, g1]; exact rfl) ?_ ?_) | fail)) <;> (try omega)
        exact ⟨(i + 1, all, false), by simp only [go_sem, Nat.reduceBEq, Nat.reduceBneDiff, Nat.reduceLT, Nat.reduceLeDiff, Nat.reduceAdd, Nat.reduceMul, Nat.reduceSub, Nat.reduceEqDiff, reduceCtorEq]; exact rfl, ⟨hlt, ha0, ha1, fun h => by cases h⟩, by simp only; omega⟩
  · have e1 : ((i : Int) < xs.length) = False := eq_false (by omega)
    cases fits with
    | false =>
      have hC := hB
      have hA1 := e1
      have hA2 := hw1
      by_cases he : (lengths x os e).2.2 = 0
      case neg =>
        have ee : ((lengths x os e).2.2 = 0) = False := eq_false he
        have e0 : (lengths x os e).1 = [] := by
          unfold lengths at he ⊢
          split
          · rfl
          · split
            · rfl
            · exfalso; apply he; simp_all
        (repeat' (first
    | exact trivial
    | (with_reducible first | refine aw_seq ?_ | refine aw_block ?_ | refine aw_skip ?_ | refine aw_ret ?_ | refine aw_exit ?_ | refine aseq_normal ?_ | refine aseq_ret ?_ | refine aseq_exit ?_ | refine ablk_normal ?_ | refine ablk_ret ?_ | refine ablk_hit ?_ | refine aw_region ?_ | refine go_nil ?_ | refine al_of ?_)
    | with_reducible refine ablk_miss (by decide) ?_
    | ((with_reducible refine al_id ?_); refine go_run (tyOf_ok _) [] (by simp only [go_sem, Nat.reduceBEq, Nat.reduceBneDiff, Nat.reduceLT, Nat.reduceLeDiff, Nat.reduceAdd, Nat.reduceMul, Nat.reduceSub, Nat.reduceEqDiff, reduceCtorEq, lerr3, ee, e0, hA1, hA2, Int.cast_ofNat_Int, Int.reduceToNat, Int.reduceEq, Int.reduceLT, Int.reduceLE, Int.reduceNe]; exact rfl) ?_ ?_)
    | (refine aw_cond (by simp only [go_sem, Nat.reduceBEq, Nat.reduceBneDiff, Nat.reduceLT, Nat.reduceLeDiff, Nat.reduceAdd, Nat.reduceMul, Nat.reduceSub, Nat.reduceEqDiff, reduceCtorEq, lerr3, ee, e0, hA1, hA2, Int.cast_ofNat_Int, Int.reduceToNat, Int.reduceEq, Int.reduceLT, Int.reduceLE, Int.reduceNe]; exact rfl) (by simp only [go_sem, Nat.reduceBEq, Nat.reduceBneDiff, Nat.reduceLT, Nat.reduceLeDiff, Nat.reduceAdd, Nat.reduceMul, Nat.reduceSub, Nat.reduceEqDiff, reduceCtorEq]) (fun h => ?_) (fun h => ?_) <;> (try simp only [decide_eq_true_eq, decide_eq_false_iff_not, Bool.not_eq_true', Bool.not_eq_false', Bool.or_eq_true, Bool.or_eq_false_iff, Bool.and_eq_true, Bool.and_eq_false_iff, Decidable.not_not, reduceCtorEq] at h) <;> (try (exfalso; omega)))
    | (first | refine aend_ret (by simp only [go_sem, Nat.reduceBEq, Nat.reduceBneDiff, Nat.reduceLT, Nat.reduceLeDiff, Nat.reduceAdd, Nat.reduceMul, Nat.reduceSub, Nat.reduceEqDiff, reduceCtorEq, lerr3, ee, e0, hA1, hA2, Int.cast_ofNat_Int, Int.reduceToNat, Int.reduceEq, Int.reduceLT, Int.reduceLE, Int.reduceNe]; exact rfl) ?_ ?_ | refine aend_normal (by simp only [go_sem, Nat.reduceBEq, Nat.reduceBneDiff, Nat.reduceLT, Nat.reduceLeDiff, Nat.reduceAdd, Nat.reduceMul, Nat.reduceSub, Nat.reduceEqDiff, reduceCtorEq, lerr3, ee, e0, hA1, hA2, Int.cast_ofNat_Int, Int.reduceToNat, Int.reduceEq, Int.reduceLT, Int.reduceLE, Int.reduceNe]; exact rfl) ?_ ?_)
    | (refine go_call (by simp only [go_sem, Nat.reduceBEq, Nat.reduceBneDiff, Nat.reduceLT, Nat.reduceLeDiff, Nat.reduceAdd, Nat.reduceMul, Nat.reduceSub, Nat.reduceEqDiff, reduceCtorEq, lerr3, ee, e0, hA1, hA2, Int.cast_ofNat_Int, Int.reduceToNat, Int.reduceEq, Int.reduceLT, Int.reduceLE, Int.reduceNe]; exact rfl) ?_ (fun _ => awake13) rfl ?_)
    | (refine go_call1 (by simp only [go_sem, Nat.reduceBEq, Nat.reduceBneDiff, Nat.reduceLT, Nat.reduceLeDiff, Nat.reduceAdd, Nat.reduceMul, Nat.reduceSub, Nat.reduceEqDiff, reduceCtorEq, lerr3, ee, e0, hA1, hA2, Int.cast_ofNat_Int, Int.reduceToNat, Int.reduceEq, Int.reduceLT, Int.reduceLE, Int.reduceNe]; exact rfl) ?_ rfl (by simp only [go_sem, Nat.reduceBEq, Nat.reduceBneDiff, Nat.reduceLT, Nat.reduceLeDiff, Nat.reduceAdd, Nat.reduceMul, Nat.reduceSub, Nat.reduceEqDiff, reduceCtorEq, lerr3, ee, e0, hA1, hA2, Int.cast_ofNat_Int, Int.reduceToNat, Int.reduceEq, Int.reduceLT, Int.reduceLE, Int.reduceNe]) (by simp only [go_sem, Nat.reduceBEq, Nat.reduceBneDiff, Nat.reduceLT, Nat.reduceLeDiff, Nat.reduceAdd, Nat.reduceMul, Nat.reduceSub, Nat.reduceEqDiff, reduceCtorEq, lerr3, ee, e0, hA1, hA2, Int.cast_ofNat_Int, Int.reduceToNat, Int.reduceEq, Int.reduceLT, Int.reduceLE, Int.reduceNe]) (ho) ?_)
    | (refine go_call1 (by simp only [go_sem, Nat.reduceBEq, Nat.reduceBneDiff, Nat.reduceLT, Nat.reduceLeDiff, Nat.reduceAdd, Nat.reduceMul, Nat.reduceSub, Nat.reduceEqDiff, reduceCtorEq, lerr3, ee, e0, hA1, hA2, Int.cast_ofNat_Int, Int.reduceToNat, Int.reduceEq, Int.reduceLT, Int.reduceLE, Int.reduceNe]; exact rfl) ?_ rfl (by simp only [go_sem, Nat.reduceBEq, Nat.reduceBneDiff, Nat.reduceLT, Nat.reduceLeDiff, Nat.reduceAdd, Nat.reduceMul, Nat.reduceSub, Nat.reduceEqDiff, reduceCtorEq, lerr3, ee, e0, hA1, hA2, Int.cast_ofNat_Int, Int.reduceToNat, Int.reduceEq, Int.reduceLT, Int.reduceLE, Int.reduceNe]) (by simp only [go_sem, Nat.reduceBEq, Nat.reduceBneDiff, Nat.reduceLT, Nat.reduceLeDiff, Nat.reduceAdd, Nat.reduceMul, Nat.reduceSub, Nat.reduceEqDiff, reduceCtorEq, lerr3, ee, e0, hA1, hA2, Int.cast_ofNat_Int, Int.reduceToNat, Int.reduceEq, Int.reduceLT, Int.reduceLE, Int.reduceNe]) (hB) ?_)
    | (refine go_call1 (by simp only [go_sem, Nat.reduceBEq, Nat.reduceBneDiff, Nat.reduceLT, Nat.reduceLeDiff, Nat.reduceAdd, Nat.reduceMul, Nat.reduceSub, Nat.reduceEqDiff, reduceCtorEq, lerr3, ee, e0, hA1, hA2, Int.cast_ofNat_Int, Int.reduceToNat, Int.reduceEq, Int.reduceLT, Int.reduceLE, Int.reduceNe]; exact rfl) ?_ rfl (by simp only [go_sem, Nat.reduceBEq, Nat.reduceBneDiff, Nat.reduceLT, Nat.reduceLeDiff, Nat.reduceAdd, Nat.reduceMul, Nat.reduceSub, Nat.reduceEqDiff, reduceCtorEq, lerr3, ee, e0, hA1, hA2, Int.cast_ofNat_Int, Int.reduceToNat, Int.reduceEq, Int.reduceLT, Int.reduceLE, Int.reduceNe]) (by simp only [go_sem, Nat.reduceBEq, Nat.reduceBneDiff, Nat.reduceLT, Nat.reduceLeDiff, Nat.reduceAdd, Nat.reduceMul, Nat.reduceSub, Nat.reduceEqDiff, reduceCtorEq, lerr3, ee, e0, hA1, hA2, Int.cast_ofNat_Int, Int.reduceToNat, Int.reduceEq, Int.reduceLT, Int.reduceLE, Int.reduceNe]) (hC) ?_)
    | (refine go_call (by simp only [go_sem, Nat.reduceBEq, Nat.reduceBneDiff, Nat.reduceLT, Nat.reduceLeDiff, Nat.reduceAdd, Nat.reduceMul, Nat.reduceSub, Nat.reduceEqDiff, reduceCtorEq, lerr3, ee, e0, hA1, hA2, Int.cast_ofNat_Int, Int.reduceToNat, Int.reduceEq, Int.reduceLT, Int.reduceLE, Int.reduceNe]; exact rfl) ?_ (fun _ => same_any xs xs (by omega)) rfl ?_) | fail)) <;> (try omega)
        exact rfl
      have ee : ((lengths x os e).2.2 = 0) = True := eq_true he
      have hlen : lengths x os e = (diffs os e os.length, 0, 0) ∧ 0 ≤ x ∧ OffOK x os e := by
        unfold lengths at he ⊢
        split at he
        · cases he
        · rename_i hx0
          split at he
          · cases he
          · rename_i hn
            rw [List.find?_range_eq_none] at hn
            rw [if_neg hx0]
            have := offOK_of (x := x) (os := os) (e := e) fun i hi => by simpa using hn i hi
            exact ⟨rfl, by omega, this⟩
      obtain ⟨hlen, hx0, hOK⟩ := hlen
      (repeat' (first
    | exact trivial
    | (with_reducible first | refine aw_seq ?_ | refine aw_block ?_ | refine aw_skip ?_ | refine aw_ret ?_ | refine aw_exit ?_ | refine aseq_normal ?_ | refine aseq_ret ?_ | refine aseq_exit ?_ | refine ablk_normal ?_ | refine ablk_ret ?_ | refine ablk_hit ?_ | refine aw_region ?_ | refine go_nil ?_ | refine al_of ?_)
    | with_reducible refine ablk_miss (by decide) ?_
    | ((with_reducible refine al_id ?_); refine go_run (tyOf_ok _) [] (by simp only [go_sem, Nat.reduceBEq, Nat.reduceBneDiff, Nat.reduceLT, Nat.reduceLeDiff, Nat.reduceAdd, Nat.reduceMul, Nat.reduceSub, Nat.reduceEqDiff, reduceCtorEq, lerr3, ee, hA1, hA2, hlen, Int.cast_ofNat_Int, Int.reduceToNat, Int.reduceEq, Int.reduceLT, Int.reduceLE, Int.reduceNe]; exact rfl) ?_ ?_)
    | (refine aw_cond (by simp only [go_sem, Nat.reduceBEq, Nat.reduceBneDiff, Nat.reduceLT, Nat.reduceLeDiff, Nat.reduceAdd, Nat.reduceMul, Nat.reduceSub, Nat.reduceEqDiff, reduceCtorEq, lerr3, ee, hA1, hA2, hlen, Int.cast_ofNat_Int, Int.reduceToNat, Int.reduceEq, Int.reduceLT, Int.reduceLE, Int.reduceNe]; exact rfl) (by simp only [go_sem, Nat.reduceBEq, Nat.reduceBneDiff, Nat.reduceLT, Nat.reduceLeDiff, Nat.reduceAdd, Nat.reduceMul, Nat.reduceSub, Nat.reduceEqDiff, reduceCtorEq]) (fun h => ?_) (fun h => ?_) <;> (try simp only [decide_eq_true_eq, decide_eq_false_iff_not, Bool.not_eq_true', Bool.not_eq_false', Bool.or_eq_true, Bool.or_eq_false_iff, Bool.and_eq_true, Bool.and_eq_false_iff, Decidable.not_not, reduceCtorEq] at h) <;> (try (exfalso; omega)))
    | (first | refine aend_ret (by simp only [go_sem, Nat.reduceBEq, Nat.reduceBneDiff, Nat.reduceLT, Nat.reduceLeDiff, Nat.reduceAdd, Nat.reduceMul, Nat.reduceSub, Nat.reduceEqDiff, reduceCtorEq, lerr3, ee, hA1, hA2, hlen, Int.cast_ofNat_Int, Int.reduceToNat, Int.reduceEq, Int.reduceLT, Int.reduceLE, Int.reduceNe]; exact rfl) ?_ ?_ | refine aend_normal (by simp only [go_sem, Nat.reduceBEq, Nat.reduceBneDiff, Nat.reduceLT, Nat.reduceLeDiff, Nat.reduceAdd, Nat.reduceMul, Nat.reduceSub, Nat.reduceEqDiff, reduceCtorEq, lerr3, ee, hA1, hA2, hlen, Int.cast_ofNat_Int, Int.reduceToNat, Int.reduceEq, Int.reduceLT, Int.reduceLE, Int.reduceNe]; exact rfl) ?_ ?_)
    | (refine go_call (by simp only [go_sem, Nat.reduceBEq, Nat.reduceBneDiff, Nat.reduceLT, Nat.reduceLeDiff, Nat.reduceAdd, Nat.reduceMul, Nat.reduceSub, Nat.reduceEqDiff, reduceCtorEq, lerr3, ee, hA1, hA2, hlen, Int.cast_ofNat_Int, Int.reduceToNat, Int.reduceEq, Int.reduceLT, Int.reduceLE, Int.reduceNe]; exact rfl) ?_ (fun _ => awake13) rfl ?_)
    | (refine go_call1 (by simp only [go_sem, Nat.reduceBEq, Nat.reduceBneDiff, Nat.reduceLT, Nat.reduceLeDiff, Nat.reduceAdd, Nat.reduceMul, Nat.reduceSub, Nat.reduceEqDiff, reduceCtorEq, lerr3, ee, hA1, hA2, hlen, Int.cast_ofNat_Int, Int.reduceToNat, Int.reduceEq, Int.reduceLT, Int.reduceLE, Int.reduceNe]; exact rfl) ?_ rfl (by simp only [go_sem, Nat.reduceBEq, Nat.reduceBneDiff, Nat.reduceLT, Nat.reduceLeDiff, Nat.reduceAdd, Nat.reduceMul, Nat.reduceSub, Nat.reduceEqDiff, reduceCtorEq, lerr3, ee, hA1, hA2, hlen, Int.cast_ofNat_Int, Int.reduceToNat, Int.reduceEq, Int.reduceLT, Int.reduceLE, Int.reduceNe]) (by simp only [go_sem, Nat.reduceBEq, Nat.reduceBneDiff, Nat.reduceLT, Nat.reduceLeDiff, Nat.reduceAdd, Nat.reduceMul, Nat.reduceSub, Nat.reduceEqDiff, reduceCtorEq, lerr3, ee, hA1, hA2, hlen, Int.cast_ofNat_Int, Int.reduceToNat, Int.reduceEq, Int.reduceLT, Int.reduceLE, Int.reduceNe]) (ho) ?_)
    | (refine go_call1 (by simp only [go_sem, Nat.reduceBEq, Nat.reduceBneDiff, Nat.reduceLT, Nat.reduceLeDiff, Nat.reduceAdd, Nat.reduceMul, Nat.reduceSub, Nat.reduceEqDiff, reduceCtorEq, lerr3, ee, hA1, hA2, hlen, Int.cast_ofNat_Int, Int.reduceToNat, Int.reduceEq, Int.reduceLT, Int.reduceLE, Int.reduceNe]; exact rfl) ?_ rfl (by simp only [go_sem, Nat.reduceBEq, Nat.reduceBneDiff, Nat.reduceLT, Nat.reduceLeDiff, Nat.reduceAdd, Nat.reduceMul, Nat.reduceSub, Nat.reduceEqDiff, reduceCtorEq, lerr3, ee, hA1, hA2, hlen, Int.cast_ofNat_Int, Int.reduceToNat, Int.reduceEq, Int.reduceLT, Int.reduceLE, Int.reduceNe]) (by simp only [go_sem, Nat.reduceBEq, Nat.reduceBneDiff, Nat.reduceLT, Nat.reduceLeDiff, Nat.reduceAdd, Nat.reduceMul, Nat.reduceSub, Nat.reduceEqDiff, reduceCtorEq, lerr3, ee, hA1, hA2, hlen, Int.cast_ofNat_Int, Int.reduceToNat, Int.reduceEq, Int.reduceLT, Int.reduceLE, Int.reduceNe]) (hB) ?_)
    | (refine go_call1 (by simp only [go_sem, Nat.reduceBEq, Nat.reduceBneDiff, Nat.reduceLT, Nat.reduceLeDiff, Nat.reduceAdd, Nat.reduceMul, Nat.reduceSub, Nat.reduceEqDiff, reduceCtorEq, lerr3, ee, hA1, hA2, hlen, Int.cast_ofNat_Int, Int.reduceToNat, Int.reduceEq, Int.reduceLT, Int.reduceLE, Int.reduceNe]; exact rfl) ?_ rfl (by simp only [go_sem, Nat.reduceBEq, Nat.reduceBneDiff, Nat.reduceLT, Nat.reduceLeDiff, Nat.reduceAdd, Nat.reduceMul, Nat.reduceSub, Nat.reduceEqDiff, reduceCtorEq, lerr3, ee, hA1, hA2, hlen, Int.cast_ofNat_Int, Int.reduceToNat, Int.reduceEq, Int.reduceLT, Int.reduceLE, Int.reduceNe]) (by simp only [go_sem, Nat.reduceBEq, Nat.reduceBneDiff, Nat.reduceLT, Nat.reduceLeDiff, Nat.reduceAdd, Nat.reduceMul, Nat.reduceSub, Nat.reduceEqDiff, reduceCtorEq, lerr3, ee, hA1, hA2, hlen, Int.cast_ofNat_Int, Int.reduceToNat, Int.reduceEq, Int.reduceLT, Int.reduceLE, Int.reduceNe]) (hC) ?_)
    | (refine go_call (by simp only [go_sem, Nat.reduceBEq, Nat.reduceBneDiff, Nat.reduceLT, Nat.reduceLeDiff, Nat.reduceAdd, Nat.reduceMul, Nat.reduceSub, Nat.reduceEqDiff, reduceCtorEq, lerr3, ee, hA1, hA2, hlen, Int.cast_ofNat_Int, Int.reduceToNat, Int.reduceEq, Int.reduceLT, Int.reduceLE, Int.reduceNe]; exact rfl) ?_ (fun _ => same_any xs xs (by omega)) rfl ?_) | fail)) <;> (try omega)
      refine go_loop [0, 2, 17, 20] [] (fun i : Nat => ⟨[(0, true, vI x), (2, true, .lst 1 (v8 os)), (17, true, .lst 1 (v8 (diffs os e os.length))), (20, true, vI i)], []⟩)
        (fun i => i ≤ os.length ∧ ∀ k (hk : k < os.length), k < i → os[k] ≤ 4294967295) (fun i => os.length - i) 0 (by simp only [go_sem, Nat.reduceBEq, Nat.reduceBneDiff, Nat.reduceLT, Nat.reduceLeDiff, Nat.reduceAdd, Nat.reduceMul, Nat.reduceSub, Nat.reduceEqDiff, reduceCtorEq]; exact rfl) ⟨Nat.zero_le _, fun k hk h => by omega⟩ ?_
      intro i ⟨hi, hb⟩
      have hw1 := wrap_i64 (n := (i : Int) + 1) (by omega)
      by_cases hlt : i < os.length
      · have g1 := v8_get hlt
        have e1 : ((i : Int) < os.length) = True := eq_true (by omega)
        (repeat' (first
    | exact trivial
    | (with_reducible first | refine aw_seq ?_ | refine aw_block ?_ | refine aw_skip ?_ | refine aw_ret ?_ | refine aw_exit ?_ | refine aseq_normal ?_ | refine aseq_ret ?_ | refine aseq_exit ?_ | refine ablk_normal ?_ | refine ablk_ret ?_ | refine ablk_hit ?_ | refine aw_region ?_ | refine go_nil ?_ | refine al_of ?_)
    | with_reducible refine ablk_miss (by decide) ?_
    | ((with_reducible refine al_id ?_); refine go_run (tyOf_ok _) [] (by simp only [go_sem, Nat.reduceBEq, Nat.reduceBneDiff, Nat.reduceLT, Nat.reduceLeDiff, Nat.reduceAdd, Nat.reduceMul, Nat.reduceSub, Nat.reduceEqDiff, reduceCtorEq, hw1, e1, g1]; exact rfl) ?_ ?_)
    | (refine aw_cond (by simp only [go_sem, Nat.reduceBEq, Nat.reduceBneDiff, Nat.reduceLT, Nat.reduceLeDiff, Nat.reduceAdd, Nat.reduceMul, Nat.reduceSub, Nat.reduceEqDiff, reduceCtorEq, hw1, e1, g1]; exact rfl) (by simp only [go_sem, Nat.reduceBEq, Nat.reduceBneDiff, Nat.reduceLT, Nat.reduceLeDiff, Nat.reduceAdd, Nat.reduceMul, Nat.reduceSub, Nat.reduceEqDiff, reduceCtorEq]) (fun h => ?_) (fun h => ?_) <;> (try simp only [decide_eq_true_eq, decide_eq_false_iff_not, Bool.not_eq_true', Bool.not_eq_false', Bool.or_eq_true, Bool.or_eq_false_iff, Bool.and_eq_true, Bool.and_eq_false_iff, Decidable.not_not, reduceCtorEq] at h) <;> (try (exfalso; omega)))
    | (first | refine aend_ret (by simp only [go_sem, Nat.reduceBEq, Nat.reduceBneDiff, Nat.reduceLT, Nat.reduceLeDiff, Nat.reduceAdd, Nat.reduceMul, Nat.reduceSub, Nat.reduceEqDiff, reduceCtorEq, hw1, e1, g1]; exact rfl) ?_ ?_ | refine aend_normal (by simp only [go_sem, Nat.reduceBEq, Nat.reduceBneDiff, Nat.reduceLT, Nat.reduceLeDiff, Nat.reduceAdd, Nat.reduceMul, Nat.reduceSub, Nat.reduceEqDiff, reduceCtorEq, hw1, e1, g1]; exact rfl) ?_ ?_) | fail)) <;> (try omega)
        · exact rfl
        · refine ⟨i + 1, by simp only [go_sem, Nat.reduceBEq, Nat.reduceBneDiff, Nat.reduceLT, Nat.reduceLeDiff, Nat.reduceAdd, Nat.reduceMul, Nat.reduceSub, Nat.reduceEqDiff, reduceCtorEq]; exact rfl, ⟨hlt, fun k hk hki => ?_⟩, by omega⟩
          rcases Nat.lt_or_ge k i with h' | h'
          · exact hb k hk h'
          · have : k = i := by omega
            subst this; omega
      · have e1 : ((i : Int) < os.length) = False := eq_false (by omega)
        have hb' : ∀ o ∈ os, 0 ≤ o ∧ o ≤ 4294967295 := fun o ho' => by
          obtain ⟨k, hk, rfl⟩ := List.getElem_of_mem ho'
          have := bad_nonneg hx0 k hk fun j hj => offOK_bad hOK j (by omega)
          rw [getD_lt hk] at this
          exact ⟨this, hb k hk (by omega)⟩
        have hod := offs_of_diffs os x e hOK hb'
        have hdn := diffs_nonneg hOK
        have hofs : offsets x (diffs os e os.length) = (os, 0) := by
          unfold offsets
          rw [if_neg (by omega), if_neg (fun ⟨n, h1, h2⟩ => by have := hdn n h1; omega), hod]
        have hD := offsets_any x hx (diffs os e os.length) (by rw [diffs_length]; omega) (fun z hz => by
          have h0 := hdn z hz
          obtain ⟨k, hk, rfl⟩ := List.mem_map.1 hz
          rw [List.mem_range] at hk
          have h1 := hb' _ (List.getElem_mem hk)
          have h2 : os.getD (k + 1) e ≤ 9223372036854775807 := by
            rcases Nat.lt_or_ge (k + 1) os.length with h | h
            · rw [getD_lt h]; have := hb' _ (List.getElem_mem h); omega
            · rw [List.getD_eq_getElem?_getD, List.getElem?_eq_none h]; exact he64.2
          rw [getD_lt hk] at h0 ⊢
          exact ⟨by omega, by omega⟩)
        rw [hofs, lerr] at hD
        (repeat' (first
    | exact trivial
    | (with_reducible first | refine aw_seq ?_ | refine aw_block ?_ | refine aw_skip ?_ | refine aw_ret ?_ | refine aw_exit ?_ | refine aseq_normal ?_ | refine aseq_ret ?_ | refine aseq_exit ?_ | refine ablk_normal ?_ | refine ablk_ret ?_ | refine ablk_hit ?_ | refine aw_region ?_ | refine go_nil ?_ | refine al_of ?_)
    | with_reducible refine ablk_miss (by decide) ?_
    | ((with_reducible refine al_id ?_); refine go_run (tyOf_ok _) [] (by simp only [go_sem, Nat.reduceBEq, Nat.reduceBneDiff, Nat.reduceLT, Nat.reduceLeDiff, Nat.reduceAdd, Nat.reduceMul, Nat.reduceSub, Nat.reduceEqDiff, reduceCtorEq, hw1, e1, Int.cast_ofNat_Int, Int.reduceToNat, Int.reduceEq, Int.reduceLT, Int.reduceLE, Int.reduceNe]; exact rfl) ?_ ?_)
    | (refine aw_cond (by simp only [go_sem, Nat.reduceBEq, Nat.reduceBneDiff, Nat.reduceLT, Nat.reduceLeDiff, Nat.reduceAdd, Nat.reduceMul, Nat.reduceSub, Nat.reduceEqDiff, reduceCtorEq, hw1, e1, Int.cast_ofNat_Int, Int.reduceToNat, Int.reduceEq, Int.reduceLT, Int.reduceLE, Int.reduceNe]; exact rfl) (by simp only [go_sem, Nat.reduceBEq, Nat.reduceBneDiff, Nat.reduceLT, Nat.reduceLeDiff, Nat.reduceAdd, Nat.reduceMul, Nat.reduceSub, Nat.reduceEqDiff, reduceCtorEq]) (fun h => ?_) (fun h => ?_) <;> (try simp only [decide_eq_true_eq, decide_eq_false_iff_not, Bool.not_eq_true', Bool.not_eq_false', Bool.or_eq_true, Bool.or_eq_false_iff, Bool.and_eq_true, Bool.and_eq_false_iff, Decidable.not_not, reduceCtorEq] at h) <;> (try (exfalso; omega)))
    | (first | refine aend_ret (by simp only [go_sem, Nat.reduceBEq, Nat.reduceBneDiff, Nat.reduceLT, Nat.reduceLeDiff, Nat.reduceAdd, Nat.reduceMul, Nat.reduceSub, Nat.reduceEqDiff, reduceCtorEq, hw1, e1, Int.cast_ofNat_Int, Int.reduceToNat, Int.reduceEq, Int.reduceLT, Int.reduceLE, Int.reduceNe]; exact rfl) ?_ ?_ | refine aend_normal (by simp only [go_sem, Nat.reduceBEq, Nat.reduceBneDiff, Nat.reduceLT, Nat.reduceLeDiff, Nat.reduceAdd, Nat.reduceMul, Nat.reduceSub, Nat.reduceEqDiff, reduceCtorEq, hw1, e1, Int.cast_ofNat_Int, Int.reduceToNat, Int.reduceEq, Int.reduceLT, Int.reduceLE, Int.reduceNe]; exact rfl) ?_ ?_)
    | (refine go_call1 (by simp only [go_sem, Nat.reduceBEq, Nat.reduceBneDiff, Nat.reduceLT, Nat.reduceLeDiff, Nat.reduceAdd, Nat.reduceMul, Nat.reduceSub, Nat.reduceEqDiff, reduceCtorEq, hw1, e1, Int.cast_ofNat_Int, Int.reduceToNat, Int.reduceEq, Int.reduceLT, Int.reduceLE, Int.reduceNe]; exact rfl) ?_ rfl (by simp only [go_sem, Nat.reduceBEq, Nat.reduceBneDiff, Nat.reduceLT, Nat.reduceLeDiff, Nat.reduceAdd, Nat.reduceMul, Nat.reduceSub, Nat.reduceEqDiff, reduceCtorEq, hw1, e1, Int.cast_ofNat_Int, Int.reduceToNat, Int.reduceEq, Int.reduceLT, Int.reduceLE, Int.reduceNe]) (by simp only [go_sem, Nat.reduceBEq, Nat.reduceBneDiff, Nat.reduceLT, Nat.reduceLeDiff, Nat.reduceAdd, Nat.reduceMul, Nat.reduceSub, Nat.reduceEqDiff, reduceCtorEq, hw1, e1, Int.cast_ofNat_Int, Int.reduceToNat, Int.reduceEq, Int.reduceLT, Int.reduceLE, Int.reduceNe]) (hD) ?_)
    | (refine go_call (by simp only [go_sem, Nat.reduceBEq, Nat.reduceBneDiff, Nat.reduceLT, Nat.reduceLeDiff, Nat.reduceAdd, Nat.reduceMul, Nat.reduceSub, Nat.reduceEqDiff, reduceCtorEq, hw1, e1, Int.cast_ofNat_Int, Int.reduceToNat, Int.reduceEq, Int.reduceLT, Int.reduceLE, Int.reduceNe]; exact rfl) ?_ (fun _ => same_any os os (by omega)) rfl ?_) | fail)) <;> (try omega)
        exact rfl
    | true =>
      have hall := hfit rfl
      rw [take_len (by omega)] at hall
      rw [← hall] at hOKo hdf
      have hlo : lengths x o all = (xs, 0, 0) := by
        unfold lengths
        rw [if_neg (by omega), find_none fun i hi => offOK_bad hOKo i hi, hdf]
      have hC := lengths_any x hx o (by omega) (fun z hz => by have := hoI z hz; exact ⟨by omega, by omega⟩) all ⟨by omega, by omega⟩
      rw [hlo, lerr3] at hC
      have hA1 := e1
      have hA2 := hw1
      by_cases he : (lengths x os e).2.2 = 0
      case neg =>
        have ee : ((lengths x os e).2.2 = 0) = False := eq_false he
        have e0 : (lengths x os e).1 = [] := by
          unfold lengths at he ⊢
          split
          · rfl
          · split
            · rfl
            · exfalso; apply he; simp_all
        (repeat' (first
    | exact trivial
    | (with_reducible first | refine aw_seq ?_ | refine aw_block ?_ | refine aw_skip ?_ | refine aw_ret ?_ | refine aw_exit ?_ | refine aseq_normal ?_ | refine aseq_ret ?_ | refine aseq_exit ?_ | refine ablk_normal ?_ | refine ablk_ret ?_ | refine ablk_hit ?_ | refine aw_region ?_ | refine go_nil ?_ | refine al_of ?_)
    | with_reducible refine ablk_miss (by decide) ?_
    | ((with_reducible refine al_id ?_); refine go_run (tyOf_ok _) [] (by simp only [go_sem, Nat.reduceBEq, Nat.reduceBneDiff, Nat.reduceLT, Nat.reduceLeDiff, Nat.reduceAdd, Nat.reduceMul, Nat.reduceSub, Nat.reduceEqDiff, reduceCtorEq, lerr3, ee, e0, hA1, hA2, Int.cast_ofNat_Int, Int.reduceToNat, Int.reduceEq, Int.reduceLT, Int.reduceLE, Int.reduceNe]; exact rfl) ?_ ?_)
    | (refine aw_cond (by simp only [go_sem, Nat.reduceBEq, Nat.reduceBneDiff, Nat.reduceLT, Nat.reduceLeDiff, Nat.reduceAdd, Nat.reduceMul, Nat.reduceSub, Nat.reduceEqDiff, reduceCtorEq, lerr3, ee, e0, hA1, hA2, Int.cast_ofNat_Int, Int.reduceToNat, Int.reduceEq, Int.reduceLT, Int.reduceLE, Int.reduceNe]; exact rfl) (by simp only [go_sem, Nat.reduceBEq, Nat.reduceBneDiff, Nat.reduceLT, Nat.reduceLeDiff, Nat.reduceAdd, Nat.reduceMul, Nat.reduceSub, Nat.reduceEqDiff, reduceCtorEq]) (fun h => ?_) (fun h => ?_) <;> (try simp only [decide_eq_true_eq, decide_eq_false_iff_not, Bool.not_eq_true', Bool.not_eq_false', Bool.or_eq_true, Bool.or_eq_false_iff, Bool.and_eq_true, Bool.and_eq_false_iff, Decidable.not_not, reduceCtorEq] at h) <;> (try (exfalso; omega)))
    | (first | refine aend_ret (by simp only [go_sem, Nat.reduceBEq, Nat.reduceBneDiff, Nat.reduceLT, Nat.reduceLeDiff, Nat.reduceAdd, Nat.reduceMul, Nat.reduceSub, Nat.reduceEqDiff, reduceCtorEq, lerr3, ee, e0, hA1, hA2, Int.cast_ofNat_Int, Int.reduceToNat, Int.reduceEq, Int.reduceLT, Int.reduceLE, Int.reduceNe]; exact rfl) ?_ ?_ | refine aend_normal (by simp only [go_sem, Nat.reduceBEq, Nat.reduceBneDiff, Nat.reduceLT, Nat.reduceLeDiff, Nat.reduceAdd, Nat.reduceMul, Nat.reduceSub, Nat.reduceEqDiff, reduceCtorEq, lerr3, ee, e0, hA1, hA2, Int.cast_ofNat_Int, Int.reduceToNat, Int.reduceEq, Int.reduceLT, Int.reduceLE, Int.reduceNe]; exact rfl) ?_ ?_)
    | (refine go_call (by simp only [go_sem, Nat.reduceBEq, Nat.reduceBneDiff, Nat.reduceLT, Nat.reduceLeDiff, Nat.reduceAdd, Nat.reduceMul, Nat.reduceSub, Nat.reduceEqDiff, reduceCtorEq, lerr3, ee, e0, hA1, hA2, Int.cast_ofNat_Int, Int.reduceToNat, Int.reduceEq, Int.reduceLT, Int.reduceLE, Int.reduceNe]; exact rfl) ?_ (fun _ => awake13) rfl ?_)
    | (refine go_call1 (by simp only [go_sem, Nat.reduceBEq, Nat.reduceBneDiff, Nat.reduceLT, Nat.reduceLeDiff, Nat.reduceAdd, Nat.reduceMul, Nat.reduceSub, Nat.reduceEqDiff, reduceCtorEq, lerr3, ee, e0, hA1, hA2, Int.cast_ofNat_Int, Int.reduceToNat, Int.reduceEq, Int.reduceLT, Int.reduceLE, Int.reduceNe]; exact rfl) ?_ rfl (by simp only [go_sem, Nat.reduceBEq, Nat.reduceBneDiff, Nat.reduceLT, Nat.reduceLeDiff, Nat.reduceAdd, Nat.reduceMul, Nat.reduceSub, Nat.reduceEqDiff, reduceCtorEq, lerr3, ee, e0, hA1, hA2, Int.cast_ofNat_Int, Int.reduceToNat, Int.reduceEq, Int.reduceLT, Int.reduceLE, Int.reduceNe]) (by simp only [go_sem, Nat.reduceBEq, Nat.reduceBneDiff, Nat.reduceLT, Nat.reduceLeDiff, Nat.reduceAdd, Nat.reduceMul, Nat.reduceSub, Nat.reduceEqDiff, reduceCtorEq, lerr3, ee, e0, hA1, hA2, Int.cast_ofNat_Int, Int.reduceToNat, Int.reduceEq, Int.reduceLT, Int.reduceLE, Int.reduceNe]) (ho) ?_)
    | (refine go_call1 (by simp only [go_sem, Nat.reduceBEq, Nat.reduceBneDiff, Nat.reduceLT, Nat.reduceLeDiff, Nat.reduceAdd, Nat.reduceMul, Nat.reduceSub, Nat.reduceEqDiff, reduceCtorEq, lerr3, ee, e0, hA1, hA2, Int.cast_ofNat_Int, Int.reduceToNat, Int.reduceEq, Int.reduceLT, Int.reduceLE, Int.reduceNe]; exact rfl) ?_ rfl (by simp only [go_sem, Nat.reduceBEq, Nat.reduceBneDiff, Nat.reduceLT, Nat.reduceLeDiff, Nat.reduceAdd, Nat.reduceMul, Nat.reduceSub, Nat.reduceEqDiff, reduceCtorEq, lerr3, ee, e0, hA1, hA2, Int.cast_ofNat_Int, Int.reduceToNat, Int.reduceEq, Int.reduceLT, Int.reduceLE, Int.reduceNe]) (by simp only [go_sem, Nat.reduceBEq, Nat.reduceBneDiff, Nat.reduceLT, Nat.reduceLeDiff, Nat.reduceAdd, Nat.reduceMul, Nat.reduceSub, Nat.reduceEqDiff, reduceCtorEq, lerr3, ee, e0, hA1, hA2, Int.cast_ofNat_Int, Int.reduceToNat, Int.reduceEq, Int.reduceLT, Int.reduceLE, Int.reduceNe]) (hB) ?_)
    | (refine go_call1 (by simp only [go_sem, Nat.reduceBEq, Nat.reduceBneDiff, Nat.reduceLT, Nat.reduceLeDiff, Nat.reduceAdd, Nat.reduceMul, Nat.reduceSub, Nat.reduceEqDiff, reduceCtorEq, lerr3, ee, e0, hA1, hA2, Int.cast_ofNat_Int, Int.reduceToNat, Int.reduceEq, Int.reduceLT, Int.reduceLE, Int.reduceNe]; exact rfl) ?_ rfl (by simp only [go_sem, Nat.reduceBEq, Nat.reduceBneDiff, Nat.reduceLT, Nat.reduceLeDiff, Nat.reduceAdd, Nat.reduceMul, Nat.reduceSub, Nat.reduceEqDiff, reduceCtorEq, lerr3, ee, e0, hA1, hA2, Int.cast_ofNat_Int, Int.reduceToNat, Int.reduceEq, Int.reduceLT, Int.reduceLE, Int.reduceNe]) (by simp only [go_sem, Nat.reduceBEq, Nat.reduceBneDiff, Nat.reduceLT, Nat.reduceLeDiff, Nat.reduceAdd, Nat.reduceMul, Nat.reduceSub, Nat.reduceEqDiff, reduceCtorEq, lerr3, ee, e0, hA1, hA2, Int.cast_ofNat_Int, Int.reduceToNat, Int.reduceEq, Int.reduceLT, Int.reduceLE, Int.reduceNe]) (hC) ?_)
    | (refine go_call (by simp only [go_sem, Nat.reduceBEq, Nat.reduceBneDiff, Nat.reduceLT, Nat.reduceLeDiff, Nat.reduceAdd, Nat.reduceMul, Nat.reduceSub, Nat.reduceEqDiff, reduceCtorEq, lerr3, ee, e0, hA1, hA2, Int.cast_ofNat_Int, Int.reduceToNat, Int.reduceEq, Int.reduceLT, Int.reduceLE, Int.reduceNe]; exact rfl) ?_ (fun _ => same_any xs xs (by omega)) rfl ?_) | fail)) <;> (try omega)
        exact rfl
      have ee : ((lengths x os e).2.2 = 0) = True := eq_true he
      have hlen : lengths x os e = (diffs os e os.length, 0, 0) ∧ 0 ≤ x ∧ OffOK x os e := by
        unfold lengths at he ⊢
        split at he
        · cases he
        · rename_i hx0
          split at he
          · cases he
          · rename_i hn
            rw [List.find?_range_eq_none] at hn
            rw [if_neg hx0]
            have := offOK_of (x := x) (os := os) (e := e) fun i hi => by simpa using hn i hi
            exact ⟨rfl, by omega, this⟩
      obtain ⟨hlen, hx0, hOK⟩ := hlen
      (repeat' (first
    | exact trivial
    | (with_reducible first | refine aw_seq ?_ | refine aw_block ?_ | refine aw_skip ?_ | refine aw_ret ?_ | refine aw_exit ?_ | refine aseq_normal ?_ | refine aseq_ret ?_ | refine aseq_exit ?_ | refine ablk_normal ?_ | refine ablk_ret ?_ | refine ablk_hit ?_ | refine aw_region ?_ | refine go_nil ?_ | refine al_of ?_)
    | with_reducible refine ablk_miss (by decide) ?_
    | ((with_reducible refine al_id ?_); refine go_run (tyOf_ok _) [] (by simp only [go_sem, Nat.reduceBEq, Nat.reduceBneDiff, Nat.reduceLT, Nat.reduceLeDiff, Nat.reduceAdd, Nat.reduceMul, Nat.reduceSub, Nat.reduceEqDiff, reduceCtorEq, lerr3, ee, hA1, hA2, hlen, Int.cast_ofNat_Int, Int.reduceToNat, Int.reduceEq, Int.reduceLT, Int.reduceLE, Int.reduceNe]; exact rfl) ?_ ?_)
    | (refine aw_cond (by simp only [go_sem, Nat.reduceBEq, Nat.reduceBneDiff, Nat.reduceLT, Nat.reduceLeDiff, Nat.reduceAdd, Nat.reduceMul, Nat.reduceSub, Nat.reduceEqDiff, reduceCtorEq, lerr3, ee, hA1, hA2, hlen, Int.cast_ofNat_Int, Int.reduceToNat, Int.reduceEq, Int.reduceLT, Int.reduceLE, Int.reduceNe]; exact rfl) (by simp only [go_sem, Nat.reduceBEq, Nat.reduceBneDiff, Nat.reduceLT, Nat.reduceLeDiff, Nat.reduceAdd, Nat.reduceMul, Nat.reduceSub, Nat.reduceEqDiff, reduceCtorEq]) (fun h => ?_) (fun h => ?_) <;> (try simp only [decide_eq_true_eq, decide_eq_false_iff_not, Bool.not_eq_true', Bool.not_eq_false', Bool.or_eq_true, Bool.or_eq_false_iff, Bool.and_eq_true, Bool.and_eq_false_iff, Decidable.not_not, reduceCtorEq] at h) <;> (try (exfalso; omega)))
    | (first | refine aend_ret (by simp only [go_sem, Nat.reduceBEq, Nat.reduceBneDiff, Nat.reduceLT, Nat.reduceLeDiff, Nat.reduceAdd, Nat.reduceMul, Nat.reduceSub, Nat.reduceEqDiff, reduceCtorEq, lerr3, ee, hA1, hA2, hlen, Int.cast_ofNat_Int, Int.reduceToNat, Int.reduceEq, Int.reduceLT, Int.reduceLE, Int.reduceNe]; exact rfl) ?_ ?_ | refine aend_normal (by simp only [go_sem, Nat.reduceBEq, Nat.reduceBneDiff, Nat.reduceLT, Nat.reduceLeDiff, Nat.reduceAdd, Nat.reduceMul, Nat.reduceSub, Nat.reduceEqDiff, reduceCtorEq, lerr3, ee, hA1, hA2, hlen, Int.cast_ofNat_Int, Int.reduceToNat, Int.reduceEq, Int.reduceLT, Int.reduceLE, Int.reduceNe]; exact rfl) ?_ ?_)
    | (refine go_call (by simp only [go_sem, Nat.reduceBEq, Nat.reduceBneDiff, Nat.reduceLT, Nat.reduceLeDiff, Nat.reduceAdd, Nat.reduceMul, Nat.reduceSub, Nat.reduceEqDiff, reduceCtorEq, lerr3, ee, hA1, hA2, hlen, Int.cast_ofNat_Int, Int.reduceToNat, Int.reduceEq, Int.reduceLT, Int.reduceLE, Int.reduceNe]; exact rfl) ?_ (fun _ => awake13) rfl ?_)
    | (refine go_call1 (by simp only [go_sem, Nat.reduceBEq, Nat.reduceBneDiff, Nat.reduceLT, Nat.reduceLeDiff, Nat.reduceAdd, Nat.reduceMul, Nat.reduceSub, Nat.reduceEqDiff, reduceCtorEq, lerr3, ee, hA1, hA2, hlen, Int.cast_ofNat_Int, Int.reduceToNat, Int.reduceEq, Int.reduceLT, Int.reduceLE, Int.reduceNe]; exact rfl) ?_ rfl (by simp only [go_sem, Nat.reduceBEq, Nat.reduceBneDiff, Nat.reduceLT, Nat.reduceLeDiff, Nat.reduceAdd, Nat.reduceMul, Nat.reduceSub, Nat.reduceEqDiff, reduceCtorEq, lerr3, ee, hA1, hA2, hlen, Int.cast_ofNat_Int, Int.reduceToNat, Int.reduceEq, Int.reduceLT, Int.reduceLE, Int.reduceNe]) (by simp only [go_sem, Nat.reduceBEq, Nat.reduceBneDiff, Nat.reduceLT, Nat.reduceLeDiff, Nat.reduceAdd, Nat.reduceMul, Nat.reduceSub, Nat.reduceEqDiff, reduceCtorEq, lerr3, ee, hA1, hA2, hlen, Int.cast_ofNat_Int, Int.reduceToNat, Int.reduceEq, Int.reduceLT, Int.reduceLE, Int.reduceNe]) (ho) ?_)
    | (refine go_call1 (by simp only [go_sem, Nat.reduceBEq, Nat.reduceBneDiff, Nat.reduceLT, Nat.reduceLeDiff, Nat.reduceAdd, Nat.reduceMul, Nat.reduceSub, Nat.reduceEqDiff, reduceCtorEq, lerr3, ee, hA1, hA2, hlen, Int.cast_ofNat_Int, Int.reduceToNat, Int.reduceEq, Int.reduceLT, Int.reduceLE, Int.reduceNe]; exact rfl) ?_ rfl (by simp only [go_sem, Nat.reduceBEq, Nat.reduceBneDiff, Nat.reduceLT, Nat.reduceLeDiff, Nat.reduceAdd, Nat.reduceMul, Nat.reduceSub, Nat.reduceEqDiff, reduceCtorEq, lerr3, ee, hA1, hA2, hlen, Int.cast_ofNat_Int, Int.reduceToNat, Int.reduceEq, Int.reduceLT, Int.reduceLE, Int.reduceNe]) (by simp only [go_sem, Nat.reduceBEq, Nat.reduceBneDiff, Nat.reduceLT, Nat.reduceLeDiff, Nat.reduceAdd, Nat.reduceMul, Nat.reduceSub, Nat.reduceEqDiff, reduceCtorEq, lerr3, ee, hA1, hA2, hlen, Int.cast_ofNat_Int, Int.reduceToNat, Int.reduceEq, Int.reduceLT, Int.reduceLE, Int.reduceNe]) (hB) ?_)
    | (refine go_call1 (by simp only [go_sem, Nat.reduceBEq, Nat.reduceBneDiff, Nat.reduceLT, Nat.reduceLeDiff, Nat.reduceAdd, Nat.reduceMul, Nat.reduceSub, Nat.reduceEqDiff, reduceCtorEq, lerr3, ee, hA1, hA2, hlen, Int.cast_ofNat_Int, Int.reduceToNat, Int.reduceEq, Int.reduceLT, Int.reduceLE, Int.reduceNe]; exact rfl) ?_ rfl (by simp only [go_sem, Nat.reduceBEq, Nat.reduceBneDiff, Nat.reduceLT, Nat.reduceLeDiff, Nat.reduceAdd, Nat.reduceMul, Nat.reduceSub, Nat.reduceEqDiff, reduceCtorEq, lerr3, ee, hA1, hA2, hlen, Int.cast_ofNat_Int, Int.reduceToNat, Int.reduceEq, Int.reduceLT, Int.reduceLE, Int.reduceNe]) (by simp only [go_sem, Nat.reduceBEq, Nat.reduceBneDiff, Nat.reduceLT, Nat.reduceLeDiff, Nat.reduceAdd, Nat.reduceMul, Nat.reduceSub, Nat.reduceEqDiff, reduceCtorEq, lerr3, ee, hA1, hA2, hlen, Int.cast_ofNat_Int, Int.reduceToNat, Int.reduceEq, Int.reduceLT, Int.reduceLE, Int.reduceNe]) (hC) ?_)
    | (refine go_call (by simp only [go_sem, Nat.reduceBEq, Nat.reduceBneDiff, Nat.reduceLT, Nat.reduceLeDiff, Nat.reduceAdd, Nat.reduceMul, Nat.reduceSub, Nat.reduceEqDiff, reduceCtorEq, lerr3, ee, hA1, hA2, hlen, Int.cast_ofNat_Int, Int.reduceToNat, Int.reduceEq, Int.reduceLT, Int.reduceLE, Int.reduceNe]; exact rfl) ?_ (fun _ => same_any xs xs (by omega)) rfl ?_) | fail)) <;> (try omega)
      refine go_loop [0, 2, 17, 20] [] (fun i : Nat => ⟨[(0, true, vI x), (2, true, .lst 1 (v8 os)), (17, true, .lst 1 (v8 (diffs os e os.length))), (20, true, vI i)], []⟩)
        (fun i => i ≤ os.length ∧ ∀ k (hk : k < os.length), k < i → os[k] ≤ 4294967295) (fun i => os.length - i) 0 (by simp only [go_sem, Nat.reduceBEq, Nat.reduceBneDiff, Nat.reduceLT, Nat.reduceLeDiff, Nat.reduceAdd, Nat.reduceMul, Nat.reduceSub, Nat.reduceEqDiff, reduceCtorEq]; exact rfl) ⟨Nat.zero_le _, fun k hk h => by omega⟩ ?_
      intro i ⟨hi, hb⟩
      have hw1 := wrap_i64 (n := (i : Int) + 1) (by omega)
      by_cases hlt : i < os.length
      · have g1 := v8_get hlt
        have e1 : ((i : Int) < os.length) = True := eq_true (by omega)
        (repeat' (first
    | exact trivial
    | (with_reducible first | refine aw_seq ?_ | refine aw_block ?_ | refine aw_skip ?_ | refine aw_ret ?_ | refine aw_exit ?_ | refine aseq_normal ?_ | refine aseq_ret ?_ | refine aseq_exit ?_ | refine ablk_normal ?_ | refine ablk_ret ?_ | refine ablk_hit ?_ | refine aw_region ?_ | refine go_nil ?_ | refine al_of ?_)
    | with_reducible refine ablk_miss (by decide) ?_
    | ((with_reducible refine al_id ?_); refine go_run (tyOf_ok _) [] (by simp only [go_sem, Nat.reduceBEq, Nat.reduceBneDiff, Nat.reduceLT, Nat.reduceLeDiff, Nat.reduceAdd, Nat.reduceMul, Nat.reduceSub, Nat.reduceEqDiff, reduceCtorEq, hw1, e1, g1]; exact rfl) ?_ ?_)
    | (refine aw_cond (by simp only [go_sem, Nat.reduceBEq, Nat.reduceBneDiff, Nat.reduceLT, Nat.reduceLeDiff, Nat.reduceAdd, Nat.reduceMul, Nat.reduceSub, Nat.reduceEqDiff, reduceCtorEq, hw1, e1, g1]; exact rfl) (by simp only [go_sem, Nat.reduceBEq, Nat.reduceBneDiff, Nat.reduceLT, Nat.reduceLeDiff, Nat.reduceAdd, Nat.reduceMul, Nat.reduceSub, Nat.reduceEqDiff, reduceCtorEq]) (fun h => ?_) (fun h => ?_) <;> (try simp only [decide_eq_true_eq, decide_eq_false_iff_not, Bool.not_eq_true', Bool.not_eq_false', Bool.or_eq_true, Bool.or_eq_false_iff, Bool.and_eq_true, Bool.and_eq_false_iff, Decidable.not_not, reduceCtorEq] at h) <;> (try (exfalso; omega)))
    | (first | refine aend_ret (by simp only [go_sem, Nat.reduceBEq, Nat.reduceBneDiff, Nat.reduceLT, Nat.reduceLeDiff, Nat.reduceAdd, Nat.reduceMul, Nat.reduceSub, Nat.reduceEqDiff, reduceCtorEq, hw1, e1, g1]; exact rfl) ?_ ?_ | refine aend_normal (by simp only [go_sem, Nat.reduceBEq, Nat.reduceBneDiff, Nat.reduceLT, Nat.reduceLeDiff, Nat.reduceAdd, Nat.reduceMul, Nat.reduceSub, Nat.reduceEqDiff, reduceCtorEq, hw1, e1, g1]; exact rfl) ?_ ?_) | fail)) <;> (try omega)
        · exact rfl
        · refine ⟨i + 1, by simp only [go_sem, Nat.reduceBEq, Nat.reduceBneDiff, Nat.reduceLT, Nat.reduceLeDiff, Nat.reduceAdd, Nat.reduceMul, Nat.reduceSub, Nat.reduceEqDiff, reduceCtorEq]; exact rfl, ⟨hlt, fun k hk hki => ?_⟩, by omega⟩
          rcases Nat.lt_or_ge k i with h' | h'
          · exact hb k hk h'
          · have : k = i := by omega
            subst this; omega
      · have e1 : ((i : Int) < os.length) = False := eq_false (by omega)
        have hb' : ∀ o ∈ os, 0 ≤ o ∧ o ≤ 4294967295 := fun o ho' => by
          obtain ⟨k, hk, rfl⟩ := List.getElem_of_mem ho'
          have := bad_nonneg hx0 k hk fun j hj => offOK_bad hOK j (by omega)
          rw [getD_lt hk] at this
          exact ⟨this, hb k hk (by omega)⟩
        have hod := offs_of_diffs os x e hOK hb'
        have hdn := diffs_nonneg hOK
        have hofs : offsets x (diffs os e os.length) = (os, 0) := by
          unfold offsets
          rw [if_neg (by omega), if_neg (fun ⟨n, h1, h2⟩ => by have := hdn n h1; omega), hod]
        have hD := offsets_any x hx (diffs os e os.length) (by rw [diffs_length]; omega) (fun z hz => by
          have h0 := hdn z hz
          obtain ⟨k, hk, rfl⟩ := List.mem_map.1 hz
          rw [List.mem_range] at hk
          have h1 := hb' _ (List.getElem_mem hk)
          have h2 : os.getD (k + 1) e ≤ 9223372036854775807 := by
            rcases Nat.lt_or_ge (k + 1) os.length with h | h
            · rw [getD_lt h]; have := hb' _ (List.getElem_mem h); omega
            · rw [List.getD_eq_getElem?_getD, List.getElem?_eq_none h]; exact he64.2
          rw [getD_lt hk] at h0 ⊢
          exact ⟨by omega, by omega⟩)
        rw [hofs, lerr] at hD
        (repeat' (first
    | exact trivial
    | (with_reducible first | refine aw_seq ?_ | refine aw_block ?_ | refine aw_skip ?_ | refine aw_ret ?_ | refine aw_exit ?_ | refine aseq_normal ?_ | refine aseq_ret ?_ | refine aseq_exit ?_ | refine ablk_normal ?_ | refine ablk_ret ?_ | refine ablk_hit ?_ | refine aw_region ?_ | refine go_nil ?_ | refine al_of ?_)
    | with_reducible refine ablk_miss (by decide) ?_
    | ((with_reducible refine al_id ?_); refine go_run (tyOf_ok _) [] (by simp only [go_sem, Nat.reduceBEq, Nat.reduceBneDiff, Nat.reduceLT, Nat.reduceLeDiff, Nat.reduceAdd, Nat.reduceMul, Nat.reduceSub, Nat.reduceEqDiff, reduceCtorEq, hw1, e1, Int.cast_ofNat_Int, Int.reduceToNat, Int.reduceEq, Int.reduceLT, Int.reduceLE, Int.reduceNe]; exact rfl) ?_ ?_)
    | (refine aw_cond (by simp only [go_sem, Nat.reduceBEq, Nat.reduceBneDiff, Nat.reduceLT, Nat.reduceLeDiff, Nat.reduceAdd, Nat.reduceMul, Nat.reduceSub, Nat.reduceEqDiff, reduceCtorEq, hw1, e1, Int.cast_ofNat_Int, Int.reduceToNat, Int.reduceEq, Int.reduceLT, Int.reduceLE, Int.reduceNe]; exact rfl) (by simp only [go_sem, Nat.reduceBEq, Nat.reduceBneDiff, Nat.reduceLT, Nat.reduceLeDiff, Nat.reduceAdd, Nat.reduceMul, Nat.reduceSub, Nat.reduceEqDiff, reduceCtorEq]) (fun h => ?_) (fun h => ?_) <;> (try simp only [decide_eq_true_eq, decide_eq_false_iff_not, Bool.not_eq_true', Bool.not_eq_false', Bool.or_eq_true, Bool.or_eq_false_iff, Bool.and_eq_true, Bool.and_eq_false_iff, Decidable.not_not, reduceCtorEq] at h) <;> (try (exfalso; omega)))
    | (first | refine aend_ret (by simp only [go_sem, Nat.reduceBEq, Nat.reduceBneDiff, Nat.reduceLT, Nat.reduceLeDiff, Nat.reduceAdd, Nat.reduceMul, Nat.reduceSub, Nat.reduceEqDiff, reduceCtorEq, hw1, e1, Int.cast_ofNat_Int, Int.reduceToNat, Int.reduceEq, Int.reduceLT, Int.reduceLE, Int.reduceNe]; exact rfl) ?_ ?_ | refine aend_normal (by simp only [go_sem, Nat.reduceBEq, Nat.reduceBneDiff, Nat.reduceLT, Nat.reduceLeDiff, Nat.reduceAdd, Nat.reduceMul, Nat.reduceSub, Nat.reduceEqDiff, reduceCtorEq, hw1, e1, Int.cast_ofNat_Int, Int.reduceToNat, Int.reduceEq, Int.reduceLT, Int.reduceLE, Int.reduceNe]; exact rfl) ?_ ?_)
    | (refine go_call1 (by simp only [go_sem, Nat.reduceBEq, Nat.reduceBneDiff, Nat.reduceLT, Nat.reduceLeDiff, Nat.reduceAdd, Nat.reduceMul, Nat.reduceSub, Nat.reduceEqDiff, reduceCtorEq, hw1, e1, Int.cast_ofNat_Int, Int.reduceToNat, Int.reduceEq, Int.reduceLT, Int.reduceLE, Int.reduceNe]; exact rfl) ?_ rfl (by simp only [go_sem, Nat.reduceBEq, Nat.reduceBneDiff, Nat.reduceLT, Nat.reduceLeDiff, Nat.reduceAdd, Nat.reduceMul, Nat.reduceSub, Nat.reduceEqDiff, reduceCtorEq, hw1, e1, Int.cast_ofNat_Int, Int.reduceToNat, Int.reduceEq, Int.reduceLT, Int.reduceLE, Int.reduceNe]) (by simp only [go_sem, Nat.reduceBEq, Nat.reduceBneDiff, Nat.reduceLT, Nat.reduceLeDiff, Nat.reduceAdd, Nat.reduceMul, Nat.reduceSub, Nat.reduceEqDiff, reduceCtorEq, hw1, e1, Int.cast_ofNat_Int, Int.reduceToNat, Int.reduceEq, Int.reduceLT, Int.reduceLE, Int.reduceNe]) (hD) ?_)
    | (refine go_call (by simp only [go_sem, Nat.reduceBEq, Nat.reduceBneDiff, Nat.reduceLT, Nat.reduceLeDiff, Nat.reduceAdd, Nat.reduceMul, Nat.reduceSub, Nat.reduceEqDiff, reduceCtorEq, hw1, e1, Int.cast_ofNat_Int, Int.reduceToNat, Int.reduceEq, Int.reduceLT, Int.reduceLE, Int.reduceNe]; exact rfl) ?_ (fun _ => same_any os os (by omega)) rfl ?_) | fail)) <;> (try omega)
        exact rfl
end Go.Proofs.Ytfgacgpicfknpaa
end
section
namespace Go.Proofs.Ytfgacgpicfknpaa
open Go.RowKit
set_option maxRecDepth 100000
set_option maxHeartbeats 8000000
def rG2 (d : Nat) (p : List Int × Int) : AV := .tup [.ref 3 1 d 0 p.1.length, vI p.2]
def rG3 (d : Nat) (p : List Int × Int × Int) : AV := .tup [.ref 3 1 d 0 p.1.length, vI p.2.1, vI p.2.2]
def obG (d : Nat) (l : List Int) : List (Nat × AObj) := [(d, .row 3 1 (v8 l))]
theorem up_nG2 (d : Nat) (e : Int) : (AV.tup [.v (.slice none 0 0), .v (.int .i64 e)]).up (rG2 d ([], e)) := AV.up_tup (AV.up_cons (AV.up_nilref _ _ _ _) (AV.up_cons (AV.up_rfl _) AV.up_nilL))
theorem up_nG3 (d : Nat) (k e : Int) : (AV.tup [.v (.slice none 0 0), .v (.int .i64 k), .v (.int .i64 e)]).up (rG3 d ([], k, e)) := AV.up_tup (AV.up_cons (AV.up_nilref _ _ _ _) (AV.up_cons (AV.up_rfl _) (AV.up_cons (AV.up_rfl _) AV.up_nilL)))
theorem up_rG2 (d : Nat) (l : List Int) (e : Int) : (AV.tup [.ref 3 1 d 0 l.length, .v (.int .i64 e)]).up (rG2 d (l, e)) := AV.up_rfl _
theorem up_rG3 (d : Nat) (l : List Int) (k e : Int) : (AV.tup [.ref 3 1 d 0 l.length, .v (.int .i64 k), .v (.int .i64 e)]).up (rG3 d (l, k, e)) := AV.up_rfl _
theorem v8_nm (l : List Int) : ∀ cs ∈ v8 l, ∀ u ∈ cs, ∃ x, u = .v x := fun cs hcs u hu => by
  obtain ⟨z, _, rfl⟩ := List.mem_map.1 hcs
  rw [List.mem_singleton] at hu
  exact ⟨_, hu⟩
theorem offsets_G (x : Int) (hx : I64 x) (xs : List Int) (hl : xs.length ≤ 1000000000) (hxs : ∀ z ∈ xs, I64 z) : GCall Try.prog 16 [.v (.int .i64 x), .lst 1 (v8 xs)] [] (rG2 8 (offsets x xs)) (obG 8 (offsets x xs).1) := by
  refine go_fnG (tyOf_ok _) Try.func16 rfl rfl (by rw [Try.results16]) Try.ntmps16 rfl fun E => ?_
  have hx' := hx
  unfold I64 at hx
  (repeat' (first
    | exact trivial
    | (with_reducible first | refine aw_seq ?_ | refine aw_block ?_ | refine aw_skip ?_ | refine aw_ret ?_ | refine aw_exit ?_ | refine aseq_normal ?_ | refine aseq_ret ?_ | refine aseq_exit ?_ | refine ablk_normal ?_ | refine ablk_ret ?_ | refine ablk_hit ?_ | refine aw_region ?_ | refine go_nil ?_ | refine al_of ?_)
    | with_reducible refine ablk_miss (by decide) ?_
    | ((with_reducible refine al_id ?_); refine go_run (tyOf_ok _) [] (by simp only [go_sem, Nat.reduceBEq, Nat.reduceBneDiff, Nat.reduceLT, Nat.reduceLeDiff, Nat.reduceAdd, Nat.reduceMul, Nat.reduceSub, Nat.reduceEqDiff, reduceCtorEq, v8_len]; exact rfl) ?_ ?_)
    | (refine aw_cond (by simp only [go_sem, Nat.reduceBEq, Nat.reduceBneDiff, Nat.reduceLT, Nat.reduceLeDiff, Nat.reduceAdd, Nat.reduceMul, Nat.reduceSub, Nat.reduceEqDiff, reduceCtorEq, v8_len]; exact rfl) (by simp only [go_sem, Nat.reduceBEq, Nat.reduceBneDiff, Nat.reduceLT, Nat.reduceLeDiff, Nat.reduceAdd, Nat.reduceMul, Nat.reduceSub, Nat.reduceEqDiff, reduceCtorEq]) (fun h => ?_) (fun h => ?_) <;> (try simp only [decide_eq_true_eq, decide_eq_false_iff_not, Bool.not_eq_true', Bool.not_eq_false', Bool.or_eq_true, Bool.or_eq_false_iff, Bool.and_eq_true, Bool.and_eq_false_iff, Decidable.not_not, reduceCtorEq] at h) <;> (try (exfalso; omega)))
    | (first | refine aendG_ret (by simp only [go_sem, Nat.reduceBEq, Nat.reduceBneDiff, Nat.reduceLT, Nat.reduceLeDiff, Nat.reduceAdd, Nat.reduceMul, Nat.reduceSub, Nat.reduceEqDiff, reduceCtorEq, v8_len]; exact rfl) ?_ ?_ ?_ | refine aendG_normal (by simp only [go_sem, Nat.reduceBEq, Nat.reduceBneDiff, Nat.reduceLT, Nat.reduceLeDiff, Nat.reduceAdd, Nat.reduceMul, Nat.reduceSub, Nat.reduceEqDiff, reduceCtorEq, v8_len]; exact rfl) ?_ ?_ ?_) | fail)) <;> (try omega)
  · rw [offsets, if_pos h]; exact up_nG2 _ _
  · rw [offsets, if_pos h]; exact obUp_row0 obUp_nil
  · refine go_loop [0, 1, 14, 15, 16] [] (fun k : Nat => ⟨[(0, true, .v (.int .i64 x)), (1, true, .lst 1 (v8 xs)), (14, true, .lst 1 (v8 xs)), (15, true, .v (.int .i64 xs.length)), (16, true, .v (.int .i64 k))], []⟩) (fun k => k ≤ xs.length ∧ ∀ i (hi : i < xs.length), i < k → 0 ≤ xs[i]) (fun k => xs.length - k) 0 (by simp only [go_sem, Nat.reduceBEq, Nat.reduceBneDiff, Nat.reduceLT, Nat.reduceLeDiff, Nat.reduceAdd, Nat.reduceMul, Nat.reduceSub, Nat.reduceEqDiff, reduceCtorEq, v8_len]; exact rfl) ⟨Nat.zero_le _, fun _ _ h => by omega⟩ ?_
    intro k ⟨hk, hpos⟩
    have hw := wrap_i64 (n := (k : Int) + 1) (by omega)
    by_cases hlt : k < xs.length
    · have g1 := v8_get hlt
      (repeat' (first
    | exact trivial
    | (with_reducible first | refine aw_seq ?_ | refine aw_block ?_ | refine aw_skip ?_ | refine aw_ret ?_ | refine aw_exit ?_ | refine aseq_normal ?_ | refine aseq_ret ?_ | refine aseq_exit ?_ | refine ablk_normal ?_ | refine ablk_ret ?_ | refine ablk_hit ?_ | refine aw_region ?_ | refine go_nil ?_ | refine al_of ?_)
    | with_reducible refine ablk_miss (by decide) ?_
    | ((with_reducible refine al_id ?_); refine go_run (tyOf_ok _) [] (by simp only [go_sem, Nat.reduceBEq, Nat.reduceBneDiff, Nat.reduceLT, Nat.reduceLeDiff, Nat.reduceAdd, Nat.reduceMul, Nat.reduceSub, Nat.reduceEqDiff, reduceCtorEq, v8_len, g1, hw]; exact rfl) ?_ ?_)
    | (refine aw_cond (by simp only [go_sem, Nat.reduceBEq, Nat.reduceBneDiff, Nat.reduceLT, Nat.reduceLeDiff, Nat.reduceAdd, Nat.reduceMul, Nat.reduceSub, Nat.reduceEqDiff, reduceCtorEq, v8_len, g1, hw]; exact rfl) (by simp only [go_sem, Nat.reduceBEq, Nat.reduceBneDiff, Nat.reduceLT, Nat.reduceLeDiff, Nat.reduceAdd, Nat.reduceMul, Nat.reduceSub, Nat.reduceEqDiff, reduceCtorEq]) (fun h => ?_) (fun h => ?_) <;> (try simp only [decide_eq_true_eq, decide_eq_false_iff_not, Bool.not_eq_true', Bool.not_eq_false', Bool.or_eq_true, Bool.or_eq_false_iff, Bool.and_eq_true, Bool.and_eq_false_iff, Decidable.not_not, reduceCtorEq] at h) <;> (try (exfalso; omega)))
    | (first | refine aendG_ret (by simp only [go_sem, Nat.reduceBEq, Nat.reduceBneDiff, Nat.reduceLT, Nat.reduceLeDiff, Nat.reduceAdd, Nat.reduceMul, Nat.reduceSub, Nat.reduceEqDiff, reduceCtorEq, v8_len, g1, hw]; exact rfl) ?_ ?_ ?_ | refine aendG_normal (by simp only [go_sem, Nat.reduceBEq, Nat.reduceBneDiff, Nat.reduceLT, Nat.reduceLeDiff, Nat.reduceAdd, Nat.reduceMul, Nat.reduceSub, Nat.reduceEqDiff, reduceCtorEq, v8_len, g1, hw]; exact rfl) ?_ ?_ ?_) | fail)) <;> (try omega)
      · rw [offsets, if_neg (by omega), if_pos ⟨_, List.getElem_mem hlt, h⟩]; exact up_nG2 _ _
      · rw [offsets, if_neg (by omega), if_pos ⟨_, List.getElem_mem hlt, h⟩]; exact obUp_row0 obUp_nil
      · refine ⟨k + 1, by simp only [go_sem, Nat.reduceBEq, Nat.reduceBneDiff, Nat.reduceLT, Nat.reduceLeDiff, Nat.reduceAdd, Nat.reduceMul, Nat.reduceSub, Nat.reduceEqDiff, reduceCtorEq]; exact rfl, ⟨by omega, fun i hi hik => ?_⟩, by omega⟩
        rcases Nat.lt_or_ge i k with h' | h'
        · exact hpos i hi h'
        · have : i = k := by omega
          subst this; omega
    · (repeat' (first
    | exact trivial
    | (with_reducible first | refine aw_seq ?_ | refine aw_block ?_ | refine aw_skip ?_ | refine aw_ret ?_ | refine aw_exit ?_ | refine aseq_normal ?_ | refine aseq_ret ?_ | refine aseq_exit ?_ | refine ablk_normal ?_ | refine ablk_ret ?_ | refine ablk_hit ?_ | refine aw_region ?_ | refine go_nil ?_ | refine al_of ?_)
    | with_reducible refine ablk_miss (by decide) ?_
    | ((with_reducible refine al_id ?_); refine go_run (tyOf_ok _) [] (by simp only [go_sem, Nat.reduceBEq, Nat.reduceBneDiff, Nat.reduceLT, Nat.reduceLeDiff, Nat.reduceAdd, Nat.reduceMul, Nat.reduceSub, Nat.reduceEqDiff, reduceCtorEq, v8_len, hw]; exact rfl) ?_ ?_)
    | (refine aw_cond (by simp only [go_sem, Nat.reduceBEq, Nat.reduceBneDiff, Nat.reduceLT, Nat.reduceLeDiff, Nat.reduceAdd, Nat.reduceMul, Nat.reduceSub, Nat.reduceEqDiff, reduceCtorEq, v8_len, hw]; exact rfl) (by simp only [go_sem, Nat.reduceBEq, Nat.reduceBneDiff, Nat.reduceLT, Nat.reduceLeDiff, Nat.reduceAdd, Nat.reduceMul, Nat.reduceSub, Nat.reduceEqDiff, reduceCtorEq]) (fun h => ?_) (fun h => ?_) <;> (try simp only [decide_eq_true_eq, decide_eq_false_iff_not, Bool.not_eq_true', Bool.not_eq_false', Bool.or_eq_true, Bool.or_eq_false_iff, Bool.and_eq_true, Bool.and_eq_false_iff, Decidable.not_not, reduceCtorEq] at h) <;> (try (exfalso; omega)))
    | (first | refine aendG_ret (by simp only [go_sem, Nat.reduceBEq, Nat.reduceBneDiff, Nat.reduceLT, Nat.reduceLeDiff, Nat.reduceAdd, Nat.reduceMul, Nat.reduceSub, Nat.reduceEqDiff, reduceCtorEq, v8_len, hw]; exact rfl) ?_ ?_ ?_ | refine aendG_normal (by simp only [go_sem, Nat.reduceBEq, Nat.reduceBneDiff, Nat.reduceLT, Nat.reduceLeDiff, Nat.reduceAdd, Nat.reduceMul, Nat.reduceSub, Nat.reduceEqDiff, reduceCtorEq, v8_len, hw]; exact rfl) ?_ ?_ ?_) | fail)) <;> (try omega)
      have hall : ∀ n ∈ xs, 0 ≤ n := fun n hn => by
        obtain ⟨i, hi, rfl⟩ := List.getElem_of_mem hn
        exact hpos i hi (by omega)
      have hns : ¬ ∃ n ∈ xs, n < 0 := fun ⟨n, hn, hn0⟩ => absurd (hall n hn) (by omega)
      refine aw_nilrow 8 3 1 8 (.inl (by decide)) (by simp only [go_sem, Nat.reduceBEq, Nat.reduceBneDiff, Nat.reduceLT, Nat.reduceLeDiff, Nat.reduceAdd, Nat.reduceMul, Nat.reduceSub, Nat.reduceEqDiff, reduceCtorEq]) ?_
      refine go_loop [24, 25, 26, 8, 9] [8] (fun p : Nat × List Int × Int => ⟨[(24, true, .lst 1 (v8 xs)), (25, true, .v (.int .i64 xs.length)), (26, true, .v (.int .i64 p.1)), (8, true, .ref 3 1 8 0 (v8 p.2.1).length), (9, true, .v (.int .i64 p.2.2))], [(8, .row 3 1 (v8 p.2.1))]⟩)
        (fun p => p.1 ≤ xs.length ∧ p.2.1.length = p.1 ∧ 0 ≤ p.2.2 ∧ I64 p.2.2 ∧ offs x xs = (offs p.2.2 (xs.drop p.1)).map (p.2.1 ++ ·)) (fun p => xs.length - p.1) (0, [], x) (by simp only [AState.nilrow, go_sem, Nat.reduceBEq, Nat.reduceBneDiff, Nat.reduceLT, Nat.reduceLeDiff, Nat.reduceAdd, Nat.reduceMul, Nat.reduceSub, Nat.reduceEqDiff, reduceCtorEq]; exact rfl) ⟨Nat.zero_le _, rfl, by show 0 ≤ x; omega, hx', by simp⟩ ?_
      clear hk hlt hw h hpos k
      intro ⟨k, out, at_⟩ ⟨hk, hlen, h0, hat, heq⟩
      simp only at hk hlen h0 hat heq ⊢
      unfold I64 at hat
      have hw := wrap_i64 (n := (k : Int) + 1) (by omega)
      by_cases hlt : k < xs.length
      · have g1 := v8_get hlt
        have hp := hall _ (List.getElem_mem hlt)
        have hm : I64 xs[k] := hxs _ (List.getElem_mem hlt)
        unfold I64 at hm
        have hso : (v8 out).length + 1 = k + 1 := by rw [v8_len, hlen]
        have hwm := fun h : at_ ≤ 4294967295 => wrap_i64 (n := at_ + min xs[k] 4294967296) (by omega)
        (repeat' (first
    | exact trivial
    | (with_reducible first | refine aw_seq ?_ | refine aw_block ?_ | refine aw_skip ?_ | refine aw_ret ?_ | refine aw_exit ?_ | refine aseq_normal ?_ | refine aseq_ret ?_ | refine aseq_exit ?_ | refine ablk_normal ?_ | refine ablk_ret ?_ | refine ablk_hit ?_ | refine aw_region ?_ | refine go_nil ?_ | refine al_of ?_)
    | with_reducible refine ablk_miss (by decide) ?_
    | ((with_reducible refine al_id ?_); refine go_run (tyOf_ok _) [] (by simp only [go_sem, Nat.reduceBEq, Nat.reduceBneDiff, Nat.reduceLT, Nat.reduceLeDiff, Nat.reduceAdd, Nat.reduceMul, Nat.reduceSub, Nat.reduceEqDiff, reduceCtorEq, v8_len, g1, hw, v8_app, v8_take, take_len (Nat.le_refl _)]; exact rfl) ?_ ?_)
    | (refine aw_cond (by simp only [go_sem, Nat.reduceBEq, Nat.reduceBneDiff, Nat.reduceLT, Nat.reduceLeDiff, Nat.reduceAdd, Nat.reduceMul, Nat.reduceSub, Nat.reduceEqDiff, reduceCtorEq, v8_len, g1, hw, v8_app, v8_take, take_len (Nat.le_refl _)]; exact rfl) (by simp only [go_sem, Nat.reduceBEq, Nat.reduceBneDiff, Nat.reduceLT, Nat.reduceLeDiff, Nat.reduceAdd, Nat.reduceMul, Nat.reduceSub, Nat.reduceEqDiff, reduceCtorEq]) (fun h => ?_) (fun h => ?_) <;> (try simp only [decide_eq_true_eq, decide_eq_false_iff_not, Bool.not_eq_true', Bool.not_eq_false', Bool.or_eq_true, Bool.or_eq_false_iff, Bool.and_eq_true, Bool.and_eq_false_iff, Decidable.not_not, reduceCtorEq] at h) <;> (try (exfalso; omega)))
    | (first | refine aendG_ret (by simp only [go_sem, Nat.reduceBEq, Nat.reduceBneDiff, Nat.reduceLT, Nat.reduceLeDiff, Nat.reduceAdd, Nat.reduceMul, Nat.reduceSub, Nat.reduceEqDiff, reduceCtorEq, v8_len, g1, hw, v8_app, v8_take, take_len (Nat.le_refl _)]; exact rfl) ?_ ?_ ?_ | refine aendG_normal (by simp only [go_sem, Nat.reduceBEq, Nat.reduceBneDiff, Nat.reduceLT, Nat.reduceLeDiff, Nat.reduceAdd, Nat.reduceMul, Nat.reduceSub, Nat.reduceEqDiff, reduceCtorEq, v8_len, g1, hw, v8_app, v8_take, take_len (Nat.le_refl _)]; exact rfl) ?_ ?_ ?_) | fail)) <;> (try omega)
        · have he : offsets x xs = ([], 91) := by
            rw [offsets, if_neg (by omega), if_neg hns, heq, offs_step hlt, if_pos h]; rfl
          rw [he]; exact up_nG2 _ _
        · have he : offsets x xs = ([], 91) := by
            rw [offsets, if_neg (by omega), if_neg hns, heq, offs_step hlt, if_pos h]; rfl
          rw [he]; exact obUp_row0 obUp_nil
        · simp only [List.length_append, List.length_singleton]; omega
        · refine ⟨(k + 1, out ++ [at_], at_ + min xs[k] 4294967296), by simp only [go_sem, Nat.reduceBEq, Nat.reduceBneDiff, Nat.reduceLT, Nat.reduceLeDiff, Nat.reduceAdd, Nat.reduceMul, Nat.reduceSub, Nat.reduceEqDiff, reduceCtorEq, v8_len, hwm (by omega)]; exact rfl, ⟨hlt, by simp [hlen], by simp only; omega, by unfold I64; simp only; omega, ?_⟩, by simp only; omega⟩
          rw [heq, offs_step hlt, if_neg h, Option.map_map]
          congr 1
          funext l
          simp
      · have he : offsets x xs = (out, 0) := by
          rw [offsets, if_neg (by omega), if_neg hns, heq, drop_len (by omega)]; simp [offs]
        (repeat' (first
    | exact trivial
    | (with_reducible first | refine aw_seq ?_ | refine aw_block ?_ | refine aw_skip ?_ | refine aw_ret ?_ | refine aw_exit ?_ | refine aseq_normal ?_ | refine aseq_ret ?_ | refine aseq_exit ?_ | refine ablk_normal ?_ | refine ablk_ret ?_ | refine ablk_hit ?_ | refine aw_region ?_ | refine go_nil ?_ | refine al_of ?_)
    | with_reducible refine ablk_miss (by decide) ?_
    | ((with_reducible refine al_id ?_); refine go_run (tyOf_ok _) [] (by simp only [go_sem, Nat.reduceBEq, Nat.reduceBneDiff, Nat.reduceLT, Nat.reduceLeDiff, Nat.reduceAdd, Nat.reduceMul, Nat.reduceSub, Nat.reduceEqDiff, reduceCtorEq, v8_len, hw]; exact rfl) ?_ ?_)
    | (refine aw_cond (by simp only [go_sem, Nat.reduceBEq, Nat.reduceBneDiff, Nat.reduceLT, Nat.reduceLeDiff, Nat.reduceAdd, Nat.reduceMul, Nat.reduceSub, Nat.reduceEqDiff, reduceCtorEq, v8_len, hw]; exact rfl) (by simp only [go_sem, Nat.reduceBEq, Nat.reduceBneDiff, Nat.reduceLT, Nat.reduceLeDiff, Nat.reduceAdd, Nat.reduceMul, Nat.reduceSub, Nat.reduceEqDiff, reduceCtorEq]) (fun h => ?_) (fun h => ?_) <;> (try simp only [decide_eq_true_eq, decide_eq_false_iff_not, Bool.not_eq_true', Bool.not_eq_false', Bool.or_eq_true, Bool.or_eq_false_iff, Bool.and_eq_true, Bool.and_eq_false_iff, Decidable.not_not, reduceCtorEq] at h) <;> (try (exfalso; omega)))
    | (first | refine aendG_ret (by simp only [go_sem, Nat.reduceBEq, Nat.reduceBneDiff, Nat.reduceLT, Nat.reduceLeDiff, Nat.reduceAdd, Nat.reduceMul, Nat.reduceSub, Nat.reduceEqDiff, reduceCtorEq, v8_len, hw]; exact rfl) ?_ ?_ ?_ | refine aendG_normal (by simp only [go_sem, Nat.reduceBEq, Nat.reduceBneDiff, Nat.reduceLT, Nat.reduceLeDiff, Nat.reduceAdd, Nat.reduceMul, Nat.reduceSub, Nat.reduceEqDiff, reduceCtorEq, v8_len, hw]; exact rfl) ?_ ?_ ?_) | fail)) <;> (try omega)
        all_goals rw [he]
        · exact up_rG2 _ _ _
        · exact obUp_cons rfl obUp_nil
theorem lengths_G (x : Int) (hx : I64 x) (xs : List Int) (hl : xs.length ≤ 1000000000) (hxs : ∀ z ∈ xs, I64 z) (e : Int) (he : I64 e) : GCall Try.prog 17 [.v (.int .i64 x), .lst 1 (v8 xs), .v (.int .i64 e)] [] (rG3 11 (lengths x xs e)) (obG 11 (lengths x xs e).1) := by
  refine go_fnG (tyOf_ok _) Try.func17 rfl rfl (by rw [Try.results17]) Try.ntmps17 rfl fun E => ?_
  have hx' := hx
  unfold I64 at hx
  (repeat' (first
    | exact trivial
    | (with_reducible first | refine aw_seq ?_ | refine aw_block ?_ | refine aw_skip ?_ | refine aw_ret ?_ | refine aw_exit ?_ | refine aseq_normal ?_ | refine aseq_ret ?_ | refine aseq_exit ?_ | refine ablk_normal ?_ | refine ablk_ret ?_ | refine ablk_hit ?_ | refine aw_region ?_ | refine go_nil ?_ | refine al_of ?_)
    | with_reducible refine ablk_miss (by decide) ?_
    | ((with_reducible refine al_id ?_); refine go_run (tyOf_ok _) [] (by simp only [go_sem, Nat.reduceBEq, Nat.reduceBneDiff, Nat.reduceLT, Nat.reduceLeDiff, Nat.reduceAdd, Nat.reduceMul, Nat.reduceSub, Nat.reduceEqDiff, reduceCtorEq, v8_len]; exact rfl) ?_ ?_)
    | (refine aw_cond (by simp only [go_sem, Nat.reduceBEq, Nat.reduceBneDiff, Nat.reduceLT, Nat.reduceLeDiff, Nat.reduceAdd, Nat.reduceMul, Nat.reduceSub, Nat.reduceEqDiff, reduceCtorEq, v8_len]; exact rfl) (by simp only [go_sem, Nat.reduceBEq, Nat.reduceBneDiff, Nat.reduceLT, Nat.reduceLeDiff, Nat.reduceAdd, Nat.reduceMul, Nat.reduceSub, Nat.reduceEqDiff, reduceCtorEq]) (fun h => ?_) (fun h => ?_) <;> (try simp only [decide_eq_true_eq, decide_eq_false_iff_not, Bool.not_eq_true', Bool.not_eq_false', Bool.or_eq_true, Bool.or_eq_false_iff, Bool.and_eq_true, Bool.and_eq_false_iff, Decidable.not_not, reduceCtorEq] at h) <;> (try (exfalso; omega)))
    | (first | refine aendG_ret (by simp only [go_sem, Nat.reduceBEq, Nat.reduceBneDiff, Nat.reduceLT, Nat.reduceLeDiff, Nat.reduceAdd, Nat.reduceMul, Nat.reduceSub, Nat.reduceEqDiff, reduceCtorEq, v8_len]; exact rfl) ?_ ?_ ?_ | refine aendG_normal (by simp only [go_sem, Nat.reduceBEq, Nat.reduceBneDiff, Nat.reduceLT, Nat.reduceLeDiff, Nat.reduceAdd, Nat.reduceMul, Nat.reduceSub, Nat.reduceEqDiff, reduceCtorEq, v8_len]; exact rfl) ?_ ?_ ?_) | fail)) <;> (try omega)
  · rw [lengths, if_pos h]; exact up_nG3 _ _ _
  · rw [lengths, if_pos h]; exact obUp_row0 obUp_nil
  · refine go_loop [0, 1, 2, 17, 18, 19] [] (fun k : Nat => ⟨[(0, true, .v (.int .i64 x)), (1, true, .lst 1 (v8 xs)), (2, true, .v (.int .i64 e)), (17, true, .lst 1 (v8 xs)), (18, true, .v (.int .i64 xs.length)), (19, true, .v (.int .i64 k))], []⟩) (fun k => k ≤ xs.length ∧ ∀ i, i < k → bad x xs e i = false) (fun k => xs.length - k) 0 (by simp only [go_sem, Nat.reduceBEq, Nat.reduceBneDiff, Nat.reduceLT, Nat.reduceLeDiff, Nat.reduceAdd, Nat.reduceMul, Nat.reduceSub, Nat.reduceEqDiff, reduceCtorEq, v8_len]; exact rfl) ⟨Nat.zero_le _, fun _ h => by omega⟩ ?_
    intro k ⟨hk, hgood⟩
    have hw := wrap_i64 (n := (k : Int) + 1) (by omega)
    by_cases hlt : k < xs.length
    · have g1 := v8_get hlt
      have hbad : (List.range xs.length).find? (bad x xs e) = some k ↔ bad x xs e k = true := by
        rw [List.find?_range_eq_some]
        refine ⟨fun h => h.1, fun h => ⟨h, List.mem_range.2 hlt, fun j hj => by simp [hgood j hj]⟩⟩
      have hnext : bad x xs e k = false → ∀ i, i < k + 1 → bad x xs e i = false := fun hb i hi => by
        rcases Nat.lt_or_ge i k with h' | h'
        · exact hgood i h'
        · have : i = k := by omega
          subst this; exact hb
      have hgk := getD_lt hlt 0
      have hend : bad x xs e k = true → (AV.tup [AV.v (Value.slice none 0 0), AV.v (Value.int IntKind.i64 ↑k), AV.v (Value.int IntKind.i64 122)]).up (rG3 11 (lengths x xs e)) ∧ ∀ ob, obUp ob (obG 11 (lengths x xs e).1) := fun hb => by
        rw [lengths, if_neg (by omega), hbad.2 hb]; exact ⟨up_nG3 _ _ _, fun ob => obUp_row0 obUp_nil⟩
      rcases Nat.eq_zero_or_pos k with hk0 | hk0
      · have e1 : ((k : Int) = 0) = True := eq_true (by omega)
        have e2 : ((0 : Int) < k) = False := eq_false (by omega)
        have hw1 := wrap_i64 (n := (k : Int) - 1) (by omega)
        have g0 : (v8 xs)[((k : Int) - 1).toNat]? = some [.v (.int .i64 xs[k])] := by rw [show ((k : Int) - 1).toNat = k by omega]; exact v8_get (by omega)
        by_cases e3 : xs[k] = x
        · have e4 : (xs[k] = x) = True := eq_true e3
          (repeat' (first
    | exact trivial
    | (with_reducible first | refine aw_seq ?_ | refine aw_block ?_ | refine aw_skip ?_ | refine aw_ret ?_ | refine aw_exit ?_ | refine aseq_normal ?_ | refine aseq_ret ?_ | refine aseq_exit ?_ | refine ablk_normal ?_ | refine ablk_ret ?_ | refine ablk_hit ?_ | refine aw_region ?_ | refine go_nil ?_ | refine al_of ?_)
    | with_reducible refine ablk_miss (by decide) ?_
    | ((with_reducible refine al_id ?_); refine go_run (tyOf_ok _) [] (by simp only [go_sem, Nat.reduceBEq, Nat.reduceBneDiff, Nat.reduceLT, Nat.reduceLeDiff, Nat.reduceAdd, Nat.reduceMul, Nat.reduceSub, Nat.reduceEqDiff, reduceCtorEq, v8_len, g1, hw, hw1, g0, e1, e2, e4]; exact rfl) ?_ ?_)
    | (refine aw_cond (by simp only [go_sem, Nat.reduceBEq, Nat.reduceBneDiff, Nat.reduceLT, Nat.reduceLeDiff, Nat.reduceAdd, Nat.reduceMul, Nat.reduceSub, Nat.reduceEqDiff, reduceCtorEq, v8_len, g1, hw, hw1, g0, e1, e2, e4]; exact rfl) (by simp only [go_sem, Nat.reduceBEq, Nat.reduceBneDiff, Nat.reduceLT, Nat.reduceLeDiff, Nat.reduceAdd, Nat.reduceMul, Nat.reduceSub, Nat.reduceEqDiff, reduceCtorEq]) (fun h => ?_) (fun h => ?_) <;> (try simp only [decide_eq_true_eq, decide_eq_false_iff_not, Bool.not_eq_true', Bool.not_eq_false', Bool.or_eq_true, Bool.or_eq_false_iff, Bool.and_eq_true, Bool.and_eq_false_iff, Decidable.not_not, reduceCtorEq] at h) <;> (try (exfalso; omega)))
    | (first | refine aendG_ret (by simp only [go_sem, Nat.reduceBEq, Nat.reduceBneDiff, Nat.reduceLT, Nat.reduceLeDiff, Nat.reduceAdd, Nat.reduceMul, Nat.reduceSub, Nat.reduceEqDiff, reduceCtorEq, v8_len, g1, hw, hw1, g0, e1, e2, e4]; exact rfl) ?_ ?_ ?_ | refine aendG_normal (by simp only [go_sem, Nat.reduceBEq, Nat.reduceBneDiff, Nat.reduceLT, Nat.reduceLeDiff, Nat.reduceAdd, Nat.reduceMul, Nat.reduceSub, Nat.reduceEqDiff, reduceCtorEq, v8_len, g1, hw, hw1, g0, e1, e2, e4]; exact rfl) ?_ ?_ ?_) | fail)) <;> (try omega)
          · exact (hend (by simp only [bad, decide_eq_true_eq, hgk]; omega)).1
          · exact (hend (by simp only [bad, decide_eq_true_eq, hgk]; omega)).2 _
          · exact ⟨k + 1, by simp only [go_sem, Nat.reduceBEq, Nat.reduceBneDiff, Nat.reduceLT, Nat.reduceLeDiff, Nat.reduceAdd, Nat.reduceMul, Nat.reduceSub, Nat.reduceEqDiff, reduceCtorEq]; exact rfl, ⟨by omega, hnext (by simp only [bad, decide_eq_false_iff_not, hgk]; omega)⟩, by omega⟩
        · (repeat' (first
    | exact trivial
    | (with_reducible first | refine aw_seq ?_ | refine aw_block ?_ | refine aw_skip ?_ | refine aw_ret ?_ | refine aw_exit ?_ | refine aseq_normal ?_ | refine aseq_ret ?_ | refine aseq_exit ?_ | refine ablk_normal ?_ | refine ablk_ret ?_ | refine ablk_hit ?_ | refine aw_region ?_ | refine go_nil ?_ | refine al_of ?_)
    | with_reducible refine ablk_miss (by decide) ?_
    | ((with_reducible refine al_id ?_); refine go_run (tyOf_ok _) [] (by simp only [go_sem, Nat.reduceBEq, Nat.reduceBneDiff, Nat.reduceLT, Nat.reduceLeDiff, Nat.reduceAdd, Nat.reduceMul, Nat.reduceSub, Nat.reduceEqDiff, reduceCtorEq, v8_len, g1, hw, hw1, g0, e1, e2, e3]; exact rfl) ?_ ?_)
    | (refine aw_cond (by simp only [go_sem, Nat.reduceBEq, Nat.reduceBneDiff, Nat.reduceLT, Nat.reduceLeDiff, Nat.reduceAdd, Nat.reduceMul, Nat.reduceSub, Nat.reduceEqDiff, reduceCtorEq, v8_len, g1, hw, hw1, g0, e1, e2, e3]; exact rfl) (by simp only [go_sem, Nat.reduceBEq, Nat.reduceBneDiff, Nat.reduceLT, Nat.reduceLeDiff, Nat.reduceAdd, Nat.reduceMul, Nat.reduceSub, Nat.reduceEqDiff, reduceCtorEq]) (fun h => ?_) (fun h => ?_) <;> (try simp only [decide_eq_true_eq, decide_eq_false_iff_not, Bool.not_eq_true', Bool.not_eq_false', Bool.or_eq_true, Bool.or_eq_false_iff, Bool.and_eq_true, Bool.and_eq_false_iff, Decidable.not_not, reduceCtorEq] at h) <;> (try (exfalso; omega)))
    | (first | refine aendG_ret (by simp only [go_sem, Nat.reduceBEq, Nat.reduceBneDiff, Nat.reduceLT, Nat.reduceLeDiff, Nat.reduceAdd, Nat.reduceMul, Nat.reduceSub, Nat.reduceEqDiff, reduceCtorEq, v8_len, g1, hw, hw1, g0, e1, e2, e3]; exact rfl) ?_ ?_ ?_ | refine aendG_normal (by simp only [go_sem, Nat.reduceBEq, Nat.reduceBneDiff, Nat.reduceLT, Nat.reduceLeDiff, Nat.reduceAdd, Nat.reduceMul, Nat.reduceSub, Nat.reduceEqDiff, reduceCtorEq, v8_len, g1, hw, hw1, g0, e1, e2, e3]; exact rfl) ?_ ?_ ?_) | fail)) <;> (try omega)
          · exact (hend (by simp only [bad, decide_eq_true_eq, hgk]; omega)).1
          · exact (hend (by simp only [bad, decide_eq_true_eq, hgk]; omega)).2 _
      · have e1 : ((k : Int) = 0) = False := eq_false (by omega)
        have e2 : ((0 : Int) < k) = True := eq_true (by omega)
        have hw1 := wrap_i64 (n := (k : Int) - 1) (by omega)
        have g0 : (v8 xs)[((k : Int) - 1).toNat]? = some [.v (.int .i64 xs[k - 1])] := by rw [show ((k : Int) - 1).toNat = k - 1 by omega]; exact v8_get (by omega)
        (repeat' (first
    | exact trivial
    | (with_reducible first | refine aw_seq ?_ | refine aw_block ?_ | refine aw_skip ?_ | refine aw_ret ?_ | refine aw_exit ?_ | refine aseq_normal ?_ | refine aseq_ret ?_ | refine aseq_exit ?_ | refine ablk_normal ?_ | refine ablk_ret ?_ | refine ablk_hit ?_ | refine aw_region ?_ | refine go_nil ?_ | refine al_of ?_)
    | with_reducible refine ablk_miss (by decide) ?_
    | ((with_reducible refine al_id ?_); refine go_run (tyOf_ok _) [] (by simp only [go_sem, Nat.reduceBEq, Nat.reduceBneDiff, Nat.reduceLT, Nat.reduceLeDiff, Nat.reduceAdd, Nat.reduceMul, Nat.reduceSub, Nat.reduceEqDiff, reduceCtorEq, v8_len, g1, g0, hw, hw1, e1, e2]; exact rfl) ?_ ?_)
    | (refine aw_cond (by simp only [go_sem, Nat.reduceBEq, Nat.reduceBneDiff, Nat.reduceLT, Nat.reduceLeDiff, Nat.reduceAdd, Nat.reduceMul, Nat.reduceSub, Nat.reduceEqDiff, reduceCtorEq, v8_len, g1, g0, hw, hw1, e1, e2]; exact rfl) (by simp only [go_sem, Nat.reduceBEq, Nat.reduceBneDiff, Nat.reduceLT, Nat.reduceLeDiff, Nat.reduceAdd, Nat.reduceMul, Nat.reduceSub, Nat.reduceEqDiff, reduceCtorEq]) (fun h => ?_) (fun h => ?_) <;> (try simp only [decide_eq_true_eq, decide_eq_false_iff_not, Bool.not_eq_true', Bool.not_eq_false', Bool.or_eq_true, Bool.or_eq_false_iff, Bool.and_eq_true, Bool.and_eq_false_iff, Decidable.not_not, reduceCtorEq] at h) <;> (try (exfalso; omega)))
    | (first | refine aendG_ret (by simp only [go_sem, Nat.reduceBEq, Nat.reduceBneDiff, Nat.reduceLT, Nat.reduceLeDiff, Nat.reduceAdd, Nat.reduceMul, Nat.reduceSub, Nat.reduceEqDiff, reduceCtorEq, v8_len, g1, g0, hw, hw1, e1, e2]; exact rfl) ?_ ?_ ?_ | refine aendG_normal (by simp only [go_sem, Nat.reduceBEq, Nat.reduceBneDiff, Nat.reduceLT, Nat.reduceLeDiff, Nat.reduceAdd, Nat.reduceMul, Nat.reduceSub, Nat.reduceEqDiff, reduceCtorEq, v8_len, g1, g0, hw, hw1, e1, e2]; exact rfl) ?_ ?_ ?_) | fail)) <;> (try omega)
        · exact (hend (by simp only [bad, decide_eq_true_eq, hgk, getD_lt (xs := xs) (k := k - 1) (by omega) 0]; omega)).1
        · exact (hend (by simp only [bad, decide_eq_true_eq, hgk, getD_lt (xs := xs) (k := k - 1) (by omega) 0]; omega)).2 _
        · exact ⟨k + 1, by simp only [go_sem, Nat.reduceBEq, Nat.reduceBneDiff, Nat.reduceLT, Nat.reduceLeDiff, Nat.reduceAdd, Nat.reduceMul, Nat.reduceSub, Nat.reduceEqDiff, reduceCtorEq]; exact rfl, ⟨by omega, hnext (by simp only [bad, decide_eq_false_iff_not, hgk, getD_lt (xs := xs) (k := k - 1) (by omega) 0]; omega)⟩, by omega⟩
    · (repeat' (first
    | exact trivial
    | (with_reducible first | refine aw_seq ?_ | refine aw_block ?_ | refine aw_skip ?_ | refine aw_ret ?_ | refine aw_exit ?_ | refine aseq_normal ?_ | refine aseq_ret ?_ | refine aseq_exit ?_ | refine ablk_normal ?_ | refine ablk_ret ?_ | refine ablk_hit ?_ | refine aw_region ?_ | refine go_nil ?_ | refine al_of ?_)
    | with_reducible refine ablk_miss (by decide) ?_
    | ((with_reducible refine al_id ?_); refine go_run (tyOf_ok _) [] (by simp only [go_sem, Nat.reduceBEq, Nat.reduceBneDiff, Nat.reduceLT, Nat.reduceLeDiff, Nat.reduceAdd, Nat.reduceMul, Nat.reduceSub, Nat.reduceEqDiff, reduceCtorEq, v8_len, hw]; exact rfl) ?_ ?_)
    | (refine aw_cond (by simp only [go_sem, Nat.reduceBEq, Nat.reduceBneDiff, Nat.reduceLT, Nat.reduceLeDiff, Nat.reduceAdd, Nat.reduceMul, Nat.reduceSub, Nat.reduceEqDiff, reduceCtorEq, v8_len, hw]; exact rfl) (by simp only [go_sem, Nat.reduceBEq, Nat.reduceBneDiff, Nat.reduceLT, Nat.reduceLeDiff, Nat.reduceAdd, Nat.reduceMul, Nat.reduceSub, Nat.reduceEqDiff, reduceCtorEq]) (fun h => ?_) (fun h => ?_) <;> (try simp only [decide_eq_true_eq, decide_eq_false_iff_not, Bool.not_eq_true', Bool.not_eq_false', Bool.or_eq_true, Bool.or_eq_false_iff, Bool.and_eq_true, Bool.and_eq_false_iff, Decidable.not_not, reduceCtorEq] at h) <;> (try (exfalso; omega)))
    | (first | refine aendG_ret (by simp only [go_sem, Nat.reduceBEq, Nat.reduceBneDiff, Nat.reduceLT, Nat.reduceLeDiff, Nat.reduceAdd, Nat.reduceMul, Nat.reduceSub, Nat.reduceEqDiff, reduceCtorEq, v8_len, hw]; exact rfl) ?_ ?_ ?_ | refine aendG_normal (by simp only [go_sem, Nat.reduceBEq, Nat.reduceBneDiff, Nat.reduceLT, Nat.reduceLeDiff, Nat.reduceAdd, Nat.reduceMul, Nat.reduceSub, Nat.reduceEqDiff, reduceCtorEq, v8_len, hw]; exact rfl) ?_ ?_ ?_) | fail)) <;> (try omega)
      have hall : ∀ i, i < xs.length → bad x xs e i = false := fun i hi => hgood i (by omega)
      refine aw_nilrow 11 3 1 11 (.inl (by decide)) (by simp only [go_sem, Nat.reduceBEq, Nat.reduceBneDiff, Nat.reduceLT, Nat.reduceLeDiff, Nat.reduceAdd, Nat.reduceMul, Nat.reduceSub, Nat.reduceEqDiff, reduceCtorEq]) ?_
      refine go_loop [1, 2, 51, 52, 53, 11] [11] (fun k : Nat => ⟨[(1, true, .lst 1 (v8 xs)), (2, true, .v (.int .i64 e)), (51, true, .lst 1 (v8 xs)), (52, true, .v (.int .i64 xs.length)), (53, true, .v (.int .i64 k)), (11, true, .ref 3 1 11 0 (v8 (diffs xs e k)).length)], [(11, .row 3 1 (v8 (diffs xs e k)))]⟩)
        (fun k => k ≤ xs.length) (fun k => xs.length - k) 0 (by simp only [AState.nilrow, go_sem, Nat.reduceBEq, Nat.reduceBneDiff, Nat.reduceLT, Nat.reduceLeDiff, Nat.reduceAdd, Nat.reduceMul, Nat.reduceSub, Nat.reduceEqDiff, reduceCtorEq]; exact rfl) (Nat.zero_le _) ?_
      clear hk hlt hw h hgood k
      intro k hk
      have hw := wrap_i64 (n := (k : Int) + 1) (by omega)
      by_cases hlt : k < xs.length
      · have g1 := v8_get hlt
        have hgk := getD_lt hlt 0
        have hnn := bad_nonneg (by omega) k hlt (fun i hi => hall i (by omega))
        have hi := hxs _ (List.getElem_mem hlt)
        have hb := hall k hlt
        simp only [bad, decide_eq_false_iff_not, not_or, hgk] at hb hnn
        unfold I64 at he hi
        have hdl : ∀ k, (diffs xs e k).length = k := fun k => by simp [diffs]
        by_cases hn : k + 1 < xs.length
        · have g2 := v8_get hn
          have e1 : ((k : Int) + 1 < xs.length) = True := eq_true (by omega)
          have hgk' := getD_lt hn e
          have hgk'' := getD_lt hn 0
          have hi2 := hxs _ (List.getElem_mem hn)
          have hb2 := hall (k + 1) hn
          simp only [bad, decide_eq_false_iff_not, not_or, hgk'', hgk, Nat.add_sub_cancel] at hb2
          unfold I64 at hi2
          have hw2 := wrap_i64 (n := xs[k + 1] - xs[k]) (by omega)
          have g3 : ((k : Int) + 1).toNat = k + 1 := by omega
          have hds : diffs xs e k ++ [xs[k + 1] - xs[k]] = diffs xs e (k + 1) := by rw [diffs_succ, hgk, hgk']
          (repeat' (first
    | exact trivial
    | (with_reducible first | refine aw_seq ?_ | refine aw_block ?_ | refine aw_skip ?_ | refine aw_ret ?_ | refine aw_exit ?_ | refine aseq_normal ?_ | refine aseq_ret ?_ | refine aseq_exit ?_ | refine ablk_normal ?_ | refine ablk_ret ?_ | refine ablk_hit ?_ | refine aw_region ?_ | refine go_nil ?_ | refine al_of ?_)
    | with_reducible refine ablk_miss (by decide) ?_
    | ((with_reducible refine al_id ?_); refine go_run (tyOf_ok _) [] (by simp only [go_sem, Nat.reduceBEq, Nat.reduceBneDiff, Nat.reduceLT, Nat.reduceLeDiff, Nat.reduceAdd, Nat.reduceMul, Nat.reduceSub, Nat.reduceEqDiff, reduceCtorEq, v8_len, g1, g2, g3, hw, hw2, e1, v8_app, v8_take, take_len (Nat.le_refl _), hds]; exact rfl) ?_ ?_)
    | (refine aw_cond (by simp only [go_sem, Nat.reduceBEq, Nat.reduceBneDiff, Nat.reduceLT, Nat.reduceLeDiff, Nat.reduceAdd, Nat.reduceMul, Nat.reduceSub, Nat.reduceEqDiff, reduceCtorEq, v8_len, g1, g2, g3, hw, hw2, e1, v8_app, v8_take, take_len (Nat.le_refl _), hds]; exact rfl) (by simp only [go_sem, Nat.reduceBEq, Nat.reduceBneDiff, Nat.reduceLT, Nat.reduceLeDiff, Nat.reduceAdd, Nat.reduceMul, Nat.reduceSub, Nat.reduceEqDiff, reduceCtorEq]) (fun h => ?_) (fun h => ?_) <;> (try simp only [decide_eq_true_eq, decide_eq_false_iff_not, Bool.not_eq_true', Bool.not_eq_false', Bool.or_eq_true, Bool.or_eq_false_iff, Bool.and_eq_true, Bool.and_eq_false_iff, Decidable.not_not, reduceCtorEq] at h) <;> (try (exfalso; omega)))
    | (first | refine aendG_ret (by simp only [go_sem, Nat.reduceBEq, Nat.reduceBneDiff, Nat.reduceLT, Nat.reduceLeDiff, Nat.reduceAdd, Nat.reduceMul, Nat.reduceSub, Nat.reduceEqDiff, reduceCtorEq, v8_len, g1, g2, g3, hw, hw2, e1, v8_app, v8_take, take_len (Nat.le_refl _), hds]; exact rfl) ?_ ?_ ?_ | refine aendG_normal (by simp only [go_sem, Nat.reduceBEq, Nat.reduceBneDiff, Nat.reduceLT, Nat.reduceLeDiff, Nat.reduceAdd, Nat.reduceMul, Nat.reduceSub, Nat.reduceEqDiff, reduceCtorEq, v8_len, g1, g2, g3, hw, hw2, e1, v8_app, v8_take, take_len (Nat.le_refl _), hds]; exact rfl) ?_ ?_ ?_) | fail)) <;> (try omega)
          · rw [hdl (k + 1)]; omega
          · exact ⟨k + 1, by simp only [go_sem, Nat.reduceBEq, Nat.reduceBneDiff, Nat.reduceLT, Nat.reduceLeDiff, Nat.reduceAdd, Nat.reduceMul, Nat.reduceSub, Nat.reduceEqDiff, reduceCtorEq, v8_len]; exact rfl, by omega, by omega⟩
        · have e1 : ((k : Int) + 1 < xs.length) = False := eq_false (by omega)
          have hgk' : xs.getD (k + 1) e = e := by simp [List.getElem?_eq_none (show xs.length ≤ k + 1 by omega)]
          have hw2 := wrap_i64 (n := e - xs[k]) (by omega)
          have hds : diffs xs e k ++ [e - xs[k]] = diffs xs e (k + 1) := by rw [diffs_succ, hgk, hgk']
          (repeat' (first
    | exact trivial
    | (with_reducible first | refine aw_seq ?_ | refine aw_block ?_ | refine aw_skip ?_ | refine aw_ret ?_ | refine aw_exit ?_ | refine aseq_normal ?_ | refine aseq_ret ?_ | refine aseq_exit ?_ | refine ablk_normal ?_ | refine ablk_ret ?_ | refine ablk_hit ?_ | refine aw_region ?_ | refine go_nil ?_ | refine al_of ?_)
    | with_reducible refine ablk_miss (by decide) ?_
    | ((with_reducible refine al_id ?_); refine go_run (tyOf_ok _) [] (by simp only [go_sem, Nat.reduceBEq, Nat.reduceBneDiff, Nat.reduceLT, Nat.reduceLeDiff, Nat.reduceAdd, Nat.reduceMul, Nat.reduceSub, Nat.reduceEqDiff, reduceCtorEq, v8_len, g1, hw, hw2, e1, v8_app, v8_take, take_len (Nat.le_refl _), hds]; exact rfl) ?_ ?_)
    | (refine aw_cond (by simp only [go_sem, Nat.reduceBEq, Nat.reduceBneDiff, Nat.reduceLT, Nat.reduceLeDiff, Nat.reduceAdd, Nat.reduceMul, Nat.reduceSub, Nat.reduceEqDiff, reduceCtorEq, v8_len, g1, hw, hw2, e1, v8_app, v8_take, take_len (Nat.le_refl _), hds]; exact rfl) (by simp only [go_sem, Nat.reduceBEq, Nat.reduceBneDiff, Nat.reduceLT, Nat.reduceLeDiff, Nat.reduceAdd, Nat.reduceMul, Nat.reduceSub, Nat.reduceEqDiff, reduceCtorEq]) (fun h => ?_) (fun h => ?_) <;> (try simp only [decide_eq_true_eq, decide_eq_false_iff_not, Bool.not_eq_true', Bool.not_eq_false', Bool.or_eq_true, Bool.or_eq_false_iff, Bool.and_eq_true, Bool.and_eq_false_iff, Decidable.not_not, reduceCtorEq] at h) <;> (try (exfalso; omega)))
    | (first | refine aendG_ret (by simp only [go_sem, Nat.reduceBEq, Nat.reduceBneDiff, Nat.reduceLT, Nat.reduceLeDiff, Nat.reduceAdd, Nat.reduceMul, Nat.reduceSub, Nat.reduceEqDiff, reduceCtorEq, v8_len, g1, hw, hw2, e1, v8_app, v8_take, take_len (Nat.le_refl _), hds]; exact rfl) ?_ ?_ ?_ | refine aendG_normal (by simp only [go_sem, Nat.reduceBEq, Nat.reduceBneDiff, Nat.reduceLT, Nat.reduceLeDiff, Nat.reduceAdd, Nat.reduceMul, Nat.reduceSub, Nat.reduceEqDiff, reduceCtorEq, v8_len, g1, hw, hw2, e1, v8_app, v8_take, take_len (Nat.le_refl _), hds]; exact rfl) ?_ ?_ ?_) | fail)) <;> (try omega)
          · rw [hdl (k + 1)]; omega
          · exact ⟨k + 1, by simp only [go_sem, Nat.reduceBEq, Nat.reduceBneDiff, Nat.reduceLT, Nat.reduceLeDiff, Nat.reduceAdd, Nat.reduceMul, Nat.reduceSub, Nat.reduceEqDiff, reduceCtorEq, v8_len]; exact rfl, by omega, by omega⟩
      · have hno : (List.range xs.length).find? (bad x xs e) = none := by
          rw [List.find?_range_eq_none]
          intro i hi
          simp [hall i hi]
        (repeat' (first
    | exact trivial
    | (with_reducible first | refine aw_seq ?_ | refine aw_block ?_ | refine aw_skip ?_ | refine aw_ret ?_ | refine aw_exit ?_ | refine aseq_normal ?_ | refine aseq_ret ?_ | refine aseq_exit ?_ | refine ablk_normal ?_ | refine ablk_ret ?_ | refine ablk_hit ?_ | refine aw_region ?_ | refine go_nil ?_ | refine al_of ?_)
    | with_reducible refine ablk_miss (by decide) ?_
    | ((with_reducible refine al_id ?_); refine go_run (tyOf_ok _) [] (by simp only [go_sem, Nat.reduceBEq, Nat.reduceBneDiff, Nat.reduceLT, Nat.reduceLeDiff, Nat.reduceAdd, Nat.reduceMul, Nat.reduceSub, Nat.reduceEqDiff, reduceCtorEq, v8_len, hw]; exact rfl) ?_ ?_)
    | (refine aw_cond (by simp only [go_sem, Nat.reduceBEq, Nat.reduceBneDiff, Nat.reduceLT, Nat.reduceLeDiff, Nat.reduceAdd, Nat.reduceMul, Nat.reduceSub, Nat.reduceEqDiff, reduceCtorEq, v8_len, hw]; exact rfl) (by simp only [go_sem, Nat.reduceBEq, Nat.reduceBneDiff, Nat.reduceLT, Nat.reduceLeDiff, Nat.reduceAdd, Nat.reduceMul, Nat.reduceSub, Nat.reduceEqDiff, reduceCtorEq]) (fun h => ?_) (fun h => ?_) <;> (try simp only [decide_eq_true_eq, decide_eq_false_iff_not, Bool.not_eq_true', Bool.not_eq_false', Bool.or_eq_true, Bool.or_eq_false_iff, Bool.and_eq_true, Bool.and_eq_false_iff, Decidable.not_not, reduceCtorEq] at h) <;> (try (exfalso; omega)))
    | (first | refine aendG_ret (by simp only [go_sem, Nat.reduceBEq, Nat.reduceBneDiff, Nat.reduceLT, Nat.reduceLeDiff, Nat.reduceAdd, Nat.reduceMul, Nat.reduceSub, Nat.reduceEqDiff, reduceCtorEq, v8_len, hw]; exact rfl) ?_ ?_ ?_ | refine aendG_normal (by simp only [go_sem, Nat.reduceBEq, Nat.reduceBneDiff, Nat.reduceLT, Nat.reduceLeDiff, Nat.reduceAdd, Nat.reduceMul, Nat.reduceSub, Nat.reduceEqDiff, reduceCtorEq, v8_len, hw]; exact rfl) ?_ ?_ ?_) | fail)) <;> (try omega)
        all_goals (have hke : k = xs.length := by omega)
        all_goals subst hke
        all_goals rw [lengths, if_neg (by omega), hno]
        · exact up_rG3 _ _ _ _
        · exact obUp_cons rfl obUp_nil
end Go.Proofs.Ytfgacgpicfknpaa
end

import Derived.Test.YtfgacgpicfknpaaP10
set_option linter.all false
section
namespace Go.Proofs.Ytfgacgpicfknpaa
open Go.RowKit
set_option maxRecDepth 100000
set_option maxHeartbeats 8000000
theorem offs_big {x y : Int} (hx : 4294967295 < x) (hy : 4294967295 < y) (l : List Int) : offs x l = offs y l := by
  cases l with
  | nil => rfl
  | cons n l => rw [offs, if_pos hx, offs, if_pos hy]
theorem roffsets_any (x : Int) (hx : I64 x) (xs : List Int) (hl : xs.length ≤ 1000000000) (hxs : ∀ z ∈ xs, I64 z) : PCall Try.prog 18 [.v (.int .i64 x), .lst 1 (v8 xs)] (fun r => r = lerr (offsets x xs)) := by
  refine go_fnU (tyOf_ok _) Try.func18 rfl rfl (by rw [Try.results18]) Try.ntmps18 rfl fun E => ?_
  have hx' := hx
  unfold I64 at hx
  (repeat' (first
    | exact trivial
    | (with_reducible first | refine aw_seq ?_ | refine aw_block ?_ | refine aw_skip ?_ | refine aw_ret ?_ | refine aw_exit ?_ | refine aseq_normal ?_ | refine aseq_ret ?_ | refine aseq_exit ?_ | refine ablk_normal ?_ | refine ablk_ret ?_ | refine ablk_hit ?_ | refine aw_region ?_ | refine go_nil ?_ | refine al_of ?_)
    | with_reducible refine ablk_miss (by decide) ?_
    | ((with_reducible refine al_id ?_); refine go_run (tyOf_ok _) [] (by simp only [go_sem, Nat.reduceBEq, Nat.reduceBneDiff, Nat.reduceLT, Nat.reduceLeDiff, Nat.reduceAdd, Nat.reduceMul, Nat.reduceSub, Nat.reduceEqDiff, reduceCtorEq]; exact rfl) ?_ ?_)
    | (refine aw_cond (by simp only [go_sem, Nat.reduceBEq, Nat.reduceBneDiff, Nat.reduceLT, Nat.reduceLeDiff, Nat.reduceAdd, Nat.reduceMul, Nat.reduceSub, Nat.reduceEqDiff, reduceCtorEq]; exact rfl) (by simp only [go_sem, Nat.reduceBEq, Nat.reduceBneDiff, Nat.reduceLT, Nat.reduceLeDiff, Nat.reduceAdd, Nat.reduceMul, Nat.reduceSub, Nat.reduceEqDiff, reduceCtorEq]) (fun h => ?_) (fun h => ?_) <;> (try simp only [decide_eq_true_eq, decide_eq_false_iff_not, Bool.not_eq_true', Bool.not_eq_false', Bool.or_eq_true, Bool.or_eq_false_iff, Bool.and_eq_true, Bool.and_eq_false_iff, Decidable.not_not, reduceCtorEq] at h) <;> (try (exfalso; omega)))
    | (first | refine aend_ret (by simp only [go_sem, Nat.reduceBEq, Nat.reduceBneDiff, Nat.reduceLT, Nat.reduceLeDiff, Nat.reduceAdd, Nat.reduceMul, Nat.reduceSub, Nat.reduceEqDiff, reduceCtorEq]; exact rfl) ?_ ?_ | refine aend_normal (by simp only [go_sem, Nat.reduceBEq, Nat.reduceBneDiff, Nat.reduceLT, Nat.reduceLeDiff, Nat.reduceAdd, Nat.reduceMul, Nat.reduceSub, Nat.reduceEqDiff, reduceCtorEq]; exact rfl) ?_ ?_) | fail)) <;> (try omega)
  · rw [lerr, offsets, if_pos h]; exact AV.up_nil2 _ _
  · refine go_loop [0, 1, 6] [] (fun k : Nat => ⟨[(0, true, vI x), (1, true, .lst 1 (v8 xs)), (6, true, vI k)], []⟩) (fun k => k ≤ xs.length ∧ ∀ i (hi : i < xs.length), i < k → 0 ≤ xs[i]) (fun k => xs.length - k) 0 (by simp only [go_sem, Nat.reduceBEq, Nat.reduceBneDiff, Nat.reduceLT, Nat.reduceLeDiff, Nat.reduceAdd, Nat.reduceMul, Nat.reduceSub, Nat.reduceEqDiff, reduceCtorEq]; exact rfl) ⟨Nat.zero_le _, fun _ _ h => by omega⟩ ?_
    intro k ⟨hk, hpos⟩
    have hw := wrap_i64 (n := (k : Int) + 1) (by omega)
    by_cases hlt : k < xs.length
    · have g1 := v8_get hlt
      have e1 : ((k : Int) < xs.length) = True := eq_true (by omega)
      (repeat' (first
    | exact trivial
    | (with_reducible first | refine aw_seq ?_ | refine aw_block ?_ | refine aw_skip ?_ | refine aw_ret ?_ | refine aw_exit ?_ | refine aseq_normal ?_ | refine aseq_ret ?_ | refine aseq_exit ?_ | refine ablk_normal ?_ | refine ablk_ret ?_ | refine ablk_hit ?_ | refine aw_region ?_ | refine go_nil ?_ | refine al_of ?_)
    | with_reducible refine ablk_miss (by decide) ?_
    | ((with_reducible refine al_id ?_); refine go_run (tyOf_ok _) [] (by simp only [go_sem, Nat.reduceBEq, Nat.reduceBneDiff, Nat.reduceLT, Nat.reduceLeDiff, Nat.reduceAdd, Nat.reduceMul, Nat.reduceSub, Nat.reduceEqDiff, reduceCtorEq, g1, hw, e1]; exact rfl) ?_ ?_)
    | (refine aw_cond (by simp only [go_sem, Nat.reduceBEq, Nat.reduceBneDiff, Nat.reduceLT, Nat.reduceLeDiff, Nat.reduceAdd, Nat.reduceMul, Nat.reduceSub, Nat.reduceEqDiff, reduceCtorEq, g1, hw, e1]; exact rfl) (by simp only [go_sem, Nat.reduceBEq, Nat.reduceBneDiff, Nat.reduceLT, Nat.reduceLeDiff, Nat.reduceAdd, Nat.reduceMul, Nat.reduceSub, Nat.reduceEqDiff, reduceCtorEq]) (fun h => ?_) (fun h => ?_) <;> (try simp only [decide_eq_true_eq, decide_eq_false_iff_not, Bool.not_eq_true', Bool.not_eq_false', Bool.or_eq_true, Bool.or_eq_false_iff, Bool.and_eq_true, Bool.and_eq_false_iff, Decidable.not_not, reduceCtorEq] at h) <;> (try (exfalso; omega)))
    | (first | refine aend_ret (by simp only [go_sem, Nat.reduceBEq, Nat.reduceBneDiff, Nat.reduceLT, Nat.reduceLeDiff, Nat.reduceAdd, Nat.reduceMul, Nat.reduceSub, Nat.reduceEqDiff, reduceCtorEq, g1, hw, e1]; exact rfl) ?_ ?_ | refine aend_normal (by simp only [go_sem, Nat.reduceBEq, Nat.reduceBneDiff, Nat.reduceLT, Nat.reduceLeDiff, Nat.reduceAdd, Nat.reduceMul, Nat.reduceSub, Nat.reduceEqDiff, reduceCtorEq, g1, hw, e1]; exact rfl) ?_ ?_) | fail)) <;> (try omega)
      · rw [lerr, offsets, if_neg (by omega), if_pos ⟨_, List.getElem_mem hlt, h⟩]; exact AV.up_nil2 _ _
      · refine ⟨k + 1, by simp only [go_sem, Nat.reduceBEq, Nat.reduceBneDiff, Nat.reduceLT, Nat.reduceLeDiff, Nat.reduceAdd, Nat.reduceMul, Nat.reduceSub, Nat.reduceEqDiff, reduceCtorEq]; exact rfl, ⟨by omega, fun i hi hik => ?_⟩, by omega⟩
        rcases Nat.lt_or_ge i k with h' | h'
        · exact hpos i hi h'
        · have : i = k := by omega
          subst this; omega
    · have e1 : ((k : Int) < xs.length) = False := eq_false (by omega)
      (repeat' (first
    | exact trivial
    | (with_reducible first | refine aw_seq ?_ | refine aw_block ?_ | refine aw_skip ?_ | refine aw_ret ?_ | refine aw_exit ?_ | refine aseq_normal ?_ | refine aseq_ret ?_ | refine aseq_exit ?_ | refine ablk_normal ?_ | refine ablk_ret ?_ | refine ablk_hit ?_ | refine aw_region ?_ | refine go_nil ?_ | refine al_of ?_)
    | with_reducible refine ablk_miss (by decide) ?_
    | ((with_reducible refine al_id ?_); refine go_run (tyOf_ok _) [] (by simp only [go_sem, Nat.reduceBEq, Nat.reduceBneDiff, Nat.reduceLT, Nat.reduceLeDiff, Nat.reduceAdd, Nat.reduceMul, Nat.reduceSub, Nat.reduceEqDiff, reduceCtorEq, hw, e1]; exact rfl) ?_ ?_)
    | (refine aw_cond (by simp only [go_sem, Nat.reduceBEq, Nat.reduceBneDiff, Nat.reduceLT, Nat.reduceLeDiff, Nat.reduceAdd, Nat.reduceMul, Nat.reduceSub, Nat.reduceEqDiff, reduceCtorEq, hw, e1]; exact rfl) (by simp only [go_sem, Nat.reduceBEq, Nat.reduceBneDiff, Nat.reduceLT, Nat.reduceLeDiff, Nat.reduceAdd, Nat.reduceMul, Nat.reduceSub, Nat.reduceEqDiff, reduceCtorEq]) (fun h => ?_) (fun h => ?_) <;> (try simp only [decide_eq_true_eq, decide_eq_false_iff_not, Bool.not_eq_true', Bool.not_eq_false', Bool.or_eq_true, Bool.or_eq_false_iff, Bool.and_eq_true, Bool.and_eq_false_iff, Decidable.not_not, reduceCtorEq] at h) <;> (try (exfalso; omega)))
    | (first | refine aend_ret (by simp only [go_sem, Nat.reduceBEq, Nat.reduceBneDiff, Nat.reduceLT, Nat.reduceLeDiff, Nat.reduceAdd, Nat.reduceMul, Nat.reduceSub, Nat.reduceEqDiff, reduceCtorEq, hw, e1]; exact rfl) ?_ ?_ | refine aend_normal (by simp only [go_sem, Nat.reduceBEq, Nat.reduceBneDiff, Nat.reduceLT, Nat.reduceLeDiff, Nat.reduceAdd, Nat.reduceMul, Nat.reduceSub, Nat.reduceEqDiff, reduceCtorEq, hw, e1]; exact rfl) ?_ ?_) | fail)) <;> (try omega)
      have hall : ∀ n ∈ xs, 0 ≤ n := fun n hn => by
        obtain ⟨i, hi, rfl⟩ := List.getElem_of_mem hn
        exact hpos i hi (by omega)
      have hns : ¬ ∃ n ∈ xs, n < 0 := fun ⟨n, hn, hn0⟩ => absurd (hall n hn) (by omega)
      refine aw_nilrow 7 3 1 7 (.inl (by decide)) (by simp only [go_sem, Nat.reduceBEq, Nat.reduceBneDiff, Nat.reduceLT, Nat.reduceLeDiff, Nat.reduceAdd, Nat.reduceMul, Nat.reduceSub, Nat.reduceEqDiff, reduceCtorEq]) ?_
      refine go_loop [1, 7, 8, 9] [7] (fun p : Nat × List Int × Int => ⟨[(1, true, .lst 1 (v8 xs)), (7, true, .ref 3 1 7 0 p.1), (8, true, vI p.2.2), (9, true, vI p.1)], [(7, .row 3 1 (v8 p.2.1))]⟩)
        (fun p => p.1 ≤ xs.length ∧ p.2.1.length = p.1 ∧ 0 ≤ p.2.2 ∧ I64 p.2.2 ∧ offs x xs = (offs p.2.2 (xs.drop p.1)).map (p.2.1 ++ ·)) (fun p => xs.length - p.1) (0, [], x) (by simp only [AState.nilrow, go_sem, Nat.reduceBEq, Nat.reduceBneDiff, Nat.reduceLT, Nat.reduceLeDiff, Nat.reduceAdd, Nat.reduceMul, Nat.reduceSub, Nat.reduceEqDiff, reduceCtorEq]; exact rfl) ⟨Nat.zero_le _, rfl, by show 0 ≤ x; omega, hx', by simp⟩ ?_
      clear hk hlt hw h hpos k e1
      intro ⟨k, out, at_⟩ ⟨hk, hlen, h0, hat, heq⟩
      simp only at hk hlen h0 hat heq ⊢
      unfold I64 at hat
      have hw := wrap_i64 (n := (k : Int) + 1) (by omega)
      have htk : (v8 out).take k = v8 out := take_len (by rw [v8_len]; omega)
      have hlo : (v8 out).length = k := by rw [v8_len, hlen]
      by_cases hlt : k < xs.length
      · have g1 := v8_get hlt
        have e1 : ((k : Int) < xs.length) = True := eq_true (by omega)
        have hp := hall _ (List.getElem_mem hlt)
        have hm : I64 xs[k] := hxs _ (List.getElem_mem hlt)
        unfold I64 at hm
        have hl1 : (out ++ [at_]).length = k + 1 := by simp [hlen]
        have hwm := fun h : at_ ≤ 4294967295 => fun h2 : xs[k] ≤ 4294967295 => wrap_i64 (n := at_ + xs[k]) (by omega)
        by_cases hb : 4294967295 < at_
        · have e2 : (4294967295 < at_) = True := eq_true hb
          (repeat' (first
    | exact trivial
    | (with_reducible first | refine aw_seq ?_ | refine aw_block ?_ | refine aw_skip ?_ | refine aw_ret ?_ | refine aw_exit ?_ | refine aseq_normal ?_ | refine aseq_ret ?_ | refine aseq_exit ?_ | refine ablk_normal ?_ | refine ablk_ret ?_ | refine ablk_hit ?_ | refine aw_region ?_ | refine go_nil ?_ | refine al_of ?_)
    | with_reducible refine ablk_miss (by decide) ?_
    | ((with_reducible refine al_id ?_); refine go_run (tyOf_ok _) [] (by simp only [go_sem, Nat.reduceBEq, Nat.reduceBneDiff, Nat.reduceLT, Nat.reduceLeDiff, Nat.reduceAdd, Nat.reduceMul, Nat.reduceSub, Nat.reduceEqDiff, reduceCtorEq, g1, hw, e1, e2, htk, hlo]; exact rfl) ?_ ?_)
    | (refine aw_cond (by simp only [go_sem, Nat.reduceBEq, Nat.reduceBneDiff, Nat.reduceLT, Nat.reduceLeDiff, Nat.reduceAdd, Nat.reduceMul, Nat.reduceSub, Nat.reduceEqDiff, reduceCtorEq, g1, hw, e1, e2, htk, hlo]; exact rfl) (by simp only [go_sem, Nat.reduceBEq, Nat.reduceBneDiff, Nat.reduceLT, Nat.reduceLeDiff, Nat.reduceAdd, Nat.reduceMul, Nat.reduceSub, Nat.reduceEqDiff, reduceCtorEq]) (fun h => ?_) (fun h => ?_) <;> (try simp only [decide_eq_true_eq, decide_eq_false_iff_not, Bool.not_eq_true', Bool.not_eq_false', Bool.or_eq_true, Bool.or_eq_false_iff, Bool.and_eq_true, Bool.and_eq_false_iff, Decidable.not_not, reduceCtorEq] at h) <;> (try (exfalso; omega)))
    | (first | refine aend_ret (by simp only [go_sem, Nat.reduceBEq, Nat.reduceBneDiff, Nat.reduceLT, Nat.reduceLeDiff, Nat.reduceAdd, Nat.reduceMul, Nat.reduceSub, Nat.reduceEqDiff, reduceCtorEq, g1, hw, e1, e2, htk, hlo]; exact rfl) ?_ ?_ | refine aend_normal (by simp only [go_sem, Nat.reduceBEq, Nat.reduceBneDiff, Nat.reduceLT, Nat.reduceLeDiff, Nat.reduceAdd, Nat.reduceMul, Nat.reduceSub, Nat.reduceEqDiff, reduceCtorEq, g1, hw, e1, e2, htk, hlo]; exact rfl) ?_ ?_) | fail)) <;> (try omega)
          have he : offsets x xs = ([], 91) := by
            rw [offsets, if_neg (by omega), if_neg hns, heq, offs_step hlt, if_pos hb]; rfl
          rw [he]; exact AV.up_nil2 _ _
        · have e2 : (4294967295 < at_) = False := eq_false hb
          have hstep := heq.trans (by rw [offs_step hlt, if_neg hb])
          by_cases hx4 : 4294967295 < xs[k]
          · have e3 : (4294967295 < xs[k]) = True := eq_true hx4
            (repeat' (first
    | exact trivial
    | (with_reducible first | refine aw_seq ?_ | refine aw_block ?_ | refine aw_skip ?_ | refine aw_ret ?_ | refine aw_exit ?_ | refine aseq_normal ?_ | refine aseq_ret ?_ | refine aseq_exit ?_ | refine ablk_normal ?_ | refine ablk_ret ?_ | refine ablk_hit ?_ | refine aw_region ?_ | refine go_nil ?_ | refine al_of ?_)
    | with_reducible refine ablk_miss (by decide) ?_
    | ((with_reducible refine al_id ?_); refine go_run (tyOf_ok _) [] (by simp only [go_sem, Nat.reduceBEq, Nat.reduceBneDiff, Nat.reduceLT, Nat.reduceLeDiff, Nat.reduceAdd, Nat.reduceMul, Nat.reduceSub, Nat.reduceEqDiff, reduceCtorEq, g1, hw, e1, e2, e3, htk, hlo, v8_app, hl1]; exact rfl) ?_ ?_)
    | (refine aw_cond (by simp only [go_sem, Nat.reduceBEq, Nat.reduceBneDiff, Nat.reduceLT, Nat.reduceLeDiff, Nat.reduceAdd, Nat.reduceMul, Nat.reduceSub, Nat.reduceEqDiff, reduceCtorEq, g1, hw, e1, e2, e3, htk, hlo, v8_app, hl1]; exact rfl) (by simp only [go_sem, Nat.reduceBEq, Nat.reduceBneDiff, Nat.reduceLT, Nat.reduceLeDiff, Nat.reduceAdd, Nat.reduceMul, Nat.reduceSub, Nat.reduceEqDiff, reduceCtorEq]) (fun h => ?_) (fun h => ?_) <;> (try simp only [decide_eq_true_eq, decide_eq_false_iff_not, Bool.not_eq_true', Bool.not_eq_false', Bool.or_eq_true, Bool.or_eq_false_iff, Bool.and_eq_true, Bool.and_eq_false_iff, Decidable.not_not, reduceCtorEq] at h) <;> (try (exfalso; omega)))
    | (first | refine aend_ret (by simp only [go_sem, Nat.reduceBEq, Nat.reduceBneDiff, Nat.reduceLT, Nat.reduceLeDiff, Nat.reduceAdd, Nat.reduceMul, Nat.reduceSub, Nat.reduceEqDiff, reduceCtorEq, g1, hw, e1, e2, e3, htk, hlo, v8_app, hl1]; exact rfl) ?_ ?_ | refine aend_normal (by simp only [go_sem, Nat.reduceBEq, Nat.reduceBneDiff, Nat.reduceLT, Nat.reduceLeDiff, Nat.reduceAdd, Nat.reduceMul, Nat.reduceSub, Nat.reduceEqDiff, reduceCtorEq, g1, hw, e1, e2, e3, htk, hlo, v8_app, hl1]; exact rfl) ?_ ?_) | fail)) <;> (try omega)
            refine ⟨(k + 1, out ++ [at_], 4294967296), by simp only [go_sem, Nat.reduceBEq, Nat.reduceBneDiff, Nat.reduceLT, Nat.reduceLeDiff, Nat.reduceAdd, Nat.reduceMul, Nat.reduceSub, Nat.reduceEqDiff, reduceCtorEq]; exact rfl, ⟨hlt, by simp [hlen], by simp only; omega, by unfold I64; simp only; omega, ?_⟩, by simp only; omega⟩
            rw [hstep, Option.map_map, offs_big (x := at_ + min xs[k] 4294967296) (y := 4294967296) (by omega) (by decide)]
            congr 1
            funext l
            simp
          · have e3 : (4294967295 < xs[k]) = False := eq_false hx4
            (repeat' (first
    | exact trivial
    | (with_reducible first | refine aw_seq ?_ | refine aw_block ?_ | refine aw_skip ?_ | refine aw_ret ?_ | refine aw_exit ?_ | refine aseq_normal ?_ | refine aseq_ret ?_ | refine aseq_exit ?_ | refine ablk_normal ?_ | refine ablk_ret ?_ | refine ablk_hit ?_ | refine aw_region ?_ | refine go_nil ?_ | refine al_of ?_)
    | with_reducible refine ablk_miss (by decide) ?_
    | ((with_reducible refine al_id ?_); refine go_run (tyOf_ok _) [] (by simp only [go_sem, Nat.reduceBEq, Nat.reduceBneDiff, Nat.reduceLT, Nat.reduceLeDiff, Nat.reduceAdd, Nat.reduceMul, Nat.reduceSub, Nat.reduceEqDiff, reduceCtorEq, g1, hw, e1, e2, e3, htk, hlo, v8_app, hl1, hwm (by omega) (by omega)]; exact rfl) ?_ ?_)
    | (refine aw_cond (by simp only [go_sem, Nat.reduceBEq, Nat.reduceBneDiff, Nat.reduceLT, Nat.reduceLeDiff, Nat.reduceAdd, Nat.reduceMul, Nat.reduceSub, Nat.reduceEqDiff, reduceCtorEq, g1, hw, e1, e2, e3, htk, hlo, v8_app, hl1, hwm (by omega) (by omega)]; exact rfl) (by simp only [go_sem, Nat.reduceBEq, Nat.reduceBneDiff, Nat.reduceLT, Nat.reduceLeDiff, Nat.reduceAdd, Nat.reduceMul, Nat.reduceSub, Nat.reduceEqDiff, reduceCtorEq]) (fun h => ?_) (fun h => ?_) <;> (try simp only [decide_eq_true_eq, decide_eq_false_iff_not, Bool.not_eq_true', Bool.not_eq_false', Bool.or_eq_true, Bool.or_eq_false_iff, Bool.and_eq_true, Bool.and_eq_false_iff, Decidable.not_not, reduceCtorEq] at h) <;> (try (exfalso; omega)))
    | (first | refine aend_ret (by simp only [go_sem, Nat.reduceBEq, Nat.reduceBneDiff, Nat.reduceLT, Nat.reduceLeDiff, Nat.reduceAdd, Nat.reduceMul, Nat.reduceSub, Nat.reduceEqDiff, reduceCtorEq, g1, hw, e1, e2, e3, htk, hlo, v8_app, hl1, hwm (by omega) (by omega)]; exact rfl) ?_ ?_ | refine aend_normal (by simp only [go_sem, Nat.reduceBEq, Nat.reduceBneDiff, Nat.reduceLT, Nat.reduceLeDiff, Nat.reduceAdd, Nat.reduceMul, Nat.reduceSub, Nat.reduceEqDiff, reduceCtorEq, g1, hw, e1, e2, e3, htk, hlo, v8_app, hl1, hwm (by omega) (by omega)]; exact rfl) ?_ ?_) | fail)) <;> (try omega)
            refine ⟨(k + 1, out ++ [at_], at_ + xs[k]), by simp only [go_sem, Nat.reduceBEq, Nat.reduceBneDiff, Nat.reduceLT, Nat.reduceLeDiff, Nat.reduceAdd, Nat.reduceMul, Nat.reduceSub, Nat.reduceEqDiff, reduceCtorEq]; exact rfl, ⟨hlt, by simp [hlen], by simp only; omega, by unfold I64; simp only; omega, ?_⟩, by simp only; omega⟩
            rw [hstep, Option.map_map, show min xs[k] 4294967296 = xs[k] by omega]
            congr 1
            funext l
            simp
      · have e1 : ((k : Int) < xs.length) = False := eq_false (by omega)
        (repeat' (first
    | exact trivial
    | (with_reducible first | refine aw_seq ?_ | refine aw_block ?_ | refine aw_skip ?_ | refine aw_ret ?_ | refine aw_exit ?_ | refine aseq_normal ?_ | refine aseq_ret ?_ | refine aseq_exit ?_ | refine ablk_normal ?_ | refine ablk_ret ?_ | refine ablk_hit ?_ | refine aw_region ?_ | refine go_nil ?_ | refine al_of ?_)
    | with_reducible refine ablk_miss (by decide) ?_
    | ((with_reducible refine al_id ?_); refine go_run (tyOf_ok _) [] (by simp only [go_sem, Nat.reduceBEq, Nat.reduceBneDiff, Nat.reduceLT, Nat.reduceLeDiff, Nat.reduceAdd, Nat.reduceMul, Nat.reduceSub, Nat.reduceEqDiff, reduceCtorEq, hw, e1, htk, hlo]; exact rfl) ?_ ?_)
    | (refine aw_cond (by simp only [go_sem, Nat.reduceBEq, Nat.reduceBneDiff, Nat.reduceLT, Nat.reduceLeDiff, Nat.reduceAdd, Nat.reduceMul, Nat.reduceSub, Nat.reduceEqDiff, reduceCtorEq, hw, e1, htk, hlo]; exact rfl) (by simp only [go_sem, Nat.reduceBEq, Nat.reduceBneDiff, Nat.reduceLT, Nat.reduceLeDiff, Nat.reduceAdd, Nat.reduceMul, Nat.reduceSub, Nat.reduceEqDiff, reduceCtorEq]) (fun h => ?_) (fun h => ?_) <;> (try simp only [decide_eq_true_eq, decide_eq_false_iff_not, Bool.not_eq_true', Bool.not_eq_false', Bool.or_eq_true, Bool.or_eq_false_iff, Bool.and_eq_true, Bool.and_eq_false_iff, Decidable.not_not, reduceCtorEq] at h) <;> (try (exfalso; omega)))
    | (first | refine aend_ret (by simp only [go_sem, Nat.reduceBEq, Nat.reduceBneDiff, Nat.reduceLT, Nat.reduceLeDiff, Nat.reduceAdd, Nat.reduceMul, Nat.reduceSub, Nat.reduceEqDiff, reduceCtorEq, hw, e1, htk, hlo]; exact rfl) ?_ ?_ | refine aend_normal (by simp only [go_sem, Nat.reduceBEq, Nat.reduceBneDiff, Nat.reduceLT, Nat.reduceLeDiff, Nat.reduceAdd, Nat.reduceMul, Nat.reduceSub, Nat.reduceEqDiff, reduceCtorEq, hw, e1, htk, hlo]; exact rfl) ?_ ?_) | fail)) <;> (try omega)
        have he : offsets x xs = (out, 0) := by
          rw [offsets, if_neg (by omega), if_neg hns, heq, drop_len (by omega)]; simp [offs]
        rw [he]
        exact AV.up_rfl _
theorem rlengths_any (x : Int) (hx : I64 x) (xs : List Int) (hl : xs.length ≤ 1000000000) (hxs : ∀ z ∈ xs, I64 z) (e : Int) (he : I64 e) : PCall Try.prog 19 [.v (.int .i64 x), .lst 1 (v8 xs), .v (.int .i64 e)] (fun r => r = lerr3 (lengths x xs e)) := by
  refine go_fnU (tyOf_ok _) Try.func19 rfl rfl (by rw [Try.results19]) Try.ntmps19 rfl fun E => ?_
  have hx' := hx
  unfold I64 at hx
  (repeat' (first
    | exact trivial
    | (with_reducible first | refine aw_seq ?_ | refine aw_block ?_ | refine aw_skip ?_ | refine aw_ret ?_ | refine aw_exit ?_ | refine aseq_normal ?_ | refine aseq_ret ?_ | refine aseq_exit ?_ | refine ablk_normal ?_ | refine ablk_ret ?_ | refine ablk_hit ?_ | refine aw_region ?_ | refine go_nil ?_ | refine al_of ?_)
    | with_reducible refine ablk_miss (by decide) ?_
    | ((with_reducible refine al_id ?_); refine go_run (tyOf_ok _) [] (by simp only [go_sem, Nat.reduceBEq, Nat.reduceBneDiff, Nat.reduceLT, Nat.reduceLeDiff, Nat.reduceAdd, Nat.reduceMul, Nat.reduceSub, Nat.reduceEqDiff, reduceCtorEq]; exact rfl) ?_ ?_)
    | (refine aw_draw (id := 7) (t := (.node [0, 1, 2, 3, 4, 5, 6, 7, 8, 9, 10, 11, 12, 13] [])) (drR [] [44, 49] []) mixed (by kernel_rfl) (by kernel_rfl) (fun _ _ h => h) ?_)
    | (refine aw_draw (id := 17) (t := (.node [0, 1, 2, 3, 4, 5, 6, 7, 8, 9, 10, 11, 12, 13] [])) (drR [] [79, 83] []) mixed (by kernel_rfl) (by kernel_rfl) (fun _ _ h => h) ?_)
    | (refine at_done (by simp only [List.filterMap_cons, List.filterMap_nil, List.getElem?_toArray, List.getElem?_cons_zero, List.getElem?_cons_succ]; exact rfl) ?_) | (refine at_alt (by simp only [List.filterMap_cons, List.filterMap_nil, List.getElem?_toArray, List.getElem?_cons_zero, List.getElem?_cons_succ]; exact rfl) ?_) | refine qalt_normal ?_ | refine ats_cons ?_ ?_ | exact ats_nil
    | ((with_reducible refine ald_id ?_); refine go_runD (tyOf_ok _) [] (by simp only [go_sem, Nat.reduceBEq, Nat.reduceBneDiff, Nat.reduceLT, Nat.reduceLeDiff, Nat.reduceAdd, Nat.reduceMul, Nat.reduceSub, Nat.reduceEqDiff, reduceCtorEq]; exact rfl) ?_ ?_)
    | (refine aw_cond (by simp only [go_sem, Nat.reduceBEq, Nat.reduceBneDiff, Nat.reduceLT, Nat.reduceLeDiff, Nat.reduceAdd, Nat.reduceMul, Nat.reduceSub, Nat.reduceEqDiff, reduceCtorEq]; exact rfl) (by simp only [go_sem, Nat.reduceBEq, Nat.reduceBneDiff, Nat.reduceLT, Nat.reduceLeDiff, Nat.reduceAdd, Nat.reduceMul, Nat.reduceSub, Nat.reduceEqDiff, reduceCtorEq]) (fun h => ?_) (fun h => ?_) <;> (try simp only [decide_eq_true_eq, decide_eq_false_iff_not, Bool.not_eq_true', Bool.not_eq_false', Bool.or_eq_true, Bool.or_eq_false_iff, Bool.and_eq_true, Bool.and_eq_false_iff, Decidable.not_not, reduceCtorEq] at h) <;> (try (exfalso; omega)))
    | (first | refine aend_ret (by simp only [go_sem, Nat.reduceBEq, Nat.reduceBneDiff, Nat.reduceLT, Nat.reduceLeDiff, Nat.reduceAdd, Nat.reduceMul, Nat.reduceSub, Nat.reduceEqDiff, reduceCtorEq]; exact rfl) ?_ ?_ | refine aend_normal (by simp only [go_sem, Nat.reduceBEq, Nat.reduceBneDiff, Nat.reduceLT, Nat.reduceLeDiff, Nat.reduceAdd, Nat.reduceMul, Nat.reduceSub, Nat.reduceEqDiff, reduceCtorEq]; exact rfl) ?_ ?_) | fail)) <;> (try omega)
  · rw [lerr3, lengths, if_pos h]; exact AV.up_nil3 _ _ _
  · refine go_loop [0, 1, 2, 9] [] (fun k : Nat => ⟨[(0, true, vI x), (1, true, .lst 1 (v8 xs)), (2, true, vI e), (9, true, vI k)], []⟩) (fun k => k ≤ xs.length ∧ ∀ i, i < k → bad x xs e i = false) (fun k => xs.length - k) 0 (by simp only [go_sem, Nat.reduceBEq, Nat.reduceBneDiff, Nat.reduceLT, Nat.reduceLeDiff, Nat.reduceAdd, Nat.reduceMul, Nat.reduceSub, Nat.reduceEqDiff, reduceCtorEq]; exact rfl) ⟨Nat.zero_le _, fun _ h => by omega⟩ ?_
    intro k ⟨hk, hgood⟩
    have hw := wrap_i64 (n := (k : Int) + 1) (by omega)
    by_cases hlt : k < xs.length
    · have g1 := v8_get hlt
      have e0 : ((k : Int) < xs.length) = True := eq_true (by omega)
      have hbad : (List.range xs.length).find? (bad x xs e) = some k ↔ bad x xs e k = true := by
        rw [List.find?_range_eq_some]
        refine ⟨fun h => h.1, fun h => ⟨h, List.mem_range.2 hlt, fun j hj => by simp [hgood j hj]⟩⟩
      have hnext : bad x xs e k = false → ∀ i, i < k + 1 → bad x xs e i = false := fun hb i hi => by
        rcases Nat.lt_or_ge i k with h' | h'
        · exact hgood i h'
        · have : i = k := by omega
          subst this; exact hb
      have hgk := getD_lt hlt 0
      have hend : bad x xs e k = true → (AV.tup [AV.v (Value.slice none 0 0), AV.v (Value.int IntKind.i64 ↑k), AV.v (Value.int IntKind.i64 122)]).up (lerr3 (lengths x xs e)) := fun hb => by
        rw [lerr3, lengths, if_neg (by omega), hbad.2 hb]; exact AV.up_nil3 _ _ _
      rcases Nat.eq_zero_or_pos k with hk0 | hk0
      · have e1 : ((k : Int) = 0) = True := eq_true (by omega)
        have e2 : ((0 : Int) < k) = False := eq_false (by omega)
        have hw1 := wrap_i64 (n := (k : Int) - 1) (by omega)
        have g0 : (v8 xs)[((k : Int) - 1).toNat]? = some [.v (.int .i64 xs[k])] := by rw [show ((k : Int) - 1).toNat = k by omega]; exact v8_get (by omega)
        have g00 : (v8 xs)[0]? = some [.v (.int .i64 xs[k])] := by rw [show 0 = k by omega]; exact v8_get (by omega)
        (repeat' (first
    | exact trivial
    | (with_reducible first | refine aw_seq ?_ | refine aw_block ?_ | refine aw_skip ?_ | refine aw_ret ?_ | refine aw_exit ?_ | refine aseq_normal ?_ | refine aseq_ret ?_ | refine aseq_exit ?_ | refine ablk_normal ?_ | refine ablk_ret ?_ | refine ablk_hit ?_ | refine aw_region ?_ | refine go_nil ?_ | refine al_of ?_)
    | with_reducible refine ablk_miss (by decide) ?_
    | ((with_reducible refine al_id ?_); refine go_run (tyOf_ok _) [] (by simp only [go_sem, Nat.reduceBEq, Nat.reduceBneDiff, Nat.reduceLT, Nat.reduceLeDiff, Nat.reduceAdd, Nat.reduceMul, Nat.reduceSub, Nat.reduceEqDiff, reduceCtorEq, g1, g0, g00, hw, hw1, e0, e1, e2, Int.reduceToNat]; exact rfl) ?_ ?_)
    | (refine aw_draw (id := 7) (t := (.node [0, 1, 2, 3, 4, 5, 6, 7, 8, 9, 10, 11, 12, 13] [])) (drR [] [44, 49] []) mixed (by kernel_rfl) (by kernel_rfl) (fun _ _ h => h) ?_)
    | (refine aw_draw (id := 17) (t := (.node [0, 1, 2, 3, 4, 5, 6, 7, 8, 9, 10, 11, 12, 13] [])) (drR [] [79, 83] []) mixed (by kernel_rfl) (by kernel_rfl) (fun _ _ h => h) ?_)
    | (refine at_done (by simp only [List.filterMap_cons, List.filterMap_nil, List.getElem?_toArray, List.getElem?_cons_zero, List.getElem?_cons_succ]; exact rfl) ?_) | (refine at_alt (by simp only [List.filterMap_cons, List.filterMap_nil, List.getElem?_toArray, List.getElem?_cons_zero, List.getElem?_cons_succ]; exact rfl) ?_) | refine qalt_normal ?_ | refine ats_cons ?_ ?_ | exact ats_nil
    | ((with_reducible refine ald_id ?_); refine go_runD (tyOf_ok _) [] (by simp only [go_sem, Nat.reduceBEq, Nat.reduceBneDiff, Nat.reduceLT, Nat.reduceLeDiff, Nat.reduceAdd, Nat.reduceMul, Nat.reduceSub, Nat.reduceEqDiff, reduceCtorEq, g1, g0, g00, hw, hw1, e0, e1, e2, Int.reduceToNat]; exact rfl) ?_ ?_)
    | (refine aw_cond (by simp only [go_sem, Nat.reduceBEq, Nat.reduceBneDiff, Nat.reduceLT, Nat.reduceLeDiff, Nat.reduceAdd, Nat.reduceMul, Nat.reduceSub, Nat.reduceEqDiff, reduceCtorEq, g1, g0, g00, hw, hw1, e0, e1, e2, Int.reduceToNat]; exact rfl) (by simp only [go_sem, Nat.reduceBEq, Nat.reduceBneDiff, Nat.reduceLT, Nat.reduceLeDiff, Nat.reduceAdd, Nat.reduceMul, Nat.reduceSub, Nat.reduceEqDiff, reduceCtorEq]) (fun h => ?_) (fun h => ?_) <;> (try simp only [decide_eq_true_eq, decide_eq_false_iff_not, Bool.not_eq_true', Bool.not_eq_false', Bool.or_eq_true, Bool.or_eq_false_iff, Bool.and_eq_true, Bool.and_eq_false_iff, Decidable.not_not, reduceCtorEq] at h) <;> (try (exfalso; omega)))
    | (first | refine aend_ret (by simp only [go_sem, Nat.reduceBEq, Nat.reduceBneDiff, Nat.reduceLT, Nat.reduceLeDiff, Nat.reduceAdd, Nat.reduceMul, Nat.reduceSub, Nat.reduceEqDiff, reduceCtorEq, g1, g0, g00, hw, hw1, e0, e1, e2, Int.reduceToNat]; exact rfl) ?_ ?_ | refine aend_normal (by simp only [go_sem, Nat.reduceBEq, Nat.reduceBneDiff, Nat.reduceLT, Nat.reduceLeDiff, Nat.reduceAdd, Nat.reduceMul, Nat.reduceSub, Nat.reduceEqDiff, reduceCtorEq, g1, g0, g00, hw, hw1, e0, e1, e2, Int.reduceToNat]; exact rfl) ?_ ?_) | fail)) <;> (try omega)
        all_goals first
          | exact hend (by simp only [bad, decide_eq_true_eq, hgk]; omega)
          | exact ⟨k + 1, by simp only [go_sem, Nat.reduceBEq, Nat.reduceBneDiff, Nat.reduceLT, Nat.reduceLeDiff, Nat.reduceAdd, Nat.reduceMul, Nat.reduceSub, Nat.reduceEqDiff, reduceCtorEq]; exact rfl, ⟨by omega, hnext (by simp only [bad, decide_eq_false_iff_not, hgk]; omega)⟩, by omega⟩
          | exact ⟨by omega, fun h => ⟨h, by omega⟩⟩
          | exact fun h => ⟨h, by omega⟩
          | trace_state
      · have e1 : ((k : Int) = 0) = False := eq_false (by omega)
        have e2 : ((0 : Int) < k) = True := eq_true (by omega)
        have hw1 := wrap_i64 (n := (k : Int) - 1) (by omega)
        have g0 : (v8 xs)[((k : Int) - 1).toNat]? = some [.v (.int .i64 xs[k - 1])] := by rw [show ((k : Int) - 1).toNat = k - 1 by omega]; exact v8_get (by omega)
        have g00 := v8_get (zs := xs) (k := 0) (by omega)
        (repeat' (first
    | exact trivial
    | (with_reducible first | refine aw_seq ?_ | refine aw_block ?_ | refine aw_skip ?_ | refine aw_ret ?_ | refine aw_exit ?_ | refine aseq_normal ?_ | refine aseq_ret ?_ | refine aseq_exit ?_ | refine ablk_normal ?_ | refine ablk_ret ?_ | refine ablk_hit ?_ | refine aw_region ?_ | refine go_nil ?_ | refine al_of ?_)
    | with_reducible refine ablk_miss (by decide) ?_
    | ((with_reducible refine al_id ?_); refine go_run (tyOf_ok _) [] (by simp only [go_sem, Nat.reduceBEq, Nat.reduceBneDiff, Nat.reduceLT, Nat.reduceLeDiff, Nat.reduceAdd, Nat.reduceMul, Nat.reduceSub, Nat.reduceEqDiff, reduceCtorEq, g1, g0, g00, hw, hw1, e0, e1, e2, Int.reduceToNat]; exact rfl) ?_ ?_)
    | (refine aw_draw (id := 7) (t := (.node [0, 1, 2, 3, 4, 5, 6, 7, 8, 9, 10, 11, 12, 13] [])) (drR [] [44, 49] []) mixed (by kernel_rfl) (by kernel_rfl) (fun _ _ h => h) ?_)
    | (refine aw_draw (id := 17) (t := (.node [0, 1, 2, 3, 4, 5, 6, 7, 8, 9, 10, 11, 12, 13] [])) (drR [] [79, 83] []) mixed (by kernel_rfl) (by kernel_rfl) (fun _ _ h => h) ?_)
    | (refine at_done (by simp only [List.filterMap_cons, List.filterMap_nil, List.getElem?_toArray, List.getElem?_cons_zero, List.getElem?_cons_succ]; exact rfl) ?_) | (refine at_alt (by simp only [List.filterMap_cons, List.filterMap_nil, List.getElem?_toArray, List.getElem?_cons_zero, List.getElem?_cons_succ]; exact rfl) ?_) | refine qalt_normal ?_ | refine ats_cons ?_ ?_ | exact ats_nil
    | ((with_reducible refine ald_id ?_); refine go_runD (tyOf_ok _) [] (by simp only [go_sem, Nat.reduceBEq, Nat.reduceBneDiff, Nat.reduceLT, Nat.reduceLeDiff, Nat.reduceAdd, Nat.reduceMul, Nat.reduceSub, Nat.reduceEqDiff, reduceCtorEq, g1, g0, g00, hw, hw1, e0, e1, e2, Int.reduceToNat]; exact rfl) ?_ ?_)
    | (refine aw_cond (by simp only [go_sem, Nat.reduceBEq, Nat.reduceBneDiff, Nat.reduceLT, Nat.reduceLeDiff, Nat.reduceAdd, Nat.reduceMul, Nat.reduceSub, Nat.reduceEqDiff, reduceCtorEq, g1, g0, g00, hw, hw1, e0, e1, e2, Int.reduceToNat]; exact rfl) (by simp only [go_sem, Nat.reduceBEq, Nat.reduceBneDiff, Nat.reduceLT, Nat.reduceLeDiff, Nat.reduceAdd, Nat.reduceMul, Nat.reduceSub, Nat.reduceEqDiff, reduceCtorEq]) (fun h => ?_) (fun h => ?_) <;> (try simp only [decide_eq_true_eq, decide_eq_false_iff_not, Bool.not_eq_true', Bool.not_eq_false', Bool.or_eq_true, Bool.or_eq_false_iff, Bool.and_eq_true, Bool.and_eq_false_iff, Decidable.not_not, reduceCtorEq] at h) <;> (try (exfalso; omega)))
    | (first | refine aend_ret (by simp only [go_sem, Nat.reduceBEq, Nat.reduceBneDiff, Nat.reduceLT, Nat.reduceLeDiff, Nat.reduceAdd, Nat.reduceMul, Nat.reduceSub, Nat.reduceEqDiff, reduceCtorEq, g1, g0, g00, hw, hw1, e0, e1, e2, Int.reduceToNat]; exact rfl) ?_ ?_ | refine aend_normal (by simp only [go_sem, Nat.reduceBEq, Nat.reduceBneDiff, Nat.reduceLT, Nat.reduceLeDiff, Nat.reduceAdd, Nat.reduceMul, Nat.reduceSub, Nat.reduceEqDiff, reduceCtorEq, g1, g0, g00, hw, hw1, e0, e1, e2, Int.reduceToNat]; exact rfl) ?_ ?_) | fail)) <;> (try omega)
        · exact hend (by simp only [bad, decide_eq_true_eq, hgk, getD_lt (xs := xs) (k := k - 1) (by omega) 0]; omega)
        · exact hend (by simp only [bad, decide_eq_true_eq, hgk, getD_lt (xs := xs) (k := k - 1) (by omega) 0]; omega)
        · exact ⟨k + 1, by simp only [go_sem, Nat.reduceBEq, Nat.reduceBneDiff, Nat.reduceLT, Nat.reduceLeDiff, Nat.reduceAdd, Nat.reduceMul, Nat.reduceSub, Nat.reduceEqDiff, reduceCtorEq]; exact rfl, ⟨by omega, hnext (by simp only [bad, decide_eq_false_iff_not, hgk, getD_lt (xs := xs) (k := k - 1) (by omega) 0]; omega)⟩, by omega⟩
    · have e0 : ((k : Int) < xs.length) = False := eq_false (by omega)
      have hall : ∀ i, i < xs.length → bad x xs e i = false := fun i hi => hgood i (by omega)
      have hno : (List.range xs.length).find? (bad x xs e) = none := by
        rw [List.find?_range_eq_none]
        intro i hi
        simp [hall i hi]
      (repeat' (first
    | exact trivial
    | (with_reducible first | refine aw_seq ?_ | refine aw_block ?_ | refine aw_skip ?_ | refine aw_ret ?_ | refine aw_exit ?_ | refine aseq_normal ?_ | refine aseq_ret ?_ | refine aseq_exit ?_ | refine ablk_normal ?_ | refine ablk_ret ?_ | refine ablk_hit ?_ | refine aw_region ?_ | refine go_nil ?_ | refine al_of ?_)
    | with_reducible refine ablk_miss (by decide) ?_
    | ((with_reducible refine al_id ?_); refine go_run (tyOf_ok _) [] (by simp only [go_sem, Nat.reduceBEq, Nat.reduceBneDiff, Nat.reduceLT, Nat.reduceLeDiff, Nat.reduceAdd, Nat.reduceMul, Nat.reduceSub, Nat.reduceEqDiff, reduceCtorEq, hw, e0]; exact rfl) ?_ ?_)
    | (refine aw_draw (id := 7) (t := (.node [0, 1, 2, 3, 4, 5, 6, 7, 8, 9, 10, 11, 12, 13] [])) (drR [] [44, 49] []) mixed (by kernel_rfl) (by kernel_rfl) (fun _ _ h => h) ?_)
    | (refine aw_draw (id := 17) (t := (.node [0, 1, 2, 3, 4, 5, 6, 7, 8, 9, 10, 11, 12, 13] [])) (drR [] [79, 83] []) mixed (by kernel_rfl) (by kernel_rfl) (fun _ _ h => h) ?_)
    | (refine at_done (by simp only [List.filterMap_cons, List.filterMap_nil, List.getElem?_toArray, List.getElem?_cons_zero, List.getElem?_cons_succ]; exact rfl) ?_) | (refine at_alt (by simp only [List.filterMap_cons, List.filterMap_nil, List.getElem?_toArray, List.getElem?_cons_zero, List.getElem?_cons_succ]; exact rfl) ?_) | refine qalt_normal ?_ | refine ats_cons ?_ ?_ | exact ats_nil
    | ((with_reducible refine ald_id ?_); refine go_runD (tyOf_ok _) [] (by simp only [go_sem, Nat.reduceBEq, Nat.reduceBneDiff, Nat.reduceLT, Nat.reduceLeDiff, Nat.reduceAdd, Nat.reduceMul, Nat.reduceSub, Nat.reduceEqDiff, reduceCtorEq, hw, e0]; exact rfl) ?_ ?_)
    | (refine aw_cond (by simp only [go_sem, Nat.reduceBEq, Nat.reduceBneDiff, Nat.reduceLT, Nat.reduceLeDiff, Nat.reduceAdd, Nat.reduceMul, Nat.reduceSub, Nat.reduceEqDiff, reduceCtorEq, hw, e0]; exact rfl) (by simp only [go_sem, Nat.reduceBEq, Nat.reduceBneDiff, Nat.reduceLT, Nat.reduceLeDiff, Nat.reduceAdd, Nat.reduceMul, Nat.reduceSub, Nat.reduceEqDiff, reduceCtorEq]) (fun h => ?_) (fun h => ?_) <;> (try simp only [decide_eq_true_eq, decide_eq_false_iff_not, Bool.not_eq_true', Bool.not_eq_false', Bool.or_eq_true, Bool.or_eq_false_iff, Bool.and_eq_true, Bool.and_eq_false_iff, Decidable.not_not, reduceCtorEq] at h) <;> (try (exfalso; omega)))
    | (first | refine aend_ret (by simp only [go_sem, Nat.reduceBEq, Nat.reduceBneDiff, Nat.reduceLT, Nat.reduceLeDiff, Nat.reduceAdd, Nat.reduceMul, Nat.reduceSub, Nat.reduceEqDiff, reduceCtorEq, hw, e0]; exact rfl) ?_ ?_ | refine aend_normal (by simp only [go_sem, Nat.reduceBEq, Nat.reduceBneDiff, Nat.reduceLT, Nat.reduceLeDiff, Nat.reduceAdd, Nat.reduceMul, Nat.reduceSub, Nat.reduceEqDiff, reduceCtorEq, hw, e0]; exact rfl) ?_ ?_) | fail)) <;> (try omega)
      refine aw_nilrow 11 3 1 11 (.inl (by decide)) (by simp only [go_sem, Nat.reduceBEq, Nat.reduceBneDiff, Nat.reduceLT, Nat.reduceLeDiff, Nat.reduceAdd, Nat.reduceMul, Nat.reduceSub, Nat.reduceEqDiff, reduceCtorEq]) ?_
      refine go_loop [1, 2, 11, 12] [11] (fun k : Nat => ⟨[(1, true, .lst 1 (v8 xs)), (2, true, vI e), (11, true, .ref 3 1 11 0 k), (12, true, vI k)], [(11, .row 3 1 (v8 (diffs xs e k)))]⟩)
        (fun k => k ≤ xs.length) (fun k => xs.length - k) 0 (by simp only [AState.nilrow, go_sem, Nat.reduceBEq, Nat.reduceBneDiff, Nat.reduceLT, Nat.reduceLeDiff, Nat.reduceAdd, Nat.reduceMul, Nat.reduceSub, Nat.reduceEqDiff, reduceCtorEq]; exact rfl) (Nat.zero_le _) ?_
      clear hk hlt hw hgood e0 k
      intro k hk
      have hw := wrap_i64 (n := (k : Int) + 1) (by omega)
      have hw0 := wrap_i64 (n := (xs.length : Int) - 1) (by omega)
      have hdl : (diffs xs e k).length = k := by simp [diffs]
      have htk : (v8 (diffs xs e k)).take k = v8 (diffs xs e k) := take_len (by rw [v8_len, hdl]; exact Nat.le_refl _)
      have hlo : (v8 (diffs xs e k)).length = k := by rw [v8_len, hdl]
      have hl1 : (diffs xs e (k + 1)).length = k + 1 := by simp [diffs]
      by_cases hlt : k < xs.length
      · have g1 := v8_get hlt
        have e1 : ((k : Int) < xs.length) = True := eq_true (by omega)
        have hgk := getD_lt hlt 0
        have hnn := bad_nonneg (by omega) k hlt (fun i hi => hall i (by omega))
        have hi := hxs _ (List.getElem_mem hlt)
        have hb := hall k hlt
        simp only [bad, decide_eq_false_iff_not, not_or, hgk] at hb hnn
        unfold I64 at he hi
        by_cases hn : k + 1 < xs.length
        · have g2 := v8_get hn
          have e2 : ((k : Int) = (xs.length : Int) - 1) = False := eq_false (by omega)
          have hgk' := getD_lt hn e
          have hgk'' := getD_lt hn 0
          have hi2 := hxs _ (List.getElem_mem hn)
          have hb2 := hall (k + 1) hn
          simp only [bad, decide_eq_false_iff_not, not_or, hgk'', hgk, Nat.add_sub_cancel] at hb2
          unfold I64 at hi2
          have hw2 := wrap_i64 (n := xs[k + 1] - xs[k]) (by omega)
          have g3 : ((k : Int) + 1).toNat = k + 1 := by omega
          have hds : diffs xs e k ++ [xs[k + 1] - xs[k]] = diffs xs e (k + 1) := by rw [diffs_succ, hgk, hgk']
          (repeat' (first
    | exact trivial
    | (with_reducible first | refine aw_seq ?_ | refine aw_block ?_ | refine aw_skip ?_ | refine aw_ret ?_ | refine aw_exit ?_ | refine aseq_normal ?_ | refine aseq_ret ?_ | refine aseq_exit ?_ | refine ablk_normal ?_ | refine ablk_ret ?_ | refine ablk_hit ?_ | refine aw_region ?_ | refine go_nil ?_ | refine al_of ?_)
    | with_reducible refine ablk_miss (by decide) ?_
    | ((with_reducible refine al_id ?_); refine go_run (tyOf_ok _) [] (by simp only [go_sem, Nat.reduceBEq, Nat.reduceBneDiff, Nat.reduceLT, Nat.reduceLeDiff, Nat.reduceAdd, Nat.reduceMul, Nat.reduceSub, Nat.reduceEqDiff, reduceCtorEq, g1, g2, g3, hw, hw0, hw2, e1, e2, v8_app, htk, hlo, hds, hl1]; exact rfl) ?_ ?_)
    | (refine aw_draw (id := 7) (t := (.node [0, 1, 2, 3, 4, 5, 6, 7, 8, 9, 10, 11, 12, 13] [])) (drR [] [44, 49] []) mixed (by kernel_rfl) (by kernel_rfl) (fun _ _ h => h) ?_)
    | (refine aw_draw (id := 17) (t := (.node [0, 1, 2, 3, 4, 5, 6, 7, 8, 9, 10, 11, 12, 13] [])) (drR [] [79, 83] []) mixed (by kernel_rfl) (by kernel_rfl) (fun _ _ h => h) ?_)
    | (refine at_done (by simp only [List.filterMap_cons, List.filterMap_nil, List.getElem?_toArray, List.getElem?_cons_zero, List.getElem?_cons_succ]; exact rfl) ?_) | (refine at_alt (by simp only [List.filterMap_cons, List.filterMap_nil, List.getElem?_toArray, List.getElem?_cons_zero, List.getElem?_cons_succ]; exact rfl) ?_) | refine qalt_normal ?_ | refine ats_cons ?_ ?_ | exact ats_nil
    | ((with_reducible refine ald_id ?_); refine go_runD (tyOf_ok _) [] (by simp only [go_sem, Nat.reduceBEq, Nat.reduceBneDiff, Nat.reduceLT, Nat.reduceLeDiff, Nat.reduceAdd, Nat.reduceMul, Nat.reduceSub, Nat.reduceEqDiff, reduceCtorEq, g1, g2, g3, hw, hw0, hw2, e1, e2, v8_app, htk, hlo, hds, hl1]; exact rfl) ?_ ?_)
    | (refine aw_cond (by simp only [go_sem, Nat.reduceBEq, Nat.reduceBneDiff, Nat.reduceLT, Nat.reduceLeDiff, Nat.reduceAdd, Nat.reduceMul, Nat.reduceSub, Nat.reduceEqDiff, reduceCtorEq, g1, g2, g3, hw, hw0, hw2, e1, e2, v8_app, htk, hlo, hds, hl1]; exact rfl) (by simp only [go_sem, Nat.reduceBEq, Nat.reduceBneDiff, Nat.reduceLT, Nat.reduceLeDiff, Nat.reduceAdd, Nat.reduceMul, Nat.reduceSub, Nat.reduceEqDiff, reduceCtorEq]) (fun h => ?_) (fun h => ?_) <;> (try simp only [decide_eq_true_eq, decide_eq_false_iff_not, Bool.not_eq_true', Bool.not_eq_false', Bool.or_eq_true, Bool.or_eq_false_iff, Bool.and_eq_true, Bool.and_eq_false_iff, Decidable.not_not, reduceCtorEq] at h) <;> (try (exfalso; omega)))
    | (first | refine aend_ret (by simp only [go_sem, Nat.reduceBEq, Nat.reduceBneDiff, Nat.reduceLT, Nat.reduceLeDiff, Nat.reduceAdd, Nat.reduceMul, Nat.reduceSub, Nat.reduceEqDiff, reduceCtorEq, g1, g2, g3, hw, hw0, hw2, e1, e2, v8_app, htk, hlo, hds, hl1]; exact rfl) ?_ ?_ | refine aend_normal (by simp only [go_sem, Nat.reduceBEq, Nat.reduceBneDiff, Nat.reduceLT, Nat.reduceLeDiff, Nat.reduceAdd, Nat.reduceMul, Nat.reduceSub, Nat.reduceEqDiff, reduceCtorEq, g1, g2, g3, hw, hw0, hw2, e1, e2, v8_app, htk, hlo, hds, hl1]; exact rfl) ?_ ?_) | fail)) <;> (try omega)
          all_goals exact ⟨k + 1, by simp only [go_sem, Nat.reduceBEq, Nat.reduceBneDiff, Nat.reduceLT, Nat.reduceLeDiff, Nat.reduceAdd, Nat.reduceMul, Nat.reduceSub, Nat.reduceEqDiff, reduceCtorEq]; exact rfl, by omega, by omega⟩
        · have e2 : ((k : Int) = (xs.length : Int) - 1) = True := eq_true (by omega)
          have hgk' : xs.getD (k + 1) e = e := by simp [List.getElem?_eq_none (show xs.length ≤ k + 1 by omega)]
          have hw2 := wrap_i64 (n := e - xs[k]) (by omega)
          have hds : diffs xs e k ++ [e - xs[k]] = diffs xs e (k + 1) := by rw [diffs_succ, hgk, hgk']
          (repeat' (first
    | exact trivial
    | (with_reducible first | refine aw_seq ?_ | refine aw_block ?_ | refine aw_skip ?_ | refine aw_ret ?_ | refine aw_exit ?_ | refine aseq_normal ?_ | refine aseq_ret ?_ | refine aseq_exit ?_ | refine ablk_normal ?_ | refine ablk_ret ?_ | refine ablk_hit ?_ | refine aw_region ?_ | refine go_nil ?_ | refine al_of ?_)
    | with_reducible refine ablk_miss (by decide) ?_
    | ((with_reducible refine al_id ?_); refine go_run (tyOf_ok _) [] (by simp only [go_sem, Nat.reduceBEq, Nat.reduceBneDiff, Nat.reduceLT, Nat.reduceLeDiff, Nat.reduceAdd, Nat.reduceMul, Nat.reduceSub, Nat.reduceEqDiff, reduceCtorEq, g1, hw, hw0, hw2, e1, e2, v8_app, htk, hlo, hds, hl1]; exact rfl) ?_ ?_)
    | (refine aw_draw (id := 7) (t := (.node [0, 1, 2, 3, 4, 5, 6, 7, 8, 9, 10, 11, 12, 13] [])) (drR [] [44, 49] []) mixed (by kernel_rfl) (by kernel_rfl) (fun _ _ h => h) ?_)
    | (refine aw_draw (id := 17) (t := (.node [0, 1, 2, 3, 4, 5, 6, 7, 8, 9, 10, 11, 12, 13] [])) (drR [] [79, 83] []) mixed (by kernel_rfl) (by kernel_rfl) (fun _ _ h => h) ?_)
    | (refine at_done (by simp only [List.filterMap_cons, List.filterMap_nil, List.getElem?_toArray, List.getElem?_cons_zero, List.getElem?_cons_succ]; exact rfl) ?_) | (refine at_alt (by simp only [List.filterMap_cons, List.filterMap_nil, List.getElem?_toArray, List.getElem?_cons_zero, List.getElem?_cons_succ]; exact rfl) ?_) | refine qalt_normal ?_ | refine ats_cons ?_ ?_ | exact ats_nil
    | ((with_reducible refine ald_id ?_); refine go_runD (tyOf_ok _) [] (by simp only [go_sem, Nat.reduceBEq, Nat.reduceBneDiff, Nat.reduceLT, Nat.reduceLeDiff, Nat.reduceAdd, Nat.reduceMul, Nat.reduceSub, Nat.reduceEqDiff, reduceCtorEq, g1, hw, hw0, hw2, e1, e2, v8_app, htk, hlo, hds, hl1]; exact rfl) ?_ ?_)
    | (refine aw_cond (by simp only [go_sem, Nat.reduceBEq, Nat.reduceBneDiff, Nat.reduceLT, Nat.reduceLeDiff, Nat.reduceAdd, Nat.reduceMul, Nat.reduceSub, Nat.reduceEqDiff, reduceCtorEq, g1, hw, hw0, hw2, e1, e2, v8_app, htk, hlo, hds, hl1]; exact rfl) (by simp only [go_sem, Nat.reduceBEq, Nat.reduceBneDiff, Nat.reduceLT, Nat.reduceLeDiff, Nat.reduceAdd, Nat.reduceMul, Nat.reduceSub, Nat.reduceEqDiff, reduceCtorEq]) (fun h => ?_) (fun h => ?_) <;> (try simp only [decide_eq_true_eq, decide_eq_false_iff_not, Bool.not_eq_true', Bool.not_eq_false', Bool.or_eq_true, Bool.or_eq_false_iff, Bool.and_eq_true, Bool.and_eq_false_iff, Decidable.not_not, reduceCtorEq] at h) <;> (try (exfalso; omega)))
    | (first | refine aend_ret (by simp only [go_sem, Nat.reduceBEq, Nat.reduceBneDiff, Nat.reduceLT, Nat.reduceLeDiff, Nat.reduceAdd, Nat.reduceMul, Nat.reduceSub, Nat.reduceEqDiff, reduceCtorEq, g1, hw, hw0, hw2, e1, e2, v8_app, htk, hlo, hds, hl1]; exact rfl) ?_ ?_ | refine aend_normal (by simp only [go_sem, Nat.reduceBEq, Nat.reduceBneDiff, Nat.reduceLT, Nat.reduceLeDiff, Nat.reduceAdd, Nat.reduceMul, Nat.reduceSub, Nat.reduceEqDiff, reduceCtorEq, g1, hw, hw0, hw2, e1, e2, v8_app, htk, hlo, hds, hl1]; exact rfl) ?_ ?_) | fail)) <;> (try omega)
          exact ⟨k + 1, by simp only [go_sem, Nat.reduceBEq, Nat.reduceBneDiff, Nat.reduceLT, Nat.reduceLeDiff, Nat.reduceAdd, Nat.reduceMul, Nat.reduceSub, Nat.reduceEqDiff, reduceCtorEq]; exact rfl, by omega, by omega⟩
      · have e1 : ((k : Int) < xs.length) = False := eq_false (by omega)
        (repeat' (first
    | exact trivial
    | (with_reducible first | refine aw_seq ?_ | refine aw_block ?_ | refine aw_skip ?_ | refine aw_ret ?_ | refine aw_exit ?_ | refine aseq_normal ?_ | refine aseq_ret ?_ | refine aseq_exit ?_ | refine ablk_normal ?_ | refine ablk_ret ?_ | refine ablk_hit ?_ | refine aw_region ?_ | refine go_nil ?_ | refine al_of ?_)
    | with_reducible refine ablk_miss (by decide) ?_
    | ((with_reducible refine al_id ?_); refine go_run (tyOf_ok _) [] (by simp only [go_sem, Nat.reduceBEq, Nat.reduceBneDiff, Nat.reduceLT, Nat.reduceLeDiff, Nat.reduceAdd, Nat.reduceMul, Nat.reduceSub, Nat.reduceEqDiff, reduceCtorEq, hw, e1, htk, hlo]; exact rfl) ?_ ?_)
    | (refine aw_draw (id := 7) (t := (.node [0, 1, 2, 3, 4, 5, 6, 7, 8, 9, 10, 11, 12, 13] [])) (drR [] [44, 49] []) mixed (by kernel_rfl) (by kernel_rfl) (fun _ _ h => h) ?_)
    | (refine aw_draw (id := 17) (t := (.node [0, 1, 2, 3, 4, 5, 6, 7, 8, 9, 10, 11, 12, 13] [])) (drR [] [79, 83] []) mixed (by kernel_rfl) (by kernel_rfl) (fun _ _ h => h) ?_)
    | (refine at_done (by simp only [List.filterMap_cons, List.filterMap_nil, List.getElem?_toArray, List.getElem?_cons_zero, List.getElem?_cons_succ]; exact rfl) ?_) | (refine at_alt (by simp only [List.filterMap_cons, List.filterMap_nil, List.getElem?_toArray, List.getElem?_cons_zero, List.getElem?_cons_succ]; exact rfl) ?_) | refine qalt_normal ?_ | refine ats_cons ?_ ?_ | exact ats_nil
    | ((with_reducible refine ald_id ?_); refine go_runD (tyOf_ok _) [] (by simp only [go_sem, Nat.reduceBEq, Nat.reduceBneDiff, Nat.reduceLT, Nat.reduceLeDiff, Nat.reduceAdd, Nat.reduceMul, Nat.reduceSub, Nat.reduceEqDiff, reduceCtorEq, hw, e1, htk, hlo]; exact rfl) ?_ ?_)
    | (refine aw_cond (by simp only [go_sem, Nat.reduceBEq, Nat.reduceBneDiff, Nat.reduceLT, Nat.reduceLeDiff, Nat.reduceAdd, Nat.reduceMul, Nat.reduceSub, Nat.reduceEqDiff, reduceCtorEq, hw, e1, htk, hlo]; exact rfl) (by simp only [go_sem, Nat.reduceBEq, Nat.reduceBneDiff, Nat.reduceLT, Nat.reduceLeDiff, Nat.reduceAdd, Nat.reduceMul, Nat.reduceSub, Nat.reduceEqDiff, reduceCtorEq]) (fun h => ?_) (fun h => ?_) <;> (try simp only [decide_eq_true_eq, decide_eq_false_iff_not, Bool.not_eq_true', Bool.not_eq_false', Bool.or_eq_true, Bool.or_eq_false_iff, Bool.and_eq_true, Bool.and_eq_false_iff, Decidable.not_not, reduceCtorEq] at h) <;> (try (exfalso; omega)))
    | (first | refine aend_ret (by simp only [go_sem, Nat.reduceBEq, Nat.reduceBneDiff, Nat.reduceLT, Nat.reduceLeDiff, Nat.reduceAdd, Nat.reduceMul, Nat.reduceSub, Nat.reduceEqDiff, reduceCtorEq, hw, e1, htk, hlo]; exact rfl) ?_ ?_ | refine aend_normal (by simp only [go_sem, Nat.reduceBEq, Nat.reduceBneDiff, Nat.reduceLT, Nat.reduceLeDiff, Nat.reduceAdd, Nat.reduceMul, Nat.reduceSub, Nat.reduceEqDiff, reduceCtorEq, hw, e1, htk, hlo]; exact rfl) ?_ ?_) | fail)) <;> (try omega)
        have hke : k = xs.length := by omega
        subst hke
        rw [lerr3, lengths, if_neg (by omega), hno]
        exact AV.up_rfl _
end Go.Proofs.Ytfgacgpicfknpaa
end
section
namespace Go.Proofs.Ytfgacgpicfknpaa
open Go.RowKit
section
variable {P : Program} {E : Env} {s : AState} {n : Nat} {ops : Array Oper} {Q : Exit → AState → Prop} {D : Dr} {rest : List Oper} {o : Oper}
/-- 'go_callG' of the call whose answer has this name -/
theorem go_callGd (d : Nat) (_ : o.dst = some d) (hi bk : List (Nat × Nat)) (K V : List Nat) {f : Nat} {as' : List AV} {p : Prop} {ob ob1 : List (Nat × AObj)} {r : AV} (h : callG n ops s o hi = some (f, as', p)) (hp : p) (hk : handOK hi bk K V = true)
    (hD : hi.all (fun p => D.W p.1) = true) (hds : D.ds o = true ∨ hi = []) (hob : obIn s hi hi = ob) (hc : GCall P f as' ob r ob1) (hm : AV.allIn.allInL hi (o.op.operands.toList.map s.ev) = true ∨ (r.nm = true ∧ obNm ob1))
    (hr : AListD P E n ops D rest Q ((s.back K V bk ob1).put o.dst true (r.ren bk))) : AListR P E n ops D (o :: rest) Q s := go_callG hi bk K V h hp hk hD hds hob hc hm hr
end
end Go.Proofs.Ytfgacgpicfknpaa
end
section
namespace Go.Proofs.Ytfgacgpicfknpaa
open Go.RowKit
set_option maxRecDepth 100000
set_option maxHeartbeats 8000000
/-- a list that is being written over -/
def over (c : Int) (A : List Int) (i : Nat) : List Int := List.replicate i c ++ A.drop i
theorem over_len (c : Int) {A : List Int} {i : Nat} (h : i ≤ A.length) : (over c A i).length = A.length := by simp [over]; omega
theorem over_get (c : Int) {A : List Int} {i : Nat} (h : i < A.length) : (v8 (over c A i))[i]? = some [.v (.int .i64 A[i])] := by
  simp [over, v8, List.getElem?_append_right, h]
theorem over_set (c : Int) {A : List Int} {i : Nat} (h : i < A.length) : (v8 (over c A i)).set i [.v (.int .i64 c)] = v8 (over c A (i + 1)) := by
  simp only [over, v8, List.map_append]
  rw [List.set_append_right _ _ (by simp), List.length_map, List.length_replicate, Nat.sub_self, List.drop_eq_getElem_cons h, List.replicate_succ']
  simp only [List.map_cons, List.set_cons_zero, List.map_append, List.map_nil, List.append_assoc, List.singleton_append]
theorem offsets_len (x : Int) (xs : List Int) : (offsets x xs).1.length ≤ xs.length := by
  have h : ∀ (xs : List Int) (x : Int) (o : List Int), offs x xs = some o → o.length = xs.length := by
    intro xs
    induction xs with
    | nil => intro x o h; simp only [offs, Option.some.injEq] at h; subst h; rfl
    | cons n ns ih =>
      intro x o h
      unfold offs at h
      split at h
      · cases h
      · rw [Option.map_eq_some_iff] at h
        obtain ⟨o1, h1, rfl⟩ := h
        simp [ih _ _ h1]
  unfold offsets
  split
  · exact Nat.zero_le _
  · split
    · exact Nat.zero_le _
    · split
      · exact Nat.zero_le _
      · rename_i l hl; exact Nat.le_of_eq (h _ _ _ hl)
theorem lengths_len (x : Int) (xs : List Int) (e : Int) : (lengths x xs e).1.length ≤ xs.length := by
  unfold lengths
  split
  · exact Nat.zero_le _
  · split
    · exact Nat.zero_le _
    · simp [diffs]
theorem layOffsets_any (x : Int) (hx : I64 x) (xs : List Int) (hl : xs.length ≤ 1048576) (hxs : ∀ z ∈ xs, I64 z) (e : Int) (he : I64 e) :
    PCall Try.prog 4 [vI x, .lst 1 (v8 xs), vI e] (fun r => r = vB true) := by
  refine go_fn (tyOf_ok _) Try.func4 rfl rfl (by rw [Try.results4]) Try.ntmps4 rfl fun E => ?_
  have hO := offsets_G x hx xs (by omega) hxs
  have hL := lengths_G x hx xs (by omega) hxs e he
  have hRO := roffsets_any x hx xs (by omega) hxs
  have hRL := rlengths_any x hx xs (by omega) hxs e he
  rw [lerr] at hRO
  rw [lerr3] at hRL
  have hol := offsets_len x xs
  have hll := lengths_len x xs e
  generalize offsets x xs = O at *
  generalize lengths x xs e = M at *
  obtain ⟨A, eo⟩ := O
  obtain ⟨B, k, el⟩ := M
  simp only at hol hll hRO hRL
  have ht28 : (v8 (xs ++ [1234567])).take xs.length = v8 xs := by simp [v8]
  have htx : (v8 xs).take xs.length = v8 xs := take_len (by rw [v8_len]; exact Nat.le_refl _)
  have htA : (v8 A).take A.length = v8 A := take_len (by rw [v8_len]; exact Nat.le_refl _)
  have htB : (v8 B).take B.length = v8 B := take_len (by rw [v8_len]; exact Nat.le_refl _)
  have hl28 : (xs ++ [1234567]).length = xs.length + 1 := by simp
  (repeat' (first
    | exact trivial
    | (with_reducible first | refine aw_seq ?_ | refine aw_block ?_ | refine aw_skip ?_ | refine aw_ret ?_ | refine aw_exit ?_ | refine aseq_normal ?_ | refine aseq_ret ?_ | refine aseq_exit ?_ | refine ablk_normal ?_ | refine ablk_ret ?_ | refine ablk_hit ?_ | refine aw_region ?_ | refine go_nil ?_ | refine al_of ?_)
    | with_reducible refine ablk_miss (by decide) ?_
    | ((with_reducible refine al_id ?_); refine go_run (tyOf_ok _) [28] (by simp only [go_sem, Nat.reduceBEq, Nat.reduceBneDiff, Nat.reduceLT, Nat.reduceLeDiff, Nat.reduceAdd, Nat.reduceMul, Nat.reduceSub, Nat.reduceEqDiff, reduceCtorEq, rG2, rG3, obG, htx, ht28, htA, htB, v8_app, hl28, Int.reduceToNat, Nat.sub_zero]; exact rfl) ?_ ?_)
    | (refine aw_cond (by simp only [go_sem, Nat.reduceBEq, Nat.reduceBneDiff, Nat.reduceLT, Nat.reduceLeDiff, Nat.reduceAdd, Nat.reduceMul, Nat.reduceSub, Nat.reduceEqDiff, reduceCtorEq, rG2, rG3, obG, htx, ht28, htA, htB, v8_app, hl28, Int.reduceToNat, Nat.sub_zero]; exact rfl) (by simp only [go_sem, Nat.reduceBEq, Nat.reduceBneDiff, Nat.reduceLT, Nat.reduceLeDiff, Nat.reduceAdd, Nat.reduceMul, Nat.reduceSub, Nat.reduceEqDiff, reduceCtorEq]) (fun h => ?_) (fun h => ?_) <;> (try simp only [decide_eq_true_eq, decide_eq_false_iff_not, Bool.not_eq_true', Bool.not_eq_false', Bool.or_eq_true, Bool.or_eq_false_iff, Bool.and_eq_true, Bool.and_eq_false_iff, Decidable.not_not, reduceCtorEq] at h) <;> (try (exfalso; omega)))
    | (first | refine aend_ret (by simp only [go_sem, Nat.reduceBEq, Nat.reduceBneDiff, Nat.reduceLT, Nat.reduceLeDiff, Nat.reduceAdd, Nat.reduceMul, Nat.reduceSub, Nat.reduceEqDiff, reduceCtorEq, rG2, rG3, obG, htx, ht28, htA, htB, v8_app, hl28, Int.reduceToNat, Nat.sub_zero]; exact rfl) ?_ ?_ | refine aend_normal (by simp only [go_sem, Nat.reduceBEq, Nat.reduceBneDiff, Nat.reduceLT, Nat.reduceLeDiff, Nat.reduceAdd, Nat.reduceMul, Nat.reduceSub, Nat.reduceEqDiff, reduceCtorEq, rG2, rG3, obG, htx, ht28, htA, htB, v8_app, hl28, Int.reduceToNat, Nat.sub_zero]; exact rfl) ?_ ?_)
    | (refine go_call (by simp only [go_sem, Nat.reduceBEq, Nat.reduceBneDiff, Nat.reduceLT, Nat.reduceLeDiff, Nat.reduceAdd, Nat.reduceMul, Nat.reduceSub, Nat.reduceEqDiff, reduceCtorEq, rG2, rG3, obG, htx, ht28, htA, htB, v8_app, hl28, Int.reduceToNat, Nat.sub_zero]; exact rfl) ?_ (fun _ => awake13) rfl ?_)
    | (refine go_call1 (by simp only [go_sem, Nat.reduceBEq, Nat.reduceBneDiff, Nat.reduceLT, Nat.reduceLeDiff, Nat.reduceAdd, Nat.reduceMul, Nat.reduceSub, Nat.reduceEqDiff, reduceCtorEq, rG2, rG3, obG, htx, ht28, htA, htB, v8_app, hl28, Int.reduceToNat, Nat.sub_zero]; exact rfl) ?_ rfl (by simp only [go_sem, Nat.reduceBEq, Nat.reduceBneDiff, Nat.reduceLT, Nat.reduceLeDiff, Nat.reduceAdd, Nat.reduceMul, Nat.reduceSub, Nat.reduceEqDiff, reduceCtorEq, rG2, rG3, obG, htx, ht28, htA, htB, v8_app, hl28, Int.reduceToNat, Nat.sub_zero]) (by simp only [go_sem, Nat.reduceBEq, Nat.reduceBneDiff, Nat.reduceLT, Nat.reduceLeDiff, Nat.reduceAdd, Nat.reduceMul, Nat.reduceSub, Nat.reduceEqDiff, reduceCtorEq, rG2, rG3, obG, htx, ht28, htA, htB, v8_app, hl28, Int.reduceToNat, Nat.sub_zero]) (hRO) ?_)
    | (refine go_call1 (by simp only [go_sem, Nat.reduceBEq, Nat.reduceBneDiff, Nat.reduceLT, Nat.reduceLeDiff, Nat.reduceAdd, Nat.reduceMul, Nat.reduceSub, Nat.reduceEqDiff, reduceCtorEq, rG2, rG3, obG, htx, ht28, htA, htB, v8_app, hl28, Int.reduceToNat, Nat.sub_zero]; exact rfl) ?_ rfl (by simp only [go_sem, Nat.reduceBEq, Nat.reduceBneDiff, Nat.reduceLT, Nat.reduceLeDiff, Nat.reduceAdd, Nat.reduceMul, Nat.reduceSub, Nat.reduceEqDiff, reduceCtorEq, rG2, rG3, obG, htx, ht28, htA, htB, v8_app, hl28, Int.reduceToNat, Nat.sub_zero]) (by simp only [go_sem, Nat.reduceBEq, Nat.reduceBneDiff, Nat.reduceLT, Nat.reduceLeDiff, Nat.reduceAdd, Nat.reduceMul, Nat.reduceSub, Nat.reduceEqDiff, reduceCtorEq, rG2, rG3, obG, htx, ht28, htA, htB, v8_app, hl28, Int.reduceToNat, Nat.sub_zero]) (hRL) ?_)
    | (refine go_callGd 40 rfl [] [(8, 40)] [40] [] (by simp only [go_sem, Nat.reduceBEq, Nat.reduceBneDiff, Nat.reduceLT, Nat.reduceLeDiff, Nat.reduceAdd, Nat.reduceMul, Nat.reduceSub, Nat.reduceEqDiff, reduceCtorEq, rG2, rG3, obG, htx, ht28, htA, htB, v8_app, hl28, Int.reduceToNat, Nat.sub_zero]; exact rfl) ?_ rfl rfl (by first | exact .inl rfl | exact .inr rfl) (by simp only [go_sem, Nat.reduceBEq, Nat.reduceBneDiff, Nat.reduceLT, Nat.reduceLeDiff, Nat.reduceAdd, Nat.reduceMul, Nat.reduceSub, Nat.reduceEqDiff, reduceCtorEq, rG2, rG3, obG, htx, ht28, htA, htB, v8_app, hl28, Int.reduceToNat, Nat.sub_zero] <;> exact rfl) (hO) (.inr ⟨rfl, ?_⟩) ?_)
    | (refine go_callGd 46 rfl [] [(8, 46)] [46] [] (by simp only [go_sem, Nat.reduceBEq, Nat.reduceBneDiff, Nat.reduceLT, Nat.reduceLeDiff, Nat.reduceAdd, Nat.reduceMul, Nat.reduceSub, Nat.reduceEqDiff, reduceCtorEq, rG2, rG3, obG, htx, ht28, htA, htB, v8_app, hl28, Int.reduceToNat, Nat.sub_zero]; exact rfl) ?_ rfl rfl (by first | exact .inl rfl | exact .inr rfl) (by simp only [go_sem, Nat.reduceBEq, Nat.reduceBneDiff, Nat.reduceLT, Nat.reduceLeDiff, Nat.reduceAdd, Nat.reduceMul, Nat.reduceSub, Nat.reduceEqDiff, reduceCtorEq, rG2, rG3, obG, htx, ht28, htA, htB, v8_app, hl28, Int.reduceToNat, Nat.sub_zero] <;> exact rfl) (hO) (.inr ⟨rfl, ?_⟩) ?_)
    | (refine go_callGd 53 rfl [] [(11, 53)] [53] [] (by simp only [go_sem, Nat.reduceBEq, Nat.reduceBneDiff, Nat.reduceLT, Nat.reduceLeDiff, Nat.reduceAdd, Nat.reduceMul, Nat.reduceSub, Nat.reduceEqDiff, reduceCtorEq, rG2, rG3, obG, htx, ht28, htA, htB, v8_app, hl28, Int.reduceToNat, Nat.sub_zero]; exact rfl) ?_ rfl rfl (by first | exact .inl rfl | exact .inr rfl) (by simp only [go_sem, Nat.reduceBEq, Nat.reduceBneDiff, Nat.reduceLT, Nat.reduceLeDiff, Nat.reduceAdd, Nat.reduceMul, Nat.reduceSub, Nat.reduceEqDiff, reduceCtorEq, rG2, rG3, obG, htx, ht28, htA, htB, v8_app, hl28, Int.reduceToNat, Nat.sub_zero] <;> exact rfl) (hL) (.inr ⟨rfl, ?_⟩) ?_)
    | (refine go_callGd 61 rfl [] [(11, 61)] [61] [] (by simp only [go_sem, Nat.reduceBEq, Nat.reduceBneDiff, Nat.reduceLT, Nat.reduceLeDiff, Nat.reduceAdd, Nat.reduceMul, Nat.reduceSub, Nat.reduceEqDiff, reduceCtorEq, rG2, rG3, obG, htx, ht28, htA, htB, v8_app, hl28, Int.reduceToNat, Nat.sub_zero]; exact rfl) ?_ rfl rfl (by first | exact .inl rfl | exact .inr rfl) (by simp only [go_sem, Nat.reduceBEq, Nat.reduceBneDiff, Nat.reduceLT, Nat.reduceLeDiff, Nat.reduceAdd, Nat.reduceMul, Nat.reduceSub, Nat.reduceEqDiff, reduceCtorEq, rG2, rG3, obG, htx, ht28, htA, htB, v8_app, hl28, Int.reduceToNat, Nat.sub_zero] <;> exact rfl) (hL) (.inr ⟨rfl, ?_⟩) ?_)
    | (refine go_call (by simp only [go_sem, Nat.reduceBEq, Nat.reduceBneDiff, Nat.reduceLT, Nat.reduceLeDiff, Nat.reduceAdd, Nat.reduceMul, Nat.reduceSub, Nat.reduceEqDiff, reduceCtorEq, rG2, rG3, obG, htx, ht28, htA, htB, v8_app, hl28, Int.reduceToNat, Nat.sub_zero]; exact rfl) ?_ (fun _ => same_any A A (by omega)) rfl ?_)
    | (refine go_call (by simp only [go_sem, Nat.reduceBEq, Nat.reduceBneDiff, Nat.reduceLT, Nat.reduceLeDiff, Nat.reduceAdd, Nat.reduceMul, Nat.reduceSub, Nat.reduceEqDiff, reduceCtorEq, rG2, rG3, obG, htx, ht28, htA, htB, v8_app, hl28, Int.reduceToNat, Nat.sub_zero]; exact rfl) ?_ (fun _ => same_any B B (by omega)) rfl ?_)
    | (exact ⟨v8_nm _, trivial⟩) | fail)) <;> (try omega)
  refine go_loop [1, 7, 8, 9, 11, 13, 16, 19, 21, 24] [28, 40, 46, 53, 61] (fun i : Nat => ⟨[(1, true, .lst 1 (v8 xs)), (7, true, .ref 3 1 28 0 (xs.length + 1)), (8, true, .ref 3 1 28 0 xs.length), (9, true, .ref 3 1 40 0 A.length), (11, true, .ref 3 1 46 0 A.length), (13, true, .ref 3 1 53 0 B.length), (16, true, .ref 3 1 61 0 B.length),
      (19, true, .lst 1 (v8 A)), (21, true, .lst 1 (v8 B)), (24, true, vI i)], [(28, .row 3 1 (v8 (xs ++ [1234567]))), (40, .row 3 1 (v8 (over (-7) A i))), (46, .row 3 1 (v8 A)), (53, .row 3 1 (v8 B)), (61, .row 3 1 (v8 B))]⟩)
    (fun i => i ≤ A.length) (fun i => A.length - i) 0 (by simp only [go_sem, Nat.reduceBEq, Nat.reduceBneDiff, Nat.reduceLT, Nat.reduceLeDiff, Nat.reduceAdd, Nat.reduceMul, Nat.reduceSub, Nat.reduceEqDiff, reduceCtorEq]; exact rfl) (Nat.zero_le _) ?_
  intro i hi
  have hw1 := wrap_i64 (n := (i : Int) + 1) (by omega)
  by_cases hlt : i < A.length
  · have e1 : ((i : Int) < A.length) = True := eq_true (by omega)
    have g1 := over_get (-7) hlt
    have g2 := over_set (-7) hlt
    have g3 := over_len (-7) hi
    (repeat' (first
    | exact trivial
    | (with_reducible first | refine aw_seq ?_ | refine aw_block ?_ | refine aw_skip ?_ | refine aw_ret ?_ | refine aw_exit ?_ | refine aseq_normal ?_ | refine aseq_ret ?_ | refine aseq_exit ?_ | refine ablk_normal ?_ | refine ablk_ret ?_ | refine ablk_hit ?_ | refine aw_region ?_ | refine go_nil ?_ | refine al_of ?_)
    | with_reducible refine ablk_miss (by decide) ?_
    | ((with_reducible refine al_id ?_); refine go_run (tyOf_ok _) [] (by simp only [go_sem, Nat.reduceBEq, Nat.reduceBneDiff, Nat.reduceLT, Nat.reduceLeDiff, Nat.reduceAdd, Nat.reduceMul, Nat.reduceSub, Nat.reduceEqDiff, reduceCtorEq, hw1, e1, g1, g2, g3]; exact rfl) ?_ ?_)
    | (refine aw_cond (by simp only [go_sem, Nat.reduceBEq, Nat.reduceBneDiff, Nat.reduceLT, Nat.reduceLeDiff, Nat.reduceAdd, Nat.reduceMul, Nat.reduceSub, Nat.reduceEqDiff, reduceCtorEq, hw1, e1, g1, g2, g3]; exact rfl) (by simp only [go_sem, Nat.reduceBEq, Nat.reduceBneDiff, Nat.reduceLT, Nat.reduceLeDiff, Nat.reduceAdd, Nat.reduceMul, Nat.reduceSub, Nat.reduceEqDiff, reduceCtorEq]) (fun h => ?_) (fun h => ?_) <;> (try simp only [decide_eq_true_eq, decide_eq_false_iff_not, Bool.not_eq_true', Bool.not_eq_false', Bool.or_eq_true, Bool.or_eq_false_iff, Bool.and_eq_true, Bool.and_eq_false_iff, Decidable.not_not, reduceCtorEq] at h) <;> (try (exfalso; omega)))
    | (first | refine aend_ret (by simp only [go_sem, Nat.reduceBEq, Nat.reduceBneDiff, Nat.reduceLT, Nat.reduceLeDiff, Nat.reduceAdd, Nat.reduceMul, Nat.reduceSub, Nat.reduceEqDiff, reduceCtorEq, hw1, e1, g1, g2, g3]; exact rfl) ?_ ?_ | refine aend_normal (by simp only [go_sem, Nat.reduceBEq, Nat.reduceBneDiff, Nat.reduceLT, Nat.reduceLeDiff, Nat.reduceAdd, Nat.reduceMul, Nat.reduceSub, Nat.reduceEqDiff, reduceCtorEq, hw1, e1, g1, g2, g3]; exact rfl) ?_ ?_) | fail)) <;> (try omega)
    exact ⟨i + 1, by simp only [go_sem, Nat.reduceBEq, Nat.reduceBneDiff, Nat.reduceLT, Nat.reduceLeDiff, Nat.reduceAdd, Nat.reduceMul, Nat.reduceSub, Nat.reduceEqDiff, reduceCtorEq]; exact rfl, hlt, by omega⟩
  · have e1 : ((i : Int) < A.length) = False := eq_false (by omega)
    have hiA : i = A.length := by omega
    subst hiA
    (repeat' (first
    | exact trivial
    | (with_reducible first | refine aw_seq ?_ | refine aw_block ?_ | refine aw_skip ?_ | refine aw_ret ?_ | refine aw_exit ?_ | refine aseq_normal ?_ | refine aseq_ret ?_ | refine aseq_exit ?_ | refine ablk_normal ?_ | refine ablk_ret ?_ | refine ablk_hit ?_ | refine aw_region ?_ | refine go_nil ?_ | refine al_of ?_)
    | with_reducible refine ablk_miss (by decide) ?_
    | ((with_reducible refine al_id ?_); refine go_run (tyOf_ok _) [] (by simp only [go_sem, Nat.reduceBEq, Nat.reduceBneDiff, Nat.reduceLT, Nat.reduceLeDiff, Nat.reduceAdd, Nat.reduceMul, Nat.reduceSub, Nat.reduceEqDiff, reduceCtorEq, hw1, e1]; exact rfl) ?_ ?_)
    | (refine aw_cond (by simp only [go_sem, Nat.reduceBEq, Nat.reduceBneDiff, Nat.reduceLT, Nat.reduceLeDiff, Nat.reduceAdd, Nat.reduceMul, Nat.reduceSub, Nat.reduceEqDiff, reduceCtorEq, hw1, e1]; exact rfl) (by simp only [go_sem, Nat.reduceBEq, Nat.reduceBneDiff, Nat.reduceLT, Nat.reduceLeDiff, Nat.reduceAdd, Nat.reduceMul, Nat.reduceSub, Nat.reduceEqDiff, reduceCtorEq]) (fun h => ?_) (fun h => ?_) <;> (try simp only [decide_eq_true_eq, decide_eq_false_iff_not, Bool.not_eq_true', Bool.not_eq_false', Bool.or_eq_true, Bool.or_eq_false_iff, Bool.and_eq_true, Bool.and_eq_false_iff, Decidable.not_not, reduceCtorEq] at h) <;> (try (exfalso; omega)))
    | (first | refine aend_ret (by simp only [go_sem, Nat.reduceBEq, Nat.reduceBneDiff, Nat.reduceLT, Nat.reduceLeDiff, Nat.reduceAdd, Nat.reduceMul, Nat.reduceSub, Nat.reduceEqDiff, reduceCtorEq, hw1, e1]; exact rfl) ?_ ?_ | refine aend_normal (by simp only [go_sem, Nat.reduceBEq, Nat.reduceBneDiff, Nat.reduceLT, Nat.reduceLeDiff, Nat.reduceAdd, Nat.reduceMul, Nat.reduceSub, Nat.reduceEqDiff, reduceCtorEq, hw1, e1]; exact rfl) ?_ ?_) | fail)) <;> (try omega)
    have hf40 : over (-7) A A.length = List.replicate A.length (-7) := by simp [over]
    refine go_loop [1, 8, 7, 9, 11, 13, 16, 19, 21, 25] [28, 40, 46, 53, 61] (fun i : Nat => ⟨[(1, true, .lst 1 (v8 xs)), (8, true, .ref 3 1 28 0 xs.length), (7, true, .ref 3 1 28 0 (xs.length + 1)), (9, true, .ref 3 1 40 0 A.length), (11, true, .ref 3 1 46 0 A.length), (13, true, .ref 3 1 53 0 B.length), (16, true, .ref 3 1 61 0 B.length),
        (19, true, .lst 1 (v8 A)), (21, true, .lst 1 (v8 B)), (25, true, vI i)], [(28, .row 3 1 (v8 (xs ++ [1234567]))), (40, .row 3 1 (v8 (List.replicate A.length (-7)))), (46, .row 3 1 (v8 A)), (53, .row 3 1 (v8 (over (-8) B i))), (61, .row 3 1 (v8 B))]⟩)
      (fun i => i ≤ B.length) (fun i => B.length - i) 0 (by simp only [go_sem, Nat.reduceBEq, Nat.reduceBneDiff, Nat.reduceLT, Nat.reduceLeDiff, Nat.reduceAdd, Nat.reduceMul, Nat.reduceSub, Nat.reduceEqDiff, reduceCtorEq, hf40]; exact rfl) (Nat.zero_le _) ?_
    clear hi hw1 hlt e1
    intro i hi
    have hw1 := wrap_i64 (n := (i : Int) + 1) (by omega)
    by_cases hlt : i < B.length
    · have e1 : ((i : Int) < B.length) = True := eq_true (by omega)
      have g1 := over_get (-8) hlt
      have g2 := over_set (-8) hlt
      have g3 := over_len (-8) hi
      (repeat' (first
    | exact trivial
    | (with_reducible first | refine aw_seq ?_ | refine aw_block ?_ | refine aw_skip ?_ | refine aw_ret ?_ | refine aw_exit ?_ | refine aseq_normal ?_ | refine aseq_ret ?_ | refine aseq_exit ?_ | refine ablk_normal ?_ | refine ablk_ret ?_ | refine ablk_hit ?_ | refine aw_region ?_ | refine go_nil ?_ | refine al_of ?_)
    | with_reducible refine ablk_miss (by decide) ?_
    | ((with_reducible refine al_id ?_); refine go_run (tyOf_ok _) [] (by simp only [go_sem, Nat.reduceBEq, Nat.reduceBneDiff, Nat.reduceLT, Nat.reduceLeDiff, Nat.reduceAdd, Nat.reduceMul, Nat.reduceSub, Nat.reduceEqDiff, reduceCtorEq, hw1, e1, g1, g2, g3]; exact rfl) ?_ ?_)
    | (refine aw_cond (by simp only [go_sem, Nat.reduceBEq, Nat.reduceBneDiff, Nat.reduceLT, Nat.reduceLeDiff, Nat.reduceAdd, Nat.reduceMul, Nat.reduceSub, Nat.reduceEqDiff, reduceCtorEq, hw1, e1, g1, g2, g3]; exact rfl) (by simp only [go_sem, Nat.reduceBEq, Nat.reduceBneDiff, Nat.reduceLT, Nat.reduceLeDiff, Nat.reduceAdd, Nat.reduceMul, Nat.reduceSub, Nat.reduceEqDiff, reduceCtorEq]) (fun h => ?_) (fun h => ?_) <;> (try simp only [decide_eq_true_eq, decide_eq_false_iff_not, Bool.not_eq_true', Bool.not_eq_false', Bool.or_eq_true, Bool.or_eq_false_iff, Bool.and_eq_true, Bool.and_eq_false_iff, Decidable.not_not, reduceCtorEq] at h) <;> (try (exfalso; omega)))
    | (first | refine aend_ret (by simp only [go_sem, Nat.reduceBEq, Nat.reduceBneDiff, Nat.reduceLT, Nat.reduceLeDiff, Nat.reduceAdd, Nat.reduceMul, Nat.reduceSub, Nat.reduceEqDiff, reduceCtorEq, hw1, e1, g1, g2, g3]; exact rfl) ?_ ?_ | refine aend_normal (by simp only [go_sem, Nat.reduceBEq, Nat.reduceBneDiff, Nat.reduceLT, Nat.reduceLeDiff, Nat.reduceAdd, Nat.reduceMul, Nat.reduceSub, Nat.reduceEqDiff, reduceCtorEq, hw1, e1, g1, g2, g3]; exact rfl) ?_ ?_) | fail)) <;> (try omega)
      exact ⟨i + 1, by simp only [go_sem, Nat.reduceBEq, Nat.reduceBneDiff, Nat.reduceLT, Nat.reduceLeDiff, Nat.reduceAdd, Nat.reduceMul, Nat.reduceSub, Nat.reduceEqDiff, reduceCtorEq]; exact rfl, hlt, by omega⟩
    · have e1 : ((i : Int) < B.length) = False := eq_false (by omega)
      have hiA : i = B.length := by omega
      subst hiA
      have hf53 : over (-8) B B.length = List.replicate B.length (-8) := by simp [over]
      have hlA : (List.replicate A.length (-7 : Int)).length = A.length := by simp
      have hlB : (List.replicate B.length (-8 : Int)).length = B.length := by simp
      have htA' : (v8 (List.replicate A.length (-7))).take A.length = v8 (List.replicate A.length (-7)) := take_len (by rw [v8_len, hlA]; exact Nat.le_refl _)
      have htB' : (v8 (List.replicate B.length (-8))).take B.length = v8 (List.replicate B.length (-8)) := take_len (by rw [v8_len, hlB]; exact Nat.le_refl _)
      have hlA' : (List.replicate A.length (-7 : Int) ++ [-9]).length = A.length + 1 := by simp
      have hlB' : (List.replicate B.length (-8 : Int) ++ [-9]).length = B.length + 1 := by simp
      have gA : (v8 (List.replicate A.length (-7 : Int) ++ [-9]))[A.length]? = some [vI (-9)] := by rw [v8_get (by omega), List.getElem_append_right (by simp)]; simp
      have gB : (v8 (List.replicate B.length (-8 : Int) ++ [-9]))[B.length]? = some [vI (-9)] := by rw [v8_get (by omega), List.getElem_append_right (by simp)]; simp
      have wA : IntKind.i64.wrap (((A.length + 1 : Nat) : Int) - 1) = A.length := by rw [wrap_i64 (by omega)]; omega
      have wB : IntKind.i64.wrap (((B.length + 1 : Nat) : Int) - 1) = B.length := by rw [wrap_i64 (by omega)]; omega
      have zA : ((A.length : Int)).toNat = A.length := by omega
      have zB : ((B.length : Int)).toNat = B.length := by omega
      have zX : ((xs.length : Int)).toNat = xs.length := by omega
      have gX : (v8 (xs ++ [1234567]))[xs.length]? = some [vI 1234567] := by rw [v8_get (by simp), List.getElem_append_right (by simp)]; simp
      (repeat' (first
    | exact trivial
    | (with_reducible first | refine aw_seq ?_ | refine aw_block ?_ | refine aw_skip ?_ | refine aw_ret ?_ | refine aw_exit ?_ | refine aseq_normal ?_ | refine aseq_ret ?_ | refine aseq_exit ?_ | refine ablk_normal ?_ | refine ablk_ret ?_ | refine ablk_hit ?_ | refine aw_region ?_ | refine go_nil ?_ | refine al_of ?_)
    | with_reducible refine ablk_miss (by decide) ?_
    | ((with_reducible refine al_id ?_); refine go_run (tyOf_ok _) [] (by simp only [go_sem, Nat.reduceBEq, Nat.reduceBneDiff, Nat.reduceLT, Nat.reduceLeDiff, Nat.reduceAdd, Nat.reduceMul, Nat.reduceSub, Nat.reduceEqDiff, reduceCtorEq, hw1, e1, hf53, hlA, hlB, htA', htB', hlA', hlB', gA, gB, wA, wB, zA, zB, zX, gX, hl28, ht28, htA, htB, v8_app, Nat.sub_zero, Nat.add_sub_cancel]; exact rfl) ?_ ?_)
    | (refine aw_cond (by simp only [go_sem, Nat.reduceBEq, Nat.reduceBneDiff, Nat.reduceLT, Nat.reduceLeDiff, Nat.reduceAdd, Nat.reduceMul, Nat.reduceSub, Nat.reduceEqDiff, reduceCtorEq, hw1, e1, hf53, hlA, hlB, htA', htB', hlA', hlB', gA, gB, wA, wB, zA, zB, zX, gX, hl28, ht28, htA, htB, v8_app, Nat.sub_zero, Nat.add_sub_cancel]; exact rfl) (by simp only [go_sem, Nat.reduceBEq, Nat.reduceBneDiff, Nat.reduceLT, Nat.reduceLeDiff, Nat.reduceAdd, Nat.reduceMul, Nat.reduceSub, Nat.reduceEqDiff, reduceCtorEq]) (fun h => ?_) (fun h => ?_) <;> (try simp only [decide_eq_true_eq, decide_eq_false_iff_not, Bool.not_eq_true', Bool.not_eq_false', Bool.or_eq_true, Bool.or_eq_false_iff, Bool.and_eq_true, Bool.and_eq_false_iff, Decidable.not_not, reduceCtorEq] at h) <;> (try (exfalso; omega)))
    | (first | refine aend_ret (by simp only [go_sem, Nat.reduceBEq, Nat.reduceBneDiff, Nat.reduceLT, Nat.reduceLeDiff, Nat.reduceAdd, Nat.reduceMul, Nat.reduceSub, Nat.reduceEqDiff, reduceCtorEq, hw1, e1, hf53, hlA, hlB, htA', htB', hlA', hlB', gA, gB, wA, wB, zA, zB, zX, gX, hl28, ht28, htA, htB, v8_app, Nat.sub_zero, Nat.add_sub_cancel]; exact rfl) ?_ ?_ | refine aend_normal (by simp only [go_sem, Nat.reduceBEq, Nat.reduceBneDiff, Nat.reduceLT, Nat.reduceLeDiff, Nat.reduceAdd, Nat.reduceMul, Nat.reduceSub, Nat.reduceEqDiff, reduceCtorEq, hw1, e1, hf53, hlA, hlB, htA', htB', hlA', hlB', gA, gB, wA, wB, zA, zB, zX, gX, hl28, ht28, htA, htB, v8_app, Nat.sub_zero, Nat.add_sub_cancel]; exact rfl) ?_ ?_)
    | (refine go_call (by simp only [go_sem, Nat.reduceBEq, Nat.reduceBneDiff, Nat.reduceLT, Nat.reduceLeDiff, Nat.reduceAdd, Nat.reduceMul, Nat.reduceSub, Nat.reduceEqDiff, reduceCtorEq, hw1, e1, hf53, hlA, hlB, htA', htB', hlA', hlB', gA, gB, wA, wB, zA, zB, zX, gX, hl28, ht28, htA, htB, v8_app, Nat.sub_zero, Nat.add_sub_cancel]; exact rfl) ?_ (fun _ => same_any A A (by omega)) rfl ?_)
    | (refine go_call (by simp only [go_sem, Nat.reduceBEq, Nat.reduceBneDiff, Nat.reduceLT, Nat.reduceLeDiff, Nat.reduceAdd, Nat.reduceMul, Nat.reduceSub, Nat.reduceEqDiff, reduceCtorEq, hw1, e1, hf53, hlA, hlB, htA', htB', hlA', hlB', gA, gB, wA, wB, zA, zB, zX, gX, hl28, ht28, htA, htB, v8_app, Nat.sub_zero, Nat.add_sub_cancel]; exact rfl) ?_ (fun _ => same_any B B (by omega)) rfl ?_)
    | (refine go_call (by simp only [go_sem, Nat.reduceBEq, Nat.reduceBneDiff, Nat.reduceLT, Nat.reduceLeDiff, Nat.reduceAdd, Nat.reduceMul, Nat.reduceSub, Nat.reduceEqDiff, reduceCtorEq, hw1, e1, hf53, hlA, hlB, htA', htB', hlA', hlB', gA, gB, wA, wB, zA, zB, zX, gX, hl28, ht28, htA, htB, v8_app, Nat.sub_zero, Nat.add_sub_cancel]; exact rfl) ?_ (fun _ => same_any xs xs (by omega)) rfl ?_) | fail)) <;> (try omega)
      exact rfl
end Go.Proofs.Ytfgacgpicfknpaa
end

import Derived.Test.YtfgacgpicfknpaaP10
set_option linter.all false
section
namespace Go.Proofs.Ytfgacgpicfknpaa
open Go.RowKit
set_option maxRecDepth 100000
set_option maxHeartbeats 8000000
/-! size.Lengths and size.Length. -/
def lensF (ts : List TypeM) (rs : List RootM) (t : Int) (V : List NodeM) : List Int × Int :=
  if (checkF ts rs).1 ≠ 0 then ([], (checkF ts rs).1)
  else if t < 0 ∨ (ts.length : Int) ≤ t then ([], 3)
  else if (valW ts (exts ts) V ts.length t.toNat []).2.1 = true ∧ (valW ts (exts ts) V ts.length t.toNat []).2.2.length = V.length then ((valW ts (exts ts) V ts.length t.toNat []).2.2, 0) else ([], 40)
theorem wok_of {ts : List TypeM} {rs : List RootM} {V : List NodeM} (h : (checkF ts rs).1 = 0) (hts : ts.length ≤ 1000000000) (hp : ∀ t ∈ ts, t.parts.length ≤ 1000000000) (hV : V.length ≤ 1000000000) (hv : ∀ x ∈ V, nodeOK x) : WOK ts rs (exts ts) V :=
  have hr := check_right h
  { nts := hts, nV := hV, nX := by have := exts_len ts ts.length (Nat.le_refl _); rwa [List.take_length] at this,
    ok := fun e he => (exts_ok h hts ts.length (Nat.le_refl _) e (by rw [List.take_length]; exact he)).1,
    right := hr, parts := hp, node := hv }
def obI (d : Nat) (l : List Int) : List (Nat × AObj) := [(d, .row 3 1 (v8 l))]
theorem up_nI (d : Nat) (e : Int) : (AV.tup [.v (.slice none 0 0), .v (.int .i64 e)]).up (.tup [.ref 3 1 d 0 0, vI e]) := AV.up_tup (AV.up_cons (AV.up_nilref _ _ _ _) (AV.up_cons (AV.up_rfl _) AV.up_nilL))
theorem lens_G (ts : List TypeM) (rs : List RootM) (hts : ts.length ≤ 1000000000) (hrs : rs.length ≤ 1000000000) (hp : ∀ t ∈ ts, t.parts.length ≤ 1000000000) (t : Int) (ht : I64 t) (V : List NodeM) (hV : V.length ≤ 1000000000) (hv : ∀ x ∈ V, nodeOK x) :
    GCall Try.prog 28 [vSch ts rs, vI t, .lst 3 (encNs V)] [] (.tup [.ref 3 1 8000 0 (lensF ts rs t V).1.length, vI (lensF ts rs t V).2]) (obI 8000 (lensF ts rs t V).1) := by
  refine go_fnG (tyOf_ok _) Try.func28 rfl rfl (by rw [Try.results28]) Try.ntmps28 rfl fun E => ?_
  have hc := sizeOf_any ts rs hts hrs hp
  by_cases h0 : (checkF ts rs).1 = 0
  case neg =>
    rw [lensF, if_pos h0]
    rw [sizesF, if_pos h0] at hc
    have e1 : ((checkF ts rs).1 = 0) = False := eq_false h0
    generalize (checkF ts rs).1 = e at *
    (repeat' (first
    | exact trivial
    | (with_reducible first | refine aw_seq ?_ | refine aw_block ?_ | refine aw_skip ?_ | refine aw_ret ?_ | refine aw_exit ?_ | refine aseq_normal ?_ | refine aseq_ret ?_ | refine aseq_exit ?_ | refine ablk_normal ?_ | refine ablk_ret ?_ | refine ablk_hit ?_ | refine aw_region ?_ | refine go_nil ?_ | refine al_of ?_)
    | with_reducible refine ablk_miss (by decide) ?_
    | ((with_reducible refine al_id ?_); refine go_run (tyOf_ok _) [] (by simp only [go_sem, Nat.reduceBEq, Nat.reduceBneDiff, Nat.reduceLT, Nat.reduceLeDiff, Nat.reduceAdd, Nat.reduceMul, Nat.reduceSub, Nat.reduceEqDiff, reduceCtorEq, vSch, encTs_len, encNs_len, e1]; exact rfl) ?_ ?_)
    | (refine aw_cond (by simp only [go_sem, Nat.reduceBEq, Nat.reduceBneDiff, Nat.reduceLT, Nat.reduceLeDiff, Nat.reduceAdd, Nat.reduceMul, Nat.reduceSub, Nat.reduceEqDiff, reduceCtorEq, vSch, encTs_len, encNs_len, e1]; exact rfl) (by simp only [go_sem, Nat.reduceBEq, Nat.reduceBneDiff, Nat.reduceLT, Nat.reduceLeDiff, Nat.reduceAdd, Nat.reduceMul, Nat.reduceSub, Nat.reduceEqDiff, reduceCtorEq]) (fun h => ?_) (fun h => ?_) <;> (try simp only [decide_eq_true_eq, decide_eq_false_iff_not, Bool.not_eq_true', Bool.not_eq_false', Bool.or_eq_true, Bool.or_eq_false_iff, Bool.and_eq_true, Bool.and_eq_false_iff, Decidable.not_not, reduceCtorEq] at h) <;> (try (exfalso; omega)))
    | (first | refine aendG_ret (by simp only [go_sem, Nat.reduceBEq, Nat.reduceBneDiff, Nat.reduceLT, Nat.reduceLeDiff, Nat.reduceAdd, Nat.reduceMul, Nat.reduceSub, Nat.reduceEqDiff, reduceCtorEq, vSch, encTs_len, encNs_len, e1]; exact rfl) ?_ ?_ ?_ | refine aendG_normal (by simp only [go_sem, Nat.reduceBEq, Nat.reduceBneDiff, Nat.reduceLT, Nat.reduceLeDiff, Nat.reduceAdd, Nat.reduceMul, Nat.reduceSub, Nat.reduceEqDiff, reduceCtorEq, vSch, encTs_len, encNs_len, e1]; exact rfl) ?_ ?_ ?_)
    | (refine go_call1 (by simp only [go_sem, Nat.reduceBEq, Nat.reduceBneDiff, Nat.reduceLT, Nat.reduceLeDiff, Nat.reduceAdd, Nat.reduceMul, Nat.reduceSub, Nat.reduceEqDiff, reduceCtorEq, vSch, encTs_len, encNs_len, e1]; exact rfl) ?_ rfl (by simp only [go_sem, Nat.reduceBEq, Nat.reduceBneDiff, Nat.reduceLT, Nat.reduceLeDiff, Nat.reduceAdd, Nat.reduceMul, Nat.reduceSub, Nat.reduceEqDiff, reduceCtorEq, vSch, encTs_len, encNs_len, e1]) (by simp only [go_sem, Nat.reduceBEq, Nat.reduceBneDiff, Nat.reduceLT, Nat.reduceLeDiff, Nat.reduceAdd, Nat.reduceMul, Nat.reduceSub, Nat.reduceEqDiff, reduceCtorEq, vSch, encTs_len, encNs_len, e1]) (hc) ?_) | fail)) <;> (try omega)
    · exact up_nI _ _
    · exact obUp_row0 obUp_nil
  rw [sizesF, if_neg (by rw [h0]; decide)] at hc
  rw [lensF, if_neg (by rw [h0]; decide)]
  have W := wok_of (V := V) h0 hts hp hV hv
  by_cases h1 : t < 0
  · have e1 : (t < 0) = True := eq_true h1
    rw [if_pos (.inl h1)]
    (repeat' (first
    | exact trivial
    | (with_reducible first | refine aw_seq ?_ | refine aw_block ?_ | refine aw_skip ?_ | refine aw_ret ?_ | refine aw_exit ?_ | refine aseq_normal ?_ | refine aseq_ret ?_ | refine aseq_exit ?_ | refine ablk_normal ?_ | refine ablk_ret ?_ | refine ablk_hit ?_ | refine aw_region ?_ | refine go_nil ?_ | refine al_of ?_)
    | with_reducible refine ablk_miss (by decide) ?_
    | ((with_reducible refine al_id ?_); refine go_run (tyOf_ok _) [] (by simp only [go_sem, Nat.reduceBEq, Nat.reduceBneDiff, Nat.reduceLT, Nat.reduceLeDiff, Nat.reduceAdd, Nat.reduceMul, Nat.reduceSub, Nat.reduceEqDiff, reduceCtorEq, vSch, encTs_len, encNs_len, e1]; exact rfl) ?_ ?_)
    | (refine aw_cond (by simp only [go_sem, Nat.reduceBEq, Nat.reduceBneDiff, Nat.reduceLT, Nat.reduceLeDiff, Nat.reduceAdd, Nat.reduceMul, Nat.reduceSub, Nat.reduceEqDiff, reduceCtorEq, vSch, encTs_len, encNs_len, e1]; exact rfl) (by simp only [go_sem, Nat.reduceBEq, Nat.reduceBneDiff, Nat.reduceLT, Nat.reduceLeDiff, Nat.reduceAdd, Nat.reduceMul, Nat.reduceSub, Nat.reduceEqDiff, reduceCtorEq]) (fun h => ?_) (fun h => ?_) <;> (try simp only [decide_eq_true_eq, decide_eq_false_iff_not, Bool.not_eq_true', Bool.not_eq_false', Bool.or_eq_true, Bool.or_eq_false_iff, Bool.and_eq_true, Bool.and_eq_false_iff, Decidable.not_not, reduceCtorEq] at h) <;> (try (exfalso; omega)))
    | (first | refine aendG_ret (by simp only [go_sem, Nat.reduceBEq, Nat.reduceBneDiff, Nat.reduceLT, Nat.reduceLeDiff, Nat.reduceAdd, Nat.reduceMul, Nat.reduceSub, Nat.reduceEqDiff, reduceCtorEq, vSch, encTs_len, encNs_len, e1]; exact rfl) ?_ ?_ ?_ | refine aendG_normal (by simp only [go_sem, Nat.reduceBEq, Nat.reduceBneDiff, Nat.reduceLT, Nat.reduceLeDiff, Nat.reduceAdd, Nat.reduceMul, Nat.reduceSub, Nat.reduceEqDiff, reduceCtorEq, vSch, encTs_len, encNs_len, e1]; exact rfl) ?_ ?_ ?_)
    | (refine go_call1 (by simp only [go_sem, Nat.reduceBEq, Nat.reduceBneDiff, Nat.reduceLT, Nat.reduceLeDiff, Nat.reduceAdd, Nat.reduceMul, Nat.reduceSub, Nat.reduceEqDiff, reduceCtorEq, vSch, encTs_len, encNs_len, e1]; exact rfl) ?_ rfl (by simp only [go_sem, Nat.reduceBEq, Nat.reduceBneDiff, Nat.reduceLT, Nat.reduceLeDiff, Nat.reduceAdd, Nat.reduceMul, Nat.reduceSub, Nat.reduceEqDiff, reduceCtorEq, vSch, encTs_len, encNs_len, e1]) (by simp only [go_sem, Nat.reduceBEq, Nat.reduceBneDiff, Nat.reduceLT, Nat.reduceLeDiff, Nat.reduceAdd, Nat.reduceMul, Nat.reduceSub, Nat.reduceEqDiff, reduceCtorEq, vSch, encTs_len, encNs_len, e1]) (hc) ?_) | fail)) <;> (try omega)
    · exact up_nI _ _
    · exact obUp_row0 obUp_nil
  have e1 : (t < 0) = False := eq_false h1
  by_cases h2 : (ts.length : Int) ≤ t
  · have e2 : ((ts.length : Int) ≤ t) = True := eq_true h2
    rw [if_pos (.inr h2)]
    (repeat' (first
    | exact trivial
    | (with_reducible first | refine aw_seq ?_ | refine aw_block ?_ | refine aw_skip ?_ | refine aw_ret ?_ | refine aw_exit ?_ | refine aseq_normal ?_ | refine aseq_ret ?_ | refine aseq_exit ?_ | refine ablk_normal ?_ | refine ablk_ret ?_ | refine ablk_hit ?_ | refine aw_region ?_ | refine go_nil ?_ | refine al_of ?_)
    | with_reducible refine ablk_miss (by decide) ?_
    | ((with_reducible refine al_id ?_); refine go_run (tyOf_ok _) [] (by simp only [go_sem, Nat.reduceBEq, Nat.reduceBneDiff, Nat.reduceLT, Nat.reduceLeDiff, Nat.reduceAdd, Nat.reduceMul, Nat.reduceSub, Nat.reduceEqDiff, reduceCtorEq, vSch, encTs_len, encNs_len, e1, e2]; exact rfl) ?_ ?_)
    | (refine aw_cond (by simp only [go_sem, Nat.reduceBEq, Nat.reduceBneDiff, Nat.reduceLT, Nat.reduceLeDiff, Nat.reduceAdd, Nat.reduceMul, Nat.reduceSub, Nat.reduceEqDiff, reduceCtorEq, vSch, encTs_len, encNs_len, e1, e2]; exact rfl) (by simp only [go_sem, Nat.reduceBEq, Nat.reduceBneDiff, Nat.reduceLT, Nat.reduceLeDiff, Nat.reduceAdd, Nat.reduceMul, Nat.reduceSub, Nat.reduceEqDiff, reduceCtorEq]) (fun h => ?_) (fun h => ?_) <;> (try simp only [decide_eq_true_eq, decide_eq_false_iff_not, Bool.not_eq_true', Bool.not_eq_false', Bool.or_eq_true, Bool.or_eq_false_iff, Bool.and_eq_true, Bool.and_eq_false_iff, Decidable.not_not, reduceCtorEq] at h) <;> (try (exfalso; omega)))
    | (first | refine aendG_ret (by simp only [go_sem, Nat.reduceBEq, Nat.reduceBneDiff, Nat.reduceLT, Nat.reduceLeDiff, Nat.reduceAdd, Nat.reduceMul, Nat.reduceSub, Nat.reduceEqDiff, reduceCtorEq, vSch, encTs_len, encNs_len, e1, e2]; exact rfl) ?_ ?_ ?_ | refine aendG_normal (by simp only [go_sem, Nat.reduceBEq, Nat.reduceBneDiff, Nat.reduceLT, Nat.reduceLeDiff, Nat.reduceAdd, Nat.reduceMul, Nat.reduceSub, Nat.reduceEqDiff, reduceCtorEq, vSch, encTs_len, encNs_len, e1, e2]; exact rfl) ?_ ?_ ?_)
    | (refine go_call1 (by simp only [go_sem, Nat.reduceBEq, Nat.reduceBneDiff, Nat.reduceLT, Nat.reduceLeDiff, Nat.reduceAdd, Nat.reduceMul, Nat.reduceSub, Nat.reduceEqDiff, reduceCtorEq, vSch, encTs_len, encNs_len, e1, e2]; exact rfl) ?_ rfl (by simp only [go_sem, Nat.reduceBEq, Nat.reduceBneDiff, Nat.reduceLT, Nat.reduceLeDiff, Nat.reduceAdd, Nat.reduceMul, Nat.reduceSub, Nat.reduceEqDiff, reduceCtorEq, vSch, encTs_len, encNs_len, e1, e2]) (by simp only [go_sem, Nat.reduceBEq, Nat.reduceBneDiff, Nat.reduceLT, Nat.reduceLeDiff, Nat.reduceAdd, Nat.reduceMul, Nat.reduceSub, Nat.reduceEqDiff, reduceCtorEq, vSch, encTs_len, encNs_len, e1, e2]) (hc) ?_) | fail)) <;> (try omega)
    · exact up_nI _ _
    · exact obUp_row0 obUp_nil
  have e2 : ((ts.length : Int) ≤ t) = False := eq_false h2
  rw [if_neg (by omega)]
  have hw := (value_any W ts.length t.toNat (by omega) (by omega) [] (Nat.zero_le _))
  rw [Int.toNat_of_nonneg (by omega)] at hw
  obtain ⟨hw, hb⟩ := hw
  generalize valW ts (exts ts) V ts.length t.toNat [] = r at *
  obtain ⟨n, ok, ls⟩ := r
  dsimp only at hw ⊢
  cases ok with
  | false =>
    rw [if_neg (by simp)]
    (repeat' (first
    | exact trivial
    | (refine aw_nilvar 34 5 3 1 8000 (.inl (by decide)) (by decide) rfl rfl ?_)
    | (with_reducible first | refine aw_seq ?_ | refine aw_block ?_ | refine aw_skip ?_ | refine aw_ret ?_ | refine aw_exit ?_ | refine aseq_normal ?_ | refine aseq_ret ?_ | refine aseq_exit ?_ | refine ablk_normal ?_ | refine ablk_ret ?_ | refine ablk_hit ?_ | refine aw_region ?_ | refine go_nil ?_ | refine al_of ?_)
    | with_reducible refine ablk_miss (by decide) ?_
    | ((with_reducible refine al_id ?_); refine go_run (tyOf_ok _) [] (by simp only [go_sem, Nat.reduceBEq, Nat.reduceBneDiff, Nat.reduceLT, Nat.reduceLeDiff, Nat.reduceAdd, Nat.reduceMul, Nat.reduceSub, Nat.reduceEqDiff, reduceCtorEq, AState.nilvar, List.set_cons_succ, List.set_cons_zero, vSch, encTs_len, encNs_len, e1, e2, wob, tupR, v8_nil]; exact rfl) ?_ ?_)
    | (refine aw_cond (by simp only [go_sem, Nat.reduceBEq, Nat.reduceBneDiff, Nat.reduceLT, Nat.reduceLeDiff, Nat.reduceAdd, Nat.reduceMul, Nat.reduceSub, Nat.reduceEqDiff, reduceCtorEq, AState.nilvar, List.set_cons_succ, List.set_cons_zero, vSch, encTs_len, encNs_len, e1, e2, wob, tupR, v8_nil]; exact rfl) (by simp only [go_sem, Nat.reduceBEq, Nat.reduceBneDiff, Nat.reduceLT, Nat.reduceLeDiff, Nat.reduceAdd, Nat.reduceMul, Nat.reduceSub, Nat.reduceEqDiff, reduceCtorEq]) (fun h => ?_) (fun h => ?_) <;> (try simp only [decide_eq_true_eq, decide_eq_false_iff_not, Bool.not_eq_true', Bool.not_eq_false', Bool.or_eq_true, Bool.or_eq_false_iff, Bool.and_eq_true, Bool.and_eq_false_iff, Decidable.not_not, reduceCtorEq] at h) <;> (try (exfalso; omega)))
    | (first | refine aendG_ret (by simp only [go_sem, Nat.reduceBEq, Nat.reduceBneDiff, Nat.reduceLT, Nat.reduceLeDiff, Nat.reduceAdd, Nat.reduceMul, Nat.reduceSub, Nat.reduceEqDiff, reduceCtorEq, AState.nilvar, List.set_cons_succ, List.set_cons_zero, vSch, encTs_len, encNs_len, e1, e2, wob, tupR, v8_nil]; exact rfl) ?_ ?_ ?_ | refine aendG_normal (by simp only [go_sem, Nat.reduceBEq, Nat.reduceBneDiff, Nat.reduceLT, Nat.reduceLeDiff, Nat.reduceAdd, Nat.reduceMul, Nat.reduceSub, Nat.reduceEqDiff, reduceCtorEq, AState.nilvar, List.set_cons_succ, List.set_cons_zero, vSch, encTs_len, encNs_len, e1, e2, wob, tupR, v8_nil]; exact rfl) ?_ ?_ ?_)
    | (refine go_call1 (by simp only [go_sem, Nat.reduceBEq, Nat.reduceBneDiff, Nat.reduceLT, Nat.reduceLeDiff, Nat.reduceAdd, Nat.reduceMul, Nat.reduceSub, Nat.reduceEqDiff, reduceCtorEq, AState.nilvar, List.set_cons_succ, List.set_cons_zero, vSch, encTs_len, encNs_len, e1, e2, wob, tupR, v8_nil]; exact rfl) ?_ rfl (by simp only [go_sem, Nat.reduceBEq, Nat.reduceBneDiff, Nat.reduceLT, Nat.reduceLeDiff, Nat.reduceAdd, Nat.reduceMul, Nat.reduceSub, Nat.reduceEqDiff, reduceCtorEq, AState.nilvar, List.set_cons_succ, List.set_cons_zero, vSch, encTs_len, encNs_len, e1, e2, wob, tupR, v8_nil]) (by simp only [go_sem, Nat.reduceBEq, Nat.reduceBneDiff, Nat.reduceLT, Nat.reduceLeDiff, Nat.reduceAdd, Nat.reduceMul, Nat.reduceSub, Nat.reduceEqDiff, reduceCtorEq, AState.nilvar, List.set_cons_succ, List.set_cons_zero, vSch, encTs_len, encNs_len, e1, e2, wob, tupR, v8_nil]) (hc) ?_)
    | (refine go_callG [(34, 10000), (8000, 15000)] [(10000, 34), (15000, 8000)] [8000] [34] (by simp only [go_sem, Nat.reduceBEq, Nat.reduceBneDiff, Nat.reduceLT, Nat.reduceLeDiff, Nat.reduceAdd, Nat.reduceMul, Nat.reduceSub, Nat.reduceEqDiff, reduceCtorEq, AState.nilvar, List.set_cons_succ, List.set_cons_zero, vSch, encTs_len, encNs_len, e1, e2, wob, tupR, v8_nil]; exact rfl) ?_ rfl rfl (by first | exact .inl rfl | exact .inr rfl) (by simp only [go_sem, Nat.reduceBEq, Nat.reduceBneDiff, Nat.reduceLT, Nat.reduceLeDiff, Nat.reduceAdd, Nat.reduceMul, Nat.reduceSub, Nat.reduceEqDiff, reduceCtorEq, AState.nilvar, List.set_cons_succ, List.set_cons_zero, vSch, encTs_len, encNs_len, e1, e2, wob, tupR, v8_nil] <;> exact rfl) (hw) (.inl rfl) ?_) | fail)) <;> (try omega)
    · exact up_nI _ _
    · exact obUp_row0 obUp_nil
  | true =>
    by_cases hl : ls.length = V.length
    · have e3 : ((ls.length : Int) = V.length) = True := eq_true (by omega)
      rw [if_pos ⟨rfl, hl⟩]
      (repeat' (first
    | exact trivial
    | (refine aw_nilvar 34 5 3 1 8000 (.inl (by decide)) (by decide) rfl rfl ?_)
    | (with_reducible first | refine aw_seq ?_ | refine aw_block ?_ | refine aw_skip ?_ | refine aw_ret ?_ | refine aw_exit ?_ | refine aseq_normal ?_ | refine aseq_ret ?_ | refine aseq_exit ?_ | refine ablk_normal ?_ | refine ablk_ret ?_ | refine ablk_hit ?_ | refine aw_region ?_ | refine go_nil ?_ | refine al_of ?_)
    | with_reducible refine ablk_miss (by decide) ?_
    | ((with_reducible refine al_id ?_); refine go_run (tyOf_ok _) [] (by simp only [go_sem, Nat.reduceBEq, Nat.reduceBneDiff, Nat.reduceLT, Nat.reduceLeDiff, Nat.reduceAdd, Nat.reduceMul, Nat.reduceSub, Nat.reduceEqDiff, reduceCtorEq, AState.nilvar, List.set_cons_succ, List.set_cons_zero, vSch, encTs_len, encNs_len, e1, e2, e3, wob, tupR, v8_nil]; exact rfl) ?_ ?_)
    | (refine aw_cond (by simp only [go_sem, Nat.reduceBEq, Nat.reduceBneDiff, Nat.reduceLT, Nat.reduceLeDiff, Nat.reduceAdd, Nat.reduceMul, Nat.reduceSub, Nat.reduceEqDiff, reduceCtorEq, AState.nilvar, List.set_cons_succ, List.set_cons_zero, vSch, encTs_len, encNs_len, e1, e2, e3, wob, tupR, v8_nil]; exact rfl) (by simp only [go_sem, Nat.reduceBEq, Nat.reduceBneDiff, Nat.reduceLT, Nat.reduceLeDiff, Nat.reduceAdd, Nat.reduceMul, Nat.reduceSub, Nat.reduceEqDiff, reduceCtorEq]) (fun h => ?_) (fun h => ?_) <;> (try simp only [decide_eq_true_eq, decide_eq_false_iff_not, Bool.not_eq_true', Bool.not_eq_false', Bool.or_eq_true, Bool.or_eq_false_iff, Bool.and_eq_true, Bool.and_eq_false_iff, Decidable.not_not, reduceCtorEq] at h) <;> (try (exfalso; omega)))
    | (first | refine aendG_ret (by simp only [go_sem, Nat.reduceBEq, Nat.reduceBneDiff, Nat.reduceLT, Nat.reduceLeDiff, Nat.reduceAdd, Nat.reduceMul, Nat.reduceSub, Nat.reduceEqDiff, reduceCtorEq, AState.nilvar, List.set_cons_succ, List.set_cons_zero, vSch, encTs_len, encNs_len, e1, e2, e3, wob, tupR, v8_nil]; exact rfl) ?_ ?_ ?_ | refine aendG_normal (by simp only [go_sem, Nat.reduceBEq, Nat.reduceBneDiff, Nat.reduceLT, Nat.reduceLeDiff, Nat.reduceAdd, Nat.reduceMul, Nat.reduceSub, Nat.reduceEqDiff, reduceCtorEq, AState.nilvar, List.set_cons_succ, List.set_cons_zero, vSch, encTs_len, encNs_len, e1, e2, e3, wob, tupR, v8_nil]; exact rfl) ?_ ?_ ?_)
    | (refine go_call1 (by simp only [go_sem, Nat.reduceBEq, Nat.reduceBneDiff, Nat.reduceLT, Nat.reduceLeDiff, Nat.reduceAdd, Nat.reduceMul, Nat.reduceSub, Nat.reduceEqDiff, reduceCtorEq, AState.nilvar, List.set_cons_succ, List.set_cons_zero, vSch, encTs_len, encNs_len, e1, e2, e3, wob, tupR, v8_nil]; exact rfl) ?_ rfl (by simp only [go_sem, Nat.reduceBEq, Nat.reduceBneDiff, Nat.reduceLT, Nat.reduceLeDiff, Nat.reduceAdd, Nat.reduceMul, Nat.reduceSub, Nat.reduceEqDiff, reduceCtorEq, AState.nilvar, List.set_cons_succ, List.set_cons_zero, vSch, encTs_len, encNs_len, e1, e2, e3, wob, tupR, v8_nil]) (by simp only [go_sem, Nat.reduceBEq, Nat.reduceBneDiff, Nat.reduceLT, Nat.reduceLeDiff, Nat.reduceAdd, Nat.reduceMul, Nat.reduceSub, Nat.reduceEqDiff, reduceCtorEq, AState.nilvar, List.set_cons_succ, List.set_cons_zero, vSch, encTs_len, encNs_len, e1, e2, e3, wob, tupR, v8_nil]) (hc) ?_)
    | (refine go_callG [(34, 10000), (8000, 15000)] [(10000, 34), (15000, 8000)] [8000] [34] (by simp only [go_sem, Nat.reduceBEq, Nat.reduceBneDiff, Nat.reduceLT, Nat.reduceLeDiff, Nat.reduceAdd, Nat.reduceMul, Nat.reduceSub, Nat.reduceEqDiff, reduceCtorEq, AState.nilvar, List.set_cons_succ, List.set_cons_zero, vSch, encTs_len, encNs_len, e1, e2, e3, wob, tupR, v8_nil]; exact rfl) ?_ rfl rfl (by first | exact .inl rfl | exact .inr rfl) (by simp only [go_sem, Nat.reduceBEq, Nat.reduceBneDiff, Nat.reduceLT, Nat.reduceLeDiff, Nat.reduceAdd, Nat.reduceMul, Nat.reduceSub, Nat.reduceEqDiff, reduceCtorEq, AState.nilvar, List.set_cons_succ, List.set_cons_zero, vSch, encTs_len, encNs_len, e1, e2, e3, wob, tupR, v8_nil] <;> exact rfl) (hw) (.inl rfl) ?_) | fail)) <;> (try omega)
      · exact AV.up_rfl _
      · exact obUp_cons rfl obUp_nil
    · have e3 : ((ls.length : Int) = V.length) = False := eq_false (by omega)
      rw [if_neg (by rintro ⟨_, h⟩; exact hl h)]
      (repeat' (first
    | exact trivial
    | (refine aw_nilvar 34 5 3 1 8000 (.inl (by decide)) (by decide) rfl rfl ?_)
    | (with_reducible first | refine aw_seq ?_ | refine aw_block ?_ | refine aw_skip ?_ | refine aw_ret ?_ | refine aw_exit ?_ | refine aseq_normal ?_ | refine aseq_ret ?_ | refine aseq_exit ?_ | refine ablk_normal ?_ | refine ablk_ret ?_ | refine ablk_hit ?_ | refine aw_region ?_ | refine go_nil ?_ | refine al_of ?_)
    | with_reducible refine ablk_miss (by decide) ?_
    | ((with_reducible refine al_id ?_); refine go_run (tyOf_ok _) [] (by simp only [go_sem, Nat.reduceBEq, Nat.reduceBneDiff, Nat.reduceLT, Nat.reduceLeDiff, Nat.reduceAdd, Nat.reduceMul, Nat.reduceSub, Nat.reduceEqDiff, reduceCtorEq, AState.nilvar, List.set_cons_succ, List.set_cons_zero, vSch, encTs_len, encNs_len, e1, e2, e3, wob, tupR, v8_nil]; exact rfl) ?_ ?_)
    | (refine aw_cond (by simp only [go_sem, Nat.reduceBEq, Nat.reduceBneDiff, Nat.reduceLT, Nat.reduceLeDiff, Nat.reduceAdd, Nat.reduceMul, Nat.reduceSub, Nat.reduceEqDiff, reduceCtorEq, AState.nilvar, List.set_cons_succ, List.set_cons_zero, vSch, encTs_len, encNs_len, e1, e2, e3, wob, tupR, v8_nil]; exact rfl) (by simp only [go_sem, Nat.reduceBEq, Nat.reduceBneDiff, Nat.reduceLT, Nat.reduceLeDiff, Nat.reduceAdd, Nat.reduceMul, Nat.reduceSub, Nat.reduceEqDiff, reduceCtorEq]) (fun h => ?_) (fun h => ?_) <;> (try simp only [decide_eq_true_eq, decide_eq_false_iff_not, Bool.not_eq_true', Bool.not_eq_false', Bool.or_eq_true, Bool.or_eq_false_iff, Bool.and_eq_true, Bool.and_eq_false_iff, Decidable.not_not, reduceCtorEq] at h) <;> (try (exfalso; omega)))
    | (first | refine aendG_ret (by simp only [go_sem, Nat.reduceBEq, Nat.reduceBneDiff, Nat.reduceLT, Nat.reduceLeDiff, Nat.reduceAdd, Nat.reduceMul, Nat.reduceSub, Nat.reduceEqDiff, reduceCtorEq, AState.nilvar, List.set_cons_succ, List.set_cons_zero, vSch, encTs_len, encNs_len, e1, e2, e3, wob, tupR, v8_nil]; exact rfl) ?_ ?_ ?_ | refine aendG_normal (by simp only [go_sem, Nat.reduceBEq, Nat.reduceBneDiff, Nat.reduceLT, Nat.reduceLeDiff, Nat.reduceAdd, Nat.reduceMul, Nat.reduceSub, Nat.reduceEqDiff, reduceCtorEq, AState.nilvar, List.set_cons_succ, List.set_cons_zero, vSch, encTs_len, encNs_len, e1, e2, e3, wob, tupR, v8_nil]; exact rfl) ?_ ?_ ?_)
    | (refine go_call1 (by simp only [go_sem, Nat.reduceBEq, Nat.reduceBneDiff, Nat.reduceLT, Nat.reduceLeDiff, Nat.reduceAdd, Nat.reduceMul, Nat.reduceSub, Nat.reduceEqDiff, reduceCtorEq, AState.nilvar, List.set_cons_succ, List.set_cons_zero, vSch, encTs_len, encNs_len, e1, e2, e3, wob, tupR, v8_nil]; exact rfl) ?_ rfl (by simp only [go_sem, Nat.reduceBEq, Nat.reduceBneDiff, Nat.reduceLT, Nat.reduceLeDiff, Nat.reduceAdd, Nat.reduceMul, Nat.reduceSub, Nat.reduceEqDiff, reduceCtorEq, AState.nilvar, List.set_cons_succ, List.set_cons_zero, vSch, encTs_len, encNs_len, e1, e2, e3, wob, tupR, v8_nil]) (by simp only [go_sem, Nat.reduceBEq, Nat.reduceBneDiff, Nat.reduceLT, Nat.reduceLeDiff, Nat.reduceAdd, Nat.reduceMul, Nat.reduceSub, Nat.reduceEqDiff, reduceCtorEq, AState.nilvar, List.set_cons_succ, List.set_cons_zero, vSch, encTs_len, encNs_len, e1, e2, e3, wob, tupR, v8_nil]) (hc) ?_)
    | (refine go_callG [(34, 10000), (8000, 15000)] [(10000, 34), (15000, 8000)] [8000] [34] (by simp only [go_sem, Nat.reduceBEq, Nat.reduceBneDiff, Nat.reduceLT, Nat.reduceLeDiff, Nat.reduceAdd, Nat.reduceMul, Nat.reduceSub, Nat.reduceEqDiff, reduceCtorEq, AState.nilvar, List.set_cons_succ, List.set_cons_zero, vSch, encTs_len, encNs_len, e1, e2, e3, wob, tupR, v8_nil]; exact rfl) ?_ rfl rfl (by first | exact .inl rfl | exact .inr rfl) (by simp only [go_sem, Nat.reduceBEq, Nat.reduceBneDiff, Nat.reduceLT, Nat.reduceLeDiff, Nat.reduceAdd, Nat.reduceMul, Nat.reduceSub, Nat.reduceEqDiff, reduceCtorEq, AState.nilvar, List.set_cons_succ, List.set_cons_zero, vSch, encTs_len, encNs_len, e1, e2, e3, wob, tupR, v8_nil] <;> exact rfl) (hw) (.inl rfl) ?_) | fail)) <;> (try omega)
      · exact up_nI _ _
      · exact obUp_row0 obUp_nil
end Go.Proofs.Ytfgacgpicfknpaa
end
section
namespace Go.Proofs.Ytfgacgpicfknpaa
open Go.RowKit
set_option maxRecDepth 100000
set_option maxHeartbeats 8000000
theorem valW_ok {ts : List TypeM} {X : List ExtM} {V : List NodeM} : ∀ (f t : Nat) (ls : List Int), (valW ts X V f t ls).2.1 = true → ls.length < V.length
  | 0, _, _, h => by cases h
  | f + 1, t, ls, h => by
    rw [valW] at h
    cases hv : V[ls.length]? with
    | none => rw [hv] at h; cases h
    | some v =>
      rcases Nat.lt_or_ge ls.length V.length with h' | h'
      · exact h'
      · rw [List.getElem?_eq_none h'] at hv; cases hv
def len1F (ts : List TypeM) (rs : List RootM) (t : Int) (V : List NodeM) : Int × Int := if (lensF ts rs t V).2 = 0 then ((lensF ts rs t V).1.getD 0 0, 0) else (0, (lensF ts rs t V).2)
theorem lensF_pos {ts : List TypeM} {rs : List RootM} {t : Int} {V : List NodeM} (h : (lensF ts rs t V).2 = 0) : 0 < (lensF ts rs t V).1.length ∧ (lensF ts rs t V).1.length = V.length := by
  unfold lensF at h ⊢
  split at h
  · rename_i h'; exact absurd h h'
  · rename_i h1
    split at h
    · cases h
    · rename_i h2
      split at h
      · rename_i h3
        rw [if_neg h1, if_neg h2, if_pos h3]
        have := valW_ok _ _ _ h3.1
        exact ⟨by simp only; rw [h3.2]; simpa using this, h3.2⟩
      · cases h
theorem len1_any (ts : List TypeM) (rs : List RootM) (hts : ts.length ≤ 1000000000) (hrs : rs.length ≤ 1000000000) (hp : ∀ t ∈ ts, t.parts.length ≤ 1000000000) (t : Int) (ht : I64 t) (V : List NodeM) (hV : V.length ≤ 1000000000) (hv : ∀ x ∈ V, nodeOK x) :
    PCall Try.prog 29 [vSch ts rs, vI t, .lst 3 (encNs V)] (fun r => r = .tup [vI (len1F ts rs t V).1, vI (len1F ts rs t V).2]) := by
  refine go_fn (tyOf_ok _) Try.func29 rfl rfl (by rw [Try.results29]) Try.ntmps29 rfl fun E => ?_
  have hG := lens_G ts rs hts hrs hp t ht V hV hv
  have hpos := lensF_pos (ts := ts) (rs := rs) (t := t) (V := V)
  unfold len1F
  generalize lensF ts rs t V = r at *
  obtain ⟨l, e⟩ := r
  dsimp only at hG hpos ⊢
  by_cases h : e = 0
  · have e1 : (e = 0) = True := eq_true h
    obtain ⟨h1, _⟩ := hpos h
    have g1 := v8_get (zs := l) (k := 0) h1
    have g2 : l.getD 0 0 = l[0] := by simp [List.getElem?_eq_getElem h1]
    rw [if_pos h, g2]
    (repeat' (first
    | exact trivial
    | (with_reducible first | refine aw_seq ?_ | refine aw_block ?_ | refine aw_skip ?_ | refine aw_ret ?_ | refine aw_exit ?_ | refine aseq_normal ?_ | refine aseq_ret ?_ | refine aseq_exit ?_ | refine ablk_normal ?_ | refine ablk_ret ?_ | refine ablk_hit ?_ | refine aw_region ?_ | refine go_nil ?_ | refine al_of ?_)
    | with_reducible refine ablk_miss (by decide) ?_
    | ((with_reducible refine al_id ?_); refine go_run (tyOf_ok _) [] (by simp only [go_sem, Nat.reduceBEq, Nat.reduceBneDiff, Nat.reduceLT, Nat.reduceLeDiff, Nat.reduceAdd, Nat.reduceMul, Nat.reduceSub, Nat.reduceEqDiff, reduceCtorEq, vSch, e1, obI, g1, Int.reduceToNat]; exact rfl) ?_ ?_)
    | (refine aw_cond (by simp only [go_sem, Nat.reduceBEq, Nat.reduceBneDiff, Nat.reduceLT, Nat.reduceLeDiff, Nat.reduceAdd, Nat.reduceMul, Nat.reduceSub, Nat.reduceEqDiff, reduceCtorEq, vSch, e1, obI, g1, Int.reduceToNat]; exact rfl) (by simp only [go_sem, Nat.reduceBEq, Nat.reduceBneDiff, Nat.reduceLT, Nat.reduceLeDiff, Nat.reduceAdd, Nat.reduceMul, Nat.reduceSub, Nat.reduceEqDiff, reduceCtorEq]) (fun h => ?_) (fun h => ?_) <;> (try simp only [decide_eq_true_eq, decide_eq_false_iff_not, Bool.not_eq_true', Bool.not_eq_false', Bool.or_eq_true, Bool.or_eq_false_iff, Bool.and_eq_true, Bool.and_eq_false_iff, Decidable.not_not, reduceCtorEq] at h) <;> (try (exfalso; omega)))
    | (first | refine aend_ret (by simp only [go_sem, Nat.reduceBEq, Nat.reduceBneDiff, Nat.reduceLT, Nat.reduceLeDiff, Nat.reduceAdd, Nat.reduceMul, Nat.reduceSub, Nat.reduceEqDiff, reduceCtorEq, vSch, e1, obI, g1, Int.reduceToNat]; exact rfl) ?_ ?_ | refine aend_normal (by simp only [go_sem, Nat.reduceBEq, Nat.reduceBneDiff, Nat.reduceLT, Nat.reduceLeDiff, Nat.reduceAdd, Nat.reduceMul, Nat.reduceSub, Nat.reduceEqDiff, reduceCtorEq, vSch, e1, obI, g1, Int.reduceToNat]; exact rfl) ?_ ?_)
    | (refine go_callG [] [(8000, 14)] [14] [] (by simp only [go_sem, Nat.reduceBEq, Nat.reduceBneDiff, Nat.reduceLT, Nat.reduceLeDiff, Nat.reduceAdd, Nat.reduceMul, Nat.reduceSub, Nat.reduceEqDiff, reduceCtorEq, vSch, e1, obI, g1, Int.reduceToNat]; exact rfl) ?_ rfl rfl (by first | exact .inl rfl | exact .inr rfl) (by simp only [go_sem, Nat.reduceBEq, Nat.reduceBneDiff, Nat.reduceLT, Nat.reduceLeDiff, Nat.reduceAdd, Nat.reduceMul, Nat.reduceSub, Nat.reduceEqDiff, reduceCtorEq, vSch, e1, obI, g1, Int.reduceToNat] <;> exact rfl) (hG) (.inl rfl) ?_) | fail)) <;> (try omega)
    exact rfl
  · have e1 : (e = 0) = False := eq_false h
    rw [if_neg h]
    (repeat' (first
    | exact trivial
    | (with_reducible first | refine aw_seq ?_ | refine aw_block ?_ | refine aw_skip ?_ | refine aw_ret ?_ | refine aw_exit ?_ | refine aseq_normal ?_ | refine aseq_ret ?_ | refine aseq_exit ?_ | refine ablk_normal ?_ | refine ablk_ret ?_ | refine ablk_hit ?_ | refine aw_region ?_ | refine go_nil ?_ | refine al_of ?_)
    | with_reducible refine ablk_miss (by decide) ?_
    | ((with_reducible refine al_id ?_); refine go_run (tyOf_ok _) [] (by simp only [go_sem, Nat.reduceBEq, Nat.reduceBneDiff, Nat.reduceLT, Nat.reduceLeDiff, Nat.reduceAdd, Nat.reduceMul, Nat.reduceSub, Nat.reduceEqDiff, reduceCtorEq, vSch, e1, obI]; exact rfl) ?_ ?_)
    | (refine aw_cond (by simp only [go_sem, Nat.reduceBEq, Nat.reduceBneDiff, Nat.reduceLT, Nat.reduceLeDiff, Nat.reduceAdd, Nat.reduceMul, Nat.reduceSub, Nat.reduceEqDiff, reduceCtorEq, vSch, e1, obI]; exact rfl) (by simp only [go_sem, Nat.reduceBEq, Nat.reduceBneDiff, Nat.reduceLT, Nat.reduceLeDiff, Nat.reduceAdd, Nat.reduceMul, Nat.reduceSub, Nat.reduceEqDiff, reduceCtorEq]) (fun h => ?_) (fun h => ?_) <;> (try simp only [decide_eq_true_eq, decide_eq_false_iff_not, Bool.not_eq_true', Bool.not_eq_false', Bool.or_eq_true, Bool.or_eq_false_iff, Bool.and_eq_true, Bool.and_eq_false_iff, Decidable.not_not, reduceCtorEq] at h) <;> (try (exfalso; omega)))
    | (first | refine aend_ret (by simp only [go_sem, Nat.reduceBEq, Nat.reduceBneDiff, Nat.reduceLT, Nat.reduceLeDiff, Nat.reduceAdd, Nat.reduceMul, Nat.reduceSub, Nat.reduceEqDiff, reduceCtorEq, vSch, e1, obI]; exact rfl) ?_ ?_ | refine aend_normal (by simp only [go_sem, Nat.reduceBEq, Nat.reduceBneDiff, Nat.reduceLT, Nat.reduceLeDiff, Nat.reduceAdd, Nat.reduceMul, Nat.reduceSub, Nat.reduceEqDiff, reduceCtorEq, vSch, e1, obI]; exact rfl) ?_ ?_)
    | (refine go_callG [] [(8000, 14)] [14] [] (by simp only [go_sem, Nat.reduceBEq, Nat.reduceBneDiff, Nat.reduceLT, Nat.reduceLeDiff, Nat.reduceAdd, Nat.reduceMul, Nat.reduceSub, Nat.reduceEqDiff, reduceCtorEq, vSch, e1, obI]; exact rfl) ?_ rfl rfl (by first | exact .inl rfl | exact .inr rfl) (by simp only [go_sem, Nat.reduceBEq, Nat.reduceBneDiff, Nat.reduceLT, Nat.reduceLeDiff, Nat.reduceAdd, Nat.reduceMul, Nat.reduceSub, Nat.reduceEqDiff, reduceCtorEq, vSch, e1, obI] <;> exact rfl) (hG) (.inl rfl) ?_) | fail)) <;> (try omega)
    exact rfl
/-- the lengths, as a list that nobody writes -/
theorem lens_any (ts : List TypeM) (rs : List RootM) (hts : ts.length ≤ 1000000000) (hrs : rs.length ≤ 1000000000) (hp : ∀ t ∈ ts, t.parts.length ≤ 1000000000) (t : Int) (ht : I64 t) (V : List NodeM) (hV : V.length ≤ 1000000000) (hv : ∀ x ∈ V, nodeOK x) :
    PCall Try.prog 28 [vSch ts rs, vI t, .lst 3 (encNs V)] (fun r => r = .tup [.lst 1 (v8 (lensF ts rs t V).1), vI (lensF ts rs t V).2]) := by
  have h := (lens_G ts rs hts hrs hp t ht V hV hv).toP (by simp [AV.snapOK, AV.snapOK.snapOKL, obI, lk, v8_len])
  refine h.mono fun r hr => hr.trans ?_
  simp [AV.snap, AV.snap.snapL, obI, lk, v8_take, take_len]
end Go.Proofs.Ytfgacgpicfknpaa
end
section
namespace Go.Proofs.Ytfgacgpicfknpaa
open Go.RowKit
set_option maxRecDepth 100000
set_option maxHeartbeats 4000000
/-! Types that double: what sizesF says of them. -/
def emptyS : ByteArray := ⟨#[]⟩
def aS : ByteArray := ⟨#[97]⟩
def bS : ByteArray := ⟨#[98]⟩
def dblT (b : Bool) (i : Nat) : TypeM := if b = true then ⟨8, 0, 0, [⟨aS, 0, i⟩, ⟨bS, 0, i⟩]⟩ else ⟨7, 0, 0, [⟨emptyS, 0, i⟩, ⟨emptyS, 1, i⟩]⟩
def dbl0 : TypeM := ⟨1, 1, 0, []⟩
def dbl (b : Bool) (n : Nat) : List TypeM := dbl0 :: (List.range n).map (dblT b)
theorem dbl_succ (b : Bool) (n : Nat) : dbl b (n + 1) = dbl b n ++ [dblT b n] := by simp [dbl, List.range_succ]
theorem dbl_len (b : Bool) (n : Nat) : (dbl b n).length = n + 1 := by simp [dbl]
def two (i : Nat) : Int := min (2 ^ i) 4611686018427387904
def dblE (b : Bool) (i : Nat) : ExtM := if b = true then ⟨true, two i, two i, i + 1⟩ else if i = 0 then ⟨true, 1, 1, 1⟩ else ⟨false, i + 1, i + 1, i + 1⟩
def dblX (b : Bool) (e : ExtM) : ExtM :=
  if b = true then (fun x : ExtM => (⟨x.fixed && e.fixed, plusL [x.least, withinM e.fixed e.least], plusL [x.most, withinM e.fixed e.most], max x.depth (1 + e.depth)⟩ : ExtM)) ((fun x : ExtM => (⟨x.fixed && e.fixed, plusL [x.least, withinM e.fixed e.least], plusL [x.most, withinM e.fixed e.most], max x.depth (1 + e.depth)⟩ : ExtM)) ⟨true, 0, 0, 1⟩)
  else let x := (fun x : Int × Int × Int => (min x.1 e.least, max x.2.1 (plusL [1, e.most]), max x.2.2 (1 + e.depth))) ((fun x : Int × Int × Int => (min x.1 e.least, max x.2.1 (plusL [1, e.most]), max x.2.2 (1 + e.depth))) (4611686018427387904, 0, 1))
    ⟨false, plusL [1, x.1], x.2.1, x.2.2⟩
theorem dblX_eq (b : Bool) (L : List ExtM) (i : Nat) : extM (dblT b i) L = dblX b (atE L i) := by cases b <;> rfl
deriving instance DecidableEq for ExtM
theorem dblX_step : ∀ b : Bool, ∀ i : Nat, i < 63 → dblX b (dblE b i) = dblE b (i + 1) := by decide +kernel
theorem dbl_exts (b : Bool) : ∀ n : Nat, n ≤ 63 → exts (dbl b n) = (List.range (n + 1)).map (dblE b)
  | 0, _ => by cases b <;> decide +kernel
  | n + 1, h => by
    have ih := dbl_exts b n (by omega)
    have h1 : exts (dbl b (n + 1)) = exts (dbl b n) ++ [extM (dblT b n) (exts (dbl b n))] := by rw [dbl_succ, exts, List.foldl_append]; rfl
    rw [h1, dblX_eq, ih, List.range_succ (n := n + 1), List.map_append]
    congr 2
    have : atE ((List.range (n + 1)).map (dblE b)) (n : Int) = dblE b n := by
      rw [atE, Int.toNat_natCast, List.getElem?_map, List.getElem?_range (by omega)]; rfl
    rw [this, dblX_step b n (by omega)]
theorem dbl_deps (b : Bool) : ∀ n : Nat, deps (dbl b n) = (List.range (n + 1)).map (fun i : Nat => (i : Int) + 1)
  | 0 => by cases b <;> decide +kernel
  | n + 1 => by
    have ih := dbl_deps b n
    have h1 : deps (dbl b (n + 1)) = deps (dbl b n) ++ [dep (deps (dbl b n)) (dblT b n)] := by rw [dbl_succ, deps, List.foldl_append]; rfl
    rw [h1, ih, List.range_succ (n := n + 1), List.map_append]
    congr 2
    have : ((List.range (n + 1)).map (fun i : Nat => (i : Int) + 1)).getD n 0 = n + 1 := by
      rw [List.getD_eq_getElem?_getD, List.getElem?_map, List.getElem?_range (by omega)]; rfl
    cases b <;> simp [dep, dep0, depTo, dblT, this] <;> omega
theorem dbl_take (b : Bool) {n k : Nat} (h : k ≤ n) : (dbl b n).take (k + 1) = dbl b k := by
  simp [dbl, List.take_succ_cons, ← List.map_take, List.take_range, Nat.min_eq_left h]
theorem dbl_get (b : Bool) {n k : Nat} (h : k ≤ n) : (dbl b n)[k]? = some (if k = 0 then dbl0 else dblT b (k - 1)) := by
  cases k with
  | zero => rfl
  | succ k =>
    have : k < n := h
    simp [dbl, List.getElem?_range this]
theorem dbl_right : ∀ b : Bool, ∀ k : Nat, k ≤ 63 → rightOK (if k = 0 then dbl0 else dblT b (k - 1)) k = true := by decide +kernel
theorem dbl_check (b : Bool) (n : Nat) (h : n ≤ 63) : checkF (dbl b n) [] = (0, 0) := by
  have h1 : (List.range (dbl b n).length).find? (wrongType (dbl b n)) = none := find_none fun i hi => by
    rw [dbl_len] at hi
    rw [wrongType, dbl_get b (by omega : i ≤ n)]
    simp [dbl_right b i (by omega)]
  have h2 : (List.range (dbl b n).length).find? (tooDeep (dbl b n)) = none := find_none fun i hi => by
    rw [dbl_len] at hi
    have hd : dep (deps ((dbl b n).take i)) (((dbl b n)[i]?).getD ⟨0, 0, 0, []⟩) = i + 1 := by
      have h3 := dbl_deps b i
      have h4 : dbl b i = (dbl b n).take i ++ [((dbl b n)[i]?).getD ⟨0, 0, 0, []⟩] := by
        rw [← dbl_take b (by omega : i ≤ n), List.take_add_one, dbl_get b (by omega : i ≤ n)]; rfl
      rw [h4, deps, List.foldl_append] at h3
      have h5 : (deps ((dbl b n).take i) ++ [dep (deps ((dbl b n).take i)) (((dbl b n)[i]?).getD ⟨0, 0, 0, []⟩)]) = (List.range (i + 1)).map (fun i : Nat => (i : Int) + 1) := h3
      rw [List.range_succ, List.map_append] at h5
      have h6 := List.append_inj_right' h5 rfl
      exact List.head_eq_of_cons_eq h6
    rw [tooDeep, hd]
    simp; omega
  unfold checkF
  rw [h1]
  simp only [deepF, h2]
  rfl
theorem dbl_sizes (b : Bool) (n : Nat) (h : n ≤ 63) : sizesF (dbl b n) [] = ((List.range (n + 1)).map (dblE b), 0) := by
  rw [sizesF, dbl_check b n h, if_neg (by decide), dbl_exts b n h]
end Go.Proofs.Ytfgacgpicfknpaa
end
section
namespace Go.Proofs.Ytfgacgpicfknpaa
open Go.RowKit
set_option maxRecDepth 100000
set_option maxHeartbeats 8000000
theorem UpLL.rfl' : ∀ l : List (List AV), UpLL l l
  | [] => .nil
  | x :: l => .cons (go x) (UpLL.rfl' l)
where go : ∀ x : List AV, UpL x x
  | [] => .nil
  | a :: x => .cons (.rfl a) (go x)
theorem num_any (e : Int) : PCall Try.prog 31 [vI e] (fun r => r = vI e) := by
  refine go_fn (tyOf_ok _) Try.func31 rfl rfl (by rw [Try.results31]) Try.ntmps31 rfl fun E => ?_
  (repeat' (first
    | exact trivial
    | (with_reducible first | refine aw_seq ?_ | refine aw_block ?_ | refine aw_skip ?_ | refine aw_ret ?_ | refine aw_exit ?_ | refine aseq_normal ?_ | refine aseq_ret ?_ | refine aseq_exit ?_ | refine ablk_normal ?_ | refine ablk_ret ?_ | refine ablk_hit ?_ | refine aw_region ?_ | refine go_nil ?_ | refine al_of ?_)
    | with_reducible refine ablk_miss (by decide) ?_
    | ((with_reducible refine al_id ?_); refine go_run (tyOf_ok _) [] (by simp only [go_sem, Nat.reduceBEq, Nat.reduceBneDiff, Nat.reduceLT, Nat.reduceLeDiff, Nat.reduceAdd, Nat.reduceMul, Nat.reduceSub, Nat.reduceEqDiff, reduceCtorEq]; exact rfl) ?_ ?_)
    | (refine aw_cond (by simp only [go_sem, Nat.reduceBEq, Nat.reduceBneDiff, Nat.reduceLT, Nat.reduceLeDiff, Nat.reduceAdd, Nat.reduceMul, Nat.reduceSub, Nat.reduceEqDiff, reduceCtorEq]; exact rfl) (by simp only [go_sem, Nat.reduceBEq, Nat.reduceBneDiff, Nat.reduceLT, Nat.reduceLeDiff, Nat.reduceAdd, Nat.reduceMul, Nat.reduceSub, Nat.reduceEqDiff, reduceCtorEq]) (fun h => ?_) (fun h => ?_) <;> (try simp only [decide_eq_true_eq, decide_eq_false_iff_not, Bool.not_eq_true', Bool.not_eq_false', Bool.or_eq_true, Bool.or_eq_false_iff, Bool.and_eq_true, Bool.and_eq_false_iff, Decidable.not_not, reduceCtorEq] at h) <;> (try (exfalso; omega)))
    | (first | refine aend_ret (by simp only [go_sem, Nat.reduceBEq, Nat.reduceBneDiff, Nat.reduceLT, Nat.reduceLeDiff, Nat.reduceAdd, Nat.reduceMul, Nat.reduceSub, Nat.reduceEqDiff, reduceCtorEq]; exact rfl) ?_ ?_ | refine aend_normal (by simp only [go_sem, Nat.reduceBEq, Nat.reduceBneDiff, Nat.reduceLT, Nat.reduceLeDiff, Nat.reduceAdd, Nat.reduceMul, Nat.reduceSub, Nat.reduceEqDiff, reduceCtorEq]; exact rfl) ?_ ?_) | fail)) <;> (try omega)
  exact rfl
theorem sameInts_any (xs ys : List Int) (hx : xs.length ≤ 4611686018427387904) : PCall Try.prog 32 [.lst 1 (v8 xs), .lst 1 (v8 ys)] (fun r => r = .v (.bool (decide (xs = ys)))) := by
  refine go_fn (tyOf_ok _) Try.func32 rfl rfl (by rw [Try.results32]) Try.ntmps32 rfl fun E => ?_
  (repeat' (first
    | exact trivial
    | (with_reducible first | refine aw_seq ?_ | refine aw_block ?_ | refine aw_skip ?_ | refine aw_ret ?_ | refine aw_exit ?_ | refine aseq_normal ?_ | refine aseq_ret ?_ | refine aseq_exit ?_ | refine ablk_normal ?_ | refine ablk_ret ?_ | refine ablk_hit ?_ | refine aw_region ?_ | refine go_nil ?_ | refine al_of ?_)
    | with_reducible refine ablk_miss (by decide) ?_
    | ((with_reducible refine al_id ?_); refine go_run (tyOf_ok _) [] (by simp only [go_sem, Nat.reduceBEq, Nat.reduceBneDiff, Nat.reduceLT, Nat.reduceLeDiff, Nat.reduceAdd, Nat.reduceMul, Nat.reduceSub, Nat.reduceEqDiff, reduceCtorEq, v8_len]; exact rfl) ?_ ?_)
    | (refine aw_draw (id := 6) (t := (.node [0, 1, 2, 3, 4, 5, 6, 7, 8] [])) (drR [] [20, 24] []) mixed (by kernel_rfl) (by kernel_rfl) (fun _ _ h => h) ?_)
    | (refine at_done (by simp only [List.filterMap_cons, List.filterMap_nil, List.getElem?_toArray, List.getElem?_cons_zero, List.getElem?_cons_succ]; exact rfl) ?_) | (refine at_alt (by simp only [List.filterMap_cons, List.filterMap_nil, List.getElem?_toArray, List.getElem?_cons_zero, List.getElem?_cons_succ]; exact rfl) ?_) | refine qalt_normal ?_ | refine ats_cons ?_ ?_ | exact ats_nil
    | ((with_reducible refine ald_id ?_); refine go_runD (tyOf_ok _) [] (by simp only [go_sem, Nat.reduceBEq, Nat.reduceBneDiff, Nat.reduceLT, Nat.reduceLeDiff, Nat.reduceAdd, Nat.reduceMul, Nat.reduceSub, Nat.reduceEqDiff, reduceCtorEq, v8_len]; exact rfl) ?_ ?_)
    | (refine aw_cond (by simp only [go_sem, Nat.reduceBEq, Nat.reduceBneDiff, Nat.reduceLT, Nat.reduceLeDiff, Nat.reduceAdd, Nat.reduceMul, Nat.reduceSub, Nat.reduceEqDiff, reduceCtorEq, v8_len]; exact rfl) (by simp only [go_sem, Nat.reduceBEq, Nat.reduceBneDiff, Nat.reduceLT, Nat.reduceLeDiff, Nat.reduceAdd, Nat.reduceMul, Nat.reduceSub, Nat.reduceEqDiff, reduceCtorEq]) (fun h => ?_) (fun h => ?_) <;> (try simp only [decide_eq_true_eq, decide_eq_false_iff_not, Bool.not_eq_true', Bool.not_eq_false', Bool.or_eq_true, Bool.or_eq_false_iff, Bool.and_eq_true, Bool.and_eq_false_iff, Decidable.not_not, reduceCtorEq] at h) <;> (try (exfalso; omega)))
    | (first | refine aend_ret (by simp only [go_sem, Nat.reduceBEq, Nat.reduceBneDiff, Nat.reduceLT, Nat.reduceLeDiff, Nat.reduceAdd, Nat.reduceMul, Nat.reduceSub, Nat.reduceEqDiff, reduceCtorEq, v8_len]; exact rfl) ?_ ?_ | refine aend_normal (by simp only [go_sem, Nat.reduceBEq, Nat.reduceBneDiff, Nat.reduceLT, Nat.reduceLeDiff, Nat.reduceAdd, Nat.reduceMul, Nat.reduceSub, Nat.reduceEqDiff, reduceCtorEq, v8_len]; exact rfl) ?_ ?_) | fail)) <;> (try omega)
  · show AV.v _ = AV.v _
    rw [decide_eq_false (fun e => h (by rw [e]))]
  refine go_loop [0, 1, 5] [] (fun k : Nat => ⟨[(0, true, .lst 1 (v8 xs)), (1, true, .lst 1 (v8 ys)), (5, true, .v (.int .i64 k))], []⟩) (fun k => k ≤ xs.length ∧ xs.take k = ys.take k) (fun k => xs.length - k) 0 (by simp only [go_sem, Nat.reduceBEq, Nat.reduceBneDiff, Nat.reduceLT, Nat.reduceLeDiff, Nat.reduceAdd, Nat.reduceMul, Nat.reduceSub, Nat.reduceEqDiff, reduceCtorEq]; exact rfl) ⟨Nat.zero_le _, rfl⟩ ?_
  intro k ⟨hk, heq⟩
  have hl : xs.length = ys.length := by omega
  have hw := wrap_i64 (n := (k : Int) + 1) (by omega)
  by_cases hlt : k < xs.length
  · have g1 := v8_get hlt
    have g2 := v8_get (zs := ys) (k := k) (by omega)
    (repeat' (first
    | exact trivial
    | (with_reducible first | refine aw_seq ?_ | refine aw_block ?_ | refine aw_skip ?_ | refine aw_ret ?_ | refine aw_exit ?_ | refine aseq_normal ?_ | refine aseq_ret ?_ | refine aseq_exit ?_ | refine ablk_normal ?_ | refine ablk_ret ?_ | refine ablk_hit ?_ | refine aw_region ?_ | refine go_nil ?_ | refine al_of ?_)
    | with_reducible refine ablk_miss (by decide) ?_
    | ((with_reducible refine al_id ?_); refine go_run (tyOf_ok _) [] (by simp only [go_sem, Nat.reduceBEq, Nat.reduceBneDiff, Nat.reduceLT, Nat.reduceLeDiff, Nat.reduceAdd, Nat.reduceMul, Nat.reduceSub, Nat.reduceEqDiff, reduceCtorEq, v8_len, g1, g2, hw]; exact rfl) ?_ ?_)
    | (refine aw_draw (id := 6) (t := (.node [0, 1, 2, 3, 4, 5, 6, 7, 8] [])) (drR [] [20, 24] []) mixed (by kernel_rfl) (by kernel_rfl) (fun _ _ h => h) ?_)
    | (refine at_done (by simp only [List.filterMap_cons, List.filterMap_nil, List.getElem?_toArray, List.getElem?_cons_zero, List.getElem?_cons_succ]; exact rfl) ?_) | (refine at_alt (by simp only [List.filterMap_cons, List.filterMap_nil, List.getElem?_toArray, List.getElem?_cons_zero, List.getElem?_cons_succ]; exact rfl) ?_) | refine qalt_normal ?_ | refine ats_cons ?_ ?_ | exact ats_nil
    | ((with_reducible refine ald_id ?_); refine go_runD (tyOf_ok _) [] (by simp only [go_sem, Nat.reduceBEq, Nat.reduceBneDiff, Nat.reduceLT, Nat.reduceLeDiff, Nat.reduceAdd, Nat.reduceMul, Nat.reduceSub, Nat.reduceEqDiff, reduceCtorEq, v8_len, g1, g2, hw]; exact rfl) ?_ ?_)
    | (refine aw_cond (by simp only [go_sem, Nat.reduceBEq, Nat.reduceBneDiff, Nat.reduceLT, Nat.reduceLeDiff, Nat.reduceAdd, Nat.reduceMul, Nat.reduceSub, Nat.reduceEqDiff, reduceCtorEq, v8_len, g1, g2, hw]; exact rfl) (by simp only [go_sem, Nat.reduceBEq, Nat.reduceBneDiff, Nat.reduceLT, Nat.reduceLeDiff, Nat.reduceAdd, Nat.reduceMul, Nat.reduceSub, Nat.reduceEqDiff, reduceCtorEq]) (fun h => ?_) (fun h => ?_) <;> (try simp only [decide_eq_true_eq, decide_eq_false_iff_not, Bool.not_eq_true', Bool.not_eq_false', Bool.or_eq_true, Bool.or_eq_false_iff, Bool.and_eq_true, Bool.and_eq_false_iff, Decidable.not_not, reduceCtorEq] at h) <;> (try (exfalso; omega)))
    | (first | refine aend_ret (by simp only [go_sem, Nat.reduceBEq, Nat.reduceBneDiff, Nat.reduceLT, Nat.reduceLeDiff, Nat.reduceAdd, Nat.reduceMul, Nat.reduceSub, Nat.reduceEqDiff, reduceCtorEq, v8_len, g1, g2, hw]; exact rfl) ?_ ?_ | refine aend_normal (by simp only [go_sem, Nat.reduceBEq, Nat.reduceBneDiff, Nat.reduceLT, Nat.reduceLeDiff, Nat.reduceAdd, Nat.reduceMul, Nat.reduceSub, Nat.reduceEqDiff, reduceCtorEq, v8_len, g1, g2, hw]; exact rfl) ?_ ?_) | fail)) <;> (try omega)
    · show AV.v _ = AV.v _
      rw [decide_eq_false (fun e => by subst e; exact h rfl)]
    · refine ⟨k + 1, by simp only [go_sem, Nat.reduceBEq, Nat.reduceBneDiff, Nat.reduceLT, Nat.reduceLeDiff, Nat.reduceAdd, Nat.reduceMul, Nat.reduceSub, Nat.reduceEqDiff, reduceCtorEq]; exact rfl, ⟨by omega, ?_⟩, by omega⟩
      rw [List.take_succ_eq_append_getElem hlt, List.take_succ_eq_append_getElem (by omega), heq]
      simp_all
  · (repeat' (first
    | exact trivial
    | (with_reducible first | refine aw_seq ?_ | refine aw_block ?_ | refine aw_skip ?_ | refine aw_ret ?_ | refine aw_exit ?_ | refine aseq_normal ?_ | refine aseq_ret ?_ | refine aseq_exit ?_ | refine ablk_normal ?_ | refine ablk_ret ?_ | refine ablk_hit ?_ | refine aw_region ?_ | refine go_nil ?_ | refine al_of ?_)
    | with_reducible refine ablk_miss (by decide) ?_
    | ((with_reducible refine al_id ?_); refine go_run (tyOf_ok _) [] (by simp only [go_sem, Nat.reduceBEq, Nat.reduceBneDiff, Nat.reduceLT, Nat.reduceLeDiff, Nat.reduceAdd, Nat.reduceMul, Nat.reduceSub, Nat.reduceEqDiff, reduceCtorEq, v8_len, hw]; exact rfl) ?_ ?_)
    | (refine aw_draw (id := 6) (t := (.node [0, 1, 2, 3, 4, 5, 6, 7, 8] [])) (drR [] [20, 24] []) mixed (by kernel_rfl) (by kernel_rfl) (fun _ _ h => h) ?_)
    | (refine at_done (by simp only [List.filterMap_cons, List.filterMap_nil, List.getElem?_toArray, List.getElem?_cons_zero, List.getElem?_cons_succ]; exact rfl) ?_) | (refine at_alt (by simp only [List.filterMap_cons, List.filterMap_nil, List.getElem?_toArray, List.getElem?_cons_zero, List.getElem?_cons_succ]; exact rfl) ?_) | refine qalt_normal ?_ | refine ats_cons ?_ ?_ | exact ats_nil
    | ((with_reducible refine ald_id ?_); refine go_runD (tyOf_ok _) [] (by simp only [go_sem, Nat.reduceBEq, Nat.reduceBneDiff, Nat.reduceLT, Nat.reduceLeDiff, Nat.reduceAdd, Nat.reduceMul, Nat.reduceSub, Nat.reduceEqDiff, reduceCtorEq, v8_len, hw]; exact rfl) ?_ ?_)
    | (refine aw_cond (by simp only [go_sem, Nat.reduceBEq, Nat.reduceBneDiff, Nat.reduceLT, Nat.reduceLeDiff, Nat.reduceAdd, Nat.reduceMul, Nat.reduceSub, Nat.reduceEqDiff, reduceCtorEq, v8_len, hw]; exact rfl) (by simp only [go_sem, Nat.reduceBEq, Nat.reduceBneDiff, Nat.reduceLT, Nat.reduceLeDiff, Nat.reduceAdd, Nat.reduceMul, Nat.reduceSub, Nat.reduceEqDiff, reduceCtorEq]) (fun h => ?_) (fun h => ?_) <;> (try simp only [decide_eq_true_eq, decide_eq_false_iff_not, Bool.not_eq_true', Bool.not_eq_false', Bool.or_eq_true, Bool.or_eq_false_iff, Bool.and_eq_true, Bool.and_eq_false_iff, Decidable.not_not, reduceCtorEq] at h) <;> (try (exfalso; omega)))
    | (first | refine aend_ret (by simp only [go_sem, Nat.reduceBEq, Nat.reduceBneDiff, Nat.reduceLT, Nat.reduceLeDiff, Nat.reduceAdd, Nat.reduceMul, Nat.reduceSub, Nat.reduceEqDiff, reduceCtorEq, v8_len, hw]; exact rfl) ?_ ?_ | refine aend_normal (by simp only [go_sem, Nat.reduceBEq, Nat.reduceBneDiff, Nat.reduceLT, Nat.reduceLeDiff, Nat.reduceAdd, Nat.reduceMul, Nat.reduceSub, Nat.reduceEqDiff, reduceCtorEq, v8_len, hw]; exact rfl) ?_ ?_) | fail)) <;> (try omega)
    show AV.v _ = AV.v _
    rw [take_len (by omega), take_len (by omega)] at heq
    rw [decide_eq_true heq]
def ts10 : List TypeM := [⟨1, 1, 0, []⟩, ⟨3, 0, 0, []⟩, ⟨5, 9, 1, []⟩, ⟨1, 2, 0, []⟩, ⟨6, 0, 3, []⟩, ⟨8, 0, 0, [⟨aS, 0, 0⟩, ⟨bS, 0, 2⟩, ⟨⟨#[99]⟩, 0, 4⟩]⟩]
def vs10 : List NodeM := [⟨4, 0, 3⟩, ⟨1, 7, 0⟩, ⟨3, 0, 2⟩, ⟨1, 5, 0⟩, ⟨1, 300, 0⟩, ⟨5, 0, 0⟩]
theorem sizes10 : sizesF ts10 [] = ([⟨true, 1, 1, 1⟩, ⟨false, 1, 10, 1⟩, ⟨false, 0, 126, 2⟩, ⟨true, 2, 2, 1⟩, ⟨false, 1, 3, 2⟩, ⟨false, 10, 138, 3⟩], 0) := by kernel_rfl
theorem lens10 : lensF ts10 [] 5 vs10 = ([21, 1, 11, 1, 2, 1], 0) := by kernel_rfl
theorem len10a : len1F ts10 [] 5 vs10 = (21, 0) := by kernel_rfl
theorem len10b : len1F ts10 [] 4 vs10 = (0, 40) := by kernel_rfl
theorem len10c : len1F ts10 [] 6 vs10 = (0, 3) := by kernel_rfl
abbrev nilS : AV := .v (.slice none 0 0)
def sch10 : AV := .agg [.lst 4 [[vI 1, vI 1, vI 0, nilS], [vI 3, vI 0, vI 0, nilS], [vI 5, vI 9, vI 1, nilS], [vI 1, vI 2, vI 0, nilS], [vI 6, vI 0, vI 3, nilS], [vI 8, vI 0, vI 0, .lst 3 [[vS aS, vI 0, vI 0], [vS bS, vI 0, vI 2], [vS ⟨#[99]⟩, vI 0, vI 4]]]], nilS]
def ns10 : AV := .lst 3 [[vI 4, vU 0, vI 3], [vI 1, vU 7, vI 0], [vI 3, vU 0, vI 2], [vI 1, vU 5, vI 0], [vI 1, vU 300, vI 0], [vI 5, vU 0, vI 0]]
theorem up10 : Up sch10 (vSch ts10 []) := by
  refine .agg (.cons (.lst ?_) (.cons (.nil _) .nil))
  repeat (first | exact .nil | refine .cons (.cons (.rfl _) (.cons (.rfl _) (.cons (.rfl _) (.cons (.nil _) .nil)))) ?_ | refine .cons (.cons (.rfl _) (.cons (.rfl _) (.cons (.rfl _) (.cons (.rfl _) .nil)))) ?_)
theorem h1 : ∀ t ∈ ts10, t.parts.length ≤ 1000000000 := by decide
theorem h2 : ∀ x ∈ vs10, nodeOK x := by unfold nodeOK; decide
theorem sz10_any : PCall Try.prog 22 [sch10] (fun r => r = .tup [.lst 4 [[vB true, vI 1, vI 1, vI 1], [vB false, vI 1, vI 10, vI 1], [vB false, vI 0, vI 126, vI 2], [vB true, vI 2, vI 2, vI 1], [vB false, vI 1, vI 3, vI 2], [vB false, vI 10, vI 138, vI 3]], vI 0]) := by
  have h := sizeOf_any ts10 [] (by decide) (by decide) h1
  rw [sizes10] at h
  exact PCall.args (.cons up10 .nil) h
theorem lens10_any : PCall Try.prog 28 [sch10, vI 5, ns10] (fun r => r = .tup [.lst 1 (v8 [21, 1, 11, 1, 2, 1]), vI 0]) := by
  have h := lens_any ts10 [] (by decide) (by decide) h1 5 (by decide) vs10 (by decide) h2
  rw [lens10] at h
  exact PCall.args (.cons up10 (.cons (.rfl _) (.cons (.rfl _) .nil))) h
theorem len10_any (t n e : Int) (ht : I64 t) (h : len1F ts10 [] t vs10 = (n, e)) : PCall Try.prog 29 [sch10, vI t, ns10] (fun r => r = .tup [vI n, vI e]) := by
  have h := len1_any ts10 [] (by decide) (by decide) h1 t ht vs10 (by decide) h2
  rw [‹len1F ts10 [] t vs10 = (n, e)›] at h
  exact PCall.args (.cons up10 (.cons (.rfl _) (.cons (.rfl _) .nil))) h
theorem awake10 : PCall Try.prog 23 [] (fun r => r = vB true) := by
  refine go_fn (tyOf_ok _) Try.func23 rfl rfl (by rw [Try.results23]) Try.ntmps23 rfl fun E => ?_
  have hs := sameInts_any [21, 1, 11, 1, 2, 1] [21, 1, 11, 1, 2, 1] (by decide)
  have hd : decide (([21, 1, 11, 1, 2, 1] : List Int) = [21, 1, 11, 1, 2, 1]) = true := by decide
  rw [hd] at hs
  (repeat' (first
    | exact trivial
    | (with_reducible first | refine aw_seq ?_ | refine aw_block ?_ | refine aw_skip ?_ | refine aw_ret ?_ | refine aw_exit ?_ | refine aseq_normal ?_ | refine aseq_ret ?_ | refine aseq_exit ?_ | refine ablk_normal ?_ | refine ablk_ret ?_ | refine ablk_hit ?_ | refine aw_region ?_ | refine go_nil ?_ | refine al_of ?_)
    | with_reducible refine ablk_miss (by decide) ?_
    | ((with_reducible refine al_id ?_); refine go_run (tyOf_ok _) [] (by simp only [go_sem, Nat.reduceBEq, Nat.reduceBneDiff, Nat.reduceLT, Nat.reduceLeDiff, Nat.reduceAdd, Nat.reduceMul, Nat.reduceSub, Nat.reduceEqDiff, reduceCtorEq, Int.cast_ofNat_Int, Int.reduceToNat, Int.reduceEq, Int.reduceLT, Int.reduceLE, Int.reduceNe]; exact rfl) ?_ ?_)
    | (refine aw_cond (by simp only [go_sem, Nat.reduceBEq, Nat.reduceBneDiff, Nat.reduceLT, Nat.reduceLeDiff, Nat.reduceAdd, Nat.reduceMul, Nat.reduceSub, Nat.reduceEqDiff, reduceCtorEq, Int.cast_ofNat_Int, Int.reduceToNat, Int.reduceEq, Int.reduceLT, Int.reduceLE, Int.reduceNe]; exact rfl) (by simp only [go_sem, Nat.reduceBEq, Nat.reduceBneDiff, Nat.reduceLT, Nat.reduceLeDiff, Nat.reduceAdd, Nat.reduceMul, Nat.reduceSub, Nat.reduceEqDiff, reduceCtorEq]) (fun h => ?_) (fun h => ?_) <;> (try simp only [decide_eq_true_eq, decide_eq_false_iff_not, Bool.not_eq_true', Bool.not_eq_false', Bool.or_eq_true, Bool.or_eq_false_iff, Bool.and_eq_true, Bool.and_eq_false_iff, Decidable.not_not, reduceCtorEq] at h) <;> (try (exfalso; omega)))
    | (first | refine aend_ret (by simp only [go_sem, Nat.reduceBEq, Nat.reduceBneDiff, Nat.reduceLT, Nat.reduceLeDiff, Nat.reduceAdd, Nat.reduceMul, Nat.reduceSub, Nat.reduceEqDiff, reduceCtorEq, Int.cast_ofNat_Int, Int.reduceToNat, Int.reduceEq, Int.reduceLT, Int.reduceLE, Int.reduceNe]; exact rfl) ?_ ?_ | refine aend_normal (by simp only [go_sem, Nat.reduceBEq, Nat.reduceBneDiff, Nat.reduceLT, Nat.reduceLeDiff, Nat.reduceAdd, Nat.reduceMul, Nat.reduceSub, Nat.reduceEqDiff, reduceCtorEq, Int.cast_ofNat_Int, Int.reduceToNat, Int.reduceEq, Int.reduceLT, Int.reduceLE, Int.reduceNe]; exact rfl) ?_ ?_)
    | (refine go_call1 (by simp only [go_sem, Nat.reduceBEq, Nat.reduceBneDiff, Nat.reduceLT, Nat.reduceLeDiff, Nat.reduceAdd, Nat.reduceMul, Nat.reduceSub, Nat.reduceEqDiff, reduceCtorEq, Int.cast_ofNat_Int, Int.reduceToNat, Int.reduceEq, Int.reduceLT, Int.reduceLE, Int.reduceNe]; exact rfl) ?_ rfl (by simp only [go_sem, Nat.reduceBEq, Nat.reduceBneDiff, Nat.reduceLT, Nat.reduceLeDiff, Nat.reduceAdd, Nat.reduceMul, Nat.reduceSub, Nat.reduceEqDiff, reduceCtorEq, Int.cast_ofNat_Int, Int.reduceToNat, Int.reduceEq, Int.reduceLT, Int.reduceLE, Int.reduceNe]) (by simp only [go_sem, Nat.reduceBEq, Nat.reduceBneDiff, Nat.reduceLT, Nat.reduceLeDiff, Nat.reduceAdd, Nat.reduceMul, Nat.reduceSub, Nat.reduceEqDiff, reduceCtorEq, Int.cast_ofNat_Int, Int.reduceToNat, Int.reduceEq, Int.reduceLT, Int.reduceLE, Int.reduceNe]) (sz10_any) ?_)
    | (refine go_call (by simp only [go_sem, Nat.reduceBEq, Nat.reduceBneDiff, Nat.reduceLT, Nat.reduceLeDiff, Nat.reduceAdd, Nat.reduceMul, Nat.reduceSub, Nat.reduceEqDiff, reduceCtorEq, Int.cast_ofNat_Int, Int.reduceToNat, Int.reduceEq, Int.reduceLT, Int.reduceLE, Int.reduceNe]; exact rfl) ?_ (fun _ => num_any _) rfl ?_)
    | (refine go_call1 (by simp only [go_sem, Nat.reduceBEq, Nat.reduceBneDiff, Nat.reduceLT, Nat.reduceLeDiff, Nat.reduceAdd, Nat.reduceMul, Nat.reduceSub, Nat.reduceEqDiff, reduceCtorEq, Int.cast_ofNat_Int, Int.reduceToNat, Int.reduceEq, Int.reduceLT, Int.reduceLE, Int.reduceNe]; exact rfl) ?_ rfl (by simp only [go_sem, Nat.reduceBEq, Nat.reduceBneDiff, Nat.reduceLT, Nat.reduceLeDiff, Nat.reduceAdd, Nat.reduceMul, Nat.reduceSub, Nat.reduceEqDiff, reduceCtorEq, Int.cast_ofNat_Int, Int.reduceToNat, Int.reduceEq, Int.reduceLT, Int.reduceLE, Int.reduceNe]) (by simp only [go_sem, Nat.reduceBEq, Nat.reduceBneDiff, Nat.reduceLT, Nat.reduceLeDiff, Nat.reduceAdd, Nat.reduceMul, Nat.reduceSub, Nat.reduceEqDiff, reduceCtorEq, Int.cast_ofNat_Int, Int.reduceToNat, Int.reduceEq, Int.reduceLT, Int.reduceLE, Int.reduceNe]) (lens10_any) ?_)
    | (refine go_call (by simp only [go_sem, Nat.reduceBEq, Nat.reduceBneDiff, Nat.reduceLT, Nat.reduceLeDiff, Nat.reduceAdd, Nat.reduceMul, Nat.reduceSub, Nat.reduceEqDiff, reduceCtorEq, Int.cast_ofNat_Int, Int.reduceToNat, Int.reduceEq, Int.reduceLT, Int.reduceLE, Int.reduceNe]; exact rfl) ?_ (fun _ => len10_any 5 21 0 (by decide) len10a) rfl ?_)
    | (refine go_call (by simp only [go_sem, Nat.reduceBEq, Nat.reduceBneDiff, Nat.reduceLT, Nat.reduceLeDiff, Nat.reduceAdd, Nat.reduceMul, Nat.reduceSub, Nat.reduceEqDiff, reduceCtorEq, Int.cast_ofNat_Int, Int.reduceToNat, Int.reduceEq, Int.reduceLT, Int.reduceLE, Int.reduceNe]; exact rfl) ?_ (fun _ => len10_any 4 0 40 (by decide) len10b) rfl ?_)
    | (refine go_call (by simp only [go_sem, Nat.reduceBEq, Nat.reduceBneDiff, Nat.reduceLT, Nat.reduceLeDiff, Nat.reduceAdd, Nat.reduceMul, Nat.reduceSub, Nat.reduceEqDiff, reduceCtorEq, Int.cast_ofNat_Int, Int.reduceToNat, Int.reduceEq, Int.reduceLT, Int.reduceLE, Int.reduceNe]; exact rfl) ?_ (fun _ => len10_any 6 0 3 (by decide) len10c) rfl ?_)
    | (refine go_call (by simp only [go_sem, Nat.reduceBEq, Nat.reduceBneDiff, Nat.reduceLT, Nat.reduceLeDiff, Nat.reduceAdd, Nat.reduceMul, Nat.reduceSub, Nat.reduceEqDiff, reduceCtorEq, Int.cast_ofNat_Int, Int.reduceToNat, Int.reduceEq, Int.reduceLT, Int.reduceLE, Int.reduceNe]; exact rfl) ?_ (fun _ => hs) rfl ?_) | fail)) <;> (try omega)
  exact rfl
theorem rest_eq (n m : Int) (hm : 1 ≤ m) : (n.tmod m + m).tmod m = n % m ∧ -m < n.tmod m ∧ n.tmod m < m := by
  have h1 := Int.tmod_lt_of_pos n (show 0 < m by omega)
  have h2 := Int.lt_tmod_of_pos n (show 0 < m by omega)
  refine ⟨?_, h2, h1⟩
  rw [Int.tmod_eq_emod_of_nonneg (by omega), Int.tmod_def]
  rw [Int.add_emod_right, Int.sub_mul_emod_self_left]
theorem rest_any (n m : Int) (hn : I64 n) (hm : 1 ≤ m ∧ m ≤ 4611686018427387904) : PCall Try.prog 37 [vI n, vI m] (fun r => r = vI (n % m)) := by
  refine go_fn (tyOf_ok _) Try.func37 rfl rfl (by rw [Try.results37]) Try.ntmps37 rfl fun E => ?_
  have e1 : (m = 0) = False := eq_false (by omega)
  obtain ⟨h1, h2, h3⟩ := rest_eq n m hm.1
  have hw := wrap_i64 (n := n.tmod m + m) (by omega)
  (repeat' (first
    | exact trivial
    | (with_reducible first | refine aw_seq ?_ | refine aw_block ?_ | refine aw_skip ?_ | refine aw_ret ?_ | refine aw_exit ?_ | refine aseq_normal ?_ | refine aseq_ret ?_ | refine aseq_exit ?_ | refine ablk_normal ?_ | refine ablk_ret ?_ | refine ablk_hit ?_ | refine aw_region ?_ | refine go_nil ?_ | refine al_of ?_)
    | with_reducible refine ablk_miss (by decide) ?_
    | ((with_reducible refine al_id ?_); refine go_run (tyOf_ok _) [] (by simp only [go_sem, Nat.reduceBEq, Nat.reduceBneDiff, Nat.reduceLT, Nat.reduceLeDiff, Nat.reduceAdd, Nat.reduceMul, Nat.reduceSub, Nat.reduceEqDiff, reduceCtorEq, e1, hw, h1]; exact rfl) ?_ ?_)
    | (refine aw_cond (by simp only [go_sem, Nat.reduceBEq, Nat.reduceBneDiff, Nat.reduceLT, Nat.reduceLeDiff, Nat.reduceAdd, Nat.reduceMul, Nat.reduceSub, Nat.reduceEqDiff, reduceCtorEq, e1, hw, h1]; exact rfl) (by simp only [go_sem, Nat.reduceBEq, Nat.reduceBneDiff, Nat.reduceLT, Nat.reduceLeDiff, Nat.reduceAdd, Nat.reduceMul, Nat.reduceSub, Nat.reduceEqDiff, reduceCtorEq]) (fun h => ?_) (fun h => ?_) <;> (try simp only [decide_eq_true_eq, decide_eq_false_iff_not, Bool.not_eq_true', Bool.not_eq_false', Bool.or_eq_true, Bool.or_eq_false_iff, Bool.and_eq_true, Bool.and_eq_false_iff, Decidable.not_not, reduceCtorEq] at h) <;> (try (exfalso; omega)))
    | (first | refine aend_ret (by simp only [go_sem, Nat.reduceBEq, Nat.reduceBneDiff, Nat.reduceLT, Nat.reduceLeDiff, Nat.reduceAdd, Nat.reduceMul, Nat.reduceSub, Nat.reduceEqDiff, reduceCtorEq, e1, hw, h1]; exact rfl) ?_ ?_ | refine aend_normal (by simp only [go_sem, Nat.reduceBEq, Nat.reduceBneDiff, Nat.reduceLT, Nat.reduceLeDiff, Nat.reduceAdd, Nat.reduceMul, Nat.reduceSub, Nat.reduceEqDiff, reduceCtorEq, e1, hw, h1]; exact rfl) ?_ ?_) | fail)) <;> (try omega)
  exact rfl
end Go.Proofs.Ytfgacgpicfknpaa
end
section
namespace Go.Proofs.Ytfgacgpicfknpaa
open Go.RowKit
set_option maxRecDepth 100000
set_option maxHeartbeats 8000000
/-! A schema of its first types, parts and roots, in memory of the caller's own. -/
def cutP (t : TypeM) : TypeM := ⟨t.kind, t.n, t.elem, t.parts.take 70⟩
def cutT (ts : List TypeM) : List TypeM := (ts.take 120).map cutP
theorem cutT_len (ts : List TypeM) : (cutT ts).length = min 120 ts.length := by simp [cutT]
theorem cutT_mem {ts : List TypeM} {t : TypeM} (h : t ∈ cutT ts) : ∃ u ∈ ts, t = cutP u := by
  obtain ⟨u, hu, rfl⟩ := List.mem_map.1 h
  exact ⟨u, List.mem_of_mem_take hu, rfl⟩
theorem cutT_parts {ts : List TypeM} : ∀ t ∈ cutT ts, t.parts.length ≤ 70 := fun t h => by
  obtain ⟨u, _, rfl⟩ := cutT_mem h
  simp [cutP]; omega
theorem encPs_take (l : List PartM) (n : Nat) : (encPs l).take n = encPs (l.take n) := by simp [encPs]
theorem encRs_take (l : List RootM) (n : Nat) : (encRs l).take n = encRs (l.take n) := by simp [encRs]
theorem encTs_take (l : List TypeM) (n : Nat) : (encTs l).take n = encTs (l.take n) := by simp [encTs]
theorem encTs_app (l : List TypeM) (t : TypeM) : encTs l ++ [[vI t.kind, vI t.n, vI t.elem, .lst 3 (encPs t.parts)]] = encTs (l ++ [t]) := by simp [encTs, encT]
def cutV (d1 d2 : Nat) (ts : List TypeM) (rs : List RootM) : AV := .agg [.ref 55 4 d1 0 (cutT ts).length, .ref 90 2 d2 0 (rs.take 260).length]
def cutO (d1 d2 : Nat) (ts : List TypeM) (rs : List RootM) : List (Nat × AObj) := [(d1, .row 55 4 (encTs (cutT ts))), (d2, .row 90 2 (encRs (rs.take 260)))]
theorem cut10_G (ts : List TypeM) (rs : List RootM) (hts : ts.length ≤ 1000000000) (hrs : rs.length ≤ 1000000000) (hp : ∀ t ∈ ts, t.parts.length ≤ 1000000000) :
    GCall Try.prog 24 [vSch ts rs] [] (cutV 8000 8001 ts rs) (cutO 8000 8001 ts rs) := by
  refine go_fnG (tyOf_ok _) Try.func24 rfl rfl (by rw [Try.results24]) Try.ntmps24 rfl fun E => ?_
  (repeat' (first
    | exact trivial
    | (refine aw_nilvar 3 0 55 4 8000 (cs := [nilS, _]) (.inl (by decide)) (by decide) rfl rfl ?_)
    | (refine aw_nilvar 3 1 90 2 8001 (cs := [_, nilS]) (.inl (by decide)) (by decide) rfl rfl ?_)
    | (with_reducible first | refine aw_seq ?_ | refine aw_block ?_ | refine aw_skip ?_ | refine aw_ret ?_ | refine aw_exit ?_ | refine aseq_normal ?_ | refine aseq_ret ?_ | refine aseq_exit ?_ | refine ablk_normal ?_ | refine ablk_ret ?_ | refine ablk_hit ?_ | refine aw_region ?_ | refine go_nil ?_ | refine al_of ?_)
    | with_reducible refine ablk_miss (by decide) ?_
    | ((with_reducible refine al_id ?_); refine go_run (tyOf_ok _) [] (by simp only [go_sem, Nat.reduceBEq, Nat.reduceBneDiff, Nat.reduceLT, Nat.reduceLeDiff, Nat.reduceAdd, Nat.reduceMul, Nat.reduceSub, Nat.reduceEqDiff, reduceCtorEq, AState.nilvar, List.set_cons_succ, List.set_cons_zero, vSch]; exact rfl) ?_ ?_)
    | (refine aw_draw (id := 9) (t := (.node [0, 1, 2, 3, 4, 5, 6, 7, 8, 9, 10, 11] [])) (drR [1] [37] []) mixed (by kernel_rfl) (by kernel_rfl) (fun _ _ h => h) ?_)
    | (refine at_done (by simp only [List.filterMap_cons, List.filterMap_nil, List.getElem?_toArray, List.getElem?_cons_zero, List.getElem?_cons_succ]; exact rfl) ?_) | (refine at_alt (by simp only [List.filterMap_cons, List.filterMap_nil, List.getElem?_toArray, List.getElem?_cons_zero, List.getElem?_cons_succ]; exact rfl) ?_) | refine qalt_normal ?_ | refine ats_cons ?_ ?_ | exact ats_nil
    | ((with_reducible refine ald_id ?_); refine go_runD (tyOf_ok _) [] (by simp only [go_sem, Nat.reduceBEq, Nat.reduceBneDiff, Nat.reduceLT, Nat.reduceLeDiff, Nat.reduceAdd, Nat.reduceMul, Nat.reduceSub, Nat.reduceEqDiff, reduceCtorEq, AState.nilvar, List.set_cons_succ, List.set_cons_zero, vSch]; exact rfl) ?_ ?_)
    | (refine aw_cond (by simp only [go_sem, Nat.reduceBEq, Nat.reduceBneDiff, Nat.reduceLT, Nat.reduceLeDiff, Nat.reduceAdd, Nat.reduceMul, Nat.reduceSub, Nat.reduceEqDiff, reduceCtorEq, AState.nilvar, List.set_cons_succ, List.set_cons_zero, vSch]; exact rfl) (by simp only [go_sem, Nat.reduceBEq, Nat.reduceBneDiff, Nat.reduceLT, Nat.reduceLeDiff, Nat.reduceAdd, Nat.reduceMul, Nat.reduceSub, Nat.reduceEqDiff, reduceCtorEq]) (fun h => ?_) (fun h => ?_) <;> (try simp only [decide_eq_true_eq, decide_eq_false_iff_not, Bool.not_eq_true', Bool.not_eq_false', Bool.or_eq_true, Bool.or_eq_false_iff, Bool.and_eq_true, Bool.and_eq_false_iff, Decidable.not_not, reduceCtorEq] at h) <;> (try (exfalso; omega)))
    | (first | refine aendG_ret (by simp only [go_sem, Nat.reduceBEq, Nat.reduceBneDiff, Nat.reduceLT, Nat.reduceLeDiff, Nat.reduceAdd, Nat.reduceMul, Nat.reduceSub, Nat.reduceEqDiff, reduceCtorEq, AState.nilvar, List.set_cons_succ, List.set_cons_zero, vSch]; exact rfl) ?_ ?_ ?_ | refine aendG_normal (by simp only [go_sem, Nat.reduceBEq, Nat.reduceBneDiff, Nat.reduceLT, Nat.reduceLeDiff, Nat.reduceAdd, Nat.reduceMul, Nat.reduceSub, Nat.reduceEqDiff, reduceCtorEq, AState.nilvar, List.set_cons_succ, List.set_cons_zero, vSch]; exact rfl) ?_ ?_ ?_) | fail)) <;> (try omega)
  refine go_loop [1, 2, 3, 4] [1, 2, 3, 8000, 8001] (fun k : Nat => ⟨[(1, true, .ptr 1 1 0 0), (2, true, .ptr 1 2 0 0), (3, true, .ptr 1 3 0 0), (4, true, vI k)],
    [(1, .var [.lst 4 (encTs ts), .lst 2 (encRs rs)]), (2, .var [nilS, nilS]), (3, .var [.ref 55 4 8000 0 k, .ref 90 2 8001 0 0]), (8000, .row 55 4 (encTs ((ts.take k).map cutP))), (8001, .row 90 2 [])]⟩)
    (fun k => k ≤ ts.length ∧ k ≤ 120) (fun k => ts.length - k) 0 (by simp only [AState.nilvar, go_sem, Nat.reduceBEq, Nat.reduceBneDiff, Nat.reduceLT, Nat.reduceLeDiff, Nat.reduceAdd, Nat.reduceMul, Nat.reduceSub, Nat.reduceEqDiff, reduceCtorEq]; exact rfl) ⟨Nat.zero_le _, by decide⟩ ?_
  intro k ⟨hk, hk2⟩
  have hw1 := wrap_i64 (n := (k : Int) + 1) (by omega)
  have hlk : (encTs ((ts.take k).map cutP)).length = k := by rw [encTs_len]; simp; omega
  have htk : (encTs ((ts.take k).map cutP)).take k = encTs ((ts.take k).map cutP) := take_len (by omega)
  by_cases hlt : k < ts.length ∧ k < 120
  · obtain ⟨hlt, h120⟩ := hlt
    have e1 : ((k : Int) < ts.length) = True := eq_true (by omega)
    have e2 : ((k : Int) < 120) = True := eq_true (by omega)
    have g1 := encTs_get hlt
    have hlk1 : (encTs ((ts.take (k + 1)).map cutP)).length = k + 1 := by rw [encTs_len]; simp; omega
    have hnext : encTs ((ts.take k).map cutP) ++ [[vI ts[k].kind, vI ts[k].n, vI ts[k].elem, .lst 3 (encPs (ts[k].parts.take 70))]] = encTs ((ts.take (k + 1)).map cutP) := by
      rw [List.take_succ_eq_append_getElem hlt, List.map_append]
      exact encTs_app _ (cutP ts[k])
    by_cases h70 : 70 < ts[k].parts.length
    · have e3 : (70 < (ts[k].parts.length : Int)) = True := eq_true (by omega)
      (repeat' (first
    | exact trivial
    | (with_reducible first | refine aw_seq ?_ | refine aw_block ?_ | refine aw_skip ?_ | refine aw_ret ?_ | refine aw_exit ?_ | refine aseq_normal ?_ | refine aseq_ret ?_ | refine aseq_exit ?_ | refine ablk_normal ?_ | refine ablk_ret ?_ | refine ablk_hit ?_ | refine aw_region ?_ | refine go_nil ?_ | refine al_of ?_)
    | with_reducible refine ablk_miss (by decide) ?_
    | ((with_reducible refine al_id ?_); refine go_run (tyOf_ok _) [] (by simp only [go_sem, Nat.reduceBEq, Nat.reduceBneDiff, Nat.reduceLT, Nat.reduceLeDiff, Nat.reduceAdd, Nat.reduceMul, Nat.reduceSub, Nat.reduceEqDiff, reduceCtorEq, encTs_len, hw1, hlk, htk, e1, e2, g1, e3, encPs_take, hnext, hlk1, Int.reduceToNat]; exact rfl) ?_ ?_)
    | (refine aw_draw (id := 9) (t := (.node [0, 1, 2, 3, 4, 5, 6, 7, 8, 9, 10, 11] [])) (drR [1] [37] []) mixed (by kernel_rfl) (by kernel_rfl) (fun _ _ h => h) ?_)
    | (refine at_done (by simp only [List.filterMap_cons, List.filterMap_nil, List.getElem?_toArray, List.getElem?_cons_zero, List.getElem?_cons_succ]; exact rfl) ?_) | (refine at_alt (by simp only [List.filterMap_cons, List.filterMap_nil, List.getElem?_toArray, List.getElem?_cons_zero, List.getElem?_cons_succ]; exact rfl) ?_) | refine qalt_normal ?_ | refine ats_cons ?_ ?_ | exact ats_nil
    | ((with_reducible refine ald_id ?_); refine go_runD (tyOf_ok _) [] (by simp only [go_sem, Nat.reduceBEq, Nat.reduceBneDiff, Nat.reduceLT, Nat.reduceLeDiff, Nat.reduceAdd, Nat.reduceMul, Nat.reduceSub, Nat.reduceEqDiff, reduceCtorEq, encTs_len, hw1, hlk, htk, e1, e2, g1, e3, encPs_take, hnext, hlk1, Int.reduceToNat]; exact rfl) ?_ ?_)
    | (refine aw_cond (by simp only [go_sem, Nat.reduceBEq, Nat.reduceBneDiff, Nat.reduceLT, Nat.reduceLeDiff, Nat.reduceAdd, Nat.reduceMul, Nat.reduceSub, Nat.reduceEqDiff, reduceCtorEq, encTs_len, hw1, hlk, htk, e1, e2, g1, e3, encPs_take, hnext, hlk1, Int.reduceToNat]; exact rfl) (by simp only [go_sem, Nat.reduceBEq, Nat.reduceBneDiff, Nat.reduceLT, Nat.reduceLeDiff, Nat.reduceAdd, Nat.reduceMul, Nat.reduceSub, Nat.reduceEqDiff, reduceCtorEq]) (fun h => ?_) (fun h => ?_) <;> (try simp only [decide_eq_true_eq, decide_eq_false_iff_not, Bool.not_eq_true', Bool.not_eq_false', Bool.or_eq_true, Bool.or_eq_false_iff, Bool.and_eq_true, Bool.and_eq_false_iff, Decidable.not_not, reduceCtorEq] at h) <;> (try (exfalso; omega)))
    | (first | refine aendG_ret (by simp only [go_sem, Nat.reduceBEq, Nat.reduceBneDiff, Nat.reduceLT, Nat.reduceLeDiff, Nat.reduceAdd, Nat.reduceMul, Nat.reduceSub, Nat.reduceEqDiff, reduceCtorEq, encTs_len, hw1, hlk, htk, e1, e2, g1, e3, encPs_take, hnext, hlk1, Int.reduceToNat]; exact rfl) ?_ ?_ ?_ | refine aendG_normal (by simp only [go_sem, Nat.reduceBEq, Nat.reduceBneDiff, Nat.reduceLT, Nat.reduceLeDiff, Nat.reduceAdd, Nat.reduceMul, Nat.reduceSub, Nat.reduceEqDiff, reduceCtorEq, encTs_len, hw1, hlk, htk, e1, e2, g1, e3, encPs_take, hnext, hlk1, Int.reduceToNat]; exact rfl) ?_ ?_ ?_) | fail)) <;> (try omega)
      exact ⟨k + 1, by simp only [go_sem, Nat.reduceBEq, Nat.reduceBneDiff, Nat.reduceLT, Nat.reduceLeDiff, Nat.reduceAdd, Nat.reduceMul, Nat.reduceSub, Nat.reduceEqDiff, reduceCtorEq]; exact rfl, ⟨by omega, by omega⟩, by omega⟩
    · have e3 : (70 < (ts[k].parts.length : Int)) = False := eq_false (by omega)
      rw [take_len (by omega : ts[k].parts.length ≤ 70)] at hnext
      (repeat' (first
    | exact trivial
    | (with_reducible first | refine aw_seq ?_ | refine aw_block ?_ | refine aw_skip ?_ | refine aw_ret ?_ | refine aw_exit ?_ | refine aseq_normal ?_ | refine aseq_ret ?_ | refine aseq_exit ?_ | refine ablk_normal ?_ | refine ablk_ret ?_ | refine ablk_hit ?_ | refine aw_region ?_ | refine go_nil ?_ | refine al_of ?_)
    | with_reducible refine ablk_miss (by decide) ?_
    | ((with_reducible refine al_id ?_); refine go_run (tyOf_ok _) [] (by simp only [go_sem, Nat.reduceBEq, Nat.reduceBneDiff, Nat.reduceLT, Nat.reduceLeDiff, Nat.reduceAdd, Nat.reduceMul, Nat.reduceSub, Nat.reduceEqDiff, reduceCtorEq, encTs_len, hw1, hlk, htk, e1, e2, g1, e3, encPs_take, hnext, hlk1, Int.reduceToNat]; exact rfl) ?_ ?_)
    | (refine aw_draw (id := 9) (t := (.node [0, 1, 2, 3, 4, 5, 6, 7, 8, 9, 10, 11] [])) (drR [1] [37] []) mixed (by kernel_rfl) (by kernel_rfl) (fun _ _ h => h) ?_)
    | (refine at_done (by simp only [List.filterMap_cons, List.filterMap_nil, List.getElem?_toArray, List.getElem?_cons_zero, List.getElem?_cons_succ]; exact rfl) ?_) | (refine at_alt (by simp only [List.filterMap_cons, List.filterMap_nil, List.getElem?_toArray, List.getElem?_cons_zero, List.getElem?_cons_succ]; exact rfl) ?_) | refine qalt_normal ?_ | refine ats_cons ?_ ?_ | exact ats_nil
    | ((with_reducible refine ald_id ?_); refine go_runD (tyOf_ok _) [] (by simp only [go_sem, Nat.reduceBEq, Nat.reduceBneDiff, Nat.reduceLT, Nat.reduceLeDiff, Nat.reduceAdd, Nat.reduceMul, Nat.reduceSub, Nat.reduceEqDiff, reduceCtorEq, encTs_len, hw1, hlk, htk, e1, e2, g1, e3, encPs_take, hnext, hlk1, Int.reduceToNat]; exact rfl) ?_ ?_)
    | (refine aw_cond (by simp only [go_sem, Nat.reduceBEq, Nat.reduceBneDiff, Nat.reduceLT, Nat.reduceLeDiff, Nat.reduceAdd, Nat.reduceMul, Nat.reduceSub, Nat.reduceEqDiff, reduceCtorEq, encTs_len, hw1, hlk, htk, e1, e2, g1, e3, encPs_take, hnext, hlk1, Int.reduceToNat]; exact rfl) (by simp only [go_sem, Nat.reduceBEq, Nat.reduceBneDiff, Nat.reduceLT, Nat.reduceLeDiff, Nat.reduceAdd, Nat.reduceMul, Nat.reduceSub, Nat.reduceEqDiff, reduceCtorEq]) (fun h => ?_) (fun h => ?_) <;> (try simp only [decide_eq_true_eq, decide_eq_false_iff_not, Bool.not_eq_true', Bool.not_eq_false', Bool.or_eq_true, Bool.or_eq_false_iff, Bool.and_eq_true, Bool.and_eq_false_iff, Decidable.not_not, reduceCtorEq] at h) <;> (try (exfalso; omega)))
    | (first | refine aendG_ret (by simp only [go_sem, Nat.reduceBEq, Nat.reduceBneDiff, Nat.reduceLT, Nat.reduceLeDiff, Nat.reduceAdd, Nat.reduceMul, Nat.reduceSub, Nat.reduceEqDiff, reduceCtorEq, encTs_len, hw1, hlk, htk, e1, e2, g1, e3, encPs_take, hnext, hlk1, Int.reduceToNat]; exact rfl) ?_ ?_ ?_ | refine aendG_normal (by simp only [go_sem, Nat.reduceBEq, Nat.reduceBneDiff, Nat.reduceLT, Nat.reduceLeDiff, Nat.reduceAdd, Nat.reduceMul, Nat.reduceSub, Nat.reduceEqDiff, reduceCtorEq, encTs_len, hw1, hlk, htk, e1, e2, g1, e3, encPs_take, hnext, hlk1, Int.reduceToNat]; exact rfl) ?_ ?_ ?_) | fail)) <;> (try omega)
      exact ⟨k + 1, by simp only [go_sem, Nat.reduceBEq, Nat.reduceBneDiff, Nat.reduceLT, Nat.reduceLeDiff, Nat.reduceAdd, Nat.reduceMul, Nat.reduceSub, Nat.reduceEqDiff, reduceCtorEq]; exact rfl, ⟨by omega, by omega⟩, by omega⟩
  · have hmin : ((min (rs.length : Int) 260)).toNat = min 260 rs.length := by omega
    have hR : rs.take (min 260 rs.length) = rs.take 260 := List.take_eq_take_iff.2 (by omega)
    have hke : k = (cutT ts).length := by rw [cutT_len]; omega
    have hcu : (ts.take k).map cutP = cutT ts := by rw [cutT, List.take_eq_take_iff.2 (show min k ts.length = min 120 ts.length by omega)]
    rw [hcu] at hlk htk
    rw [hcu]
    by_cases h1 : k < ts.length
    · have e1 : ((k : Int) < ts.length) = True := eq_true (by omega)
      have e2 : ((k : Int) < 120) = False := eq_false (by omega)
      (repeat' (first
    | exact trivial
    | (with_reducible first | refine aw_seq ?_ | refine aw_block ?_ | refine aw_skip ?_ | refine aw_ret ?_ | refine aw_exit ?_ | refine aseq_normal ?_ | refine aseq_ret ?_ | refine aseq_exit ?_ | refine ablk_normal ?_ | refine ablk_ret ?_ | refine ablk_hit ?_ | refine aw_region ?_ | refine go_nil ?_ | refine al_of ?_)
    | with_reducible refine ablk_miss (by decide) ?_
    | ((with_reducible refine al_id ?_); refine go_run (tyOf_ok _) [] (by simp only [go_sem, Nat.reduceBEq, Nat.reduceBneDiff, Nat.reduceLT, Nat.reduceLeDiff, Nat.reduceAdd, Nat.reduceMul, Nat.reduceSub, Nat.reduceEqDiff, reduceCtorEq, encTs_len, encRs_len, hw1, hlk, htk, e1, e2, encRs_take, hmin, hR, Int.toNat_zero, List.drop_zero]; exact rfl) ?_ ?_)
    | (refine aw_draw (id := 9) (t := (.node [0, 1, 2, 3, 4, 5, 6, 7, 8, 9, 10, 11] [])) (drR [1] [37] []) mixed (by kernel_rfl) (by kernel_rfl) (fun _ _ h => h) ?_)
    | (refine at_done (by simp only [List.filterMap_cons, List.filterMap_nil, List.getElem?_toArray, List.getElem?_cons_zero, List.getElem?_cons_succ]; exact rfl) ?_) | (refine at_alt (by simp only [List.filterMap_cons, List.filterMap_nil, List.getElem?_toArray, List.getElem?_cons_zero, List.getElem?_cons_succ]; exact rfl) ?_) | refine qalt_normal ?_ | refine ats_cons ?_ ?_ | exact ats_nil
    | ((with_reducible refine ald_id ?_); refine go_runD (tyOf_ok _) [] (by simp only [go_sem, Nat.reduceBEq, Nat.reduceBneDiff, Nat.reduceLT, Nat.reduceLeDiff, Nat.reduceAdd, Nat.reduceMul, Nat.reduceSub, Nat.reduceEqDiff, reduceCtorEq, encTs_len, encRs_len, hw1, hlk, htk, e1, e2, encRs_take, hmin, hR, Int.toNat_zero, List.drop_zero]; exact rfl) ?_ ?_)
    | (refine aw_cond (by simp only [go_sem, Nat.reduceBEq, Nat.reduceBneDiff, Nat.reduceLT, Nat.reduceLeDiff, Nat.reduceAdd, Nat.reduceMul, Nat.reduceSub, Nat.reduceEqDiff, reduceCtorEq, encTs_len, encRs_len, hw1, hlk, htk, e1, e2, encRs_take, hmin, hR, Int.toNat_zero, List.drop_zero]; exact rfl) (by simp only [go_sem, Nat.reduceBEq, Nat.reduceBneDiff, Nat.reduceLT, Nat.reduceLeDiff, Nat.reduceAdd, Nat.reduceMul, Nat.reduceSub, Nat.reduceEqDiff, reduceCtorEq]) (fun h => ?_) (fun h => ?_) <;> (try simp only [decide_eq_true_eq, decide_eq_false_iff_not, Bool.not_eq_true', Bool.not_eq_false', Bool.or_eq_true, Bool.or_eq_false_iff, Bool.and_eq_true, Bool.and_eq_false_iff, Decidable.not_not, reduceCtorEq] at h) <;> (try (exfalso; omega)))
    | (first | refine aendG_ret (by simp only [go_sem, Nat.reduceBEq, Nat.reduceBneDiff, Nat.reduceLT, Nat.reduceLeDiff, Nat.reduceAdd, Nat.reduceMul, Nat.reduceSub, Nat.reduceEqDiff, reduceCtorEq, encTs_len, encRs_len, hw1, hlk, htk, e1, e2, encRs_take, hmin, hR, Int.toNat_zero, List.drop_zero]; exact rfl) ?_ ?_ ?_ | refine aendG_normal (by simp only [go_sem, Nat.reduceBEq, Nat.reduceBneDiff, Nat.reduceLT, Nat.reduceLeDiff, Nat.reduceAdd, Nat.reduceMul, Nat.reduceSub, Nat.reduceEqDiff, reduceCtorEq, encTs_len, encRs_len, hw1, hlk, htk, e1, e2, encRs_take, hmin, hR, Int.toNat_zero, List.drop_zero]; exact rfl) ?_ ?_ ?_) | fail)) <;> (try omega)
      · simp only [List.length_take]; omega
      · rw [cutV, ← hke]; exact AV.up_rfl _
      · exact obUp_cons rfl (obUp_cons rfl obUp_nil)
    · have e1 : ((k : Int) < ts.length) = False := eq_false (by omega)
      (repeat' (first
    | exact trivial
    | (with_reducible first | refine aw_seq ?_ | refine aw_block ?_ | refine aw_skip ?_ | refine aw_ret ?_ | refine aw_exit ?_ | refine aseq_normal ?_ | refine aseq_ret ?_ | refine aseq_exit ?_ | refine ablk_normal ?_ | refine ablk_ret ?_ | refine ablk_hit ?_ | refine aw_region ?_ | refine go_nil ?_ | refine al_of ?_)
    | with_reducible refine ablk_miss (by decide) ?_
    | ((with_reducible refine al_id ?_); refine go_run (tyOf_ok _) [] (by simp only [go_sem, Nat.reduceBEq, Nat.reduceBneDiff, Nat.reduceLT, Nat.reduceLeDiff, Nat.reduceAdd, Nat.reduceMul, Nat.reduceSub, Nat.reduceEqDiff, reduceCtorEq, encTs_len, encRs_len, hw1, hlk, htk, e1, encRs_take, hmin, hR, Int.toNat_zero, List.drop_zero]; exact rfl) ?_ ?_)
    | (refine aw_draw (id := 9) (t := (.node [0, 1, 2, 3, 4, 5, 6, 7, 8, 9, 10, 11] [])) (drR [1] [37] []) mixed (by kernel_rfl) (by kernel_rfl) (fun _ _ h => h) ?_)
    | (refine at_done (by simp only [List.filterMap_cons, List.filterMap_nil, List.getElem?_toArray, List.getElem?_cons_zero, List.getElem?_cons_succ]; exact rfl) ?_) | (refine at_alt (by simp only [List.filterMap_cons, List.filterMap_nil, List.getElem?_toArray, List.getElem?_cons_zero, List.getElem?_cons_succ]; exact rfl) ?_) | refine qalt_normal ?_ | refine ats_cons ?_ ?_ | exact ats_nil
    | ((with_reducible refine ald_id ?_); refine go_runD (tyOf_ok _) [] (by simp only [go_sem, Nat.reduceBEq, Nat.reduceBneDiff, Nat.reduceLT, Nat.reduceLeDiff, Nat.reduceAdd, Nat.reduceMul, Nat.reduceSub, Nat.reduceEqDiff, reduceCtorEq, encTs_len, encRs_len, hw1, hlk, htk, e1, encRs_take, hmin, hR, Int.toNat_zero, List.drop_zero]; exact rfl) ?_ ?_)
    | (refine aw_cond (by simp only [go_sem, Nat.reduceBEq, Nat.reduceBneDiff, Nat.reduceLT, Nat.reduceLeDiff, Nat.reduceAdd, Nat.reduceMul, Nat.reduceSub, Nat.reduceEqDiff, reduceCtorEq, encTs_len, encRs_len, hw1, hlk, htk, e1, encRs_take, hmin, hR, Int.toNat_zero, List.drop_zero]; exact rfl) (by simp only [go_sem, Nat.reduceBEq, Nat.reduceBneDiff, Nat.reduceLT, Nat.reduceLeDiff, Nat.reduceAdd, Nat.reduceMul, Nat.reduceSub, Nat.reduceEqDiff, reduceCtorEq]) (fun h => ?_) (fun h => ?_) <;> (try simp only [decide_eq_true_eq, decide_eq_false_iff_not, Bool.not_eq_true', Bool.not_eq_false', Bool.or_eq_true, Bool.or_eq_false_iff, Bool.and_eq_true, Bool.and_eq_false_iff, Decidable.not_not, reduceCtorEq] at h) <;> (try (exfalso; omega)))
    | (first | refine aendG_ret (by simp only [go_sem, Nat.reduceBEq, Nat.reduceBneDiff, Nat.reduceLT, Nat.reduceLeDiff, Nat.reduceAdd, Nat.reduceMul, Nat.reduceSub, Nat.reduceEqDiff, reduceCtorEq, encTs_len, encRs_len, hw1, hlk, htk, e1, encRs_take, hmin, hR, Int.toNat_zero, List.drop_zero]; exact rfl) ?_ ?_ ?_ | refine aendG_normal (by simp only [go_sem, Nat.reduceBEq, Nat.reduceBneDiff, Nat.reduceLT, Nat.reduceLeDiff, Nat.reduceAdd, Nat.reduceMul, Nat.reduceSub, Nat.reduceEqDiff, reduceCtorEq, encTs_len, encRs_len, hw1, hlk, htk, e1, encRs_take, hmin, hR, Int.toNat_zero, List.drop_zero]; exact rfl) ?_ ?_ ?_) | fail)) <;> (try omega)
      · simp only [List.length_take]; omega
      · rw [cutV, ← hke]; exact AV.up_rfl _
      · exact obUp_cons rfl (obUp_cons rfl obUp_nil)
end Go.Proofs.Ytfgacgpicfknpaa
end
section
namespace Go.Proofs.Ytfgacgpicfknpaa
open Go.RowKit
set_option maxRecDepth 100000
set_option maxHeartbeats 4000000
theorem sizeOf_G (ts : List TypeM) (rs : List RootM) (hts : ts.length ≤ 1000000000) (hrs : rs.length ≤ 1000000000) (hp : ∀ t ∈ ts, t.parts.length ≤ 1000000000) : GCall Try.prog 22 [vSch ts rs] [] (.tup [.ref 57 4 5 0 (sizesF ts rs).1.length, vI (sizesF ts rs).2]) [(5, .row 57 4 (encEs (sizesF ts rs).1))] := by
  refine go_fnG (tyOf_ok _) Try.func22 rfl rfl (by rw [Try.results22]) Try.ntmps22 rfl fun E => ?_
  (repeat' (first
    | exact trivial
    | (with_reducible first | refine aw_seq ?_ | refine aw_block ?_ | refine aw_skip ?_ | refine aw_ret ?_ | refine aw_exit ?_ | refine aseq_normal ?_ | refine aseq_ret ?_ | refine aseq_exit ?_ | refine ablk_normal ?_ | refine ablk_ret ?_ | refine ablk_hit ?_ | refine aw_region ?_ | refine go_nil ?_ | refine al_of ?_)
    | with_reducible refine ablk_miss (by decide) ?_
    | ((with_reducible refine al_id ?_); refine go_run (tyOf_ok _) [] (by simp only [go_sem, Nat.reduceBEq, Nat.reduceBneDiff, Nat.reduceLT, Nat.reduceLeDiff, Nat.reduceAdd, Nat.reduceMul, Nat.reduceSub, Nat.reduceEqDiff, reduceCtorEq, encTs_len, vSch, vF]; exact rfl) ?_ ?_)
    | (refine aw_draw (id := 3) (t := (.node [0, 1, 2, 3] [])) (drR [4] [] []) mixed (by kernel_rfl) (by kernel_rfl) (fun _ _ h => h) ?_)
    | (refine at_done (by simp only [List.filterMap_cons, List.filterMap_nil, List.getElem?_toArray, List.getElem?_cons_zero, List.getElem?_cons_succ]; exact rfl) ?_) | (refine at_alt (by simp only [List.filterMap_cons, List.filterMap_nil, List.getElem?_toArray, List.getElem?_cons_zero, List.getElem?_cons_succ]; exact rfl) ?_) | refine qalt_normal ?_ | refine ats_cons ?_ ?_ | exact ats_nil
    | ((with_reducible refine ald_id ?_); refine go_runD (tyOf_ok _) [] (by simp only [go_sem, Nat.reduceBEq, Nat.reduceBneDiff, Nat.reduceLT, Nat.reduceLeDiff, Nat.reduceAdd, Nat.reduceMul, Nat.reduceSub, Nat.reduceEqDiff, reduceCtorEq, encTs_len, vSch, vF]; exact rfl) ?_ ?_)
    | (refine aw_cond (by simp only [go_sem, Nat.reduceBEq, Nat.reduceBneDiff, Nat.reduceLT, Nat.reduceLeDiff, Nat.reduceAdd, Nat.reduceMul, Nat.reduceSub, Nat.reduceEqDiff, reduceCtorEq, encTs_len, vSch, vF]; exact rfl) (by simp only [go_sem, Nat.reduceBEq, Nat.reduceBneDiff, Nat.reduceLT, Nat.reduceLeDiff, Nat.reduceAdd, Nat.reduceMul, Nat.reduceSub, Nat.reduceEqDiff, reduceCtorEq]) (fun h => ?_) (fun h => ?_) <;> (try simp only [decide_eq_true_eq, decide_eq_false_iff_not, Bool.not_eq_true', Bool.not_eq_false', Bool.or_eq_true, Bool.or_eq_false_iff, Bool.and_eq_true, Bool.and_eq_false_iff, Decidable.not_not, reduceCtorEq] at h) <;> (try (exfalso; omega)))
    | (first | refine aendG_ret (by simp only [go_sem, Nat.reduceBEq, Nat.reduceBneDiff, Nat.reduceLT, Nat.reduceLeDiff, Nat.reduceAdd, Nat.reduceMul, Nat.reduceSub, Nat.reduceEqDiff, reduceCtorEq, encTs_len, vSch, vF]; exact rfl) ?_ ?_ ?_ | refine aendG_normal (by simp only [go_sem, Nat.reduceBEq, Nat.reduceBneDiff, Nat.reduceLT, Nat.reduceLeDiff, Nat.reduceAdd, Nat.reduceMul, Nat.reduceSub, Nat.reduceEqDiff, reduceCtorEq, encTs_len, vSch, vF]; exact rfl) ?_ ?_ ?_)
    | (refine go_call (by simp only [go_sem, Nat.reduceBEq, Nat.reduceBneDiff, Nat.reduceLT, Nat.reduceLeDiff, Nat.reduceAdd, Nat.reduceMul, Nat.reduceSub, Nat.reduceEqDiff, reduceCtorEq, encTs_len, vSch, vF]; exact rfl) ?_ (fun _ => check_any ts rs hts hrs hp) rfl ?_) | fail)) <;> (try omega)
  · rw [sizesF, if_pos h]; exact AV.up_tup (AV.up_cons (AV.up_nilref _ _ _ _) (AV.up_cons (AV.up_rfl _) AV.up_nilL))
  · rw [sizesF, if_pos h]; exact obUp_row0 obUp_nil
  have h0 := h
  have hr := check_right h
  refine aw_nilrow 5 57 4 5 (.inl (by decide)) (by simp only [go_sem, Nat.reduceBEq, Nat.reduceBneDiff, Nat.reduceLT, Nat.reduceLeDiff, Nat.reduceAdd, Nat.reduceMul, Nat.reduceSub, Nat.reduceEqDiff, reduceCtorEq]) ?_
  refine go_loop [5, 16, 17, 18] [5] (fun k : Nat => ⟨[(5, true, .ref 57 4 5 0 (encEs (exts (ts.take k))).length), (16, true, .lst 4 (encTs ts)), (17, true, vI ts.length), (18, true, vI k)],
    [(5, .row 57 4 (encEs (exts (ts.take k))))]⟩)
    (fun k => k ≤ ts.length ∧ ∀ e ∈ exts (ts.take k), extOK e ∧ e.depth ≤ k) (fun k => ts.length - k) 0 (by simp only [AState.nilrow, go_sem, Nat.reduceBEq, Nat.reduceBneDiff, Nat.reduceLT, Nat.reduceLeDiff, Nat.reduceAdd, Nat.reduceMul, Nat.reduceSub, Nat.reduceEqDiff, reduceCtorEq]; exact rfl) ⟨Nat.zero_le _, fun e h => by cases h⟩ ?_
  intro k ⟨hk, hL⟩
  have hw1 := wrap_i64 (n := (k : Int) + 1) (by omega)
  by_cases hlt : k < ts.length
  · have e1 : ((k : Int) < ts.length) = True := eq_true (by omega)
    have g1 := encTs_get hlt
    have hEl := exts_len ts k hk
    have hrk := hr k hlt
    have hok := extM_ok (by omega) (by omega) hrk hL
    have hnext := exts_succ hlt
    have hc := extent_any ts[k] (exts (ts.take k)) (by rw [hEl]; exact hrk) (hp _ (List.getElem_mem hlt)) (fun e he => (hL e he).1)
    generalize exts (ts.take k) = L at *
    have happ : encEs L ++ [[vB (extM ts[k] L).fixed, vI (extM ts[k] L).least, vI (extM ts[k] L).most, vI (extM ts[k] L).depth]] = encEs (exts (ts.take (k + 1))) := by rw [hnext]; simp [encEs, encE]
    have hlL : (exts (ts.take (k + 1))).length = k + 1 := by rw [hnext]; simp [hEl]
    have htk : (encEs L).take L.length = encEs L := take_len (by rw [encEs_len]; exact Nat.le_refl _)
    (repeat' (first
    | exact trivial
    | (with_reducible first | refine aw_seq ?_ | refine aw_block ?_ | refine aw_skip ?_ | refine aw_ret ?_ | refine aw_exit ?_ | refine aseq_normal ?_ | refine aseq_ret ?_ | refine aseq_exit ?_ | refine ablk_normal ?_ | refine ablk_ret ?_ | refine ablk_hit ?_ | refine aw_region ?_ | refine go_nil ?_ | refine al_of ?_)
    | with_reducible refine ablk_miss (by decide) ?_
    | ((with_reducible refine al_id ?_); refine go_run (tyOf_ok _) [] (by simp only [go_sem, Nat.reduceBEq, Nat.reduceBneDiff, Nat.reduceLT, Nat.reduceLeDiff, Nat.reduceAdd, Nat.reduceMul, Nat.reduceSub, Nat.reduceEqDiff, reduceCtorEq, hw1, e1, g1, encTs_len, vE, happ, htk, hlL]; exact rfl) ?_ ?_)
    | (refine aw_draw (id := 3) (t := (.node [0, 1, 2, 3] [])) (drR [4] [] []) mixed (by kernel_rfl) (by kernel_rfl) (fun _ _ h => h) ?_)
    | (refine at_done (by simp only [List.filterMap_cons, List.filterMap_nil, List.getElem?_toArray, List.getElem?_cons_zero, List.getElem?_cons_succ]; exact rfl) ?_) | (refine at_alt (by simp only [List.filterMap_cons, List.filterMap_nil, List.getElem?_toArray, List.getElem?_cons_zero, List.getElem?_cons_succ]; exact rfl) ?_) | refine qalt_normal ?_ | refine ats_cons ?_ ?_ | exact ats_nil
    | ((with_reducible refine ald_id ?_); refine go_runD (tyOf_ok _) [] (by simp only [go_sem, Nat.reduceBEq, Nat.reduceBneDiff, Nat.reduceLT, Nat.reduceLeDiff, Nat.reduceAdd, Nat.reduceMul, Nat.reduceSub, Nat.reduceEqDiff, reduceCtorEq, hw1, e1, g1, encTs_len, vE, happ, htk, hlL]; exact rfl) ?_ ?_)
    | (refine aw_cond (by simp only [go_sem, Nat.reduceBEq, Nat.reduceBneDiff, Nat.reduceLT, Nat.reduceLeDiff, Nat.reduceAdd, Nat.reduceMul, Nat.reduceSub, Nat.reduceEqDiff, reduceCtorEq, hw1, e1, g1, encTs_len, vE, happ, htk, hlL]; exact rfl) (by simp only [go_sem, Nat.reduceBEq, Nat.reduceBneDiff, Nat.reduceLT, Nat.reduceLeDiff, Nat.reduceAdd, Nat.reduceMul, Nat.reduceSub, Nat.reduceEqDiff, reduceCtorEq]) (fun h => ?_) (fun h => ?_) <;> (try simp only [decide_eq_true_eq, decide_eq_false_iff_not, Bool.not_eq_true', Bool.not_eq_false', Bool.or_eq_true, Bool.or_eq_false_iff, Bool.and_eq_true, Bool.and_eq_false_iff, Decidable.not_not, reduceCtorEq] at h) <;> (try (exfalso; omega)))
    | (first | refine aendG_ret (by simp only [go_sem, Nat.reduceBEq, Nat.reduceBneDiff, Nat.reduceLT, Nat.reduceLeDiff, Nat.reduceAdd, Nat.reduceMul, Nat.reduceSub, Nat.reduceEqDiff, reduceCtorEq, hw1, e1, g1, encTs_len, vE, happ, htk, hlL]; exact rfl) ?_ ?_ ?_ | refine aendG_normal (by simp only [go_sem, Nat.reduceBEq, Nat.reduceBneDiff, Nat.reduceLT, Nat.reduceLeDiff, Nat.reduceAdd, Nat.reduceMul, Nat.reduceSub, Nat.reduceEqDiff, reduceCtorEq, hw1, e1, g1, encTs_len, vE, happ, htk, hlL]; exact rfl) ?_ ?_ ?_)
    | (refine go_call (by simp only [go_sem, Nat.reduceBEq, Nat.reduceBneDiff, Nat.reduceLT, Nat.reduceLeDiff, Nat.reduceAdd, Nat.reduceMul, Nat.reduceSub, Nat.reduceEqDiff, reduceCtorEq, hw1, e1, g1, encTs_len, vE, happ, htk, hlL]; exact rfl) ?_ (fun _ => hc) rfl ?_) | fail)) <;> (try omega)
    refine ⟨k + 1, by simp only [go_sem, Nat.reduceBEq, Nat.reduceBneDiff, Nat.reduceLT, Nat.reduceLeDiff, Nat.reduceAdd, Nat.reduceMul, Nat.reduceSub, Nat.reduceEqDiff, reduceCtorEq, hlL]; exact rfl, ⟨hlt, fun e he => ?_⟩, by omega⟩
    rw [hnext] at he
    rcases List.mem_append.1 he with he | he
    · have := hL e he
      exact ⟨this.1, by have := this.2; omega⟩
    · rw [List.mem_singleton] at he
      subst he
      exact ⟨hok.1, by have := hok.2; omega⟩
  · have e1 : ((k : Int) < ts.length) = False := eq_false (by omega)
    have hke : ts.take k = ts := take_len (by omega)
    (repeat' (first
    | exact trivial
    | (with_reducible first | refine aw_seq ?_ | refine aw_block ?_ | refine aw_skip ?_ | refine aw_ret ?_ | refine aw_exit ?_ | refine aseq_normal ?_ | refine aseq_ret ?_ | refine aseq_exit ?_ | refine ablk_normal ?_ | refine ablk_ret ?_ | refine ablk_hit ?_ | refine aw_region ?_ | refine go_nil ?_ | refine al_of ?_)
    | with_reducible refine ablk_miss (by decide) ?_
    | ((with_reducible refine al_id ?_); refine go_run (tyOf_ok _) [] (by simp only [go_sem, Nat.reduceBEq, Nat.reduceBneDiff, Nat.reduceLT, Nat.reduceLeDiff, Nat.reduceAdd, Nat.reduceMul, Nat.reduceSub, Nat.reduceEqDiff, reduceCtorEq, hw1, e1]; exact rfl) ?_ ?_)
    | (refine aw_draw (id := 3) (t := (.node [0, 1, 2, 3] [])) (drR [4] [] []) mixed (by kernel_rfl) (by kernel_rfl) (fun _ _ h => h) ?_)
    | (refine at_done (by simp only [List.filterMap_cons, List.filterMap_nil, List.getElem?_toArray, List.getElem?_cons_zero, List.getElem?_cons_succ]; exact rfl) ?_) | (refine at_alt (by simp only [List.filterMap_cons, List.filterMap_nil, List.getElem?_toArray, List.getElem?_cons_zero, List.getElem?_cons_succ]; exact rfl) ?_) | refine qalt_normal ?_ | refine ats_cons ?_ ?_ | exact ats_nil
    | ((with_reducible refine ald_id ?_); refine go_runD (tyOf_ok _) [] (by simp only [go_sem, Nat.reduceBEq, Nat.reduceBneDiff, Nat.reduceLT, Nat.reduceLeDiff, Nat.reduceAdd, Nat.reduceMul, Nat.reduceSub, Nat.reduceEqDiff, reduceCtorEq, hw1, e1]; exact rfl) ?_ ?_)
    | (refine aw_cond (by simp only [go_sem, Nat.reduceBEq, Nat.reduceBneDiff, Nat.reduceLT, Nat.reduceLeDiff, Nat.reduceAdd, Nat.reduceMul, Nat.reduceSub, Nat.reduceEqDiff, reduceCtorEq, hw1, e1]; exact rfl) (by simp only [go_sem, Nat.reduceBEq, Nat.reduceBneDiff, Nat.reduceLT, Nat.reduceLeDiff, Nat.reduceAdd, Nat.reduceMul, Nat.reduceSub, Nat.reduceEqDiff, reduceCtorEq]) (fun h => ?_) (fun h => ?_) <;> (try simp only [decide_eq_true_eq, decide_eq_false_iff_not, Bool.not_eq_true', Bool.not_eq_false', Bool.or_eq_true, Bool.or_eq_false_iff, Bool.and_eq_true, Bool.and_eq_false_iff, Decidable.not_not, reduceCtorEq] at h) <;> (try (exfalso; omega)))
    | (first | refine aendG_ret (by simp only [go_sem, Nat.reduceBEq, Nat.reduceBneDiff, Nat.reduceLT, Nat.reduceLeDiff, Nat.reduceAdd, Nat.reduceMul, Nat.reduceSub, Nat.reduceEqDiff, reduceCtorEq, hw1, e1]; exact rfl) ?_ ?_ ?_ | refine aendG_normal (by simp only [go_sem, Nat.reduceBEq, Nat.reduceBneDiff, Nat.reduceLT, Nat.reduceLeDiff, Nat.reduceAdd, Nat.reduceMul, Nat.reduceSub, Nat.reduceEqDiff, reduceCtorEq, hw1, e1]; exact rfl) ?_ ?_ ?_) | fail)) <;> (try omega)
    all_goals rw [sizesF, if_neg (fun g => g h0)]
    · rw [hke]; exact AV.up_rfl _
    · rw [hke]; exact obUp_cons rfl obUp_nil
end Go.Proofs.Ytfgacgpicfknpaa
end
section
namespace Go.Proofs.Ytfgacgpicfknpaa
open Go.RowKit
/-! Sizes: what is greater of what is greater. -/
theorem plus2 {a b : Int} (ha : 0 ≤ a ∧ a ≤ 4611686018427387904) (hb : 0 ≤ b ∧ b ≤ 4611686018427387904) : plusL [a, b] = min (a + b) 4611686018427387904 := by
  simp only [plusL, List.foldl, addS, sz]; omega
theorem withinM_ge {f : Bool} {b : Int} (h : 0 ≤ b ∧ b ≤ 4611686018427387904) : b ≤ withinM f b := by
  unfold withinM
  split
  · exact Int.le_refl _
  · rw [plus2 (by omega) h]; omega
theorem withinM_mono {f : Bool} {a b : Int} (ha : 0 ≤ a ∧ a ≤ 4611686018427387904) (hb : 0 ≤ b ∧ b ≤ 4611686018427387904) (h : a ≤ b) : withinM f a ≤ withinM f b := by
  unfold withinM
  split
  · exact h
  · rw [plus2 (by omega) ha, plus2 (by omega) hb]; omega
theorem sz_mono {a b : Int} (h : a ≤ b) : sz a ≤ sz b := by unfold sz; omega
theorem timesS_mono {a b c d : Int} (h1 : a ≤ b) (h2 : c ≤ d) : timesS a c ≤ timesS b d := by
  have h : sz a * sz c ≤ sz b * sz d := Int.mul_le_mul (sz_mono h1) (sz_mono h2) (sz_lo c) (sz_lo b)
  unfold timesS; omega
def extG (e : ExtM) : Prop := 0 ≤ e.least ∧ e.least ≤ e.most ∧ e.most ≤ 4611686018427387904 ∧ 1 ≤ e.depth
theorem uni_good {L : List ExtM} : ∀ (l : List PartM) (x : Int × Int × Int), (∀ p ∈ l, extG (atE L p.ty)) → 0 ≤ x.1 ∧ x.1 ≤ 4611686018427387904 → 0 ≤ x.2.1 ∧ x.2.1 ≤ 4611686018427387904 →
    ((uni L l x).1 ≤ x.1 ∧ x.2.1 ≤ (uni L l x).2.1 ∧ x.2.2 ≤ (uni L l x).2.2 ∧ 0 ≤ (uni L l x).1 ∧ (uni L l x).2.1 ≤ 4611686018427387904) ∧ ∀ p ∈ l, (uni L l x).1 ≤ (atE L p.ty).least ∧ plusL [1, (atE L p.ty).most] ≤ (uni L l x).2.1 ∧ 1 + (atE L p.ty).depth ≤ (uni L l x).2.2
  | [], x, _, h1, h2 => ⟨⟨Int.le_refl _, Int.le_refl _, Int.le_refl _, h1.1, h2.2⟩, fun p hp => by cases hp⟩
  | q :: l, x, h, h1, h2 => by
    have hq := h q (.head _)
    have hpl := plusL_bd [1, (atE L q.ty).most]
    unfold extG at hq
    have ih := uni_good l (min x.1 (atE L q.ty).least, max x.2.1 (plusL [1, (atE L q.ty).most]), max x.2.2 (1 + (atE L q.ty).depth)) (fun p hp => h p (.tail _ hp)) ⟨by simp only; omega, by simp only; omega⟩ ⟨by simp only; omega, by simp only; omega⟩
    have hu : uni L (q :: l) x = uni L l (min x.1 (atE L q.ty).least, max x.2.1 (plusL [1, (atE L q.ty).most]), max x.2.2 (1 + (atE L q.ty).depth)) := rfl
    rw [hu]
    obtain ⟨⟨g1, g2, g3, g4, g5⟩, g6⟩ := ih
    simp only at g1 g2 g3
    refine ⟨⟨by omega, by omega, by omega, g4, g5⟩, fun p hp => ?_⟩
    rcases List.mem_cons.1 hp with rfl | hp
    · exact ⟨by omega, by omega, by omega⟩
    · exact g6 p hp
def stepS (L : List ExtM) (x : ExtM) (p : PartM) : ExtM := ⟨x.fixed && (atE L p.ty).fixed, plusL [x.least, withinM (atE L p.ty).fixed (atE L p.ty).least], plusL [x.most, withinM (atE L p.ty).fixed (atE L p.ty).most], max x.depth (1 + (atE L p.ty).depth)⟩
theorem str_snoc (L : List ExtM) (l : List PartM) (p : PartM) (x : ExtM) : str L (l ++ [p]) x = stepS L (str L l x) p := by
  rw [str, List.foldl_append]; rfl
theorem step_ge {L : List ExtM} {x : ExtM} {p : PartM} (h : extG (atE L p.ty)) (h1 : 0 ≤ x.least ∧ x.least ≤ x.most ∧ x.most ≤ 4611686018427387904) :
    (0 ≤ (stepS L x p).least ∧ (stepS L x p).least ≤ (stepS L x p).most ∧ (stepS L x p).most ≤ 4611686018427387904) ∧ x.least ≤ (stepS L x p).least ∧ x.most ≤ (stepS L x p).most ∧ x.depth ≤ (stepS L x p).depth ∧ ((stepS L x p).fixed = true → x.fixed = true) ∧
    (atE L p.ty).most ≤ (stepS L x p).most ∧ (atE L p.ty).depth < (stepS L x p).depth ∧ ((stepS L x p).fixed = true → (atE L p.ty).fixed = true) := by
  unfold extG at h
  have a1 := withinM_bd (f := (atE L p.ty).fixed) (b := (atE L p.ty).least) (by omega)
  have a2 := withinM_bd (f := (atE L p.ty).fixed) (b := (atE L p.ty).most) (by omega)
  have a3 := withinM_mono (f := (atE L p.ty).fixed) (a := (atE L p.ty).least) (b := (atE L p.ty).most) (by omega) (by omega) h.2.1
  have a4 := withinM_ge (f := (atE L p.ty).fixed) (b := (atE L p.ty).most) (by omega)
  have a5 := plus2 (a := x.least) (b := withinM (atE L p.ty).fixed (atE L p.ty).least) (by omega) a1
  have a6 := plus2 (a := x.most) (b := withinM (atE L p.ty).fixed (atE L p.ty).most) (by omega) a2
  simp only [stepS]
  rw [a5, a6]
  refine ⟨⟨by omega, by omega, by omega⟩, by omega, by omega, by omega, fun h => ?_, by omega, by omega, fun h => ?_⟩
  · rw [Bool.and_eq_true] at h; exact h.1
  · rw [Bool.and_eq_true] at h; exact h.2
theorem str_good {L : List ExtM} : ∀ (l : List PartM) (x : ExtM), (∀ p ∈ l, extG (atE L p.ty)) → 0 ≤ x.least ∧ x.least ≤ x.most ∧ x.most ≤ 4611686018427387904 →
    (0 ≤ (str L l x).least ∧ (str L l x).least ≤ (str L l x).most ∧ (str L l x).most ≤ 4611686018427387904) ∧ x.least ≤ (str L l x).least ∧ x.most ≤ (str L l x).most ∧ x.depth ≤ (str L l x).depth ∧ ((str L l x).fixed = true → x.fixed = true) ∧
    ∀ p ∈ l, (atE L p.ty).most ≤ (str L l x).most ∧ (atE L p.ty).depth < (str L l x).depth ∧ ((str L l x).fixed = true → (atE L p.ty).fixed = true)
  | [], x, _, h1 => ⟨h1, Int.le_refl _, Int.le_refl _, Int.le_refl _, id, fun p hp => by cases hp⟩
  | q :: l, x, h, h1 => by
    obtain ⟨s1, s2, s3, s4, s5, s6, s7, s8⟩ := step_ge (h q (.head _)) h1
    obtain ⟨g1, g2, g3, g4, g5, g6⟩ := str_good l (stepS L x q) (fun p hp => h p (.tail _ hp)) s1
    have hu : str L (q :: l) x = str L l (stepS L x q) := rfl
    rw [hu]
    refine ⟨g1, by omega, by omega, by omega, fun h => s5 (g5 h), fun p hp => ?_⟩
    rcases List.mem_cons.1 hp with rfl | hp
    · exact ⟨by omega, by omega, fun h => s8 (g5 h)⟩
    · exact g6 p hp
theorem extM_good {t : TypeM} {L : List ExtM} (hr : rightOK t L.length = true) (hL : ∀ e ∈ L, extG e) :
    extG (extM t L) ∧ ∀ p ∈ t.parts, (atE L p.ty).most ≤ (extM t L).most ∧ (atE L p.ty).depth < (extM t L).depth ∧ ((extM t L).fixed = true → (atE L p.ty).fixed = true) := by
  have hty := rightOK_ty hr
  have hat : ∀ i : Int, 0 ≤ i → i < L.length → extG (atE L i) := fun i h0 h1 => by
    have hlt : i.toNat < L.length := by omega
    rw [atE, List.getElem?_eq_getElem hlt]
    exact hL _ (List.getElem_mem hlt)
  have hpe : t.kind ≠ 7 → t.kind ≠ 8 → t.parts = [] := fun h7 h8 => by
    rw [rightOK, Bool.and_eq_true] at hr
    have := hr.2
    split at this
    · simp only [Bool.and_eq_true, decide_eq_true_eq] at this
      exact List.eq_nil_of_length_eq_zero (by omega)
    · split at this
      · simp only [Bool.and_eq_true, decide_eq_true_eq] at this
        exact List.eq_nil_of_length_eq_zero (by omega)
      · split at this
        · omega
        · cases this
  have hno : t.kind ≠ 7 → t.kind ≠ 8 → ∀ q : PartM → Prop, ∀ p ∈ t.parts, q p := fun h7 h8 q p hp => by rw [hpe h7 h8] at hp; cases hp
  rcases rightOK_kind hr with hk | hk | hk
  · rcases hk with hk | hk | hk
    · have := right_1 hr hk
      unfold extM
      rw [if_pos hk]
      exact ⟨⟨by simp only; omega, Int.le_refl _, by simp only; omega, by simp⟩, hno (by omega) (by omega) _⟩
    · unfold extM
      rw [if_neg (by omega), if_pos hk]
      exact ⟨⟨by decide, by decide, by decide, by decide⟩, hno (by omega) (by omega) _⟩
    · unfold extM
      rw [if_neg (by omega), if_neg (by omega), if_pos hk]
      exact ⟨⟨by decide, by decide, by decide, by decide⟩, hno (by omega) (by omega) _⟩
  · have hn := rightOK_n hr hk
    have he := hat t.elem (hty.1 hk).1 (hty.1 hk).2
    unfold extG at he
    rcases hk with hk | hk | hk
    · unfold extM
      rw [if_neg (by omega), if_neg (by omega), if_neg (by omega), if_pos hk]
      exact ⟨⟨(timesS_bd _ _).1, timesS_mono (Int.le_refl _) (withinM_mono (by omega) (by omega) he.2.1), (timesS_bd _ _).2, by simp only; omega⟩, hno (by omega) (by omega) _⟩
    · unfold extM
      rw [if_neg (by omega), if_neg (by omega), if_neg (by omega), if_neg (by omega), if_pos hk]
      exact ⟨⟨Int.le_refl _, (timesS_bd _ _).1, (timesS_bd _ _).2, by simp only; omega⟩, hno (by omega) (by omega) _⟩
    · unfold extM
      rw [if_neg (by omega), if_neg (by omega), if_neg (by omega), if_neg (by omega), if_neg (by omega), if_pos hk]
      have := plus2 (a := 1) (b := (atE L t.elem).most) (by omega) (by omega)
      exact ⟨⟨by simp only; omega, by simp only; omega, (plusL_bd _).2, by simp only; omega⟩, hno (by omega) (by omega) _⟩
  · have hp := right_parts hr hk
    have hps : ∀ p ∈ t.parts, extG (atE L p.ty) := fun p hp => hat _ (hty.2 p hp).1 (hty.2 p hp).2
    rcases hk with hk | hk
    · unfold extM
      rw [if_neg (by omega), if_neg (by omega), if_neg (by omega), if_neg (by omega), if_neg (by omega), if_neg (by omega), if_pos hk]
      obtain ⟨⟨g1, g2, g3, g4, g5⟩, g6⟩ := uni_good t.parts (4611686018427387904, 0, 1) hps (by decide) (by decide)
      simp only at g1 g2 g3 ⊢
      obtain ⟨q, hq⟩ : ∃ q, q ∈ t.parts := ⟨t.parts[0]'(by omega), List.getElem_mem _⟩
      have hq1 := g6 q hq
      have hq2 := hps q hq
      unfold extG at hq2
      have a1 := plus2 (a := 1) (b := (uni L t.parts (4611686018427387904, 0, 1)).1) (by omega) (by omega)
      have a2 := plus2 (a := 1) (b := (atE L q.ty).most) (by omega) (by omega)
      refine ⟨⟨(plusL_bd _).1, by simp only; omega, g5, by simp only; omega⟩, fun p hp => ?_⟩
      have hp1 := g6 p hp
      have hp2 := hps p hp
      unfold extG at hp2
      have a3 := plus2 (a := 1) (b := (atE L p.ty).most) (by omega) (by omega)
      exact ⟨by omega, by omega, fun h => by cases h⟩
    · unfold extM
      rw [if_neg (by omega), if_neg (by omega), if_neg (by omega), if_neg (by omega), if_neg (by omega), if_neg (by omega), if_neg (by omega)]
      obtain ⟨⟨g1, g2, g3⟩, _, _, g4, _, g6⟩ := str_good t.parts ⟨true, 0, 0, 1⟩ hps (by decide)
      exact ⟨⟨g1, g2, g3, g4⟩, g6⟩
/-- a greater number, a part more -/
theorem more_n {t : TypeM} {L : List ExtM} (hk : t.kind = 4 ∨ t.kind = 5) {n : Int} (hn : t.n ≤ n) :
    (extM t L).most ≤ (extM ⟨t.kind, n, t.elem, t.parts⟩ L).most ∧ (extM t L).least ≤ (extM ⟨t.kind, n, t.elem, t.parts⟩ L).least ∧ ((extM ⟨t.kind, n, t.elem, t.parts⟩ L).fixed = true → (extM t L).fixed = true) := by
  unfold extM
  rcases hk with hk | hk
  · simp only [hk]
    exact ⟨timesS_mono hn (Int.le_refl _), timesS_mono hn (Int.le_refl _), id⟩
  · simp only [hk]
    exact ⟨timesS_mono hn (Int.le_refl _), Int.le_refl _, id⟩
theorem more_p {t : TypeM} {L : List ExtM} (hk : t.kind = 8) {p : PartM} (hps : ∀ q ∈ t.parts, extG (atE L q.ty)) (hp : extG (atE L p.ty)) :
    (extM t L).most ≤ (extM ⟨t.kind, t.n, t.elem, t.parts ++ [p]⟩ L).most ∧ (extM t L).least ≤ (extM ⟨t.kind, t.n, t.elem, t.parts ++ [p]⟩ L).least ∧ ((extM ⟨t.kind, t.n, t.elem, t.parts ++ [p]⟩ L).fixed = true → (extM t L).fixed = true) := by
  have e1 : extM t L = str L t.parts ⟨true, 0, 0, 1⟩ := by unfold extM; simp only [hk]; rfl
  have e2 : extM ⟨t.kind, t.n, t.elem, t.parts ++ [p]⟩ L = stepS L (str L t.parts ⟨true, 0, 0, 1⟩) p := by unfold extM; simp only [hk]; exact str_snoc _ _ _ _
  rw [e1, e2]
  obtain ⟨g1, _⟩ := str_good t.parts ⟨true, 0, 0, 1⟩ hps (by decide)
  obtain ⟨_, s2, s3, _, s5, _⟩ := step_ge hp g1
  exact ⟨s3, s2, s5⟩
end Go.Proofs.Ytfgacgpicfknpaa
end
section
namespace Go.Proofs.Ytfgacgpicfknpaa
open Go.RowKit
theorem exts_take' (ts : List TypeM) : ∀ k, k ≤ ts.length → (exts ts).take k = exts (ts.take k) := by
  have h : ∀ (l m : List TypeM), ∃ r, exts (l ++ m) = exts l ++ r := by
    intro l m
    induction m generalizing l with
    | nil => exact ⟨[], by simp⟩
    | cons x m ih =>
      obtain ⟨r, hr⟩ := ih (l ++ [x])
      have h1 : exts (l ++ [x]) = exts l ++ [extM x (exts l)] := by rw [exts, List.foldl_append]; rfl
      exact ⟨extM x (exts l) :: r, by rw [show l ++ x :: m = (l ++ [x]) ++ m by simp, hr, h1]; simp⟩
  intro k hk
  obtain ⟨r, hr⟩ := h (ts.take k) (ts.drop k)
  rw [List.take_append_drop] at hr
  have hl := exts_len ts k hk
  rw [hr, List.take_append_of_le_length (by omega), List.take_of_length_le (by omega)]
theorem exts_length (ts : List TypeM) : (exts ts).length = ts.length := by
  have := exts_len ts ts.length (Nat.le_refl _)
  rwa [List.take_length] at this
theorem exts_at {ts : List TypeM} {k : Nat} (h : k < ts.length) : (exts ts)[k]'(by rw [exts_length]; exact h) = extM ts[k] (exts (ts.take k)) := by
  have h1 := exts_succ h
  have h2 := exts_take' ts (k + 1) h
  have hl := exts_len ts k (by omega)
  have h3 : (exts ts)[k]? = some (extM ts[k] (exts (ts.take k))) := by
    rw [← List.getElem?_take_of_lt (show k < k + 1 by omega), h2, h1, List.getElem?_append_right (by omega), hl]
    simp
  rw [List.getElem?_eq_getElem (by rw [exts_length]; exact h)] at h3
  exact Option.some.inj h3
theorem exts_good {ts : List TypeM} (hr : ∀ (k : Nat) (h : k < ts.length), rightOK ts[k] k = true) : ∀ k, k ≤ ts.length → ∀ e ∈ exts (ts.take k), extG e
  | 0, _ => fun e he => by cases he
  | k + 1, hk => fun e he => by
    have ih := exts_good hr k (by omega)
    rw [exts_succ (by omega)] at he
    rcases List.mem_append.1 he with he | he
    · exact ih e he
    · rw [List.mem_singleton] at he
      subst he
      exact (extM_good (by rw [exts_len ts k (by omega)]; exact hr k (by omega)) ih).1
theorem atE_front {ts : List TypeM} {k : Nat} (hk : k ≤ ts.length) {i : Int} (h0 : 0 ≤ i) (h1 : i < k) : atE (exts (ts.take k)) i = atE (exts ts) i := by
  rw [← exts_take' ts k hk, atE, atE, List.getElem?_take_of_lt (by omega)]
theorem atE_get {L : List ExtM} {i : Int} (h1 : i.toNat < L.length) : atE L i = L[i.toNat] := by
  rw [atE, List.getElem?_eq_getElem h1]; rfl
/-- what is said of each extent -/
theorem exts_said {ts : List TypeM} (hr : ∀ (k : Nat) (h : k < ts.length), rightOK ts[k] k = true) {k : Nat} (hk : k < ts.length) :
    extG ((exts ts)[k]'(by rw [exts_length]; exact hk)) ∧ ∀ p ∈ ts[k].parts, (0 ≤ p.ty ∧ p.ty < k) ∧ (atE (exts ts) p.ty).most ≤ ((exts ts)[k]'(by rw [exts_length]; exact hk)).most ∧
      (atE (exts ts) p.ty).depth < ((exts ts)[k]'(by rw [exts_length]; exact hk)).depth ∧ (((exts ts)[k]'(by rw [exts_length]; exact hk)).fixed = true → (atE (exts ts) p.ty).fixed = true) := by
  rw [exts_at hk]
  obtain ⟨g1, g2⟩ := extM_good (t := ts[k]) (L := exts (ts.take k)) (by rw [exts_len ts k (by omega)]; exact hr k hk) (exts_good hr k (by omega))
  refine ⟨g1, fun p hp => ?_⟩
  have ht := (rightOK_ty (hr k hk)).2 p hp
  rw [← atE_front (by omega : k ≤ ts.length) ht.1 ht.2]
  exact ⟨ht, g2 p hp⟩
theorem atE_nat {L : List ExtM} {k : Nat} (h : k < L.length) : atE L (k : Int) = L[k] := by
  rw [atE, Int.toNat_natCast, List.getElem?_eq_getElem h]; rfl
theorem exts_told {ts : List TypeM} (hr : ∀ (k : Nat) (h : k < ts.length), rightOK ts[k] k = true) {k : Nat} (hk : k < ts.length) :
    extG (atE (exts ts) k) ∧ ∀ p ∈ ts[k].parts, (0 ≤ p.ty ∧ p.ty < k) ∧ (atE (exts ts) p.ty).most ≤ (atE (exts ts) k).most ∧
      (atE (exts ts) p.ty).depth < (atE (exts ts) k).depth ∧ ((atE (exts ts) k).fixed = true → (atE (exts ts) p.ty).fixed = true) := by
  rw [atE_nat (by rw [exts_length]; exact hk)]; exact exts_said hr hk
theorem encEs_at {L : List ExtM} {k : Nat} (h : k < L.length) : (encEs L)[k]? = some [vB (atE L k).fixed, vI (atE L k).least, vI (atE L k).most, vI (atE L k).depth] := by
  rw [encEs_get h, atE_nat h]
theorem encEs_atI {L : List ExtM} {i : Int} (h0 : 0 ≤ i) (h : i < L.length) : (encEs L)[i.toNat]? = some [vB (atE L i).fixed, vI (atE L i).least, vI (atE L i).most, vI (atE L i).depth] := by
  rw [encEs_at (by omega), Int.toNat_of_nonneg h0]
theorem exts_set {ts : List TypeM} {k : Nat} (h : k < ts.length) (y : TypeM) : (exts (ts.set k y))[k]'(by rw [exts_length, List.length_set]; exact h) = extM y (exts (ts.take k)) := by
  rw [exts_at (by rw [List.length_set]; exact h), List.getElem_set_self, List.take_set_of_le (Nat.le_refl _)]
end Go.Proofs.Ytfgacgpicfknpaa
end

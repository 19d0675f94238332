import Derived.Test.YtfgacgpicfknpaaRows
import Derived.ProofKit
import Derived.OpenShut
import Derived.ShutString
import Derived.ChangeOld
import Derived.Deep.Slices
import Derived.JoinedCond
import Derived.Test.YtfgacgpicfknpaaP10
set_option linter.all false
section
namespace Go.Proofs.Ytfgacgpicfknpaa
open Go.RowKit
set_option maxRecDepth 100000
set_option maxHeartbeats 8000000
/-! size.Lengths and size.Length. -/
def lensF (ts : List TypeM) (rs : List RootM) (t : Int) (V : List NodeM) : List Int × Int :=
  if (checkF ts rs).1 ≠ 0 then ([], (checkF ts rs).1)
  else if t < 0 ∨ (ts.length : Int) ≤ t then ([], 3)
  else if (valW ts (exts ts) V ts.length t.toNat []).2.1 = true ∧ (valW ts (exts ts) V ts.length t.toNat []).2.2.length = V.length then ((valW ts (exts ts) V ts.length t.toNat []).2.2, 0) else ([], 40)
theorem wok_of {ts : List TypeM} {rs : List RootM} {V : List NodeM} (h : (checkF ts rs).1 = 0) (hts : ts.length ≤ 1000000000) (hp : ∀ t ∈ ts, t.parts.length ≤ 1000000000) (hV : V.length ≤ 1000000000) (hv : ∀ x ∈ V, nodeOK x) : WOK ts rs (exts ts) V :=
  have hr := check_right h
  { nts := hts, nV := hV, nX := by have := exts_len ts ts.length (Nat.le_refl _); rwa [List.take_length] at this,
    ok := fun e he => (exts_ok h hts ts.length (Nat.le_refl _) e (by rw [List.take_length]; exact he)).1,
    right := hr, parts := hp, node := hv }
def obI (d : Nat) (l : List Int) : List (Nat × AObj) := [(d, .row 3 1 (v8 l))]
theorem up_nI (d : Nat) (e : Int) : (AV.tup [.v (.slice none 0 0), .v (.int .i64 e)]).up (.tup [.ref 3 1 d 0 0, vI e]) := AV.up_tup (AV.up_cons (AV.up_nilref _ _ _ _) (AV.up_cons (AV.up_rfl _) AV.up_nilL))
theorem lens_G (ts : List TypeM) (rs : List RootM) (hts : ts.length ≤ 1000000000) (hrs : rs.length ≤ 1000000000) (hp : ∀ t ∈ ts, t.parts.length ≤ 1000000000) (t : Int) (ht : I64 t) (V : List NodeM) (hV : V.length ≤ 1000000000) (hv : ∀ x ∈ V, nodeOK x) :
    GCall Try.prog 28 [vSch ts rs, vI t, .lst 3 (encNs V)] [] (.tup [.ref 3 1 8000 0 (lensF ts rs t V).1.length, vI (lensF ts rs t V).2]) (obI 8000 (lensF ts rs t V).1) := by
  refine go_fnG (tyOf_ok _) Try.func28 rfl rfl (by rw [Try.results28]) Try.ntmps28 rfl fun E => ?_
  have hc := sizeOf_any ts rs hts hrs hp
  by_cases h0 : (checkF ts rs).1 = 0
  case neg =>
    rw [lensF, if_pos h0]
    rw [sizesF, if_pos h0] at hc
    have e1 : ((checkF ts rs).1 = 0) = False := eq_false h0
    generalize (checkF ts rs).1 = e at *
    (repeat' (first
    | exact trivial
    | (with_reducible first | refine aw_seq ?_ | refine aw_block ?_ | refine aw_skip ?_ | refine aw_ret ?_ | refine aw_exit ?_ | refine aseq_normal ?_ | refine aseq_ret ?_ | refine aseq_exit ?_ | refine ablk_normal ?_ | refine ablk_ret ?_ | refine ablk_hit ?_ | refine aw_region ?_ | refine go_nil ?_ | refine al_of ?_)
    | with_reducible refine ablk_miss (by decide) ?_
    | ((with_reducible refine al_id ?_); refine go_run (tyOf_ok _) [] (by simp only [go_sem, Nat.reduceBEq, Nat.reduceBneDiff, Nat.reduceLT, Nat.reduceLeDiff, Nat.reduceAdd, Nat.reduceMul, Nat.reduceSub, Nat.reduceEqDiff, reduceCtorEq, vSch, encTs_len, encNs_len, e1]; exact rfl) ?_ ?_)
    | (refine aw_cond (by simp only [go_sem, Nat.reduceBEq, Nat.reduceBneDiff, Nat.reduceLT, Nat.reduceLeDiff, Nat.reduceAdd, Nat.reduceMul, Nat.reduceSub, Nat.reduceEqDiff, reduceCtorEq, vSch, encTs_len, encNs_len, e1]; exact rfl) (by simp only [go_sem, Nat.reduceBEq, Nat.reduceBneDiff, Nat.reduceLT, Nat.reduceLeDiff, Nat.reduceAdd, Nat.reduceMul, Nat.reduceSub, Nat.reduceEqDiff, reduceCtorEq]) (fun h => ?_) (fun h => ?_) <;> (try simp only [decide_eq_true_eq, decide_eq_false_iff_not, Bool.not_eq_true', Bool.not_eq_false', Bool.or_eq_true, Bool.or_eq_false_iff, Bool.and_eq_true, Bool.and_eq_false_iff, Decidable.not_not, reduceCtorEq] at h) <;> (try (exfalso; omega)))
    | (first | refine aendG_ret (by simp only [go_sem, Nat.reduceBEq, Nat.reduceBneDiff, Nat.reduceLT, Nat.reduceLeDiff, Nat.reduceAdd, Nat.reduceMul, Nat.reduceSub, Nat.reduceEqDiff, reduceCtorEq, vSch, encTs_len, encNs_len, e1]; exact rfl) ?_ ?_ ?_ | refine aendG_normal (by simp only [go_sem, Nat.reduceBEq, Nat.reduceBneDiff, Nat.reduceLT, Nat.reduceLeDiff, Nat.reduceAdd, Nat.reduceMul, Nat.reduceSub, Nat.reduceEqDiff, reduceCtorEq, vSch, encTs_len, encNs_len, e1]; exact rfl) ?_ ?_ ?_)
    | (refine go_call1 (by simp only [go_sem, Nat.reduceBEq, Nat.reduceBneDiff, Nat.reduceLT, Nat.reduceLeDiff, Nat.reduceAdd, Nat.reduceMul, Nat.reduceSub, Nat.reduceEqDiff, reduceCtorEq, vSch, encTs_len, encNs_len, e1]; exact rfl) ?_ rfl (by simp only [go_sem, Nat.reduceBEq, Nat.reduceBneDiff, Nat.reduceLT, Nat.reduceLeDiff, Nat.reduceAdd, Nat.reduceMul, Nat.reduceSub, Nat.reduceEqDiff, reduceCtorEq, vSch, encTs_len, encNs_len, e1]) (by simp only [go_sem, Nat.reduceBEq, Nat.reduceBneDiff, Nat.reduceLT, Nat.reduceLeDiff, Nat.reduceAdd, Nat.reduceMul, Nat.reduceSub, Nat.reduceEqDiff, reduceCtorEq, vSch, encTs_len, encNs_len, e1]) (hc) ?_) | fail)) <;> (try omega)
    · exact up_nI _ _
    · exact obUp_row0 obUp_nil
  rw [sizesF, if_neg (by rw [h0]; decide)] at hc
  rw [lensF, if_neg (by rw [h0]; decide)]
  have W := wok_of (V := V) h0 hts hp hV hv
  by_cases h1 : t < 0
  · have e1 : (t < 0) = True := eq_true h1
    rw [if_pos (.inl h1)]
    (repeat' (first
    | exact trivial
    | (with_reducible first | refine aw_seq ?_ | refine aw_block ?_ | refine aw_skip ?_ | refine aw_ret ?_ | refine aw_exit ?_ | refine aseq_normal ?_ | refine aseq_ret ?_ | refine aseq_exit ?_ | refine ablk_normal ?_ | refine ablk_ret ?_ | refine ablk_hit ?_ | refine aw_region ?_ | refine go_nil ?_ | refine al_of ?_)
    | with_reducible refine ablk_miss (by decide) ?_
    | ((with_reducible refine al_id ?_); refine go_run (tyOf_ok _) [] (by simp only [go_sem, Nat.reduceBEq, Nat.reduceBneDiff, Nat.reduceLT, Nat.reduceLeDiff, Nat.reduceAdd, Nat.reduceMul, Nat.reduceSub, Nat.reduceEqDiff, reduceCtorEq, vSch, encTs_len, encNs_len, e1]; exact rfl) ?_ ?_)
    | (refine aw_cond (by simp only [go_sem, Nat.reduceBEq, Nat.reduceBneDiff, Nat.reduceLT, Nat.reduceLeDiff, Nat.reduceAdd, Nat.reduceMul, Nat.reduceSub, Nat.reduceEqDiff, reduceCtorEq, vSch, encTs_len, encNs_len, e1]; exact rfl) (by simp only [go_sem, Nat.reduceBEq, Nat.reduceBneDiff, Nat.reduceLT, Nat.reduceLeDiff, Nat.reduceAdd, Nat.reduceMul, Nat.reduceSub, Nat.reduceEqDiff, reduceCtorEq]) (fun h => ?_) (fun h => ?_) <;> (try simp only [decide_eq_true_eq, decide_eq_false_iff_not, Bool.not_eq_true', Bool.not_eq_false', Bool.or_eq_true, Bool.or_eq_false_iff, Bool.and_eq_true, Bool.and_eq_false_iff, Decidable.not_not, reduceCtorEq] at h) <;> (try (exfalso; omega)))
    | (first | refine aendG_ret (by simp only [go_sem, Nat.reduceBEq, Nat.reduceBneDiff, Nat.reduceLT, Nat.reduceLeDiff, Nat.reduceAdd, Nat.reduceMul, Nat.reduceSub, Nat.reduceEqDiff, reduceCtorEq, vSch, encTs_len, encNs_len, e1]; exact rfl) ?_ ?_ ?_ | refine aendG_normal (by simp only [go_sem, Nat.reduceBEq, Nat.reduceBneDiff, Nat.reduceLT, Nat.reduceLeDiff, Nat.reduceAdd, Nat.reduceMul, Nat.reduceSub, Nat.reduceEqDiff, reduceCtorEq, vSch, encTs_len, encNs_len, e1]; exact rfl) ?_ ?_ ?_)
    | (refine go_call1 (by simp only [go_sem, Nat.reduceBEq, Nat.reduceBneDiff, Nat.reduceLT, Nat.reduceLeDiff, Nat.reduceAdd, Nat.reduceMul, Nat.reduceSub, Nat.reduceEqDiff, reduceCtorEq, vSch, encTs_len, encNs_len, e1]; exact rfl) ?_ rfl (by simp only [go_sem, Nat.reduceBEq, Nat.reduceBneDiff, Nat.reduceLT, Nat.reduceLeDiff, Nat.reduceAdd, Nat.reduceMul, Nat.reduceSub, Nat.reduceEqDiff, reduceCtorEq, vSch, encTs_len, encNs_len, e1]) (by simp only [go_sem, Nat.reduceBEq, Nat.reduceBneDiff, Nat.reduceLT, Nat.reduceLeDiff, Nat.reduceAdd, Nat.reduceMul, Nat.reduceSub, Nat.reduceEqDiff, reduceCtorEq, vSch, encTs_len, encNs_len, e1]) (hc) ?_) | fail)) <;> (try omega)
    · exact up_nI _ _
    · exact obUp_row0 obUp_nil
  have e1 : (t < 0) = False := eq_false h1
  by_cases h2 : (ts.length : Int) ≤ t
  · have e2 : ((ts.length : Int) ≤ t) = True := eq_true h2
    rw [if_pos (.inr h2)]
    (repeat' (first
    | exact trivial
    | (with_reducible first | refine aw_seq ?_ | refine aw_block ?_ | refine aw_skip ?_ | refine aw_ret ?_ | refine aw_exit ?_ | refine aseq_normal ?_ | refine aseq_ret ?_ | refine aseq_exit ?_ | refine ablk_normal ?_ | refine ablk_ret ?_ | refine ablk_hit ?_ | refine aw_region ?_ | refine go_nil ?_ | refine al_of ?_)
    | with_reducible refine ablk_miss (by decide) ?_
    | ((with_reducible refine al_id ?_); refine go_run (tyOf_ok _) [] (by simp only [go_sem, Nat.reduceBEq, Nat.reduceBneDiff, Nat.reduceLT, Nat.reduceLeDiff, Nat.reduceAdd, Nat.reduceMul, Nat.reduceSub, Nat.reduceEqDiff, reduceCtorEq, vSch, encTs_len, encNs_len, e1, e2]; exact rfl) ?_ ?_)
    | (refine aw_cond (by simp only [go_sem, Nat.reduceBEq, Nat.reduceBneDiff, Nat.reduceLT, Nat.reduceLeDiff, Nat.reduceAdd, Nat.reduceMul, Nat.reduceSub, Nat.reduceEqDiff, reduceCtorEq, vSch, encTs_len, encNs_len, e1, e2]; exact rfl) (by simp only [go_sem, Nat.reduceBEq, Nat.reduceBneDiff, Nat.reduceLT, Nat.reduceLeDiff, Nat.reduceAdd, Nat.reduceMul, Nat.reduceSub, Nat.reduceEqDiff, reduceCtorEq]) (fun h => ?_) (fun h => ?_) <;> (try simp only [decide_eq_true_eq, decide_eq_false_iff_not, Bool.not_eq_true', Bool.not_eq_false', Bool.or_eq_true, Bool.or_eq_false_iff, Bool.and_eq_true, Bool.and_eq_false_iff, Decidable.not_not, reduceCtorEq] at h) <;> (try (exfalso; omega)))
    | (first | refine aendG_ret (by simp only [go_sem, Nat.reduceBEq, Nat.reduceBneDiff, Nat.reduceLT, Nat.reduceLeDiff, Nat.reduceAdd, Nat.reduceMul, Nat.reduceSub, Nat.reduceEqDiff, reduceCtorEq, vSch, encTs_len, encNs_len, e1, e2]; exact rfl) ?_ ?_ ?_ | refine aendG_normal (by simp only [go_sem, Nat.reduceBEq, Nat.reduceBneDiff, Nat.reduceLT, Nat.reduceLeDiff, Nat.reduceAdd, Nat.reduceMul, Nat.reduceSub, Nat.reduceEqDiff, reduceCtorEq, vSch, encTs_len, encNs_len, e1, e2]; exact rfl) ?_ ?_ ?_)
    | (refine go_call1 (by simp only [go_sem, Nat.reduceBEq, Nat.reduceBneDiff, Nat.reduceLT, Nat.reduceLeDiff, Nat.reduceAdd, Nat.reduceMul, Nat.reduceSub, Nat.reduceEqDiff, reduceCtorEq, vSch, encTs_len, encNs_len, e1, e2]; exact rfl) ?_ rfl (by simp only [go_sem, Nat.reduceBEq, Nat.reduceBneDiff, Nat.reduceLT, Nat.reduceLeDiff, Nat.reduceAdd, Nat.reduceMul, Nat.reduceSub, Nat.reduceEqDiff, reduceCtorEq, vSch, encTs_len, encNs_len, e1, e2]) (by simp only [go_sem, Nat.reduceBEq, Nat.reduceBneDiff, Nat.reduceLT, Nat.reduceLeDiff, Nat.reduceAdd, Nat.reduceMul, Nat.reduceSub, Nat.reduceEqDiff, reduceCtorEq, vSch, encTs_len, encNs_len, e1, e2]) (hc) ?_) | fail)) <;> (try omega)
    · exact up_nI _ _
    · exact obUp_row0 obUp_nil
  have e2 : ((ts.length : Int) ≤ t) = False := eq_false h2
  rw [if_neg (by omega)]
  have hw := (value_any W ts.length t.toNat (by omega) (by omega) [] (Nat.zero_le _))
  rw [Int.toNat_of_nonneg (by omega)] at hw
  obtain ⟨hw, hb⟩ := hw
  generalize valW ts (exts ts) V ts.length t.toNat [] = r at *
  obtain ⟨n, ok, ls⟩ := r
  dsimp only at hw ⊢
  cases ok with
  | false =>
    rw [if_neg (by simp)]
    (repeat' (first
    | exact trivial
    | (refine aw_nilvar 34 5 3 1 8000 (.inl (by decide)) (by decide) rfl rfl ?_)
    | (with_reducible first | refine aw_seq ?_ | refine aw_block ?_ | refine aw_skip ?_ | refine aw_ret ?_ | refine aw_exit ?_ | refine aseq_normal ?_ | refine aseq_ret ?_ | refine aseq_exit ?_ | refine ablk_normal ?_ | refine ablk_ret ?_ | refine ablk_hit ?_ | refine aw_region ?_ | refine go_nil ?_ | refine al_of ?_)
    | with_reducible refine ablk_miss (by decide) ?_
    | ((with_reducible refine al_id ?_); refine go_run (tyOf_ok _) [] (by simp only [go_sem, Nat.reduceBEq, Nat.reduceBneDiff, Nat.reduceLT, Nat.reduceLeDiff, Nat.reduceAdd, Nat.reduceMul, Nat.reduceSub, Nat.reduceEqDiff, reduceCtorEq, AState.nilvar, List.set_cons_succ, List.set_cons_zero, vSch, encTs_len, encNs_len, e1, e2, wob, tupR, v8_nil]; exact rfl) ?_ ?_)
    | (refine aw_cond (by simp only [go_sem, Nat.reduceBEq, Nat.reduceBneDiff, Nat.reduceLT, Nat.reduceLeDiff, Nat.reduceAdd, Nat.reduceMul, Nat.reduceSub, Nat.reduceEqDiff, reduceCtorEq, AState.nilvar, List.set_cons_succ, List.set_cons_zero, vSch, encTs_len, encNs_len, e1, e2, wob, tupR, v8_nil]; exact rfl) (by simp only [go_sem, Nat.reduceBEq, Nat.reduceBneDiff, Nat.reduceLT, Nat.reduceLeDiff, Nat.reduceAdd, Nat.reduceMul, Nat.reduceSub, Nat.reduceEqDiff, reduceCtorEq]) (fun h => ?_) (fun h => ?_) <;> (try simp only [decide_eq_true_eq, decide_eq_false_iff_not, Bool.not_eq_true', Bool.not_eq_false', Bool.or_eq_true, Bool.or_eq_false_iff, Bool.and_eq_true, Bool.and_eq_false_iff, Decidable.not_not, reduceCtorEq] at h) <;> (try (exfalso; omega)))
    | (first | refine aendG_ret (by simp only [go_sem, Nat.reduceBEq, Nat.reduceBneDiff, Nat.reduceLT, Nat.reduceLeDiff, Nat.reduceAdd, Nat.reduceMul, Nat.reduceSub, Nat.reduceEqDiff, reduceCtorEq, AState.nilvar, List.set_cons_succ, List.set_cons_zero, vSch, encTs_len, encNs_len, e1, e2, wob, tupR, v8_nil]; exact rfl) ?_ ?_ ?_ | refine aendG_normal (by simp only [go_sem, Nat.reduceBEq, Nat.reduceBneDiff, Nat.reduceLT, Nat.reduceLeDiff, Nat.reduceAdd, Nat.reduceMul, Nat.reduceSub, Nat.reduceEqDiff, reduceCtorEq, AState.nilvar, List.set_cons_succ, List.set_cons_zero, vSch, encTs_len, encNs_len, e1, e2, wob, tupR, v8_nil]; exact rfl) ?_ ?_ ?_)
    | (refine go_call1 (by simp only [go_sem, Nat.reduceBEq, Nat.reduceBneDiff, Nat.reduceLT, Nat.reduceLeDiff, Nat.reduceAdd, Nat.reduceMul, Nat.reduceSub, Nat.reduceEqDiff, reduceCtorEq, AState.nilvar, List.set_cons_succ, List.set_cons_zero, vSch, encTs_len, encNs_len, e1, e2, wob, tupR, v8_nil]; exact rfl) ?_ rfl (by simp only [go_sem, Nat.reduceBEq, Nat.reduceBneDiff, Nat.reduceLT, Nat.reduceLeDiff, Nat.reduceAdd, Nat.reduceMul, Nat.reduceSub, Nat.reduceEqDiff, reduceCtorEq, AState.nilvar, List.set_cons_succ, List.set_cons_zero, vSch, encTs_len, encNs_len, e1, e2, wob, tupR, v8_nil]) (by simp only [go_sem, Nat.reduceBEq, Nat.reduceBneDiff, Nat.reduceLT, Nat.reduceLeDiff, Nat.reduceAdd, Nat.reduceMul, Nat.reduceSub, Nat.reduceEqDiff, reduceCtorEq, AState.nilvar, List.set_cons_succ, List.set_cons_zero, vSch, encTs_len, encNs_len, e1, e2, wob, tupR, v8_nil]) (hc) ?_)
    | (refine go_callG [(34, 10000), (8000, 15000)] [(10000, 34), (15000, 8000)] [8000] [34] (by simp only [go_sem, Nat.reduceBEq, Nat.reduceBneDiff, Nat.reduceLT, Nat.reduceLeDiff, Nat.reduceAdd, Nat.reduceMul, Nat.reduceSub, Nat.reduceEqDiff, reduceCtorEq, AState.nilvar, List.set_cons_succ, List.set_cons_zero, vSch, encTs_len, encNs_len, e1, e2, wob, tupR, v8_nil]; exact rfl) ?_ rfl rfl (by first | exact .inl rfl | exact .inr rfl) (by simp only [go_sem, Nat.reduceBEq, Nat.reduceBneDiff, Nat.reduceLT, Nat.reduceLeDiff, Nat.reduceAdd, Nat.reduceMul, Nat.reduceSub, Nat.reduceEqDiff, reduceCtorEq, AState.nilvar, List.set_cons_succ, List.set_cons_zero, vSch, encTs_len, encNs_len, e1, e2, wob, tupR, v8_nil] <;> exact rfl) (hw) (.inl rfl) ?_) | fail)) <;> (try omega)
    · exact up_nI _ _
    · exact obUp_row0 obUp_nil
  | true =>
    by_cases hl : ls.length = V.length
    · have e3 : ((ls.length : Int) = V.length) = True := eq_true (by omega)
      rw [if_pos ⟨rfl, hl⟩]
      (repeat' (first
    | exact trivial
    | (refine aw_nilvar 34 5 3 1 8000 (.inl (by decide)) (by decide) rfl rfl ?_)
    | (with_reducible first | refine aw_seq ?_ | refine aw_block ?_ | refine aw_skip ?_ | refine aw_ret ?_ | refine aw_exit ?_ | refine aseq_normal ?_ | refine aseq_ret ?_ | refine aseq_exit ?_ | refine ablk_normal ?_ | refine ablk_ret ?_ | refine ablk_hit ?_ | refine aw_region ?_ | refine go_nil ?_ | refine al_of ?_)
    | with_reducible refine ablk_miss (by decide) ?_
    | ((with_reducible refine al_id ?_); refine go_run (tyOf_ok _) [] (by simp only [go_sem, Nat.reduceBEq, Nat.reduceBneDiff, Nat.reduceLT, Nat.reduceLeDiff, Nat.reduceAdd, Nat.reduceMul, Nat.reduceSub, Nat.reduceEqDiff, reduceCtorEq, AState.nilvar, List.set_cons_succ, List.set_cons_zero, vSch, encTs_len, encNs_len, e1, e2, e3, wob, tupR, v8_nil]; exact rfl) ?_ ?_)
    | (refine aw_cond (by simp only [go_sem, Nat.reduceBEq, Nat.reduceBneDiff, Nat.reduceLT, Nat.reduceLeDiff, Nat.reduceAdd, Nat.reduceMul, Nat.reduceSub, Nat.reduceEqDiff, reduceCtorEq, AState.nilvar, List.set_cons_succ, List.set_cons_zero, vSch, encTs_len, encNs_len, e1, e2, e3, wob, tupR, v8_nil]; exact rfl) (by simp only [go_sem, Nat.reduceBEq, Nat.reduceBneDiff, Nat.reduceLT, Nat.reduceLeDiff, Nat.reduceAdd, Nat.reduceMul, Nat.reduceSub, Nat.reduceEqDiff, reduceCtorEq]) (fun h => ?_) (fun h => ?_) <;> (try simp only [decide_eq_true_eq, decide_eq_false_iff_not, Bool.not_eq_true', Bool.not_eq_false', Bool.or_eq_true, Bool.or_eq_false_iff, Bool.and_eq_true, Bool.and_eq_false_iff, Decidable.not_not, reduceCtorEq] at h) <;> (try (exfalso; omega)))
    | (first | refine aendG_ret (by simp only [go_sem, Nat.reduceBEq, Nat.reduceBneDiff, Nat.reduceLT, Nat.reduceLeDiff, Nat.reduceAdd, Nat.reduceMul, Nat.reduceSub, Nat.reduceEqDiff, reduceCtorEq, AState.nilvar, List.set_cons_succ, List.set_cons_zero, vSch, encTs_len, encNs_len, e1, e2, e3, wob, tupR, v8_nil]; exact rfl) ?_ ?_ ?_ | refine aendG_normal (by simp only [go_sem, Nat.reduceBEq, Nat.reduceBneDiff, Nat.reduceLT, Nat.reduceLeDiff, Nat.reduceAdd, Nat.reduceMul, Nat.reduceSub, Nat.reduceEqDiff, reduceCtorEq, AState.nilvar, List.set_cons_succ, List.set_cons_zero, vSch, encTs_len, encNs_len, e1, e2, e3, wob, tupR, v8_nil]; exact rfl) ?_ ?_ ?_)
    | (refine go_call1 (by simp only [go_sem, Nat.reduceBEq, Nat.reduceBneDiff, Nat.reduceLT, Nat.reduceLeDiff, Nat.reduceAdd, Nat.reduceMul, Nat.reduceSub, Nat.reduceEqDiff, reduceCtorEq, AState.nilvar, List.set_cons_succ, List.set_cons_zero, vSch, encTs_len, encNs_len, e1, e2, e3, wob, tupR, v8_nil]; exact rfl) ?_ rfl (by simp only [go_sem, Nat.reduceBEq, Nat.reduceBneDiff, Nat.reduceLT, Nat.reduceLeDiff, Nat.reduceAdd, Nat.reduceMul, Nat.reduceSub, Nat.reduceEqDiff, reduceCtorEq, AState.nilvar, List.set_cons_succ, List.set_cons_zero, vSch, encTs_len, encNs_len, e1, e2, e3, wob, tupR, v8_nil]) (by simp only [go_sem, Nat.reduceBEq, Nat.reduceBneDiff, Nat.reduceLT, Nat.reduceLeDiff, Nat.reduceAdd, Nat.reduceMul, Nat.reduceSub, Nat.reduceEqDiff, reduceCtorEq, AState.nilvar, List.set_cons_succ, List.set_cons_zero, vSch, encTs_len, encNs_len, e1, e2, e3, wob, tupR, v8_nil]) (hc) ?_)
    | (refine go_callG [(34, 10000), (8000, 15000)] [(10000, 34), (15000, 8000)] [8000] [34] (by simp only [go_sem, Nat.reduceBEq, Nat.reduceBneDiff, Nat.reduceLT, Nat.reduceLeDiff, Nat.reduceAdd, Nat.reduceMul, Nat.reduceSub, Nat.reduceEqDiff, reduceCtorEq, AState.nilvar, List.set_cons_succ, List.set_cons_zero, vSch, encTs_len, encNs_len, e1, e2, e3, wob, tupR, v8_nil]; exact rfl) ?_ rfl rfl (by first | exact .inl rfl | exact .inr rfl) (by simp only [go_sem, Nat.reduceBEq, Nat.reduceBneDiff, Nat.reduceLT, Nat.reduceLeDiff, Nat.reduceAdd, Nat.reduceMul, Nat.reduceSub, Nat.reduceEqDiff, reduceCtorEq, AState.nilvar, List.set_cons_succ, List.set_cons_zero, vSch, encTs_len, encNs_len, e1, e2, e3, wob, tupR, v8_nil] <;> exact rfl) (hw) (.inl rfl) ?_) | fail)) <;> (try omega)
      · exact AV.up_rfl _
      · exact obUp_cons rfl obUp_nil
    · have e3 : ((ls.length : Int) = V.length) = False := eq_false (by omega)
      rw [if_neg (by rintro ⟨_, h⟩; exact hl h)]
      (repeat' (first
    | exact trivial
    | (refine aw_nilvar 34 5 3 1 8000 (.inl (by decide)) (by decide) rfl rfl ?_)
    | (with_reducible first | refine aw_seq ?_ | refine aw_block ?_ | refine aw_skip ?_ | refine aw_ret ?_ | refine aw_exit ?_ | refine aseq_normal ?_ | refine aseq_ret ?_ | refine aseq_exit ?_ | refine ablk_normal ?_ | refine ablk_ret ?_ | refine ablk_hit ?_ | refine aw_region ?_ | refine go_nil ?_ | refine al_of ?_)
    | with_reducible refine ablk_miss (by decide) ?_
    | ((with_reducible refine al_id ?_); refine go_run (tyOf_ok _) [] (by simp only [go_sem, Nat.reduceBEq, Nat.reduceBneDiff, Nat.reduceLT, Nat.reduceLeDiff, Nat.reduceAdd, Nat.reduceMul, Nat.reduceSub, Nat.reduceEqDiff, reduceCtorEq, AState.nilvar, List.set_cons_succ, List.set_cons_zero, vSch, encTs_len, encNs_len, e1, e2, e3, wob, tupR, v8_nil]; exact rfl) ?_ ?_)
    | (refine aw_cond (by simp only [go_sem, Nat.reduceBEq, Nat.reduceBneDiff, Nat.reduceLT, Nat.reduceLeDiff, Nat.reduceAdd, Nat.reduceMul, Nat.reduceSub, Nat.reduceEqDiff, reduceCtorEq, AState.nilvar, List.set_cons_succ, List.set_cons_zero, vSch, encTs_len, encNs_len, e1, e2, e3, wob, tupR, v8_nil]; exact rfl) (by simp only [go_sem, Nat.reduceBEq, Nat.reduceBneDiff, Nat.reduceLT, Nat.reduceLeDiff, Nat.reduceAdd, Nat.reduceMul, Nat.reduceSub, Nat.reduceEqDiff, reduceCtorEq]) (fun h => ?_) (fun h => ?_) <;> (try simp only [decide_eq_true_eq, decide_eq_false_iff_not, Bool.not_eq_true', Bool.not_eq_false', Bool.or_eq_true, Bool.or_eq_false_iff, Bool.and_eq_true, Bool.and_eq_false_iff, Decidable.not_not, reduceCtorEq] at h) <;> (try (exfalso; omega)))
    | (first | refine aendG_ret (by simp only [go_sem, Nat.reduceBEq, Nat.reduceBneDiff, Nat.reduceLT, Nat.reduceLeDiff, Nat.reduceAdd, Nat.reduceMul, Nat.reduceSub, Nat.reduceEqDiff, reduceCtorEq, AState.nilvar, List.set_cons_succ, List.set_cons_zero, vSch, encTs_len, encNs_len, e1, e2, e3, wob, tupR, v8_nil]; exact rfl) ?_ ?_ ?_ | refine aendG_normal (by simp only [go_sem, Nat.reduceBEq, Nat.reduceBneDiff, Nat.reduceLT, Nat.reduceLeDiff, Nat.reduceAdd, Nat.reduceMul, Nat.reduceSub, Nat.reduceEqDiff, reduceCtorEq, AState.nilvar, List.set_cons_succ, List.set_cons_zero, vSch, encTs_len, encNs_len, e1, e2, e3, wob, tupR, v8_nil]; exact rfl) ?_ ?_ ?_)
    | (refine go_call1 (by simp only [go_sem, Nat.reduceBEq, Nat.reduceBneDiff, Nat.reduceLT, Nat.reduceLeDiff, Nat.reduceAdd, Nat.reduceMul, Nat.reduceSub, Nat.reduceEqDiff, reduceCtorEq, AState.nilvar, List.set_cons_succ, List.set_cons_zero, vSch, encTs_len, encNs_len, e1, e2, e3, wob, tupR, v8_nil]; exact rfl) ?_ rfl (by simp only [go_sem, Nat.reduceBEq, Nat.reduceBneDiff, Nat.reduceLT, Nat.reduceLeDiff, Nat.reduceAdd, Nat.reduceMul, Nat.reduceSub, Nat.reduceEqDiff, reduceCtorEq, AState.nilvar, List.set_cons_succ, List.set_cons_zero, vSch, encTs_len, encNs_len, e1, e2, e3, wob, tupR, v8_nil]) (by simp only [go_sem, Nat.reduceBEq, Nat.reduceBneDiff, Nat.reduceLT, Nat.reduceLeDiff, Nat.reduceAdd, Nat.reduceMul, Nat.reduceSub, Nat.reduceEqDiff, reduceCtorEq, AState.nilvar, List.set_cons_succ, List.set_cons_zero, vSch, encTs_len, encNs_len, e1, e2, e3, wob, tupR, v8_nil]) (hc) ?_)
    | (refine go_callG [(34, 10000), (8000, 15000)] [(10000, 34), (15000, 8000)] [8000] [34] (by simp only [go_sem, Nat.reduceBEq, Nat.reduceBneDiff, Nat.reduceLT, Nat.reduceLeDiff, Nat.reduceAdd, Nat.reduceMul, Nat.reduceSub, Nat.reduceEqDiff, reduceCtorEq, AState.nilvar, List.set_cons_succ, List.set_cons_zero, vSch, encTs_len, encNs_len, e1, e2, e3, wob, tupR, v8_nil]; exact rfl) ?_ rfl rfl (by first | exact .inl rfl | exact .inr rfl) (by simp only [go_sem, Nat.reduceBEq, Nat.reduceBneDiff, Nat.reduceLT, Nat.reduceLeDiff, Nat.reduceAdd, Nat.reduceMul, Nat.reduceSub, Nat.reduceEqDiff, reduceCtorEq, AState.nilvar, List.set_cons_succ, List.set_cons_zero, vSch, encTs_len, encNs_len, e1, e2, e3, wob, tupR, v8_nil] <;> exact rfl) (hw) (.inl rfl) ?_) | fail)) <;> (try omega)
      · exact up_nI _ _
      · exact obUp_row0 obUp_nil
end Go.Proofs.Ytfgacgpicfknpaa
end
section
namespace Go.Proofs.Ytfgacgpicfknpaa
open Go.RowKit
set_option maxRecDepth 100000
set_option maxHeartbeats 8000000
theorem valW_ok {ts : List TypeM} {X : List ExtM} {V : List NodeM} : ∀ (f t : Nat) (ls : List Int), (valW ts X V f t ls).2.1 = true → ls.length < V.length
  | 0, _, _, h => by cases h
  | f + 1, t, ls, h => by
    rw [valW] at h
    cases hv : V[ls.length]? with
    | none => rw [hv] at h; cases h
    | some v =>
      rcases Nat.lt_or_ge ls.length V.length with h' | h'
      · exact h'
      · rw [List.getElem?_eq_none h'] at hv; cases hv
def len1F (ts : List TypeM) (rs : List RootM) (t : Int) (V : List NodeM) : Int × Int := if (lensF ts rs t V).2 = 0 then ((lensF ts rs t V).1.getD 0 0, 0) else (0, (lensF ts rs t V).2)
theorem lensF_pos {ts : List TypeM} {rs : List RootM} {t : Int} {V : List NodeM} (h : (lensF ts rs t V).2 = 0) : 0 < (lensF ts rs t V).1.length ∧ (lensF ts rs t V).1.length = V.length := by
  unfold lensF at h ⊢
  split at h
  · rename_i h'; exact absurd h h'
  · rename_i h1
    split at h
    · cases h
    · rename_i h2
      split at h
      · rename_i h3
        rw [if_neg h1, if_neg h2, if_pos h3]
        have := valW_ok _ _ _ h3.1
        exact ⟨by simp only; rw [h3.2]; simpa using this, h3.2⟩
      · cases h
theorem len1_any (ts : List TypeM) (rs : List RootM) (hts : ts.length ≤ 1000000000) (hrs : rs.length ≤ 1000000000) (hp : ∀ t ∈ ts, t.parts.length ≤ 1000000000) (t : Int) (ht : I64 t) (V : List NodeM) (hV : V.length ≤ 1000000000) (hv : ∀ x ∈ V, nodeOK x) :
    PCall Try.prog 29 [vSch ts rs, vI t, .lst 3 (encNs V)] (fun r => r = .tup [vI (len1F ts rs t V).1, vI (len1F ts rs t V).2]) := by
  refine go_fn (tyOf_ok _) Try.func29 rfl rfl (by rw [Try.results29]) Try.ntmps29 rfl fun E => ?_
  have hG := lens_G ts rs hts hrs hp t ht V hV hv
  have hpos := lensF_pos (ts := ts) (rs := rs) (t := t) (V := V)
  unfold len1F
  generalize lensF ts rs t V = r at *
  obtain ⟨l, e⟩ := r
  dsimp only at hG hpos ⊢
  by_cases h : e = 0
  · have e1 : (e = 0) = True := eq_true h
    obtain ⟨h1, _⟩ := hpos h
    have g1 := v8_get (zs := l) (k := 0) h1
    have g2 : l.getD 0 0 = l[0] := by simp [List.getElem?_eq_getElem h1]
    rw [if_pos h, g2]
    (repeat' (first
    | exact trivial
    | (with_reducible first | refine aw_seq ?_ | refine aw_block ?_ | refine aw_skip ?_ | refine aw_ret ?_ | refine aw_exit ?_ | refine aseq_normal ?_ | refine aseq_ret ?_ | refine aseq_exit ?_ | refine ablk_normal ?_ | refine ablk_ret ?_ | refine ablk_hit ?_ | refine aw_region ?_ | refine go_nil ?_ | refine al_of ?_)
    | with_reducible refine ablk_miss (by decide) ?_
    | ((with_reducible refine al_id ?_); refine go_run (tyOf_ok _) [] (by simp only [go_sem, Nat.reduceBEq, Nat.reduceBneDiff, Nat.reduceLT, Nat.reduceLeDiff, Nat.reduceAdd, Nat.reduceMul, Nat.reduceSub, Nat.reduceEqDiff, reduceCtorEq, vSch, e1, obI, g1, Int.reduceToNat]; exact rfl) ?_ ?_)
    | (refine aw_cond (by simp only [go_sem, Nat.reduceBEq, Nat.reduceBneDiff, Nat.reduceLT, Nat.reduceLeDiff, Nat.reduceAdd, Nat.reduceMul, Nat.reduceSub, Nat.reduceEqDiff, reduceCtorEq, vSch, e1, obI, g1, Int.reduceToNat]; exact rfl) (by simp only [go_sem, Nat.reduceBEq, Nat.reduceBneDiff, Nat.reduceLT, Nat.reduceLeDiff, Nat.reduceAdd, Nat.reduceMul, Nat.reduceSub, Nat.reduceEqDiff, reduceCtorEq]) (fun h => ?_) (fun h => ?_) <;> (try simp only [decide_eq_true_eq, decide_eq_false_iff_not, Bool.not_eq_true', Bool.not_eq_false', Bool.or_eq_true, Bool.or_eq_false_iff, Bool.and_eq_true, Bool.and_eq_false_iff, Decidable.not_not, reduceCtorEq] at h) <;> (try (exfalso; omega)))
    | (first | refine aend_ret (by simp only [go_sem, Nat.reduceBEq, Nat.reduceBneDiff, Nat.reduceLT, Nat.reduceLeDiff, Nat.reduceAdd, Nat.reduceMul, Nat.reduceSub, Nat.reduceEqDiff, reduceCtorEq, vSch, e1, obI, g1, Int.reduceToNat]; exact rfl) ?_ ?_ | refine aend_normal (by simp only [go_sem, Nat.reduceBEq, Nat.reduceBneDiff, Nat.reduceLT, Nat.reduceLeDiff, Nat.reduceAdd, Nat.reduceMul, Nat.reduceSub, Nat.reduceEqDiff, reduceCtorEq, vSch, e1, obI, g1, Int.reduceToNat]; exact rfl) ?_ ?_)
    | (refine go_callG [] [(8000, 14)] [14] [] (by simp only [go_sem, Nat.reduceBEq, Nat.reduceBneDiff, Nat.reduceLT, Nat.reduceLeDiff, Nat.reduceAdd, Nat.reduceMul, Nat.reduceSub, Nat.reduceEqDiff, reduceCtorEq, vSch, e1, obI, g1, Int.reduceToNat]; exact rfl) ?_ rfl rfl (by first | exact .inl rfl | exact .inr rfl) (by simp only [go_sem, Nat.reduceBEq, Nat.reduceBneDiff, Nat.reduceLT, Nat.reduceLeDiff, Nat.reduceAdd, Nat.reduceMul, Nat.reduceSub, Nat.reduceEqDiff, reduceCtorEq, vSch, e1, obI, g1, Int.reduceToNat] <;> exact rfl) (hG) (.inl rfl) ?_) | fail)) <;> (try omega)
    exact rfl
  · have e1 : (e = 0) = False := eq_false h
    rw [if_neg h]
    (repeat' (first
    | exact trivial
    | (with_reducible first | refine aw_seq ?_ | refine aw_block ?_ | refine aw_skip ?_ | refine aw_ret ?_ | refine aw_exit ?_ | refine aseq_normal ?_ | refine aseq_ret ?_ | refine aseq_exit ?_ | refine ablk_normal ?_ | refine ablk_ret ?_ | refine ablk_hit ?_ | refine aw_region ?_ | refine go_nil ?_ | refine al_of ?_)
    | with_reducible refine ablk_miss (by decide) ?_
    | ((with_reducible refine al_id ?_); refine go_run (tyOf_ok _) [] (by simp only [go_sem, Nat.reduceBEq, Nat.reduceBneDiff, Nat.reduceLT, Nat.reduceLeDiff, Nat.reduceAdd, Nat.reduceMul, Nat.reduceSub, Nat.reduceEqDiff, reduceCtorEq, vSch, e1, obI]; exact rfl) ?_ ?_)
    | (refine aw_cond (by simp only [go_sem, Nat.reduceBEq, Nat.reduceBneDiff, Nat.reduceLT, Nat.reduceLeDiff, Nat.reduceAdd, Nat.reduceMul, Nat.reduceSub, Nat.reduceEqDiff, reduceCtorEq, vSch, e1, obI]; exact rfl) (by simp only [go_sem, Nat.reduceBEq, Nat.reduceBneDiff, Nat.reduceLT, Nat.reduceLeDiff, Nat.reduceAdd, Nat.reduceMul, Nat.reduceSub, Nat.reduceEqDiff, reduceCtorEq]) (fun h => ?_) (fun h => ?_) <;> (try simp only [decide_eq_true_eq, decide_eq_false_iff_not, Bool.not_eq_true', Bool.not_eq_false', Bool.or_eq_true, Bool.or_eq_false_iff, Bool.and_eq_true, Bool.and_eq_false_iff, Decidable.not_not, reduceCtorEq] at h) <;> (try (exfalso; omega)))
    | (first | refine aend_ret (by simp only [go_sem, Nat.reduceBEq, Nat.reduceBneDiff, Nat.reduceLT, Nat.reduceLeDiff, Nat.reduceAdd, Nat.reduceMul, Nat.reduceSub, Nat.reduceEqDiff, reduceCtorEq, vSch, e1, obI]; exact rfl) ?_ ?_ | refine aend_normal (by simp only [go_sem, Nat.reduceBEq, Nat.reduceBneDiff, Nat.reduceLT, Nat.reduceLeDiff, Nat.reduceAdd, Nat.reduceMul, Nat.reduceSub, Nat.reduceEqDiff, reduceCtorEq, vSch, e1, obI]; exact rfl) ?_ ?_)
    | (refine go_callG [] [(8000, 14)] [14] [] (by simp only [go_sem, Nat.reduceBEq, Nat.reduceBneDiff, Nat.reduceLT, Nat.reduceLeDiff, Nat.reduceAdd, Nat.reduceMul, Nat.reduceSub, Nat.reduceEqDiff, reduceCtorEq, vSch, e1, obI]; exact rfl) ?_ rfl rfl (by first | exact .inl rfl | exact .inr rfl) (by simp only [go_sem, Nat.reduceBEq, Nat.reduceBneDiff, Nat.reduceLT, Nat.reduceLeDiff, Nat.reduceAdd, Nat.reduceMul, Nat.reduceSub, Nat.reduceEqDiff, reduceCtorEq, vSch, e1, obI] <;> exact rfl) (hG) (.inl rfl) ?_) | fail)) <;> (try omega)
    exact rfl
/-- the lengths, as a list that nobody writes -/
theorem lens_any (ts : List TypeM) (rs : List RootM) (hts : ts.length ≤ 1000000000) (hrs : rs.length ≤ 1000000000) (hp : ∀ t ∈ ts, t.parts.length ≤ 1000000000) (t : Int) (ht : I64 t) (V : List NodeM) (hV : V.length ≤ 1000000000) (hv : ∀ x ∈ V, nodeOK x) :
    PCall Try.prog 28 [vSch ts rs, vI t, .lst 3 (encNs V)] (fun r => r = .tup [.lst 1 (v8 (lensF ts rs t V).1), vI (lensF ts rs t V).2]) := by
  have h := (lens_G ts rs hts hrs hp t ht V hV hv).toP (by simp [AV.snapOK, AV.snapOK.snapOKL, obI, lk, v8_len])
  refine h.mono fun r hr => hr.trans ?_
  simp [AV.snap, AV.snap.snapL, obI, lk, v8_take, take_len]
end Go.Proofs.Ytfgacgpicfknpaa
end
section
namespace Go.Proofs.Ytfgacgpicfknpaa
open Go.RowKit
set_option maxRecDepth 100000
set_option maxHeartbeats 4000000
/-! Types that double: what sizesF says of them. -/
def emptyS : ByteArray := ⟨#[]⟩
def aS : ByteArray := ⟨#[97]⟩
def bS : ByteArray := ⟨#[98]⟩
def dblT (b : Bool) (i : Nat) : TypeM := if b = true then ⟨8, 0, 0, [⟨aS, 0, i⟩, ⟨bS, 0, i⟩]⟩ else ⟨7, 0, 0, [⟨emptyS, 0, i⟩, ⟨emptyS, 1, i⟩]⟩
def dbl0 : TypeM := ⟨1, 1, 0, []⟩
def dbl (b : Bool) (n : Nat) : List TypeM := dbl0 :: (List.range n).map (dblT b)
theorem dbl_succ (b : Bool) (n : Nat) : dbl b (n + 1) = dbl b n ++ [dblT b n] := by simp [dbl, List.range_succ]
theorem dbl_len (b : Bool) (n : Nat) : (dbl b n).length = n + 1 := by simp [dbl]
def two (i : Nat) : Int := min (2 ^ i) 4611686018427387904
def dblE (b : Bool) (i : Nat) : ExtM := if b = true then ⟨true, two i, two i, i + 1⟩ else if i = 0 then ⟨true, 1, 1, 1⟩ else ⟨false, i + 1, i + 1, i + 1⟩
def dblX (b : Bool) (e : ExtM) : ExtM :=
  if b = true then (fun x : ExtM => (⟨x.fixed && e.fixed, plusL [x.least, withinM e.fixed e.least], plusL [x.most, withinM e.fixed e.most], max x.depth (1 + e.depth)⟩ : ExtM)) ((fun x : ExtM => (⟨x.fixed && e.fixed, plusL [x.least, withinM e.fixed e.least], plusL [x.most, withinM e.fixed e.most], max x.depth (1 + e.depth)⟩ : ExtM)) ⟨true, 0, 0, 1⟩)
  else let x := (fun x : Int × Int × Int => (min x.1 e.least, max x.2.1 (plusL [1, e.most]), max x.2.2 (1 + e.depth))) ((fun x : Int × Int × Int => (min x.1 e.least, max x.2.1 (plusL [1, e.most]), max x.2.2 (1 + e.depth))) (4611686018427387904, 0, 1))
    ⟨false, plusL [1, x.1], x.2.1, x.2.2⟩
theorem dblX_eq (b : Bool) (L : List ExtM) (i : Nat) : extM (dblT b i) L = dblX b (atE L i) := by cases b <;> rfl
deriving instance DecidableEq for ExtM
theorem dblX_step : ∀ b : Bool, ∀ i : Nat, i < 63 → dblX b (dblE b i) = dblE b (i + 1) := by decide +kernel
theorem dbl_exts (b : Bool) : ∀ n : Nat, n ≤ 63 → exts (dbl b n) = (List.range (n + 1)).map (dblE b)
  | 0, _ => by cases b <;> decide +kernel
  | n + 1, h => by
    have ih := dbl_exts b n (by omega)
    have h1 : exts (dbl b (n + 1)) = exts (dbl b n) ++ [extM (dblT b n) (exts (dbl b n))] := by rw [dbl_succ, exts, List.foldl_append]; rfl
    rw [h1, dblX_eq, ih, List.range_succ (n := n + 1), List.map_append]
    congr 2
    have : atE ((List.range (n + 1)).map (dblE b)) (n : Int) = dblE b n := by
      rw [atE, Int.toNat_natCast, List.getElem?_map, List.getElem?_range (by omega)]; rfl
    rw [this, dblX_step b n (by omega)]
theorem dbl_deps (b : Bool) : ∀ n : Nat, deps (dbl b n) = (List.range (n + 1)).map (fun i : Nat => (i : Int) + 1)
  | 0 => by cases b <;> decide +kernel
  | n + 1 => by
    have ih := dbl_deps b n
    have h1 : deps (dbl b (n + 1)) = deps (dbl b n) ++ [dep (deps (dbl b n)) (dblT b n)] := by rw [dbl_succ, deps, List.foldl_append]; rfl
    rw [h1, ih, List.range_succ (n := n + 1), List.map_append]
    congr 2
    have : ((List.range (n + 1)).map (fun i : Nat => (i : Int) + 1)).getD n 0 = n + 1 := by
      rw [List.getD_eq_getElem?_getD, List.getElem?_map, List.getElem?_range (by omega)]; rfl
    cases b <;> simp [dep, dep0, depTo, dblT, this] <;> omega
theorem dbl_take (b : Bool) {n k : Nat} (h : k ≤ n) : (dbl b n).take (k + 1) = dbl b k := by
  simp [dbl, List.take_succ_cons, ← List.map_take, List.take_range, Nat.min_eq_left h]
theorem dbl_get (b : Bool) {n k : Nat} (h : k ≤ n) : (dbl b n)[k]? = some (if k = 0 then dbl0 else dblT b (k - 1)) := by
  cases k with
  | zero => rfl
  | succ k =>
    have : k < n := h
    simp [dbl, List.getElem?_range this]
theorem dbl_right : ∀ b : Bool, ∀ k : Nat, k ≤ 63 → rightOK (if k = 0 then dbl0 else dblT b (k - 1)) k = true := by decide +kernel
theorem dbl_check (b : Bool) (n : Nat) (h : n ≤ 63) : checkF (dbl b n) [] = (0, 0) := by
  have h1 : (List.range (dbl b n).length).find? (wrongType (dbl b n)) = none := find_none fun i hi => by
    rw [dbl_len] at hi
    rw [wrongType, dbl_get b (by omega : i ≤ n)]
    simp [dbl_right b i (by omega)]
  have h2 : (List.range (dbl b n).length).find? (tooDeep (dbl b n)) = none := find_none fun i hi => by
    rw [dbl_len] at hi
    have hd : dep (deps ((dbl b n).take i)) (((dbl b n)[i]?).getD ⟨0, 0, 0, []⟩) = i + 1 := by
      have h3 := dbl_deps b i
      have h4 : dbl b i = (dbl b n).take i ++ [((dbl b n)[i]?).getD ⟨0, 0, 0, []⟩] := by
        rw [← dbl_take b (by omega : i ≤ n), List.take_add_one, dbl_get b (by omega : i ≤ n)]; rfl
      rw [h4, deps, List.foldl_append] at h3
      have h5 : (deps ((dbl b n).take i) ++ [dep (deps ((dbl b n).take i)) (((dbl b n)[i]?).getD ⟨0, 0, 0, []⟩)]) = (List.range (i + 1)).map (fun i : Nat => (i : Int) + 1) := h3
      rw [List.range_succ, List.map_append] at h5
      have h6 := List.append_inj_right' h5 rfl
      exact List.head_eq_of_cons_eq h6
    rw [tooDeep, hd]
    simp; omega
  unfold checkF
  rw [h1]
  simp only [deepF, h2]
  rfl
theorem dbl_sizes (b : Bool) (n : Nat) (h : n ≤ 63) : sizesF (dbl b n) [] = ((List.range (n + 1)).map (dblE b), 0) := by
  rw [sizesF, dbl_check b n h, if_neg (by decide), dbl_exts b n h]
end Go.Proofs.Ytfgacgpicfknpaa
end
section
namespace Go.Proofs.Ytfgacgpicfknpaa
open Go.RowKit
set_option maxRecDepth 100000
set_option maxHeartbeats 8000000
theorem UpLL.rfl' : ∀ l : List (List AV), UpLL l l
  | [] => .nil
  | x :: l => .cons (go x) (UpLL.rfl' l)
where go : ∀ x : List AV, UpL x x
  | [] => .nil
  | a :: x => .cons (.rfl a) (go x)
theorem num_any (e : Int) : PCall Try.prog 31 [vI e] (fun r => r = vI e) := by
  refine go_fn (tyOf_ok _) Try.func31 rfl rfl (by rw [Try.results31]) Try.ntmps31 rfl fun E => ?_
  (repeat' (first
    | exact trivial
    | (with_reducible first | refine aw_seq ?_ | refine aw_block ?_ | refine aw_skip ?_ | refine aw_ret ?_ | refine aw_exit ?_ | refine aseq_normal ?_ | refine aseq_ret ?_ | refine aseq_exit ?_ | refine ablk_normal ?_ | refine ablk_ret ?_ | refine ablk_hit ?_ | refine aw_region ?_ | refine go_nil ?_ | refine al_of ?_)
    | with_reducible refine ablk_miss (by decide) ?_
    | ((with_reducible refine al_id ?_); refine go_run (tyOf_ok _) [] (by simp only [go_sem, Nat.reduceBEq, Nat.reduceBneDiff, Nat.reduceLT, Nat.reduceLeDiff, Nat.reduceAdd, Nat.reduceMul, Nat.reduceSub, Nat.reduceEqDiff, reduceCtorEq]; exact rfl) ?_ ?_)
    | (refine aw_cond (by simp only [go_sem, Nat.reduceBEq, Nat.reduceBneDiff, Nat.reduceLT, Nat.reduceLeDiff, Nat.reduceAdd, Nat.reduceMul, Nat.reduceSub, Nat.reduceEqDiff, reduceCtorEq]; exact rfl) (by simp only [go_sem, Nat.reduceBEq, Nat.reduceBneDiff, Nat.reduceLT, Nat.reduceLeDiff, Nat.reduceAdd, Nat.reduceMul, Nat.reduceSub, Nat.reduceEqDiff, reduceCtorEq]) (fun h => ?_) (fun h => ?_) <;> (try simp only [decide_eq_true_eq, decide_eq_false_iff_not, Bool.not_eq_true', Bool.not_eq_false', Bool.or_eq_true, Bool.or_eq_false_iff, Bool.and_eq_true, Bool.and_eq_false_iff, Decidable.not_not, reduceCtorEq] at h) <;> (try (exfalso; omega)))
    | (first | refine aend_ret (by simp only [go_sem, Nat.reduceBEq, Nat.reduceBneDiff, Nat.reduceLT, Nat.reduceLeDiff, Nat.reduceAdd, Nat.reduceMul, Nat.reduceSub, Nat.reduceEqDiff, reduceCtorEq]; exact rfl) ?_ ?_ | refine aend_normal (by simp only [go_sem, Nat.reduceBEq, Nat.reduceBneDiff, Nat.reduceLT, Nat.reduceLeDiff, Nat.reduceAdd, Nat.reduceMul, Nat.reduceSub, Nat.reduceEqDiff, reduceCtorEq]; exact rfl) ?_ ?_) | fail)) <;> (try omega)
  exact rfl
theorem sameInts_any (xs ys : List Int) (hx : xs.length ≤ 4611686018427387904) : PCall Try.prog 32 [.lst 1 (v8 xs), .lst 1 (v8 ys)] (fun r => r = .v (.bool (decide (xs = ys)))) := by
  refine go_fn (tyOf_ok _) Try.func32 rfl rfl (by rw [Try.results32]) Try.ntmps32 rfl fun E => ?_
  (repeat' (first
    | exact trivial
    | (with_reducible first | refine aw_seq ?_ | refine aw_block ?_ | refine aw_skip ?_ | refine aw_ret ?_ | refine aw_exit ?_ | refine aseq_normal ?_ | refine aseq_ret ?_ | refine aseq_exit ?_ | refine ablk_normal ?_ | refine ablk_ret ?_ | refine ablk_hit ?_ | refine aw_region ?_ | refine go_nil ?_ | refine al_of ?_)
    | with_reducible refine ablk_miss (by decide) ?_
    | ((with_reducible refine al_id ?_); refine go_run (tyOf_ok _) [] (by simp only [go_sem, Nat.reduceBEq, Nat.reduceBneDiff, Nat.reduceLT, Nat.reduceLeDiff, Nat.reduceAdd, Nat.reduceMul, Nat.reduceSub, Nat.reduceEqDiff, reduceCtorEq, v8_len]; exact rfl) ?_ ?_)
    | (refine aw_draw (id := 6) (t := (.node [0, 1, 2, 3, 4, 5, 6, 7, 8] [])) (drR [] [20, 24] []) mixed (by kernel_rfl) (by kernel_rfl) (fun _ _ h => h) ?_)
    | (refine at_done (by simp only [List.filterMap_cons, List.filterMap_nil, List.getElem?_toArray, List.getElem?_cons_zero, List.getElem?_cons_succ]; exact rfl) ?_) | (refine at_alt (by simp only [List.filterMap_cons, List.filterMap_nil, List.getElem?_toArray, List.getElem?_cons_zero, List.getElem?_cons_succ]; exact rfl) ?_) | refine qalt_normal ?_ | refine ats_cons ?_ ?_ | exact ats_nil
    | ((with_reducible refine ald_id ?_); refine go_runD (tyOf_ok _) [] (by simp only [go_sem, Nat.reduceBEq, Nat.reduceBneDiff, Nat.reduceLT, Nat.reduceLeDiff, Nat.reduceAdd, Nat.reduceMul, Nat.reduceSub, Nat.reduceEqDiff, reduceCtorEq, v8_len]; exact rfl) ?_ ?_)
    | (refine aw_cond (by simp only [go_sem, Nat.reduceBEq, Nat.reduceBneDiff, Nat.reduceLT, Nat.reduceLeDiff, Nat.reduceAdd, Nat.reduceMul, Nat.reduceSub, Nat.reduceEqDiff, reduceCtorEq, v8_len]; exact rfl) (by simp only [go_sem, Nat.reduceBEq, Nat.reduceBneDiff, Nat.reduceLT, Nat.reduceLeDiff, Nat.reduceAdd, Nat.reduceMul, Nat.reduceSub, Nat.reduceEqDiff, reduceCtorEq]) (fun h => ?_) (fun h => ?_) <;> (try simp only [decide_eq_true_eq, decide_eq_false_iff_not, Bool.not_eq_true', Bool.not_eq_false', Bool.or_eq_true, Bool.or_eq_false_iff, Bool.and_eq_true, Bool.and_eq_false_iff, Decidable.not_not, reduceCtorEq] at h) <;> (try (exfalso; omega)))
    | (first | refine aend_ret (by simp only [go_sem, Nat.reduceBEq, Nat.reduceBneDiff, Nat.reduceLT, Nat.reduceLeDiff, Nat.reduceAdd, Nat.reduceMul, Nat.reduceSub, Nat.reduceEqDiff, reduceCtorEq, v8_len]; exact rfl) ?_ ?_ | refine aend_normal (by simp only [go_sem, Nat.reduceBEq, Nat.reduceBneDiff, Nat.reduceLT, Nat.reduceLeDiff, Nat.reduceAdd, Nat.reduceMul, Nat.reduceSub, Nat.reduceEqDiff, reduceCtorEq, v8_len]; exact rfl) ?_ ?_) | fail)) <;> (try omega)
  · show AV.v _ = AV.v _
    rw [decide_eq_false (fun e => h (by rw [e]))]
  refine go_loop [0, 1, 5] [] (fun k : Nat => ⟨[(0, true, .lst 1 (v8 xs)), (1, true, .lst 1 (v8 ys)), (5, true, .v (.int .i64 k))], []⟩) (fun k => k ≤ xs.length ∧ xs.take k = ys.take k) (fun k => xs.length - k) 0 (by simp only [go_sem, Nat.reduceBEq, Nat.reduceBneDiff, Nat.reduceLT, Nat.reduceLeDiff, Nat.reduceAdd, Nat.reduceMul, Nat.reduceSub, Nat.reduceEqDiff, reduceCtorEq]; exact rfl) ⟨Nat.zero_le _, rfl⟩ ?_
  intro k ⟨hk, heq⟩
  have hl : xs.length = ys.length := by omega
  have hw := wrap_i64 (n := (k : Int) + 1) (by omega)
  by_cases hlt : k < xs.length
  · have g1 := v8_get hlt
    have g2 := v8_get (zs := ys) (k := k) (by omega)
    (repeat' (first
    | exact trivial
    | (with_reducible first | refine aw_seq ?_ | refine aw_block ?_ | refine aw_skip ?_ | refine aw_ret ?_ | refine aw_exit ?_ | refine aseq_normal ?_ | refine aseq_ret ?_ | refine aseq_exit ?_ | refine ablk_normal ?_ | refine ablk_ret ?_ | refine ablk_hit ?_ | refine aw_region ?_ | refine go_nil ?_ | refine al_of ?_)
    | with_reducible refine ablk_miss (by decide) ?_
    | ((with_reducible refine al_id ?_); refine go_run (tyOf_ok _) [] (by simp only [go_sem, Nat.reduceBEq, Nat.reduceBneDiff, Nat.reduceLT, Nat.reduceLeDiff, Nat.reduceAdd, Nat.reduceMul, Nat.reduceSub, Nat.reduceEqDiff, reduceCtorEq, v8_len, g1, g2, hw]; exact rfl) ?_ ?_)
    | (refine aw_draw (id := 6) (t := (.node [0, 1, 2, 3, 4, 5, 6, 7, 8] [])) (drR [] [20, 24] []) mixed (by kernel_rfl) (by kernel_rfl) (fun _ _ h => h) ?_)
    | (refine at_done (by simp only [List.filterMap_cons, List.filterMap_nil, List.getElem?_toArray, List.getElem?_cons_zero, List.getElem?_cons_succ]; exact rfl) ?_) | (refine at_alt (by simp only [List.filterMap_cons, List.filterMap_nil, List.getElem?_toArray, List.getElem?_cons_zero, List.getElem?_cons_succ]; exact rfl) ?_) | refine qalt_normal ?_ | refine ats_cons ?_ ?_ | exact ats_nil
    | ((with_reducible refine ald_id ?_); refine go_runD (tyOf_ok _) [] (by simp only [go_sem, Nat.reduceBEq, Nat.reduceBneDiff, Nat.reduceLT, Nat.reduceLeDiff, Nat.reduceAdd, Nat.reduceMul, Nat.reduceSub, Nat.reduceEqDiff, reduceCtorEq, v8_len, g1, g2, hw]; exact rfl) ?_ ?_)
    | (refine aw_cond (by simp only [go_sem, Nat.reduceBEq, Nat.reduceBneDiff, Nat.reduceLT, Nat.reduceLeDiff, Nat.reduceAdd, Nat.reduceMul, Nat.reduceSub, Nat.reduceEqDiff, reduceCtorEq, v8_len, g1, g2, hw]; exact rfl) (by simp only [go_sem, Nat.reduceBEq, Nat.reduceBneDiff, Nat.reduceLT, Nat.reduceLeDiff, Nat.reduceAdd, Nat.reduceMul, Nat.reduceSub, Nat.reduceEqDiff, reduceCtorEq]) (fun h => ?_) (fun h => ?_) <;> (try simp only [decide_eq_true_eq, decide_eq_false_iff_not, Bool.not_eq_true', Bool.not_eq_false', Bool.or_eq_true, Bool.or_eq_false_iff, Bool.and_eq_true, Bool.and_eq_false_iff, Decidable.not_not, reduceCtorEq] at h) <;> (try (exfalso; omega)))
    | (first | refine aend_ret (by simp only [go_sem, Nat.reduceBEq, Nat.reduceBneDiff, Nat.reduceLT, Nat.reduceLeDiff, Nat.reduceAdd, Nat.reduceMul, Nat.reduceSub, Nat.reduceEqDiff, reduceCtorEq, v8_len, g1, g2, hw]; exact rfl) ?_ ?_ | refine aend_normal (by simp only [go_sem, Nat.reduceBEq, Nat.reduceBneDiff, Nat.reduceLT, Nat.reduceLeDiff, Nat.reduceAdd, Nat.reduceMul, Nat.reduceSub, Nat.reduceEqDiff, reduceCtorEq, v8_len, g1, g2, hw]; exact rfl) ?_ ?_) | fail)) <;> (try omega)
    · show AV.v _ = AV.v _
      rw [decide_eq_false (fun e => by subst e; exact h rfl)]
    · refine ⟨k + 1, by simp only [go_sem, Nat.reduceBEq, Nat.reduceBneDiff, Nat.reduceLT, Nat.reduceLeDiff, Nat.reduceAdd, Nat.reduceMul, Nat.reduceSub, Nat.reduceEqDiff, reduceCtorEq]; exact rfl, ⟨by omega, ?_⟩, by omega⟩
      rw [List.take_succ_eq_append_getElem hlt, List.take_succ_eq_append_getElem (by omega), heq]
      simp_all
  · (repeat' (first
    | exact trivial
    | (with_reducible first | refine aw_seq ?_ | refine aw_block ?_ | refine aw_skip ?_ | refine aw_ret ?_ | refine aw_exit ?_ | refine aseq_normal ?_ | refine aseq_ret ?_ | refine aseq_exit ?_ | refine ablk_normal ?_ | refine ablk_ret ?_ | refine ablk_hit ?_ | refine aw_region ?_ | refine go_nil ?_ | refine al_of ?_)
    | with_reducible refine ablk_miss (by decide) ?_
    | ((with_reducible refine al_id ?_); refine go_run (tyOf_ok _) [] (by simp only [go_sem, Nat.reduceBEq, Nat.reduceBneDiff, Nat.reduceLT, Nat.reduceLeDiff, Nat.reduceAdd, Nat.reduceMul, Nat.reduceSub, Nat.reduceEqDiff, reduceCtorEq, v8_len, hw]; exact rfl) ?_ ?_)
    | (refine aw_draw (id := 6) (t := (.node [0, 1, 2, 3, 4, 5, 6, 7, 8] [])) (drR [] [20, 24] []) mixed (by kernel_rfl) (by kernel_rfl) (fun _ _ h => h) ?_)
    | (refine at_done (by simp only [List.filterMap_cons, List.filterMap_nil, List.getElem?_toArray, List.getElem?_cons_zero, List.getElem?_cons_succ]; exact rfl) ?_) | (refine at_alt (by simp only [List.filterMap_cons, List.filterMap_nil, List.getElem?_toArray, List.getElem?_cons_zero, List.getElem?_cons_succ]; exact rfl) ?_) | refine qalt_normal ?_ | refine ats_cons ?_ ?_ | exact ats_nil
    | ((with_reducible refine ald_id ?_); refine go_runD (tyOf_ok _) [] (by simp only [go_sem, Nat.reduceBEq, Nat.reduceBneDiff, Nat.reduceLT, Nat.reduceLeDiff, Nat.reduceAdd, Nat.reduceMul, Nat.reduceSub, Nat.reduceEqDiff, reduceCtorEq, v8_len, hw]; exact rfl) ?_ ?_)
    | (refine aw_cond (by simp only [go_sem, Nat.reduceBEq, Nat.reduceBneDiff, Nat.reduceLT, Nat.reduceLeDiff, Nat.reduceAdd, Nat.reduceMul, Nat.reduceSub, Nat.reduceEqDiff, reduceCtorEq, v8_len, hw]; exact rfl) (by simp only [go_sem, Nat.reduceBEq, Nat.reduceBneDiff, Nat.reduceLT, Nat.reduceLeDiff, Nat.reduceAdd, Nat.reduceMul, Nat.reduceSub, Nat.reduceEqDiff, reduceCtorEq]) (fun h => ?_) (fun h => ?_) <;> (try simp only [decide_eq_true_eq, decide_eq_false_iff_not, Bool.not_eq_true', Bool.not_eq_false', Bool.or_eq_true, Bool.or_eq_false_iff, Bool.and_eq_true, Bool.and_eq_false_iff, Decidable.not_not, reduceCtorEq] at h) <;> (try (exfalso; omega)))
    | (first | refine aend_ret (by simp only [go_sem, Nat.reduceBEq, Nat.reduceBneDiff, Nat.reduceLT, Nat.reduceLeDiff, Nat.reduceAdd, Nat.reduceMul, Nat.reduceSub, Nat.reduceEqDiff, reduceCtorEq, v8_len, hw]; exact rfl) ?_ ?_ | refine aend_normal (by simp only [go_sem, Nat.reduceBEq, Nat.reduceBneDiff, Nat.reduceLT, Nat.reduceLeDiff, Nat.reduceAdd, Nat.reduceMul, Nat.reduceSub, Nat.reduceEqDiff, reduceCtorEq, v8_len, hw]; exact rfl) ?_ ?_) | fail)) <;> (try omega)
    show AV.v _ = AV.v _
    rw [take_len (by omega), take_len (by omega)] at heq
    rw [decide_eq_true heq]
def ts10 : List TypeM := [⟨1, 1, 0, []⟩, ⟨3, 0, 0, []⟩, ⟨5, 9, 1, []⟩, ⟨1, 2, 0, []⟩, ⟨6, 0, 3, []⟩, ⟨8, 0, 0, [⟨aS, 0, 0⟩, ⟨bS, 0, 2⟩, ⟨⟨#[99]⟩, 0, 4⟩]⟩]
def vs10 : List NodeM := [⟨4, 0, 3⟩, ⟨1, 7, 0⟩, ⟨3, 0, 2⟩, ⟨1, 5, 0⟩, ⟨1, 300, 0⟩, ⟨5, 0, 0⟩]
theorem sizes10 : sizesF ts10 [] = ([⟨true, 1, 1, 1⟩, ⟨false, 1, 10, 1⟩, ⟨false, 0, 126, 2⟩, ⟨true, 2, 2, 1⟩, ⟨false, 1, 3, 2⟩, ⟨false, 10, 138, 3⟩], 0) := by kernel_rfl
theorem lens10 : lensF ts10 [] 5 vs10 = ([21, 1, 11, 1, 2, 1], 0) := by kernel_rfl
theorem len10a : len1F ts10 [] 5 vs10 = (21, 0) := by kernel_rfl
theorem len10b : len1F ts10 [] 4 vs10 = (0, 40) := by kernel_rfl
theorem len10c : len1F ts10 [] 6 vs10 = (0, 3) := by kernel_rfl
abbrev nilS : AV := .v (.slice none 0 0)
def sch10 : AV := .agg [.lst 4 [[vI 1, vI 1, vI 0, nilS], [vI 3, vI 0, vI 0, nilS], [vI 5, vI 9, vI 1, nilS], [vI 1, vI 2, vI 0, nilS], [vI 6, vI 0, vI 3, nilS], [vI 8, vI 0, vI 0, .lst 3 [[vS aS, vI 0, vI 0], [vS bS, vI 0, vI 2], [vS ⟨#[99]⟩, vI 0, vI 4]]]], nilS]
def ns10 : AV := .lst 3 [[vI 4, vU 0, vI 3], [vI 1, vU 7, vI 0], [vI 3, vU 0, vI 2], [vI 1, vU 5, vI 0], [vI 1, vU 300, vI 0], [vI 5, vU 0, vI 0]]
theorem up10 : Up sch10 (vSch ts10 []) := by
  refine .agg (.cons (.lst ?_) (.cons (.nil _) .nil))
  repeat (first | exact .nil | refine .cons (.cons (.rfl _) (.cons (.rfl _) (.cons (.rfl _) (.cons (.nil _) .nil)))) ?_ | refine .cons (.cons (.rfl _) (.cons (.rfl _) (.cons (.rfl _) (.cons (.rfl _) .nil)))) ?_)
theorem h1 : ∀ t ∈ ts10, t.parts.length ≤ 1000000000 := by decide
theorem h2 : ∀ x ∈ vs10, nodeOK x := by unfold nodeOK; decide
theorem sz10_any : PCall Try.prog 22 [sch10] (fun r => r = .tup [.lst 4 [[vB true, vI 1, vI 1, vI 1], [vB false, vI 1, vI 10, vI 1], [vB false, vI 0, vI 126, vI 2], [vB true, vI 2, vI 2, vI 1], [vB false, vI 1, vI 3, vI 2], [vB false, vI 10, vI 138, vI 3]], vI 0]) := by
  have h := sizeOf_any ts10 [] (by decide) (by decide) h1
  rw [sizes10] at h
  exact PCall.args (.cons up10 .nil) h
theorem lens10_any : PCall Try.prog 28 [sch10, vI 5, ns10] (fun r => r = .tup [.lst 1 (v8 [21, 1, 11, 1, 2, 1]), vI 0]) := by
  have h := lens_any ts10 [] (by decide) (by decide) h1 5 (by decide) vs10 (by decide) h2
  rw [lens10] at h
  exact PCall.args (.cons up10 (.cons (.rfl _) (.cons (.rfl _) .nil))) h
theorem len10_any (t n e : Int) (ht : I64 t) (h : len1F ts10 [] t vs10 = (n, e)) : PCall Try.prog 29 [sch10, vI t, ns10] (fun r => r = .tup [vI n, vI e]) := by
  have h := len1_any ts10 [] (by decide) (by decide) h1 t ht vs10 (by decide) h2
  rw [‹len1F ts10 [] t vs10 = (n, e)›] at h
  exact PCall.args (.cons up10 (.cons (.rfl _) (.cons (.rfl _) .nil))) h
theorem awake10 : PCall Try.prog 23 [] (fun r => r = vB true) := by
  refine go_fn (tyOf_ok _) Try.func23 rfl rfl (by rw [Try.results23]) Try.ntmps23 rfl fun E => ?_
  have hs := sameInts_any [21, 1, 11, 1, 2, 1] [21, 1, 11, 1, 2, 1] (by decide)
  have hd : decide (([21, 1, 11, 1, 2, 1] : List Int) = [21, 1, 11, 1, 2, 1]) = true := by decide
  rw [hd] at hs
  (repeat' (first
    | exact trivial
    | (with_reducible first | refine aw_seq ?_ | refine aw_block ?_ | refine aw_skip ?_ | refine aw_ret ?_ | refine aw_exit ?_ | refine aseq_normal ?_ | refine aseq_ret ?_ | refine aseq_exit ?_ | refine ablk_normal ?_ | refine ablk_ret ?_ | refine ablk_hit ?_ | refine aw_region ?_ | refine go_nil ?_ | refine al_of ?_)
    | with_reducible refine ablk_miss (by decide) ?_
    | ((with_reducible refine al_id ?_); refine go_run (tyOf_ok _) [] (by simp only [go_sem, Nat.reduceBEq, Nat.reduceBneDiff, Nat.reduceLT, Nat.reduceLeDiff, Nat.reduceAdd, Nat.reduceMul, Nat.reduceSub, Nat.reduceEqDiff, reduceCtorEq, Int.cast_ofNat_Int, Int.reduceToNat, Int.reduceEq, Int.reduceLT, Int.reduceLE, Int.reduceNe]; exact rfl) ?_ ?_)
    | (refine aw_cond (by simp only [go_sem, Nat.reduceBEq, Nat.reduceBneDiff, Nat.reduceLT, Nat.reduceLeDiff, Nat.reduceAdd, Nat.reduceMul, Nat.reduceSub, Nat.reduceEqDiff, reduceCtorEq, Int.cast_ofNat_Int, Int.reduceToNat, Int.reduceEq, Int.reduceLT, Int.reduceLE, Int.reduceNe]; exact rfl) (by simp only [go_sem, Nat.reduceBEq, Nat.reduceBneDiff, Nat.reduceLT, Nat.reduceLeDiff, Nat.reduceAdd, Nat.reduceMul, Nat.reduceSub, Nat.reduceEqDiff, reduceCtorEq]) (fun h => ?_) (fun h => ?_) <;> (try simp only [decide_eq_true_eq, decide_eq_false_iff_not, Bool.not_eq_true', Bool.not_eq_false', Bool.or_eq_true, Bool.or_eq_false_iff, Bool.and_eq_true, Bool.and_eq_false_iff, Decidable.not_not, reduceCtorEq] at h) <;> (try (exfalso; omega)))
    | (first | refine aend_ret (by simp only [go_sem, Nat.reduceBEq, Nat.reduceBneDiff, Nat.reduceLT, Nat.reduceLeDiff, Nat.reduceAdd, Nat.reduceMul, Nat.reduceSub, Nat.reduceEqDiff, reduceCtorEq, Int.cast_ofNat_Int, Int.reduceToNat, Int.reduceEq, Int.reduceLT, Int.reduceLE, Int.reduceNe]; exact rfl) ?_ ?_ | refine aend_normal (by simp only [go_sem, Nat.reduceBEq, Nat.reduceBneDiff, Nat.reduceLT, Nat.reduceLeDiff, Nat.reduceAdd, Nat.reduceMul, Nat.reduceSub, Nat.reduceEqDiff, reduceCtorEq, Int.cast_ofNat_Int, Int.reduceToNat, Int.reduceEq, Int.reduceLT, Int.reduceLE, Int.reduceNe]; exact rfl) ?_ ?_)
    | (refine go_call1 (by simp only [go_sem, Nat.reduceBEq, Nat.reduceBneDiff, Nat.reduceLT, Nat.reduceLeDiff, Nat.reduceAdd, Nat.reduceMul, Nat.reduceSub, Nat.reduceEqDiff, reduceCtorEq, Int.cast_ofNat_Int, Int.reduceToNat, Int.reduceEq, Int.reduceLT, Int.reduceLE, Int.reduceNe]; exact rfl) ?_ rfl (by simp only [go_sem, Nat.reduceBEq, Nat.reduceBneDiff, Nat.reduceLT, Nat.reduceLeDiff, Nat.reduceAdd, Nat.reduceMul, Nat.reduceSub, Nat.reduceEqDiff, reduceCtorEq, Int.cast_ofNat_Int, Int.reduceToNat, Int.reduceEq, Int.reduceLT, Int.reduceLE, Int.reduceNe]) (by simp only [go_sem, Nat.reduceBEq, Nat.reduceBneDiff, Nat.reduceLT, Nat.reduceLeDiff, Nat.reduceAdd, Nat.reduceMul, Nat.reduceSub, Nat.reduceEqDiff, reduceCtorEq, Int.cast_ofNat_Int, Int.reduceToNat, Int.reduceEq, Int.reduceLT, Int.reduceLE, Int.reduceNe]) (sz10_any) ?_)
    | (refine go_call (by simp only [go_sem, Nat.reduceBEq, Nat.reduceBneDiff, Nat.reduceLT, Nat.reduceLeDiff, Nat.reduceAdd, Nat.reduceMul, Nat.reduceSub, Nat.reduceEqDiff, reduceCtorEq, Int.cast_ofNat_Int, Int.reduceToNat, Int.reduceEq, Int.reduceLT, Int.reduceLE, Int.reduceNe]; exact rfl) ?_ (fun _ => num_any _) rfl ?_)
    | (refine go_call1 (by simp only [go_sem, Nat.reduceBEq, Nat.reduceBneDiff, Nat.reduceLT, Nat.reduceLeDiff, Nat.reduceAdd, Nat.reduceMul, Nat.reduceSub, Nat.reduceEqDiff, reduceCtorEq, Int.cast_ofNat_Int, Int.reduceToNat, Int.reduceEq, Int.reduceLT, Int.reduceLE, Int.reduceNe]; exact rfl) ?_ rfl (by simp only [go_sem, Nat.reduceBEq, Nat.reduceBneDiff, Nat.reduceLT, Nat.reduceLeDiff, Nat.reduceAdd, Nat.reduceMul, Nat.reduceSub, Nat.reduceEqDiff, reduceCtorEq, Int.cast_ofNat_Int, Int.reduceToNat, Int.reduceEq, Int.reduceLT, Int.reduceLE, Int.reduceNe]) (by simp only [go_sem, Nat.reduceBEq, Nat.reduceBneDiff, Nat.reduceLT, Nat.reduceLeDiff, Nat.reduceAdd, Nat.reduceMul, Nat.reduceSub, Nat.reduceEqDiff, reduceCtorEq, Int.cast_ofNat_Int, Int.reduceToNat, Int.reduceEq, Int.reduceLT, Int.reduceLE, Int.reduceNe]) (lens10_any) ?_)
    | (refine go_call (by simp only [go_sem, Nat.reduceBEq, Nat.reduceBneDiff, Nat.reduceLT, Nat.reduceLeDiff, Nat.reduceAdd, Nat.reduceMul, Nat.reduceSub, Nat.reduceEqDiff, reduceCtorEq, Int.cast_ofNat_Int, Int.reduceToNat, Int.reduceEq, Int.reduceLT, Int.reduceLE, Int.reduceNe]; exact rfl) ?_ (fun _ => len10_any 5 21 0 (by decide) len10a) rfl ?_)
    | (refine go_call (by simp only [go_sem, Nat.reduceBEq, Nat.reduceBneDiff, Nat.reduceLT, Nat.reduceLeDiff, Nat.reduceAdd, Nat.reduceMul, Nat.reduceSub, Nat.reduceEqDiff, reduceCtorEq, Int.cast_ofNat_Int, Int.reduceToNat, Int.reduceEq, Int.reduceLT, Int.reduceLE, Int.reduceNe]; exact rfl) ?_ (fun _ => len10_any 4 0 40 (by decide) len10b) rfl ?_)
    | (refine go_call (by simp only [go_sem, Nat.reduceBEq, Nat.reduceBneDiff, Nat.reduceLT, Nat.reduceLeDiff, Nat.reduceAdd, Nat.reduceMul, Nat.reduceSub, Nat.reduceEqDiff, reduceCtorEq, Int.cast_ofNat_Int, Int.reduceToNat, Int.reduceEq, Int.reduceLT, Int.reduceLE, Int.reduceNe]; exact rfl) ?_ (fun _ => len10_any 6 0 3 (by decide) len10c) rfl ?_)
    | (refine go_call (by simp only [go_sem, Nat.reduceBEq, Nat.reduceBneDiff, Nat.reduceLT, Nat.reduceLeDiff, Nat.reduceAdd, Nat.reduceMul, Nat.reduceSub, Nat.reduceEqDiff, reduceCtorEq, Int.cast_ofNat_Int, Int.reduceToNat, Int.reduceEq, Int.reduceLT, Int.reduceLE, Int.reduceNe]; exact rfl) ?_ (fun _ => hs) rfl ?_) | fail)) <;> (try omega)
  exact rfl
theorem rest_eq (n m : Int) (hm : 1 ≤ m) : (n.tmod m + m).tmod m = n % m ∧ -m < n.tmod m ∧ n.tmod m < m := by
  have h1 := Int.tmod_lt_of_pos n (show 0 < m by omega)
  have h2 := Int.lt_tmod_of_pos n (show 0 < m by omega)
  refine ⟨?_, h2, h1⟩
  rw [Int.tmod_eq_emod_of_nonneg (by omega), Int.tmod_def]
  rw [Int.add_emod_right, Int.sub_mul_emod_self_left]
theorem rest_any (n m : Int) (hn : I64 n) (hm : 1 ≤ m ∧ m ≤ 4611686018427387904) : PCall Try.prog 37 [vI n, vI m] (fun r => r = vI (n % m)) := by
  refine go_fn (tyOf_ok _) Try.func37 rfl rfl (by rw [Try.results37]) Try.ntmps37 rfl fun E => ?_
  have e1 : (m = 0) = False := eq_false (by omega)
  obtain ⟨h1, h2, h3⟩ := rest_eq n m hm.1
  have hw := wrap_i64 (n := n.tmod m + m) (by omega)
  (repeat' (first
    | exact trivial
    | (with_reducible first | refine aw_seq ?_ | refine aw_block ?_ | refine aw_skip ?_ | refine aw_ret ?_ | refine aw_exit ?_ | refine aseq_normal ?_ | refine aseq_ret ?_ | refine aseq_exit ?_ | refine ablk_normal ?_ | refine ablk_ret ?_ | refine ablk_hit ?_ | refine aw_region ?_ | refine go_nil ?_ | refine al_of ?_)
    | with_reducible refine ablk_miss (by decide) ?_
    | ((with_reducible refine al_id ?_); refine go_run (tyOf_ok _) [] (by simp only [go_sem, Nat.reduceBEq, Nat.reduceBneDiff, Nat.reduceLT, Nat.reduceLeDiff, Nat.reduceAdd, Nat.reduceMul, Nat.reduceSub, Nat.reduceEqDiff, reduceCtorEq, e1, hw, h1]; exact rfl) ?_ ?_)
    | (refine aw_cond (by simp only [go_sem, Nat.reduceBEq, Nat.reduceBneDiff, Nat.reduceLT, Nat.reduceLeDiff, Nat.reduceAdd, Nat.reduceMul, Nat.reduceSub, Nat.reduceEqDiff, reduceCtorEq, e1, hw, h1]; exact rfl) (by simp only [go_sem, Nat.reduceBEq, Nat.reduceBneDiff, Nat.reduceLT, Nat.reduceLeDiff, Nat.reduceAdd, Nat.reduceMul, Nat.reduceSub, Nat.reduceEqDiff, reduceCtorEq]) (fun h => ?_) (fun h => ?_) <;> (try simp only [decide_eq_true_eq, decide_eq_false_iff_not, Bool.not_eq_true', Bool.not_eq_false', Bool.or_eq_true, Bool.or_eq_false_iff, Bool.and_eq_true, Bool.and_eq_false_iff, Decidable.not_not, reduceCtorEq] at h) <;> (try (exfalso; omega)))
    | (first | refine aend_ret (by simp only [go_sem, Nat.reduceBEq, Nat.reduceBneDiff, Nat.reduceLT, Nat.reduceLeDiff, Nat.reduceAdd, Nat.reduceMul, Nat.reduceSub, Nat.reduceEqDiff, reduceCtorEq, e1, hw, h1]; exact rfl) ?_ ?_ | refine aend_normal (by simp only [go_sem, Nat.reduceBEq, Nat.reduceBneDiff, Nat.reduceLT, Nat.reduceLeDiff, Nat.reduceAdd, Nat.reduceMul, Nat.reduceSub, Nat.reduceEqDiff, reduceCtorEq, e1, hw, h1]; exact rfl) ?_ ?_) | fail)) <;> (try omega)
  exact rfl
end Go.Proofs.Ytfgacgpicfknpaa
end
section
namespace Go.Proofs.Ytfgacgpicfknpaa
open Go.RowKit
set_option maxRecDepth 100000
set_option maxHeartbeats 8000000
def dblR (b : Bool) (k : Nat) : List (List AV) := [vI 1, vI 1, vI 0, nilS] :: (List.range k).map fun i => encT (dblT b i)
theorem dblR_succ (b : Bool) (k : Nat) : dblR b k ++ [encT (dblT b k)] = dblR b (k + 1) := by simp [dblR, List.range_succ]
theorem dblR_len (b : Bool) (k : Nat) : (dblR b k).length = k + 1 := by simp [dblR]
theorem dblR_up (b : Bool) (k : Nat) : Up (.agg [.lst 4 (dblR b k), nilS]) (vSch (dbl b k) []) := by
  refine .agg (.cons (.lst ?_) (.cons (.nil _) .nil))
  have h : encTs (dbl b k) = [vI 1, vI 1, vI 0, .lst 3 []] :: (List.range k).map fun i => encT (dblT b i) := by simp [encTs, dbl, encT, dbl0, encPs]
  rw [h]
  exact .cons (.cons (.rfl _) (.cons (.rfl _) (.cons (.rfl _) (.cons (.nil _) .nil)))) (UpLL.rfl' _)
theorem doubles_any (n : Nat) (hn : n ≤ 63) (b : Bool) : PCall Try.prog 40 [vI n, vB b] (fun r => r = vSch (dbl b n) []) := by
  refine go_fnU (tyOf_ok _) Try.func40 rfl rfl (by rw [Try.results40]) Try.ntmps40 rfl fun E => ?_
  (repeat' (first
    | exact trivial
    | (with_reducible first | refine aw_seq ?_ | refine aw_block ?_ | refine aw_skip ?_ | refine aw_ret ?_ | refine aw_exit ?_ | refine aseq_normal ?_ | refine aseq_ret ?_ | refine aseq_exit ?_ | refine ablk_normal ?_ | refine ablk_ret ?_ | refine ablk_hit ?_ | refine aw_region ?_ | refine go_nil ?_ | refine al_of ?_)
    | with_reducible refine ablk_miss (by decide) ?_
    | ((with_reducible refine al_id ?_); refine go_run (tyOf_ok _) [8] (by simp only [go_sem, Nat.reduceBEq, Nat.reduceBneDiff, Nat.reduceLT, Nat.reduceLeDiff, Nat.reduceAdd, Nat.reduceMul, Nat.reduceSub, Nat.reduceEqDiff, reduceCtorEq]; exact rfl) ?_ ?_)
    | (refine aw_cond (by simp only [go_sem, Nat.reduceBEq, Nat.reduceBneDiff, Nat.reduceLT, Nat.reduceLeDiff, Nat.reduceAdd, Nat.reduceMul, Nat.reduceSub, Nat.reduceEqDiff, reduceCtorEq]; exact rfl) (by simp only [go_sem, Nat.reduceBEq, Nat.reduceBneDiff, Nat.reduceLT, Nat.reduceLeDiff, Nat.reduceAdd, Nat.reduceMul, Nat.reduceSub, Nat.reduceEqDiff, reduceCtorEq]) (fun h => ?_) (fun h => ?_) <;> (try simp only [decide_eq_true_eq, decide_eq_false_iff_not, Bool.not_eq_true', Bool.not_eq_false', Bool.or_eq_true, Bool.or_eq_false_iff, Bool.and_eq_true, Bool.and_eq_false_iff, Decidable.not_not, reduceCtorEq] at h) <;> (try (exfalso; omega)))
    | (first | refine aend_ret (by simp only [go_sem, Nat.reduceBEq, Nat.reduceBneDiff, Nat.reduceLT, Nat.reduceLeDiff, Nat.reduceAdd, Nat.reduceMul, Nat.reduceSub, Nat.reduceEqDiff, reduceCtorEq]; exact rfl) ?_ ?_ | refine aend_normal (by simp only [go_sem, Nat.reduceBEq, Nat.reduceBneDiff, Nat.reduceLT, Nat.reduceLeDiff, Nat.reduceAdd, Nat.reduceMul, Nat.reduceSub, Nat.reduceEqDiff, reduceCtorEq]; exact rfl) ?_ ?_) | fail)) <;> (try omega)
  have hr0 : dblR b 0 = [[vI 1, vI 1, vI 0, nilS]] := rfl
  refine go_loop [0, 1, 4, 5, 6] [4, 5, 8] (fun k : Nat => ⟨[(0, true, vI n), (1, true, vB b), (4, true, .ptr 1 4 0 0), (5, true, .ptr 1 5 0 0), (6, true, vI k)],
    [(4, .var [nilS, nilS]), (5, .var [.ref 55 4 8 0 (k + 1), nilS]), (8, .row 55 4 (dblR b k))]⟩) (fun k => k ≤ n) (fun k => n - k) 0 (by simp only [go_sem, Nat.reduceBEq, Nat.reduceBneDiff, Nat.reduceLT, Nat.reduceLeDiff, Nat.reduceAdd, Nat.reduceMul, Nat.reduceSub, Nat.reduceEqDiff, reduceCtorEq]; exact rfl) (Nat.zero_le _) ?_
  intro k hk
  have hw1 := wrap_i64 (n := (k : Int) + 1) (by omega)
  have hlen := dblR_len b k
  have hlen1 := dblR_len b (k + 1)
  have htk : (dblR b k).take (k + 1) = dblR b k := take_len (by omega)
  have hsucc := dblR_succ b k
  by_cases hlt : k < n
  · have e1 : ((k : Int) < n) = True := eq_true (by omega)
    cases b with
    | false =>
      have hsucc' : dblR false k ++ [[vI 7, vI 0, vI 0, .lst 3 [[.v (.string ByteArray.empty), vI 0, vI k], [.v (.string ByteArray.empty), vI 1, vI k]]]] = dblR false (k + 1) := hsucc
      (repeat' (first
    | exact trivial
    | (with_reducible first | refine aw_seq ?_ | refine aw_block ?_ | refine aw_skip ?_ | refine aw_ret ?_ | refine aw_exit ?_ | refine aseq_normal ?_ | refine aseq_ret ?_ | refine aseq_exit ?_ | refine ablk_normal ?_ | refine ablk_ret ?_ | refine ablk_hit ?_ | refine aw_region ?_ | refine go_nil ?_ | refine al_of ?_)
    | with_reducible refine ablk_miss (by decide) ?_
    | ((with_reducible refine al_id ?_); refine go_run (tyOf_ok _) [8] (by simp only [go_sem, Nat.reduceBEq, Nat.reduceBneDiff, Nat.reduceLT, Nat.reduceLeDiff, Nat.reduceAdd, Nat.reduceMul, Nat.reduceSub, Nat.reduceEqDiff, reduceCtorEq, hw1, e1, htk, hlen, hlen1, hsucc']; exact rfl) ?_ ?_)
    | (refine aw_cond (by simp only [go_sem, Nat.reduceBEq, Nat.reduceBneDiff, Nat.reduceLT, Nat.reduceLeDiff, Nat.reduceAdd, Nat.reduceMul, Nat.reduceSub, Nat.reduceEqDiff, reduceCtorEq, hw1, e1, htk, hlen, hlen1, hsucc']; exact rfl) (by simp only [go_sem, Nat.reduceBEq, Nat.reduceBneDiff, Nat.reduceLT, Nat.reduceLeDiff, Nat.reduceAdd, Nat.reduceMul, Nat.reduceSub, Nat.reduceEqDiff, reduceCtorEq]) (fun h => ?_) (fun h => ?_) <;> (try simp only [decide_eq_true_eq, decide_eq_false_iff_not, Bool.not_eq_true', Bool.not_eq_false', Bool.or_eq_true, Bool.or_eq_false_iff, Bool.and_eq_true, Bool.and_eq_false_iff, Decidable.not_not, reduceCtorEq] at h) <;> (try (exfalso; omega)))
    | (first | refine aend_ret (by simp only [go_sem, Nat.reduceBEq, Nat.reduceBneDiff, Nat.reduceLT, Nat.reduceLeDiff, Nat.reduceAdd, Nat.reduceMul, Nat.reduceSub, Nat.reduceEqDiff, reduceCtorEq, hw1, e1, htk, hlen, hlen1, hsucc']; exact rfl) ?_ ?_ | refine aend_normal (by simp only [go_sem, Nat.reduceBEq, Nat.reduceBneDiff, Nat.reduceLT, Nat.reduceLeDiff, Nat.reduceAdd, Nat.reduceMul, Nat.reduceSub, Nat.reduceEqDiff, reduceCtorEq, hw1, e1, htk, hlen, hlen1, hsucc']; exact rfl) ?_ ?_) | fail)) <;> (try omega)
      exact ⟨k + 1, by simp only [go_sem, Nat.reduceBEq, Nat.reduceBneDiff, Nat.reduceLT, Nat.reduceLeDiff, Nat.reduceAdd, Nat.reduceMul, Nat.reduceSub, Nat.reduceEqDiff, reduceCtorEq]; exact rfl, hlt, by omega⟩
    | true =>
      have hsucc' : dblR true k ++ [[vI 8, vI 0, vI 0, .lst 3 [[.v (.string ⟨#[97]⟩), vI 0, vI k], [.v (.string ⟨#[98]⟩), vI 0, vI k]]]] = dblR true (k + 1) := hsucc
      (repeat' (first
    | exact trivial
    | (with_reducible first | refine aw_seq ?_ | refine aw_block ?_ | refine aw_skip ?_ | refine aw_ret ?_ | refine aw_exit ?_ | refine aseq_normal ?_ | refine aseq_ret ?_ | refine aseq_exit ?_ | refine ablk_normal ?_ | refine ablk_ret ?_ | refine ablk_hit ?_ | refine aw_region ?_ | refine go_nil ?_ | refine al_of ?_)
    | with_reducible refine ablk_miss (by decide) ?_
    | ((with_reducible refine al_id ?_); refine go_run (tyOf_ok _) [8] (by simp only [go_sem, Nat.reduceBEq, Nat.reduceBneDiff, Nat.reduceLT, Nat.reduceLeDiff, Nat.reduceAdd, Nat.reduceMul, Nat.reduceSub, Nat.reduceEqDiff, reduceCtorEq, hw1, e1, htk, hlen, hlen1, hsucc']; exact rfl) ?_ ?_)
    | (refine aw_cond (by simp only [go_sem, Nat.reduceBEq, Nat.reduceBneDiff, Nat.reduceLT, Nat.reduceLeDiff, Nat.reduceAdd, Nat.reduceMul, Nat.reduceSub, Nat.reduceEqDiff, reduceCtorEq, hw1, e1, htk, hlen, hlen1, hsucc']; exact rfl) (by simp only [go_sem, Nat.reduceBEq, Nat.reduceBneDiff, Nat.reduceLT, Nat.reduceLeDiff, Nat.reduceAdd, Nat.reduceMul, Nat.reduceSub, Nat.reduceEqDiff, reduceCtorEq]) (fun h => ?_) (fun h => ?_) <;> (try simp only [decide_eq_true_eq, decide_eq_false_iff_not, Bool.not_eq_true', Bool.not_eq_false', Bool.or_eq_true, Bool.or_eq_false_iff, Bool.and_eq_true, Bool.and_eq_false_iff, Decidable.not_not, reduceCtorEq] at h) <;> (try (exfalso; omega)))
    | (first | refine aend_ret (by simp only [go_sem, Nat.reduceBEq, Nat.reduceBneDiff, Nat.reduceLT, Nat.reduceLeDiff, Nat.reduceAdd, Nat.reduceMul, Nat.reduceSub, Nat.reduceEqDiff, reduceCtorEq, hw1, e1, htk, hlen, hlen1, hsucc']; exact rfl) ?_ ?_ | refine aend_normal (by simp only [go_sem, Nat.reduceBEq, Nat.reduceBneDiff, Nat.reduceLT, Nat.reduceLeDiff, Nat.reduceAdd, Nat.reduceMul, Nat.reduceSub, Nat.reduceEqDiff, reduceCtorEq, hw1, e1, htk, hlen, hlen1, hsucc']; exact rfl) ?_ ?_) | fail)) <;> (try omega)
      exact ⟨k + 1, by simp only [go_sem, Nat.reduceBEq, Nat.reduceBneDiff, Nat.reduceLT, Nat.reduceLeDiff, Nat.reduceAdd, Nat.reduceMul, Nat.reduceSub, Nat.reduceEqDiff, reduceCtorEq]; exact rfl, hlt, by omega⟩
  · have e1 : ((k : Int) < n) = False := eq_false (by omega)
    have hke : k = n := by omega
    subst hke
    (repeat' (first
    | exact trivial
    | (with_reducible first | refine aw_seq ?_ | refine aw_block ?_ | refine aw_skip ?_ | refine aw_ret ?_ | refine aw_exit ?_ | refine aseq_normal ?_ | refine aseq_ret ?_ | refine aseq_exit ?_ | refine ablk_normal ?_ | refine ablk_ret ?_ | refine ablk_hit ?_ | refine aw_region ?_ | refine go_nil ?_ | refine al_of ?_)
    | with_reducible refine ablk_miss (by decide) ?_
    | ((with_reducible refine al_id ?_); refine go_run (tyOf_ok _) [] (by simp only [go_sem, Nat.reduceBEq, Nat.reduceBneDiff, Nat.reduceLT, Nat.reduceLeDiff, Nat.reduceAdd, Nat.reduceMul, Nat.reduceSub, Nat.reduceEqDiff, reduceCtorEq, hw1, e1, htk]; exact rfl) ?_ ?_)
    | (refine aw_cond (by simp only [go_sem, Nat.reduceBEq, Nat.reduceBneDiff, Nat.reduceLT, Nat.reduceLeDiff, Nat.reduceAdd, Nat.reduceMul, Nat.reduceSub, Nat.reduceEqDiff, reduceCtorEq, hw1, e1, htk]; exact rfl) (by simp only [go_sem, Nat.reduceBEq, Nat.reduceBneDiff, Nat.reduceLT, Nat.reduceLeDiff, Nat.reduceAdd, Nat.reduceMul, Nat.reduceSub, Nat.reduceEqDiff, reduceCtorEq]) (fun h => ?_) (fun h => ?_) <;> (try simp only [decide_eq_true_eq, decide_eq_false_iff_not, Bool.not_eq_true', Bool.not_eq_false', Bool.or_eq_true, Bool.or_eq_false_iff, Bool.and_eq_true, Bool.and_eq_false_iff, Decidable.not_not, reduceCtorEq] at h) <;> (try (exfalso; omega)))
    | (first | refine aend_ret (by simp only [go_sem, Nat.reduceBEq, Nat.reduceBneDiff, Nat.reduceLT, Nat.reduceLeDiff, Nat.reduceAdd, Nat.reduceMul, Nat.reduceSub, Nat.reduceEqDiff, reduceCtorEq, hw1, e1, htk]; exact rfl) ?_ ?_ | refine aend_normal (by simp only [go_sem, Nat.reduceBEq, Nat.reduceBneDiff, Nat.reduceLT, Nat.reduceLeDiff, Nat.reduceAdd, Nat.reduceMul, Nat.reduceSub, Nat.reduceEqDiff, reduceCtorEq, hw1, e1, htk]; exact rfl) ?_ ?_) | fail)) <;> (try omega)
    exact (dblR_up b k).up
theorem two_succ : ∀ i : Nat, i < 64 → two (i + 1) = if two i < 4611686018427387904 then 2 * two i else two i := by decide
theorem two_bd : ∀ i : Nat, i ≤ 63 → 1 ≤ two i ∧ two i ≤ 4611686018427387904 := by decide
theorem dblE_true (i : Nat) : dblE true i = ⟨true, two i, two i, i + 1⟩ := rfl
theorem dblE_false (i : Nat) : dblE false i = ⟨decide (i = 0), i + 1, i + 1, i + 1⟩ := by
  unfold dblE
  rw [if_neg (by decide)]
  split
  · rename_i h; subst h; rfl
  · rename_i h; simp [h]
theorem dbl_ext_get (b : Bool) {n i : Nat} (h : i ≤ n) : (encEs ((List.range (n + 1)).map (dblE b)))[i]? = some (encE (dblE b i)) := by
  simp [encEs, List.getElem?_map, List.getElem?_range (show i < n + 1 by omega)]
theorem sizeDoubles_any (z : Int) (hz : I64 z) : PCall Try.prog 11 [vI z] (fun r => r = vB true) := by
  refine go_fn (tyOf_ok _) Try.func11 rfl rfl (by rw [Try.results11]) Try.ntmps11 rfl fun E => ?_
  have hrest := rest_any z 64 hz (by omega)
  obtain ⟨n, hn⟩ : ∃ n : Nat, z % 64 = n := ⟨(z % 64).toNat, by omega⟩
  have hn63 : n ≤ 63 := by omega
  rw [hn] at hrest
  have hd0 := doubles_any n hn63 false
  have hd1 := doubles_any n hn63 true
  have hlp : ∀ b : Bool, ∀ t ∈ dbl b n, t.parts.length ≤ 1000000000 := fun b t ht => by
    rcases List.mem_cons.1 ht with rfl | ht
    · decide
    · obtain ⟨i, _, rfl⟩ := List.mem_map.1 ht
      cases b <;> simp [dblT]
  have hs0 := sizeOf_any (dbl false n) [] (by rw [dbl_len]; omega) (by decide) (hlp false)
  have hs1 := sizeOf_any (dbl true n) [] (by rw [dbl_len]; omega) (by decide) (hlp true)
  rw [dbl_sizes false n hn63] at hs0
  rw [dbl_sizes true n hn63] at hs1
  have hw0 := wrap_i64 (n := (n : Int) + 1) (by omega)
  have hlA : ((List.range (n + 1)).map (dblE false)).length = n + 1 := by simp
  have hlB : ((List.range (n + 1)).map (dblE true)).length = n + 1 := by simp
  have hgA : ∀ i : Nat, i ≤ n → (encEs ((List.range (n + 1)).map (dblE false)))[i]? = some [vB (decide (i = 0)), vI ((i : Int) + 1), vI ((i : Int) + 1), vI ((i : Int) + 1)] := fun i hi => by rw [dbl_ext_get false hi, dblE_false]; rfl
  have hgB : ∀ i : Nat, i ≤ n → (encEs ((List.range (n + 1)).map (dblE true)))[i]? = some [vB true, vI (two i), vI (two i), vI ((i : Int) + 1)] := fun i hi => by rw [dbl_ext_get true hi, dblE_true]; rfl
  generalize (List.range (n + 1)).map (dblE false) = A at *
  generalize (List.range (n + 1)).map (dblE true) = B at *
  have hc1 : ((n + 1 : Nat) : Int) = (n : Int) + 1 := by omega
  (repeat' (first
    | exact trivial
    | (with_reducible first | refine aw_seq ?_ | refine aw_block ?_ | refine aw_skip ?_ | refine aw_ret ?_ | refine aw_exit ?_ | refine aseq_normal ?_ | refine aseq_ret ?_ | refine aseq_exit ?_ | refine ablk_normal ?_ | refine ablk_ret ?_ | refine ablk_hit ?_ | refine aw_region ?_ | refine go_nil ?_ | refine al_of ?_)
    | with_reducible refine ablk_miss (by decide) ?_
    | ((with_reducible refine al_id ?_); refine go_run (tyOf_ok _) [] (by simp only [go_sem, Nat.reduceBEq, Nat.reduceBneDiff, Nat.reduceLT, Nat.reduceLeDiff, Nat.reduceAdd, Nat.reduceMul, Nat.reduceSub, Nat.reduceEqDiff, reduceCtorEq, vSch, encEs_len, hlA, hlB, hw0, hc1]; exact rfl) ?_ ?_)
    | (refine aw_cond (by simp only [go_sem, Nat.reduceBEq, Nat.reduceBneDiff, Nat.reduceLT, Nat.reduceLeDiff, Nat.reduceAdd, Nat.reduceMul, Nat.reduceSub, Nat.reduceEqDiff, reduceCtorEq, vSch, encEs_len, hlA, hlB, hw0, hc1]; exact rfl) (by simp only [go_sem, Nat.reduceBEq, Nat.reduceBneDiff, Nat.reduceLT, Nat.reduceLeDiff, Nat.reduceAdd, Nat.reduceMul, Nat.reduceSub, Nat.reduceEqDiff, reduceCtorEq]) (fun h => ?_) (fun h => ?_) <;> (try simp only [decide_eq_true_eq, decide_eq_false_iff_not, Bool.not_eq_true', Bool.not_eq_false', Bool.or_eq_true, Bool.or_eq_false_iff, Bool.and_eq_true, Bool.and_eq_false_iff, Decidable.not_not, reduceCtorEq] at h) <;> (try (exfalso; omega)))
    | (first | refine aend_ret (by simp only [go_sem, Nat.reduceBEq, Nat.reduceBneDiff, Nat.reduceLT, Nat.reduceLeDiff, Nat.reduceAdd, Nat.reduceMul, Nat.reduceSub, Nat.reduceEqDiff, reduceCtorEq, vSch, encEs_len, hlA, hlB, hw0, hc1]; exact rfl) ?_ ?_ | refine aend_normal (by simp only [go_sem, Nat.reduceBEq, Nat.reduceBneDiff, Nat.reduceLT, Nat.reduceLeDiff, Nat.reduceAdd, Nat.reduceMul, Nat.reduceSub, Nat.reduceEqDiff, reduceCtorEq, vSch, encEs_len, hlA, hlB, hw0, hc1]; exact rfl) ?_ ?_)
    | (refine go_call (by simp only [go_sem, Nat.reduceBEq, Nat.reduceBneDiff, Nat.reduceLT, Nat.reduceLeDiff, Nat.reduceAdd, Nat.reduceMul, Nat.reduceSub, Nat.reduceEqDiff, reduceCtorEq, vSch, encEs_len, hlA, hlB, hw0, hc1]; exact rfl) ?_ (fun _ => awake10) rfl ?_)
    | (refine go_call (by simp only [go_sem, Nat.reduceBEq, Nat.reduceBneDiff, Nat.reduceLT, Nat.reduceLeDiff, Nat.reduceAdd, Nat.reduceMul, Nat.reduceSub, Nat.reduceEqDiff, reduceCtorEq, vSch, encEs_len, hlA, hlB, hw0, hc1]; exact rfl) ?_ (fun _ => hrest) rfl ?_)
    | (refine go_call1 (by simp only [go_sem, Nat.reduceBEq, Nat.reduceBneDiff, Nat.reduceLT, Nat.reduceLeDiff, Nat.reduceAdd, Nat.reduceMul, Nat.reduceSub, Nat.reduceEqDiff, reduceCtorEq, vSch, encEs_len, hlA, hlB, hw0, hc1]; exact rfl) ?_ rfl (by simp only [go_sem, Nat.reduceBEq, Nat.reduceBneDiff, Nat.reduceLT, Nat.reduceLeDiff, Nat.reduceAdd, Nat.reduceMul, Nat.reduceSub, Nat.reduceEqDiff, reduceCtorEq, vSch, encEs_len, hlA, hlB, hw0, hc1]) (by simp only [go_sem, Nat.reduceBEq, Nat.reduceBneDiff, Nat.reduceLT, Nat.reduceLeDiff, Nat.reduceAdd, Nat.reduceMul, Nat.reduceSub, Nat.reduceEqDiff, reduceCtorEq, vSch, encEs_len, hlA, hlB, hw0, hc1]) (hd0) ?_)
    | (refine go_call1 (by simp only [go_sem, Nat.reduceBEq, Nat.reduceBneDiff, Nat.reduceLT, Nat.reduceLeDiff, Nat.reduceAdd, Nat.reduceMul, Nat.reduceSub, Nat.reduceEqDiff, reduceCtorEq, vSch, encEs_len, hlA, hlB, hw0, hc1]; exact rfl) ?_ rfl (by simp only [go_sem, Nat.reduceBEq, Nat.reduceBneDiff, Nat.reduceLT, Nat.reduceLeDiff, Nat.reduceAdd, Nat.reduceMul, Nat.reduceSub, Nat.reduceEqDiff, reduceCtorEq, vSch, encEs_len, hlA, hlB, hw0, hc1]) (by simp only [go_sem, Nat.reduceBEq, Nat.reduceBneDiff, Nat.reduceLT, Nat.reduceLeDiff, Nat.reduceAdd, Nat.reduceMul, Nat.reduceSub, Nat.reduceEqDiff, reduceCtorEq, vSch, encEs_len, hlA, hlB, hw0, hc1]) (hd1) ?_)
    | (refine go_call1 (by simp only [go_sem, Nat.reduceBEq, Nat.reduceBneDiff, Nat.reduceLT, Nat.reduceLeDiff, Nat.reduceAdd, Nat.reduceMul, Nat.reduceSub, Nat.reduceEqDiff, reduceCtorEq, vSch, encEs_len, hlA, hlB, hw0, hc1]; exact rfl) ?_ rfl (by simp only [go_sem, Nat.reduceBEq, Nat.reduceBneDiff, Nat.reduceLT, Nat.reduceLeDiff, Nat.reduceAdd, Nat.reduceMul, Nat.reduceSub, Nat.reduceEqDiff, reduceCtorEq, vSch, encEs_len, hlA, hlB, hw0, hc1]) (by simp only [go_sem, Nat.reduceBEq, Nat.reduceBneDiff, Nat.reduceLT, Nat.reduceLeDiff, Nat.reduceAdd, Nat.reduceMul, Nat.reduceSub, Nat.reduceEqDiff, reduceCtorEq, vSch, encEs_len, hlA, hlB, hw0, hc1]) (hs0) ?_)
    | (refine go_call1 (by simp only [go_sem, Nat.reduceBEq, Nat.reduceBneDiff, Nat.reduceLT, Nat.reduceLeDiff, Nat.reduceAdd, Nat.reduceMul, Nat.reduceSub, Nat.reduceEqDiff, reduceCtorEq, vSch, encEs_len, hlA, hlB, hw0, hc1]; exact rfl) ?_ rfl (by simp only [go_sem, Nat.reduceBEq, Nat.reduceBneDiff, Nat.reduceLT, Nat.reduceLeDiff, Nat.reduceAdd, Nat.reduceMul, Nat.reduceSub, Nat.reduceEqDiff, reduceCtorEq, vSch, encEs_len, hlA, hlB, hw0, hc1]) (by simp only [go_sem, Nat.reduceBEq, Nat.reduceBneDiff, Nat.reduceLT, Nat.reduceLeDiff, Nat.reduceAdd, Nat.reduceMul, Nat.reduceSub, Nat.reduceEqDiff, reduceCtorEq, vSch, encEs_len, hlA, hlB, hw0, hc1]) (hs1) ?_)
    | (refine go_call (by simp only [go_sem, Nat.reduceBEq, Nat.reduceBneDiff, Nat.reduceLT, Nat.reduceLeDiff, Nat.reduceAdd, Nat.reduceMul, Nat.reduceSub, Nat.reduceEqDiff, reduceCtorEq, vSch, encEs_len, hlA, hlB, hw0, hc1]; exact rfl) ?_ (fun _ => num_any _) rfl ?_) | fail)) <;> (try omega)
  refine go_loop [0, 3, 5, 7, 8] [] (fun i : Nat => ⟨[(0, true, vI n), (3, true, .lst 4 (encEs A)), (5, true, .lst 4 (encEs B)), (7, true, vI (two i)), (8, true, vI i)], []⟩)
    (fun i => i ≤ n + 1) (fun i => n + 1 - i) 0 (by simp only [go_sem, Nat.reduceBEq, Nat.reduceBneDiff, Nat.reduceLT, Nat.reduceLeDiff, Nat.reduceAdd, Nat.reduceMul, Nat.reduceSub, Nat.reduceEqDiff, reduceCtorEq]; exact rfl) (Nat.zero_le _) ?_
  intro i hi
  have hw1 := wrap_i64 (n := (i : Int) + 1) (by omega)
  have hw2 := wrap_i64 (n := 1 + (i : Int)) (by omega)
  by_cases hlt : i ≤ n
  · have e1 : ((i : Int) ≤ n) = True := eq_true (by omega)
    have hb := two_bd i (by omega)
    have g1 := hgA i hlt
    have g2 := hgB i hlt
    have hw3 := fun h : two i < 4611686018427387904 => wrap_i64 (n := 2 * two i) (by omega)
    have e2 : ((i : Int) + 1 = 1 + i) = True := eq_true (by omega)
    have hs := two_succ i (by omega)
    (repeat' (first
    | exact trivial
    | (with_reducible first | refine aw_seq ?_ | refine aw_block ?_ | refine aw_skip ?_ | refine aw_ret ?_ | refine aw_exit ?_ | refine aseq_normal ?_ | refine aseq_ret ?_ | refine aseq_exit ?_ | refine ablk_normal ?_ | refine ablk_ret ?_ | refine ablk_hit ?_ | refine aw_region ?_ | refine go_nil ?_ | refine al_of ?_)
    | with_reducible refine ablk_miss (by decide) ?_
    | ((with_reducible refine al_id ?_); refine go_run (tyOf_ok _) [] (by simp only [go_sem, Nat.reduceBEq, Nat.reduceBneDiff, Nat.reduceLT, Nat.reduceLeDiff, Nat.reduceAdd, Nat.reduceMul, Nat.reduceSub, Nat.reduceEqDiff, reduceCtorEq, hlA, hlB, hw1, hw2, e1, g1, g2, e2]; exact rfl) ?_ ?_)
    | (refine aw_cond (by simp only [go_sem, Nat.reduceBEq, Nat.reduceBneDiff, Nat.reduceLT, Nat.reduceLeDiff, Nat.reduceAdd, Nat.reduceMul, Nat.reduceSub, Nat.reduceEqDiff, reduceCtorEq, hlA, hlB, hw1, hw2, e1, g1, g2, e2]; exact rfl) (by simp only [go_sem, Nat.reduceBEq, Nat.reduceBneDiff, Nat.reduceLT, Nat.reduceLeDiff, Nat.reduceAdd, Nat.reduceMul, Nat.reduceSub, Nat.reduceEqDiff, reduceCtorEq]) (fun h => ?_) (fun h => ?_) <;> (try simp only [decide_eq_true_eq, decide_eq_false_iff_not, Bool.not_eq_true', Bool.not_eq_false', Bool.or_eq_true, Bool.or_eq_false_iff, Bool.and_eq_true, Bool.and_eq_false_iff, Decidable.not_not, reduceCtorEq] at h) <;> (try (exfalso; omega)))
    | (first | refine aend_ret (by simp only [go_sem, Nat.reduceBEq, Nat.reduceBneDiff, Nat.reduceLT, Nat.reduceLeDiff, Nat.reduceAdd, Nat.reduceMul, Nat.reduceSub, Nat.reduceEqDiff, reduceCtorEq, hlA, hlB, hw1, hw2, e1, g1, g2, e2]; exact rfl) ?_ ?_ | refine aend_normal (by simp only [go_sem, Nat.reduceBEq, Nat.reduceBneDiff, Nat.reduceLT, Nat.reduceLeDiff, Nat.reduceAdd, Nat.reduceMul, Nat.reduceSub, Nat.reduceEqDiff, reduceCtorEq, hlA, hlB, hw1, hw2, e1, g1, g2, e2]; exact rfl) ?_ ?_) | fail)) <;> (try omega)
    · rw [if_pos h] at hs
      exact ⟨i + 1, by simp only [go_sem, Nat.reduceBEq, Nat.reduceBneDiff, Nat.reduceLT, Nat.reduceLeDiff, Nat.reduceAdd, Nat.reduceMul, Nat.reduceSub, Nat.reduceEqDiff, reduceCtorEq, hw3 h, hs]; exact rfl, by omega, by omega⟩
    · rw [if_neg (by omega)] at hs
      exact ⟨i + 1, by simp only [go_sem, Nat.reduceBEq, Nat.reduceBneDiff, Nat.reduceLT, Nat.reduceLeDiff, Nat.reduceAdd, Nat.reduceMul, Nat.reduceSub, Nat.reduceEqDiff, reduceCtorEq, hs]; exact rfl, by omega, by omega⟩
  · have e1 : ((i : Int) ≤ n) = False := eq_false (by omega)
    (repeat' (first
    | exact trivial
    | (with_reducible first | refine aw_seq ?_ | refine aw_block ?_ | refine aw_skip ?_ | refine aw_ret ?_ | refine aw_exit ?_ | refine aseq_normal ?_ | refine aseq_ret ?_ | refine aseq_exit ?_ | refine ablk_normal ?_ | refine ablk_ret ?_ | refine ablk_hit ?_ | refine aw_region ?_ | refine go_nil ?_ | refine al_of ?_)
    | with_reducible refine ablk_miss (by decide) ?_
    | ((with_reducible refine al_id ?_); refine go_run (tyOf_ok _) [] (by simp only [go_sem, Nat.reduceBEq, Nat.reduceBneDiff, Nat.reduceLT, Nat.reduceLeDiff, Nat.reduceAdd, Nat.reduceMul, Nat.reduceSub, Nat.reduceEqDiff, reduceCtorEq, hw1, e1]; exact rfl) ?_ ?_)
    | (refine aw_cond (by simp only [go_sem, Nat.reduceBEq, Nat.reduceBneDiff, Nat.reduceLT, Nat.reduceLeDiff, Nat.reduceAdd, Nat.reduceMul, Nat.reduceSub, Nat.reduceEqDiff, reduceCtorEq, hw1, e1]; exact rfl) (by simp only [go_sem, Nat.reduceBEq, Nat.reduceBneDiff, Nat.reduceLT, Nat.reduceLeDiff, Nat.reduceAdd, Nat.reduceMul, Nat.reduceSub, Nat.reduceEqDiff, reduceCtorEq]) (fun h => ?_) (fun h => ?_) <;> (try simp only [decide_eq_true_eq, decide_eq_false_iff_not, Bool.not_eq_true', Bool.not_eq_false', Bool.or_eq_true, Bool.or_eq_false_iff, Bool.and_eq_true, Bool.and_eq_false_iff, Decidable.not_not, reduceCtorEq] at h) <;> (try (exfalso; omega)))
    | (first | refine aend_ret (by simp only [go_sem, Nat.reduceBEq, Nat.reduceBneDiff, Nat.reduceLT, Nat.reduceLeDiff, Nat.reduceAdd, Nat.reduceMul, Nat.reduceSub, Nat.reduceEqDiff, reduceCtorEq, hw1, e1]; exact rfl) ?_ ?_ | refine aend_normal (by simp only [go_sem, Nat.reduceBEq, Nat.reduceBneDiff, Nat.reduceLT, Nat.reduceLeDiff, Nat.reduceAdd, Nat.reduceMul, Nat.reduceSub, Nat.reduceEqDiff, reduceCtorEq, hw1, e1]; exact rfl) ?_ ?_) | fail)) <;> (try omega)
    exact rfl
end Go.Proofs.Ytfgacgpicfknpaa
end
section
namespace Go.Proofs.Ytfgacgpicfknpaa
open Go.ChangeShapes Go.WideShapes Go.ChangeAt Go.RowKit

theorem own : ownKnob Try.prog.godebug = none := by kernel_rfl
theorem laidOut : laidOutB Try.prog = true := by kernel_rfl

/-- a slice of integers that came in: nil, or a row of 'cap' cells, the numbers 'zs' -/
def IsRow (k : IntKind) (w : World) (a : Option Addr) (len cap : Nat) (zs : List Int) : Prop :=
  (a = none ∧ len = 0 ∧ cap = 0 ∧ zs = []) ∨
  ∃ x, a = some x ∧ len ≤ cap ∧ cap ≤ maxLen ∧ zs.length = cap ∧ (∀ i, i < zs.length → w.cell? (x.add i) = some (.int k (zs.getD i 0))) ∧ ∀ n ∈ zs, (Lit.int k n).wf = true

theorem I64.of_wf {n : Int} (h : (Lit.int .i64 n).wf = true) : I64 n := bounds_i64 h
theorem U64.of_wf {n : Int} (h : (Lit.int .u64 n).wf = true) : U64 n := bounds_u64 h
theorem U8.of_wf {n : Int} (h : (Lit.int .u8 n).wf = true) : U8 n := bounds_u8 h

theorem IsRow.row {k : IntKind} {w : World} {a : Option Addr} {len cap : Nat} {zs : List Int} (h : IsRow k w a len cap zs) :
    Row w w.heap.size a ((zs.take len).map (Value.int k)) ∧ len = (zs.take len).length ∧ len ≤ cap ∧ cap ≤ maxLen ∧ ∀ z ∈ zs.take len, (Lit.int k z).wf = true := by
  rcases h with ⟨rfl, rfl, rfl, rfl⟩ | ⟨x, rfl, hl, hm, hz, hcell, hwz⟩
  · exact ⟨fun h => by simp at h, rfl, Nat.le_refl _, by decide, fun z hz => by simp at hz⟩
  · refine ⟨fun hn => ?_, by rw [List.length_take]; omega, hl, hm, fun z hz' => hwz z (List.mem_of_mem_take hz')⟩
    have hn' : 0 < len := by simp at hn; omega
    obtain ⟨b, off, spot⟩ := x
    have hc := hcell 0 (by omega)
    have hspot : spot = none := by simpa [Addr.add] using World.cell?_spot hc
    subst hspot
    refine ⟨b, off, rfl, World.block_lt_of_cell? w _ (by simpa [Addr.add] using hc), fun j u hu => ?_⟩
    have hj : j < len := by
      rcases Nat.lt_or_ge j ((zs.take len).map (Value.int k)).length with h | h
      · simp at h; omega
      · rw [List.getElem?_eq_none h] at hu; cases hu
    have hcj := hcell j (by omega)
    have hplain : (⟨b, off, none⟩ : Addr).add j = ⟨b, off + j, none⟩ := by unfold Addr.add; split <;> simp_all
    rw [hplain] at hcj
    rw [hcj]
    rw [List.getElem?_map, List.getElem?_take_of_lt hj, List.getElem?_eq_getElem (by omega : j < zs.length)] at hu
    simpa [List.getD_eq_getElem?_getD, List.getElem?_eq_getElem (by omega : j < zs.length)] using hu

end Go.Proofs.Ytfgacgpicfknpaa
end
section
namespace Go.Proofs.Ytfgacgpicfknpaa
open Go.ChangeShapes Go.WideShapes Go.ChangeAt Go.RowKit Go.Deep

theorem addr_plain (b off j : Nat) : (⟨b, off, none⟩ : Addr).add j = ⟨b, off + j, none⟩ := by
  unfold Addr.add; by_cases h : j = 0 <;> simp [h]
theorem flat_get {α : Type} {cells : α → List Value} {k : Nat} (hk : ∀ a, (cells a).length = k) : ∀ (L : List α) (i j : Nat), j < k → (L.flatMap cells)[i * k + j]? = (L[i]?).bind fun a => (cells a)[j]? := by
  intro L
  induction L with
  | nil => intro i j _; simp
  | cons a L ih =>
    intro i j hj
    rw [List.flatMap_cons]
    cases i with
    | zero => rw [Nat.zero_mul, Nat.zero_add, List.getElem?_append_left (by rw [hk]; exact hj)]; simp
    | succ i =>
      rw [Nat.add_mul, Nat.one_mul, List.getElem?_append_right (by rw [hk]; omega), hk]
      rw [show i * k + k + j - k = i * k + j by omega, ih i j hj]
      simp
theorem flat_length {α : Type} {cells : α → List Value} {k : Nat} (hk : ∀ a, (cells a).length = k) (L : List α) : (L.flatMap cells).length = L.length * k := by
  induction L with
  | nil => simp
  | cons a L ih => rw [List.flatMap_cons, List.length_append, hk, ih, List.length_cons, Nat.add_mul]; omega
theorem Row.flat {α : Type} {cells : α → List Value} {k : Nat} (hk : ∀ a, (cells a).length = k) {w : World} {B : Nat} {A : Option Addr} {L : List α} (h : Row w B A (L.flatMap cells)) (hk0 : 0 < k) (hL : 0 < L.length) :
    ∃ b off, A = some ⟨b, off, none⟩ ∧ b < B ∧ ∀ i a j u, L[i]? = some a → (cells a)[j]? = some u → w.cell? ⟨b, off + i * k + j, none⟩ = some u := by
  obtain ⟨b, off, e, hb, hc⟩ := h (by rw [flat_length hk]; exact Nat.mul_pos hL hk0)
  refine ⟨b, off, e, hb, fun i a j u hi hj => ?_⟩
  rw [Nat.add_assoc]
  refine hc _ u ?_
  have hjk : j < k := by
    rcases Nat.lt_or_ge j (cells a).length with h | h
    · rwa [hk] at h
    · rw [List.getElem?_eq_none h] at hj; cases hj
  rw [flat_get hk L i j hjk, hi]
  exact hj

section
variable {H : Type} {enc : TypeId × Value → H} {P : Program} {w : World} {base : Nat} {spare : Nat → Bool} {held : Bool}
/-- a slice that came in, read as a list -/
theorem open_view {α : Type} [Inhabited α] (cells : α → List Value) (ok : α → Prop) (k : Nat) (hk : ∀ a, (cells a).length = k) (hk0 : 0 < k) {t e : TypeId} (ht : P.underlying t = some (.slice e)) (hc : P.cellsOf e = k)
    (elem : ∀ n cs' x, DataW.trod enc P w base spare held n e cs' = some x → ∃ a, cs' = cells a ∧ ok a)
    {fuel : Nat} {v : Value} {x : DataW H × List MemPlace} (h : DataW.trod enc P w base spare held fuel t [v] = some x) :
    ∃ (A : Option Addr) (len cap : Nat) (L : List α), v = .slice A len cap ∧ len = L.length ∧ len ≤ cap ∧ cap ≤ maxLen ∧ Row w w.heap.size A (L.flatMap cells) ∧ ∀ a ∈ L, ok a := by
  rcases open_slice ht h with ⟨h0, _⟩ | ⟨a, len, cap, m, n, D, Pl, hv, hb, hl, hm, hmm, _, hx⟩
  · injection h0 with h0
    exact ⟨none, 0, 0, [], h0, rfl, Nat.le_refl _, by decide, fun h => by simp at h, fun a ha => by simp at ha⟩
  · injection hv with hv
    have hlm : len ≤ m := by rw [hmm]; split <;> omega
    obtain ⟨f, hf⟩ := choose_lt (n := len) (p := fun i (a' : α) => w.cells? base (a.add (i * k)) k = some (cells a') ∧ ok a') (fun i hi => by
      obtain ⟨cs', h1, h2⟩ := hx i (by omega)
      obtain ⟨a', rfl, h3⟩ := elem _ _ _ h2
      rw [hc] at h1
      exact ⟨a', h1, h3⟩)
    refine ⟨some a, len, cap, (List.range len).map f, hv, by simp, hl, hm, ?_, fun y hy => ?_⟩
    · intro h0
      rw [flat_length hk] at h0
      have hlen : 0 < len := by
        rcases Nat.eq_zero_or_pos len with h | h
        · subst h; simp at h0
        · exact h
      have hcell : ∀ i j, i < len → j < k → w.cell? ((a.add (i * k)).add j) = (cells (f i))[j]? := fun i j hi hj => (World.cells?_some (hf i hi).1).2.2 j hj
      obtain ⟨b, off, spot⟩ := a
      have h00 := hcell 0 0 hlen hk0
      rw [Nat.zero_mul] at h00
      have hz : ((⟨b, off, spot⟩ : Addr).add 0).add 0 = ⟨b, off, spot⟩ := by simp [Addr.add]
      rw [hz, List.getElem?_eq_getElem (by rw [hk]; exact hk0)] at h00
      have hspot : spot = none := World.cell?_spot h00
      subst hspot
      refine ⟨b, off, rfl, World.block_lt_of_cell? w _ h00, fun q u hu => ?_⟩
      have hq : q < len * k := by
        rcases Nat.lt_or_ge q (((List.range len).map f).flatMap cells).length with h | h
        · rw [flat_length hk] at h; simpa using h
        · rw [List.getElem?_eq_none h] at hu; cases hu
      have hqi : q / k < len := Nat.div_lt_of_lt_mul (by rw [Nat.mul_comm]; exact hq)
      have hqj : q % k < k := Nat.mod_lt _ hk0
      have hqe : q = q / k * k + q % k := by rw [Nat.mul_comm]; exact (Nat.div_add_mod q k).symm
      rw [hqe, flat_get hk _ _ _ hqj] at hu
      simp only [List.getElem?_map, List.getElem?_range hqi, Option.map_some, Option.bind_some] at hu
      have := hcell (q / k) (q % k) hqi hqj
      rw [hu, add_add] at this
      rw [addr_plain, ← hqe] at this
      exact this
    · obtain ⟨i, hi, rfl⟩ := List.mem_map.1 hy
      exact (hf i (by simpa using hi)).2

/-- a field of one cell of a struct that came in -/
theorem fld {n : Nat} {fs : Array Field} {xs : List (DataW H × List MemPlace)} {cs : List Value} (hxl : xs.length = fs.size)
    (hf : ∀ (i : Nat) (f : Field), fs[i]? = some f → DataW.trod enc P w base spare held n f.type ((cs.drop f.offset).take (P.cellsOf f.type)) = xs[i]?)
    (i T o : Nat) (hi : (fs[i]?).map (fun f => (f.type, f.offset)) = some (T, o)) (hc : P.cellsOf T = 1) (v : Value) (hv : cs[o]? = some v) : ∃ y, DataW.trod enc P w base spare held n T [v] = some y := by
  rw [Option.map_eq_some_iff] at hi
  obtain ⟨f, hfi, he⟩ := hi
  injection he with h1 h2
  have h3 := hf i f hfi
  rw [h1, h2, hc] at h3
  have ho : o < cs.length := by
    rcases Nat.lt_or_ge o cs.length with h | h
    · exact h
    · rw [List.getElem?_eq_none h] at hv; cases hv
  have h4 : (cs.drop o).take 1 = [v] := by
    rw [List.drop_eq_getElem_cons ho]
    rw [List.getElem?_eq_getElem ho] at hv
    injection hv with hv
    simp [hv]
  rw [h4] at h3
  have hix : i < xs.length := by
    rw [hxl]
    rcases Nat.lt_or_ge i fs.size with h | h
    · exact h
    · rw [Array.getElem?_eq_none h] at hfi; cases hfi
  exact ⟨xs[i], by rw [h3, List.getElem?_eq_getElem hix]⟩

/-- a slice of integers inside data that came in -/
def IntsIn (w : World) (k : IntKind) (A : Option Addr) (len cap : Nat) (zs : List Int) : Prop :=
  len = zs.length ∧ len ≤ cap ∧ cap ≤ maxLen ∧ Row w w.heap.size A (zs.map (Value.int k)) ∧ ∀ z ∈ zs, (Lit.int k z).wf = true
theorem open_ints_in {t e : TypeId} {k : IntKind} (ht : P.underlying t = some (.slice e)) (he : P.underlying e = some (.int k)) (hc : P.cellsOf e = 1) {fuel : Nat} {v : Value} {x : DataW H × List MemPlace}
    (h : DataW.trod enc P w base spare held fuel t [v] = some x) : ∃ A len cap zs, v = .slice A len cap ∧ IntsIn w k A len cap zs := by
  obtain ⟨A, len, cap, L, hv, h1, h2, h3, h4, h5⟩ := open_view (α := Int) (fun z => [Value.int k z]) (fun z => (Lit.int k z).wf = true) 1 (fun _ => rfl) (by decide) ht hc
    (fun n cs' x h => by obtain ⟨z, h1, _, h2⟩ := DataW.trod_int he h; exact ⟨z, h1, h2⟩) h
  refine ⟨A, len, cap, L, hv, h1, h2, h3, ?_, h5⟩
  have e : L.flatMap (fun z => [Value.int k z]) = L.map (Value.int k) := by
    clear h1 h2 h3 h4 h5
    induction L with
    | nil => rfl
    | cons a L ih => simp [List.flatMap_cons, ih]
  rwa [e] at h4
end
end Go.Proofs.Ytfgacgpicfknpaa
end
section
namespace Go.Proofs.Ytfgacgpicfknpaa
open Go.RowKit

/-! From what came in to abstract values. -/
section
variable {P : Program} {w : World}
theorem PCall.row {f : Nat} {args : List AV} (h : PCall P f args (fun r => r = .v (.bool true))) (vs : Array Value) (hl : vs.size = args.length)
    (ha : ∀ (i : Nat) (x : AV) (v : Value), args[i]? = some x → vs[i]? = some v → AVR (fun b => b < w.heap.size) (fun _ => none) w x v) :
    Calls P f vs w fun e w' => e = .returned (.bool true) ∧ Below w.heap.size w w' :=
  (h.2 w _ vs (fun _ hb => hb) hl ha).mono fun e w' ⟨v, r, h1, h2, h3, h4⟩ => by
    subst h2
    cases h4 with
    | s h4 =>
    cases h4 with
    | v _ => exact ⟨h1, h3⟩

theorem args_nil : ∀ (i : Nat) (x : AV) (v : Value), ([] : List AV)[i]? = some x → ((#[] : Array Value))[i]? = some v → AVR (fun b => b < w.heap.size) (fun _ => none) w x v := fun i x v h => by simp at h
theorem args_ok {as' : List AV} {vs : List Value} (h : ∀ (i : Nat) (x : AV) (v : Value), as'[i]? = some x → vs[i]? = some v → AVR (fun b => b < w.heap.size) (fun _ => none) w x v) :
    ∀ (i : Nat) (x : AV) (v : Value), as'[i]? = some x → vs.toArray[i]? = some v → AVR (fun b => b < w.heap.size) (fun _ => none) w x v := fun i x v h1 h2 => h i x v h1 (by simpa using h2)
theorem args_cons {F : Nat → Prop} {a : AV} {u : Value} {as' : List AV} {vs : List Value} (h : AVR F (fun _ => none) w a u) (hr : ∀ (i : Nat) (x : AV) (v : Value), as'[i]? = some x → vs[i]? = some v → AVR F (fun _ => none) w x v) :
    ∀ (i : Nat) (x : AV) (v : Value), (a :: as')[i]? = some x → (u :: vs)[i]? = some v → AVR F (fun _ => none) w x v := fun i x v h1 h2 => by
  cases i with
  | zero => simp only [List.getElem?_cons_zero, Option.some.injEq] at h1 h2; subst h1; subst h2; exact h
  | succ i => exact hr i x v (by simpa using h1) (by simpa using h2)
theorem avr_int {F : Nat → Prop} {β : Nat → Option Nat} (k : IntKind) (z : Int) : AVR F β w (.v (.int k z)) (.int k z) := .s (.v rfl)
theorem avr_bool {F : Nat → Prop} {β : Nat → Option Nat} (b : Bool) : AVR F β w (.v (.bool b)) (.bool b) := .s (.v rfl)

/-- a slice read as a list -/
theorem svr_row {α : Type} (enc : α → List AV) (cells : α → List Value) (k : Nat) (hk : ∀ a, (cells a).length = k) (hke : ∀ a, (enc a).length = k) (hk0 : 0 < k) {F : Nat → Prop} (hF : ∀ b, b < w.heap.size → F b)
    {A : Option Addr} {len cap : Nat} {L : List α} (hl : len = L.length) (hlc : len ≤ cap) (hcm : cap ≤ maxLen) (hr : Row w w.heap.size A (L.flatMap cells))
    (hone : ∀ a ∈ L, ∀ (j : Nat) (v : Value), (cells a)[j]? = some v → v.oneCell' = true) (hs : ∀ a ∈ L, ∀ (j : Nat) (x : AV) (v : Value), (enc a)[j]? = some x → (cells a)[j]? = some v → SVR F w x v) :
    SVR F w (.lst k (L.map enc)) (.slice A len cap) := by
  refine .lst (fun i j => ((L[i]?).bind fun a => (cells a)[j]?).getD undef) (by rw [hl, List.length_map]) hlc hcm (fun cs hcs => ?_) (fun hn => ?_) (fun i j hi hj => ?_) (fun i j cs u hc hu => ?_)
  · obtain ⟨a, _, rfl⟩ := List.mem_map.1 hcs
    exact hke a
  · obtain ⟨b, off, hA, hb, hc⟩ := Row.flat hk hr hk0 (by omega)
    refine ⟨b, off, hA, hF b hb, fun i j hi hj => ?_⟩
    have hi' : i < L.length := by omega
    have h2 : j < (cells L[i]).length := by rw [hk]; exact hj
    rw [List.getElem?_eq_getElem hi', Option.bind_some, List.getElem?_eq_getElem h2, Option.getD_some, ← Nat.add_assoc]
    exact hc i _ j _ (List.getElem?_eq_getElem hi') (List.getElem?_eq_getElem h2)
  · have hi' : i < L.length := by omega
    have h2 : j < (cells L[i]).length := by rw [hk]; exact hj
    rw [List.getElem?_eq_getElem hi', Option.bind_some, List.getElem?_eq_getElem h2, Option.getD_some]
    exact hone _ (List.getElem_mem hi') j _ (List.getElem?_eq_getElem h2)
  · rw [List.getElem?_map] at hc
    cases hci : L[i]? with
    | none => rw [hci] at hc; cases hc
    | some a =>
      rw [hci] at hc
      injection hc with hc
      subst hc
      have hj : j < (cells a).length := by
        rw [hk, ← hke a]
        rcases Nat.lt_or_ge j (enc a).length with h | h
        · exact h
        · rw [List.getElem?_eq_none h] at hu; cases hu
      rw [Option.bind_some, List.getElem?_eq_getElem hj, Option.getD_some]
      exact hs a (List.mem_of_getElem? hci) j u _ hu (List.getElem?_eq_getElem hj)
theorem flat_one {α : Type} (f : α → Value) (L : List α) : L.flatMap (fun z => [f z]) = L.map f := by
  induction L with
  | nil => rfl
  | cons a L ih => simp [List.flatMap_cons, ih]
/-- a slice of integers that came in -/
theorem avr_ints {β : Nat → Option Nat} {k : IntKind} {a : Option Addr} {len cap : Nat} {zs : List Int} (h : IsRow k w a len cap zs) :
    AVR (fun b => b < w.heap.size) β w (.lst 1 ((zs.take len).map fun z => [.v (.int k z)])) (.slice a len cap) := by
  obtain ⟨h1, h2, h3, h4, _⟩ := h.row
  refine .s (svr_row (fun z => [.v (.int k z)]) (fun z => [.int k z]) 1 (fun _ => rfl) (fun _ => rfl) (by decide) (fun _ h => h) h2 h3 h4 (by rw [flat_one]; exact h1) (fun a _ j v hv => ?_) (fun a _ j x v hx hv => ?_))
  · cases j with
    | zero => simp at hv; subst hv; rfl
    | succ j => simp at hv
  · cases j with
    | zero => simp at hx hv; subst hx; subst hv; exact .v rfl
    | succ j => simp at hx
end
end Go.Proofs.Ytfgacgpicfknpaa
end
section
namespace Go.Proofs.Ytfgacgpicfknpaa.bulks
open Go.ChangeShapes Go.WideShapes Go.ChangeAt Go.RowKit

theorem one_le {H : Type} (d : DataW H) : 1 ≤ Rows.uptoBulk d := by
  cases d with
  | lit l => cases l <;> simp [Rows.uptoBulk]
  | nil => simp [Rows.uptoBulk]
  | ptr d => simp [Rows.uptoBulk]
  | slice elems spare => simp [Rows.uptoBulk]
  | agg parts => simp [Rows.uptoBulk]
  | iface t d => simp [Rows.uptoBulk]
  | map entries => simp [Rows.uptoBulk]
  | held h => simp [Rows.uptoBulk]
theorem part_le {H : Type} {d : DataW H} {l : List (DataW H)} (h : d ∈ l) : Rows.uptoBulk d ≤ Rows.uptoBulkAll l := by
  induction l with
  | nil => cases h
  | cons x r ih =>
    simp only [Rows.uptoBulkAll]
    cases List.mem_cons.1 h with
    | inl e => subst e; omega
    | inr e => have := ih e; omega
theorem length_le {H : Type} (l : List (DataW H)) : l.length ≤ Rows.uptoBulkAll l := by
  induction l with
  | nil => simp [Rows.uptoBulkAll]
  | cons x r ih => have := one_le x; simp only [Rows.uptoBulkAll, List.length_cons]; omega
theorem slice_le {H : Type} (elems spare : List (DataW H)) : elems.length + spare.length + 1 ≤ Rows.uptoBulk (.slice elems spare) := by
  have h1 := length_le elems
  have h2 := length_le spare
  simp only [Rows.uptoBulk]
  omega
theorem take_le {H : Type} {k : IntKind} {len cap : Nat} {zs : List Int} (hz : zs.length = cap) (hl : len ≤ cap) : len ≤ Rows.uptoBulk (H := H) (.slice (lits k (zs.take len)) (lits k (zs.drop len))) := by
  refine Nat.le_trans ?_ (slice_le _ _)
  simp [lits]
  omega
theorem bound {H : Type} {l : List (DataW H)} (hk : Rows.uptoSmall H l = true) : Rows.uptoBulkAll l ≤ 1048576 := of_decide_eq_true hk
end Go.Proofs.Ytfgacgpicfknpaa.bulks
end
section
namespace Go.Proofs.Ytfgacgpicfknpaa
open Go.ChangeShapes Go.WideShapes Go.ChangeAt Go.RowKit Go.Deep

/-! What came in, of any plain type, as abstract values; a law's frame for any plain parameters. -/

def tileB (P : Program) : List Field → Nat → Nat → Bool
  | [], o, n => o == n
  | f :: l, o, n => (f.offset == o) && tileB P l (o + P.cellsOf f.type) n
/-- types of integers, truth values, strings, slices and structs alone -/
def plainTy (P : Program) : Nat → TypeId → Bool
  | 0, _ => false
  | n + 1, t =>
    match P.underlying t with
    | some .bool | some .string => P.cellsOf t == 1
    | some (.int _) => P.cellsOf t == 1
    | some (.slice e) => P.cellsOf t == 1 && Nat.blt 0 (P.cellsOf e) && plainTy P n e
    | some (.struct fs) => tileB P fs.toList 0 (P.cellsOf t) && fs.toList.all fun f => plainTy P n f.type
    | _ => false
/-- what the cells of a value of a type are; no list, no string longer than B -/
def Typed (P : Program) (B : Nat) : Nat → TypeId → List AV → Prop
  | 0, _, _ => False
  | n + 1, t, us =>
    match P.underlying t with
    | some .bool => ∃ b, us = [.v (.bool b)]
    | some (.int k) => ∃ z, us = [.v (.int k z)] ∧ (Lit.int k z).wf = true
    | some .string => ∃ s : ByteArray, us = [.v (.string s)] ∧ s.size ≤ B
    | some (.slice e) => ∃ xs, us = [.lst (P.cellsOf e) xs] ∧ xs.length ≤ B ∧ ∀ cs ∈ xs, cs.length = P.cellsOf e ∧ Typed P B n e cs
    | some (.struct fs) => us.length = P.cellsOf t ∧ ∀ (i : Nat) (f : Field), fs[i]? = some f → Typed P B n f.type ((us.drop f.offset).take (P.cellsOf f.type))
    | _ => False
def TypedA (P : Program) (B n : Nat) (t : TypeId) (x : AV) : Prop :=
  match P.underlying t with
  | some (.struct _) => ∃ us, x = .agg us ∧ Typed P B n t us
  | _ => Typed P B n t [x]
def TypedL (P : Program) (B n : Nat) : List TypeId → List AV → Prop
  | [], [] => True
  | t :: ts, x :: xs => TypedA P B n t x ∧ TypedL P B n ts xs
  | _, _ => False

theorem bulk_slice {H : Type} {elems spare : List (DataW H)} {B : Nat} (h : Rows.uptoBulk (.slice elems spare) ≤ B) : elems.length ≤ B ∧ ∀ d ∈ elems, Rows.uptoBulk d ≤ B := by
  simp only [Rows.uptoBulk] at h
  have h1 := bulks.length_le elems
  exact ⟨by omega, fun d hd => by have := bulks.part_le hd; omega⟩
theorem bulk_agg {H : Type} {parts : List (DataW H)} {B : Nat} (h : Rows.uptoBulk (.agg parts) ≤ B) : ∀ d ∈ parts, Rows.uptoBulk d ≤ B := fun d hd => by
  simp only [Rows.uptoBulk] at h
  have := bulks.part_le hd; omega

section
variable {H : Type} {enc : TypeId × Value → H} {P : Program} {w : World} {base : Nat} {spare : Nat → Bool} {held : Bool}
theorem tile_cover : ∀ (l : List Field) (o n : Nat), tileB P l o n = true → ∀ (us : Nat → List AV), (∀ (i : Nat) (f : Field), l[i]? = some f → (us i).length = P.cellsOf f.type) →
    ∃ r : List AV, r.length = n - o ∧ o ≤ n ∧ (∀ (i : Nat) (f : Field), l[i]? = some f → o ≤ f.offset ∧ (r.drop (f.offset - o)).take (P.cellsOf f.type) = us i) ∧
      ∀ j, j < n - o → ∃ i f q, l[i]? = some f ∧ q < P.cellsOf f.type ∧ o + j = f.offset + q ∧ r[j]? = (us i)[q]? := by
  intro l
  induction l with
  | nil =>
    intro o n h us _
    simp only [tileB, beq_iff_eq] at h
    subst h
    exact ⟨[], by simp, Nat.le_refl _, fun i f h => by simp at h, fun j hj => by omega⟩
  | cons g l ih =>
    intro o n h us hus
    simp only [tileB, Bool.and_eq_true, beq_iff_eq] at h
    obtain ⟨rfl, h⟩ := h
    obtain ⟨r, h1, h2, h3, h4⟩ := ih _ _ h (fun i => us (i + 1)) fun i f hf => hus (i + 1) f (by simpa using hf)
    have hl0 := hus 0 g rfl
    refine ⟨us 0 ++ r, by rw [List.length_append]; omega, by omega, fun i f hf => ?_, fun j hj => ?_⟩
    · cases i with
      | zero =>
        simp only [List.getElem?_cons_zero, Option.some.injEq] at hf
        subst hf
        refine ⟨Nat.le_refl _, ?_⟩
        rw [Nat.sub_self, List.drop_zero, ← hl0, List.take_left]
      | succ i =>
        obtain ⟨g1, g2⟩ := h3 i f (by simpa using hf)
        refine ⟨by omega, ?_⟩
        rw [show f.offset - g.offset = (us 0).length + (f.offset - (g.offset + P.cellsOf g.type)) by omega, List.drop_append, List.drop_of_length_le (by omega), List.nil_append]
        rw [show (us 0).length + (f.offset - (g.offset + P.cellsOf g.type)) - (us 0).length = f.offset - (g.offset + P.cellsOf g.type) by omega]
        exact g2
    · rcases Nat.lt_or_ge j (us 0).length with hlt | hge
      · exact ⟨0, g, j, rfl, by omega, rfl, by rw [List.getElem?_append_left hlt]⟩
      · obtain ⟨i, f, q, g1, g2, g3, g4⟩ := h4 (j - (us 0).length) (by omega)
        exact ⟨i + 1, f, q, by simpa using g1, g2, by omega, by rw [List.getElem?_append_right hge]; exact g4⟩

theorem open_gen (B : Nat) : ∀ (n : Nat) (t : TypeId), plainTy P n t = true → ∀ (fuel : Nat) (cs : List Value) (x : DataW H × List MemPlace), DataW.trod enc P w base spare held fuel t cs = some x → (Rows.uptoBulk x.1 ≤ B ∨ maxLen ≤ B) →
    ∃ us : List AV, us.length = cs.length ∧ cs.length = P.cellsOf t ∧ (∀ (j : Nat) (u : AV) (v : Value), us[j]? = some u → cs[j]? = some v → SVR (fun b => b < w.heap.size) w u v) ∧ Typed P B n t us := by
  intro n
  induction n with
  | zero => intro t h; cases h
  | succ n ih =>
    intro t hp fuel cs x h hB
    have one : ∀ (u : AV) (v : Value), SVR (fun b => b < w.heap.size) w u v → ∀ (j : Nat) (u' : AV) (v' : Value), [u][j]? = some u' → [v][j]? = some v' → SVR (fun b => b < w.heap.size) w u' v' := fun u v hs j u' v' h1 h2 => by
      cases j with
      | zero => simp only [List.getElem?_cons_zero, Option.some.injEq] at h1 h2; subst h1; subst h2; exact hs
      | succ j => simp at h1
    unfold plainTy at hp
    split at hp
    · rename_i ht
      obtain ⟨b, rfl, rfl⟩ := DataW.trod_bool ht h
      simp only [beq_iff_eq] at hp
      exact ⟨[.v (.bool b)], rfl, hp.symm, one _ _ (.v rfl), by unfold Typed; rw [ht]; exact ⟨b, rfl⟩⟩
    · rename_i ht
      obtain ⟨s, rfl, rfl, hs⟩ := DataW.trod_string ht h
      simp only [beq_iff_eq] at hp
      have hsB : s.size ≤ B := by
        rcases hB with hB | hB
        · simp only [Rows.uptoBulk] at hB
          have h1 : s.data.toList.length = s.size := by rw [Array.length_toList]; rfl
          omega
        · exact Nat.le_trans hs hB
      refine ⟨[.v (.string s)], rfl, hp.symm, one _ _ (.v rfl), ?_⟩
      unfold Typed
      rw [ht]
      exact ⟨s, rfl, hsB⟩
    · rename_i k ht
      obtain ⟨z, rfl, rfl, hz⟩ := DataW.trod_int ht h
      simp only [beq_iff_eq] at hp
      exact ⟨[.v (.int k z)], rfl, hp.symm, one _ _ (.v rfl), by unfold Typed; rw [ht]; exact ⟨z, rfl, hz⟩⟩
    · rename_i e ht
      simp only [Bool.and_eq_true, beq_iff_eq] at hp
      obtain ⟨⟨hp1, hp2⟩, hp3⟩ := hp
      have hk0 : 0 < P.cellsOf e := Nat.le_of_ble_eq_true hp2
      rcases open_slice ht h with ⟨h0, _⟩ | ⟨a, len, cap, m, f', D, Pl, rfl, hb, hl, hm, hmm, hx0, hx⟩
      · subst h0
        refine ⟨[.lst (P.cellsOf e) []], rfl, hp1.symm, one _ _ (.lst (fun _ _ => .nilFunc) rfl (Nat.le_refl _) (by decide) (fun cs h => by cases h) (fun h => absurd h (Nat.lt_irrefl _)) (fun i j hi => absurd hi (Nat.not_lt_zero _)) (fun i j cs u h => by simp at h)), ?_⟩
        unfold Typed
        rw [ht]
        exact ⟨[], rfl, Nat.zero_le _, fun cs h => by cases h⟩
      · have hlm : len ≤ m := by rw [hmm]; split <;> omega
        have hBe : ∀ i, i < len → Rows.uptoBulk (D i) ≤ B ∨ maxLen ≤ B := fun i hi => by
          rcases hB with hB | hB
          · rw [hx0] at hB
            exact .inl ((bulk_slice hB).2 _ (List.mem_map.2 ⟨i, List.mem_range.2 hi, rfl⟩))
          · exact .inr hB
        have hBl : len ≤ B := by
          rcases hB with hB | hB
          · rw [hx0] at hB
            have := (bulk_slice hB).1
            simpa using this
          · omega
        obtain ⟨f, hf⟩ := choose_lt (n := len) (p := fun i (y : List AV × List Value) => w.cells? base (a.add (i * P.cellsOf e)) (P.cellsOf e) = some y.2 ∧ y.1.length = y.2.length ∧ y.2.length = P.cellsOf e ∧
            (∀ (j : Nat) (u : AV) (v : Value), y.1[j]? = some u → y.2[j]? = some v → SVR (fun b => b < w.heap.size) w u v) ∧ Typed P B n e y.1) (fun i hi => by
          obtain ⟨cs', h1, h2⟩ := hx i (by omega)
          obtain ⟨us, g1, g2, g3, g4⟩ := ih e hp3 _ _ _ h2 (hBe i hi)
          exact ⟨(us, cs'), h1, g1, g2, g3, g4⟩)
        refine ⟨[.lst (P.cellsOf e) ((List.range len).map fun i => (f i).1)], rfl, hp1.symm, one _ _ ?_, ?_⟩
        · refine .lst (fun i j => ((f i).2[j]?).getD undef) (by simp) hl hm (fun cs hcs => ?_) (fun hn => ?_) (fun i j hi hj => ?_) (fun i j cs u hc hu => ?_)
          · obtain ⟨i, hi, rfl⟩ := List.mem_map.1 hcs
            have := hf i (List.mem_range.1 hi)
            omega
          · have hcell : ∀ i j, i < len → j < P.cellsOf e → w.cell? ((a.add (i * P.cellsOf e)).add j) = (f i).2[j]? := fun i j hi hj => (World.cells?_some (hf i hi).1).2.2 j hj
            obtain ⟨b, off, spot⟩ := a
            have h00 := hcell 0 0 hn hk0
            rw [Nat.zero_mul] at h00
            have hz : ((⟨b, off, spot⟩ : Addr).add 0).add 0 = ⟨b, off, spot⟩ := by simp [Addr.add]
            rw [hz, List.getElem?_eq_getElem (by have := hf 0 hn; omega)] at h00
            have hspot : spot = none := World.cell?_spot h00
            subst hspot
            refine ⟨b, off, rfl, World.block_lt_of_cell? w _ h00, fun i j hi hj => ?_⟩
            have h5 := hcell i j hi hj
            rw [add_add, addr_plain] at h5
            rw [h5, List.getElem?_eq_getElem (by have := hf i hi; omega)]
            rfl
          · have h5 := hf i hi
            have hj1 : j < (f i).1.length := by omega
            have hj2 : j < (f i).2.length := by omega
            rw [List.getElem?_eq_getElem hj2, Option.getD_some]
            exact (h5.2.2.2.1 j _ _ (List.getElem?_eq_getElem hj1) (List.getElem?_eq_getElem hj2)).one
          · rw [List.getElem?_map] at hc
            rcases Nat.lt_or_ge i len with hi | hi
            · rw [List.getElem?_range hi] at hc
              simp only [Option.map_some, Option.some.injEq] at hc
              subst hc
              have h5 := hf i hi
              have hj1 : j < (f i).1.length := lt_of_get hu
              have hj2 : j < (f i).2.length := by omega
              rw [List.getElem?_eq_getElem hj2, Option.getD_some]
              exact h5.2.2.2.1 j _ _ hu (List.getElem?_eq_getElem hj2)
            · rw [List.getElem?_eq_none (by simpa using hi)] at hc; cases hc
        · unfold Typed
          rw [ht]
          refine ⟨_, rfl, by simpa using hBl, fun cs hcs => ?_⟩
          obtain ⟨i, hi, rfl⟩ := List.mem_map.1 hcs
          have := hf i (List.mem_range.1 hi)
          exact ⟨by omega, this.2.2.2.2⟩
    · rename_i fs ht
      simp only [Bool.and_eq_true, List.all_eq_true] at hp
      obtain ⟨hp1, hp2⟩ := hp
      obtain ⟨xs, n', rfl, hx0, hlen, hxl, hf⟩ := DataW.trod_struct ht h
      have hBe : ∀ (i : Nat) (y : DataW H × List MemPlace), xs[i]? = some y → Rows.uptoBulk y.1 ≤ B ∨ maxLen ≤ B := fun i y hy => by
        rcases hB with hB | hB
        · rw [hx0] at hB
          exact .inl (bulk_agg hB _ (List.mem_map.2 ⟨y, List.mem_of_getElem? hy, rfl⟩))
        · exact .inr hB
      obtain ⟨us, hus⟩ := choose_lt (n := fs.size) (p := fun i (u : List AV) => ∀ f, fs[i]? = some f → u.length = P.cellsOf f.type ∧ ((cs.drop f.offset).take (P.cellsOf f.type)).length = P.cellsOf f.type ∧
          (∀ (j : Nat) (a : AV) (v : Value), u[j]? = some a → ((cs.drop f.offset).take (P.cellsOf f.type))[j]? = some v → SVR (fun b => b < w.heap.size) w a v) ∧ Typed P B n f.type u) (fun i hi => by
        have hix : i < xs.length := by omega
        have hfi := hf i fs[i] (Array.getElem?_eq_getElem hi)
        rw [List.getElem?_eq_getElem hix] at hfi
        obtain ⟨u, g1, g2, g3, g4⟩ := ih (fs[i]).type (hp2 _ (by simp)) _ _ _ hfi (hBe i _ (List.getElem?_eq_getElem hix))
        refine ⟨u, fun f hf' => ?_⟩
        rw [Array.getElem?_eq_getElem hi] at hf'
        injection hf' with hf'
        subst hf'
        exact ⟨by omega, g2, g3, g4⟩)
      have lt_of : ∀ (i : Nat) (f : Field), fs[i]? = some f → i < fs.size := fun i f h => by
        rcases Nat.lt_or_ge i fs.size with h' | h'
        · exact h'
        · rw [Array.getElem?_eq_none h'] at h; cases h
      obtain ⟨r, r1, r2, r3, r4⟩ := tile_cover fs.toList 0 (P.cellsOf t) hp1 us fun i f hf' => by
        have hf'' : fs[i]? = some f := by simpa using hf'
        exact (hus i (lt_of i f hf'') f hf'').1
      refine ⟨r, by omega, hlen, fun j u v hu hv => ?_, ?_⟩
      · obtain ⟨i, f, q, g1, g2, g3, g4⟩ := r4 j (by have := lt_of_get hu; omega)
        have g1' : fs[i]? = some f := by simpa using g1
        rw [hu] at g4
        refine (hus i (lt_of i f g1') f g1').2.2.1 q u v g4.symm ?_
        rw [List.getElem?_take_of_lt g2, List.getElem?_drop, ← g3, Nat.zero_add]
        exact hv
      · unfold Typed
        rw [ht]
        refine ⟨by omega, fun i f hf' => ?_⟩
        have := (r3 i f (by simpa using hf')).2
        rw [Nat.sub_zero] at this
        rw [this]
        exact (hus i (lt_of i f hf') f hf').2.2.2
    · cases hp

theorem open_arg {B n : Nat} {t : TypeId} (hp : plainTy P n t = true) {v : Value} {d : DataW H} {p : List MemPlace} (h : DataW.Trod enc P w base spare held t v d p) {r : Reach} {b0 : Nat} (ho : Value.okWide P w r b0 t v) (hB : Rows.uptoBulk d ≤ B ∨ maxLen ≤ B) :
    ∃ x, AVR (fun b => b < w.heap.size) (fun _ => none) w x v ∧ TypedA P B n t x := by
  obtain ⟨fuel, hf⟩ := h
  obtain ⟨us, h1, h2, h3, h4⟩ := open_gen B n t hp fuel _ _ hf hB
  have leaf : v.cells = #[v] → (∀ fs, P.underlying t ≠ some (.struct fs)) → ∃ x, AVR (fun b => b < w.heap.size) (fun _ => none) w x v ∧ TypedA P B n t x := fun hv hns => by
    rw [hv] at h1 h3
    obtain ⟨u, rfl⟩ := List.length_eq_one_iff.1 (show us.length = 1 by simpa using h1)
    refine ⟨u, .s (h3 0 u v rfl rfl), ?_⟩
    unfold TypedA
    split
    · rename_i fs ht; exact absurd ht (hns fs)
    · exact h4
  have hp' := hp
  cases n with
  | zero => cases hp
  | succ n =>
  unfold plainTy at hp'
  split at hp'
  · rename_i ht
    obtain ⟨b, rfl⟩ := okWide_bool ht ho
    exact leaf rfl fun fs h => by rw [ht] at h; cases h
  · rename_i ht
    obtain ⟨b, rfl⟩ := okWide_string ht ho
    exact leaf rfl fun fs h => by rw [ht] at h; cases h
  · rename_i k ht
    obtain ⟨b, rfl⟩ := okWide_int ht ho
    exact leaf rfl fun fs h => by rw [ht] at h; cases h
  · rename_i e ht
    obtain ⟨a, l, c, rfl⟩ := okWide_slice ht ho
    exact leaf rfl fun fs h => by rw [ht] at h; cases h
  · rename_i fs ht
    obtain ⟨cs, rfl, hcs⟩ := okWide_struct ht ho
    have hc : (Value.agg cs).cells = cs := rfl
    rw [hc] at h1 h3
    refine ⟨.agg us, .agg (by simpa using h1.symm) (fun i u hu => ?_) (fun i c u hc hu => .s (h3 i c u hc (by simpa using hu))), ?_⟩
    · have hi : i < us.length := by
        rw [h1]
        have := lt_of_get (l := cs.toList) (i := i) (x := u) (by simpa using hu)
        exact this
      exact (h3 i _ u (List.getElem?_eq_getElem hi) (by simpa using hu)).one
    · unfold TypedA
      rw [ht]
      exact ⟨us, rfl, h4⟩
  · cases hp'

theorem open_args {B n : Nat} {r : Reach} {b0 : Nat} : ∀ (ts : List TypeId) (vs : List Value) (ds : List (DataW H)) (p : List MemPlace), DataW.TrodAll enc P w base spare held ts vs ds p → (∀ t ∈ ts, plainTy P n t = true) →
    (∀ (j : Nat) t v, ts[j]? = some t → vs[j]? = some v → Value.okWide P w r b0 t v) → (Rows.uptoBulkAll ds ≤ B ∨ maxLen ≤ B) →
    ds.length = ts.length ∧ vs.length = ts.length ∧ ∃ as' : List AV, as'.length = vs.length ∧ (∀ (i : Nat) (x : AV) (v : Value), as'[i]? = some x → vs[i]? = some v → AVR (fun b => b < w.heap.size) (fun _ => none) w x v) ∧ TypedL P B n ts as' := by
  intro ts
  induction ts with
  | nil =>
    intro vs ds p h _ _ _
    obtain ⟨rfl, rfl, rfl⟩ := trodAll_nil h
    exact ⟨rfl, rfl, [], rfl, fun i x v h => by simp at h, trivial⟩
  | cons t ts ih =>
    intro vs ds p h hp ho hB
    obtain ⟨v, vs', d, ds', p1, q, rfl, rfl, rfl, h1, h2⟩ := trodAll_cons h
    have hB1 : Rows.uptoBulk d ≤ B ∨ maxLen ≤ B := hB.imp (fun h => by simp only [Rows.uptoBulkAll] at h; omega) id
    have hB2 : Rows.uptoBulkAll ds' ≤ B ∨ maxLen ≤ B := hB.imp (fun h => by simp only [Rows.uptoBulkAll] at h; omega) id
    obtain ⟨x, g1, g2⟩ := open_arg (hp t (.head _)) h1 (ho 0 t v rfl rfl) hB1
    obtain ⟨e1, e2, as', g3, g4, g5⟩ := ih vs' ds' q h2 (fun t ht => hp t (.tail _ ht)) (fun j t v h1 h2 => ho (j + 1) t v (by simpa using h1) (by simpa using h2)) hB2
    refine ⟨by simp [e1], by simp [e2], x :: as', by simp [g3], fun i y u hy hu => ?_, g2, g5⟩
    cases i with
    | zero => simp only [List.getElem?_cons_zero, Option.some.injEq] at hy hu; subst hy; subst hu; exact g1
    | succ i => exact g4 i y u (by simpa using hy) (by simpa using hu)
end

theorem trodAll_stays {H : Type} {enc : TypeId × Value → H} {P : Program} (hl : laidOutB P = true) {W W' : World} (hb : Below W.heap.size W W') : ∀ (ts : List TypeId) (vs : List Value) (ds : List (DataW H)) (p : List MemPlace),
    (∀ t ∈ ts, P.readableRec t = true ∧ t < P.types.size) → DataW.TrodAll enc P W 0 (fun _ => true) true ts vs ds p → DataW.TrodAll enc P W' 0 (fun b => decide (b < W.heap.size)) true ts vs ds p := by
  intro ts
  induction ts with
  | nil =>
    intro vs ds p _ h
    obtain ⟨rfl, rfl, rfl⟩ := trodAll_nil h
    exact trodAll_mk0
  | cons t ts ih =>
    intro vs ds p hr h
    obtain ⟨v, vs', d, ds', p1, q, rfl, rfl, rfl, h1, h2⟩ := trodAll_cons h
    have hlt : ∀ x ∈ p1, x.block < W.heap.size := by obtain ⟨m, hm⟩ := h1; exact DataW.trod_lt m _ _ _ hm
    exact trodAll_cons_mk (Below.trod hl (hr t (.head _)).1 (hr t (.head _)).2 h1 hb hlt) (ih vs' ds' q (fun t ht => hr t (.tail _ ht)) h2)

/-- a law's contract, of inputs of bulk at most B -/
theorem law_contract {P : Program} (hl : laidOutB P = true) {f : FuncId} {fn : Func} {spec : ChangeSpec} {tb B n : Nat} (hvars : spec.vars = []) (hres : fn.resultTypes = #[tb]) (htb : P.underlying tb = some .bool)
    (hfn : ∀ (H : Type) (ds : List (DataW H)), ds.length = fn.params.toList.length → spec.fn H ds = { results := [.lit (.bool true)], args := ds, vars := [] })
    (hplain : (fn.params.toList.all fun t => plainTy P n t && P.readableRec t && decide (t < P.types.size)) = true)
    (walk : ∀ as', TypedL P B n fn.params.toList as' → PCall P f as' (fun r => r = .v (.bool true)))
    (H : Type) (enc : TypeId × Value → H) (W : World) (base : Nat) (args : Array Value) (ds gs : List (DataW H)) (before : List MemPlace)
    (hval : ∀ (j : Nat) t v, fn.params[j]? = some t → args[j]? = some v → Value.okWide P W .any base t v)
    (hW : DataW.Whole enc P fn.params.toList spec.vars false W args.toList ds gs before) (hk : Rows.uptoBulkAll (ds ++ gs) ≤ B ∨ maxLen ≤ B) :
    Calls P f args W fun e W' => ∃ v, e = .returned v ∧ spec.post enc P fn false true false false W args v W' := by
  have hW' := hW
  obtain ⟨p, q, hA, hV, rfl, hfz, hnd⟩ := hW
  rw [hvars] at hV
  obtain ⟨rfl, rfl⟩ := trodVars_none hV
  rw [List.append_nil] at hk
  simp only [List.all_eq_true, Bool.and_eq_true, decide_eq_true_eq] at hplain
  obtain ⟨e1, e2, as', g1, g2, g3⟩ := open_args _ _ _ _ hA (fun t ht => (hplain t ht).1.1) (fun j t v h1 h2 => hval j t v (by simpa using h1) (by simpa using h2)) hk
  refine (PCall.row (walk as' g3) args (by simpa using g1.symm) (fun i x v hx hv => g2 i x v hx (by simpa using hv))).mono fun e W' ⟨he, bel⟩ => ?_
  subst he
  have hs : spec.fn H (ds ++ []) = { results := [.lit (.bool true)], args := ds, vars := [] } := by rw [List.append_nil]; exact hfn H ds e1
  refine ⟨_, rfl, ds, [], _, [], p, [], hW', ?_, ?_, ?_, bel.frame _, fun h => by cases h⟩
  · rw [hs, hres]
    exact trodAll_mk1 (shut_bool htb _)
  · rw [hs]
    exact trodAll_stays hl bel _ _ _ _ (fun t ht => ⟨(hplain t ht).1.2, (hplain t ht).2⟩) hA
  · rw [hs, hvars]; rfl
end Go.Proofs.Ytfgacgpicfknpaa
end

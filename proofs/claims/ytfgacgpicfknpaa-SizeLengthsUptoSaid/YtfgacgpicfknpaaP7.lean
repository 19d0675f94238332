import Derived.Lib.BitFns
import Derived.Test.YtfgacgpicfknpaaP6
set_option linter.all false
section
namespace Go.Proofs.Ytfgacgpicfknpaa
open Go.RowKit
set_option maxRecDepth 100000
theorem same_any (xs ys : List Int) (hx : xs.length ≤ 4611686018427387904) : PCall Try.prog 20 [.lst 1 (v8 xs), .lst 1 (v8 ys)] (fun r => r = .v (.bool (decide (xs = ys)))) := by
  refine go_fn (tyOf_ok _) Try.func20 rfl rfl (by rw [Try.results20]) Try.ntmps20 rfl fun E => ?_
  (repeat' (first
    | exact trivial
    | (with_reducible first | refine awA ?_ | refine awB ?_ | refine awC ?_ | refine awD ?_ | refine awE ?_ | refine awF ?_ | refine awG ?_ | refine awH ?_ | refine awI ?_ | refine awJ ?_ | refine awK ?_ | refine awL ?_ | refine awM (by decide) ?_)
    | (refine aw_draw (id := 6) (t := (.node [0, 1, 2, 3, 4, 5, 6, 7, 8] [])) (drR [] [20, 24] []) mixed (by kernel_rfl) (by kernel_rfl) (fun _ _ h => h) ?_)
    | (refine at_done (by simp only [List.filterMap_cons, List.filterMap_nil, List.getElem?_toArray, List.getElem?_cons_zero, List.getElem?_cons_succ]; exact rfl) ?_) | (refine at_alt (by simp only [List.filterMap_cons, List.filterMap_nil, List.getElem?_toArray, List.getElem?_cons_zero, List.getElem?_cons_succ]; exact rfl) ?_) | refine qalt_normal ?_ | refine ats_cons ?_ ?_ | exact ats_nil
    | ((with_reducible first | refine awN (tyOf_ok _) [] ?_ | refine awO (tyOf_ok _) [] ?_ | refine awP (tyOf_ok _) [] ?_ | refine awQ ?_ | refine awR ?_ | refine awS ?_); intro r hr; simp only [go_sem, Nat.reduceBEq, Nat.reduceBneDiff, Nat.reduceLT, Nat.reduceLeDiff, Nat.reduceAdd, Nat.reduceMul, Nat.reduceSub, Nat.reduceEqDiff, reduceCtorEq, v8_len] at hr; subst hr; (first | refine awV ?_ ?_ | refine awW ?_ ?_ | refine endK ?_ ?_ | (refine condK (fun h => ?_) (fun h => ?_) <;> (try simp only [go_sem, reduceCtorEq] at h) <;> (try (exfalso; omega))))) | fail)) <;> (try omega)
  · show AV.v _ = AV.v _
    rw [decide_eq_false (fun e => h (by rw [e]))]
  refine go_loop [0, 1, 5] [] (fun k : Nat => ⟨[(0, true, .lst 1 (v8 xs)), (1, true, .lst 1 (v8 ys)), (5, true, .v (.int .i64 k))], []⟩) (fun k => k ≤ xs.length ∧ xs.take k = ys.take k) (fun k => xs.length - k) 0 (by simp only [go_sem, Nat.reduceBEq, Nat.reduceBneDiff, Nat.reduceLT, Nat.reduceLeDiff, Nat.reduceAdd, Nat.reduceMul, Nat.reduceSub, Nat.reduceEqDiff, reduceCtorEq]; exact rfl) ⟨Nat.zero_le _, rfl⟩ ?_
  intro k ⟨hk, heq⟩
  have hl : xs.length = ys.length := by omega
  have hw := wrap_i64 (n := (k : Int) + 1) (by omega)
  by_cases hlt : k < xs.length
  · have g1 := v8_get hlt
    have g2 := v8_get (zs := ys) (k := k) (by omega)
    (repeat' (first
    | exact trivial
    | (with_reducible first | refine awA ?_ | refine awB ?_ | refine awC ?_ | refine awD ?_ | refine awE ?_ | refine awF ?_ | refine awG ?_ | refine awH ?_ | refine awI ?_ | refine awJ ?_ | refine awK ?_ | refine awL ?_ | refine awM (by decide) ?_)
    | (refine aw_draw (id := 6) (t := (.node [0, 1, 2, 3, 4, 5, 6, 7, 8] [])) (drR [] [20, 24] []) mixed (by kernel_rfl) (by kernel_rfl) (fun _ _ h => h) ?_)
    | (refine at_done (by simp only [List.filterMap_cons, List.filterMap_nil, List.getElem?_toArray, List.getElem?_cons_zero, List.getElem?_cons_succ]; exact rfl) ?_) | (refine at_alt (by simp only [List.filterMap_cons, List.filterMap_nil, List.getElem?_toArray, List.getElem?_cons_zero, List.getElem?_cons_succ]; exact rfl) ?_) | refine qalt_normal ?_ | refine ats_cons ?_ ?_ | exact ats_nil
    | ((with_reducible first | refine awN (tyOf_ok _) [] ?_ | refine awO (tyOf_ok _) [] ?_ | refine awP (tyOf_ok _) [] ?_ | refine awQ ?_ | refine awR ?_ | refine awS ?_); intro r hr; simp only [go_sem, Nat.reduceBEq, Nat.reduceBneDiff, Nat.reduceLT, Nat.reduceLeDiff, Nat.reduceAdd, Nat.reduceMul, Nat.reduceSub, Nat.reduceEqDiff, reduceCtorEq, v8_len, g1, g2, hw] at hr; subst hr; (first | refine awV ?_ ?_ | refine awW ?_ ?_ | refine endK ?_ ?_ | (refine condK (fun h => ?_) (fun h => ?_) <;> (try simp only [go_sem, reduceCtorEq] at h) <;> (try (exfalso; omega))))) | fail)) <;> (try omega)
    · show AV.v _ = AV.v _
      rw [decide_eq_false (fun e => by subst e; exact h rfl)]
    · refine ⟨k + 1, by simp only [go_sem, Nat.reduceBEq, Nat.reduceBneDiff, Nat.reduceLT, Nat.reduceLeDiff, Nat.reduceAdd, Nat.reduceMul, Nat.reduceSub, Nat.reduceEqDiff, reduceCtorEq]; exact rfl, ⟨by omega, ?_⟩, by omega⟩
      rw [List.take_succ_eq_append_getElem hlt, List.take_succ_eq_append_getElem (by omega), heq]
      simp_all
  · (repeat' (first
    | exact trivial
    | (with_reducible first | refine awA ?_ | refine awB ?_ | refine awC ?_ | refine awD ?_ | refine awE ?_ | refine awF ?_ | refine awG ?_ | refine awH ?_ | refine awI ?_ | refine awJ ?_ | refine awK ?_ | refine awL ?_ | refine awM (by decide) ?_)
    | (refine aw_draw (id := 6) (t := (.node [0, 1, 2, 3, 4, 5, 6, 7, 8] [])) (drR [] [20, 24] []) mixed (by kernel_rfl) (by kernel_rfl) (fun _ _ h => h) ?_)
    | (refine at_done (by simp only [List.filterMap_cons, List.filterMap_nil, List.getElem?_toArray, List.getElem?_cons_zero, List.getElem?_cons_succ]; exact rfl) ?_) | (refine at_alt (by simp only [List.filterMap_cons, List.filterMap_nil, List.getElem?_toArray, List.getElem?_cons_zero, List.getElem?_cons_succ]; exact rfl) ?_) | refine qalt_normal ?_ | refine ats_cons ?_ ?_ | exact ats_nil
    | ((with_reducible first | refine awN (tyOf_ok _) [] ?_ | refine awO (tyOf_ok _) [] ?_ | refine awP (tyOf_ok _) [] ?_ | refine awQ ?_ | refine awR ?_ | refine awS ?_); intro r hr; simp only [go_sem, Nat.reduceBEq, Nat.reduceBneDiff, Nat.reduceLT, Nat.reduceLeDiff, Nat.reduceAdd, Nat.reduceMul, Nat.reduceSub, Nat.reduceEqDiff, reduceCtorEq, v8_len, hw] at hr; subst hr; (first | refine awV ?_ ?_ | refine awW ?_ ?_ | refine endK ?_ ?_ | (refine condK (fun h => ?_) (fun h => ?_) <;> (try simp only [go_sem, reduceCtorEq] at h) <;> (try (exfalso; omega))))) | fail)) <;> (try omega)
    show AV.v _ = AV.v _
    rw [take_len (by omega), take_len (by omega)] at heq
    rw [decide_eq_true heq]

def offs : Int → List Int → Option (List Int)
  | _, [] => some []
  | x, n :: ns => if 4294967295 < x then none else (offs (x + min n 4294967296) ns).map (x :: ·)
theorem offs_step {x : Int} {xs : List Int} {k : Nat} (h : k < xs.length) : offs x (xs.drop k) = if 4294967295 < x then none else (offs (x + min xs[k] 4294967296) (xs.drop (k + 1))).map (x :: ·) := by
  rw [List.drop_eq_getElem_cons h]; rfl
def offsets (x : Int) (xs : List Int) : List Int × Int :=
  if x < 0 then ([], 3) else if ∃ n ∈ xs, n < 0 then ([], 3) else match offs x xs with
  | none => ([], 91)
  | some l => (l, 0)
def lerr (r : List Int × Int) : AV := .tup [.lst 1 (v8 r.1), .v (.int .i64 r.2)]
theorem drop_len {α : Type} {l : List α} {k : Nat} (h : l.length ≤ k) : l.drop k = [] := List.drop_of_length_le h
theorem offsets_any (x : Int) (hx : I64 x) (xs : List Int) (hl : xs.length ≤ 1000000000) (hxs : ∀ z ∈ xs, I64 z) : PCall Try.prog 16 [.v (.int .i64 x), .lst 1 (v8 xs)] (fun r => r = lerr (offsets x xs)) := by
  refine go_fnU (tyOf_ok _) Try.func16 rfl rfl (by rw [Try.results16]) Try.ntmps16 rfl fun E => ?_
  have hx' := hx
  unfold I64 at hx
  (repeat' (first
    | exact trivial
    | (with_reducible first | refine awA ?_ | refine awB ?_ | refine awC ?_ | refine awD ?_ | refine awE ?_ | refine awF ?_ | refine awG ?_ | refine awH ?_ | refine awI ?_ | refine awJ ?_ | refine awK ?_ | refine awL ?_ | refine awM (by decide) ?_)
    | ((with_reducible first | refine awN (tyOf_ok _) [] ?_ | refine awO (tyOf_ok _) [] ?_ | refine awP (tyOf_ok _) [] ?_ | refine awQ ?_ | refine awR ?_ | refine awS ?_); intro r hr; simp only [go_sem, Nat.reduceBEq, Nat.reduceBneDiff, Nat.reduceLT, Nat.reduceLeDiff, Nat.reduceAdd, Nat.reduceMul, Nat.reduceSub, Nat.reduceEqDiff, reduceCtorEq, v8_len] at hr; subst hr; (first | refine awV ?_ ?_ | refine awW ?_ ?_ | refine endK ?_ ?_ | (refine condK (fun h => ?_) (fun h => ?_) <;> (try simp only [go_sem, reduceCtorEq] at h) <;> (try (exfalso; omega))))) | fail)) <;> (try omega)
  · rw [lerr, offsets, if_pos h]; exact AV.up_nil2 _ _
  · refine go_loop [0, 1, 14, 15, 16] [] (fun k : Nat => ⟨[(0, true, .v (.int .i64 x)), (1, true, .lst 1 (v8 xs)), (14, true, .lst 1 (v8 xs)), (15, true, .v (.int .i64 xs.length)), (16, true, .v (.int .i64 k))], []⟩) (fun k => k ≤ xs.length ∧ ∀ i (hi : i < xs.length), i < k → 0 ≤ xs[i]) (fun k => xs.length - k) 0 (by simp only [go_sem, Nat.reduceBEq, Nat.reduceBneDiff, Nat.reduceLT, Nat.reduceLeDiff, Nat.reduceAdd, Nat.reduceMul, Nat.reduceSub, Nat.reduceEqDiff, reduceCtorEq, v8_len]; exact rfl) ⟨Nat.zero_le _, fun _ _ h => by omega⟩ ?_
    intro k ⟨hk, hpos⟩
    have hw := wrap_i64 (n := (k : Int) + 1) (by omega)
    by_cases hlt : k < xs.length
    · have g1 := v8_get hlt
      (repeat' (first
    | exact trivial
    | (with_reducible first | refine awA ?_ | refine awB ?_ | refine awC ?_ | refine awD ?_ | refine awE ?_ | refine awF ?_ | refine awG ?_ | refine awH ?_ | refine awI ?_ | refine awJ ?_ | refine awK ?_ | refine awL ?_ | refine awM (by decide) ?_)
    | ((with_reducible first | refine awN (tyOf_ok _) [] ?_ | refine awO (tyOf_ok _) [] ?_ | refine awP (tyOf_ok _) [] ?_ | refine awQ ?_ | refine awR ?_ | refine awS ?_); intro r hr; simp only [go_sem, Nat.reduceBEq, Nat.reduceBneDiff, Nat.reduceLT, Nat.reduceLeDiff, Nat.reduceAdd, Nat.reduceMul, Nat.reduceSub, Nat.reduceEqDiff, reduceCtorEq, v8_len, g1, hw] at hr; subst hr; (first | refine awV ?_ ?_ | refine awW ?_ ?_ | refine endK ?_ ?_ | (refine condK (fun h => ?_) (fun h => ?_) <;> (try simp only [go_sem, reduceCtorEq] at h) <;> (try (exfalso; omega))))) | fail)) <;> (try omega)
      · rw [lerr, offsets, if_neg (by omega), if_pos ⟨_, List.getElem_mem hlt, h⟩]; exact AV.up_nil2 _ _
      · refine ⟨k + 1, by simp only [go_sem, Nat.reduceBEq, Nat.reduceBneDiff, Nat.reduceLT, Nat.reduceLeDiff, Nat.reduceAdd, Nat.reduceMul, Nat.reduceSub, Nat.reduceEqDiff, reduceCtorEq]; exact rfl, ⟨by omega, fun i hi hik => ?_⟩, by omega⟩
        rcases Nat.lt_or_ge i k with h' | h'
        · exact hpos i hi h'
        · have : i = k := by omega
          subst this; omega
    · (repeat' (first
    | exact trivial
    | (with_reducible first | refine awA ?_ | refine awB ?_ | refine awC ?_ | refine awD ?_ | refine awE ?_ | refine awF ?_ | refine awG ?_ | refine awH ?_ | refine awI ?_ | refine awJ ?_ | refine awK ?_ | refine awL ?_ | refine awM (by decide) ?_)
    | ((with_reducible first | refine awN (tyOf_ok _) [] ?_ | refine awO (tyOf_ok _) [] ?_ | refine awP (tyOf_ok _) [] ?_ | refine awQ ?_ | refine awR ?_ | refine awS ?_); intro r hr; simp only [go_sem, Nat.reduceBEq, Nat.reduceBneDiff, Nat.reduceLT, Nat.reduceLeDiff, Nat.reduceAdd, Nat.reduceMul, Nat.reduceSub, Nat.reduceEqDiff, reduceCtorEq, v8_len, hw] at hr; subst hr; (first | refine awV ?_ ?_ | refine awW ?_ ?_ | refine endK ?_ ?_ | (refine condK (fun h => ?_) (fun h => ?_) <;> (try simp only [go_sem, reduceCtorEq] at h) <;> (try (exfalso; omega))))) | fail)) <;> (try omega)
      have hall : ∀ n ∈ xs, 0 ≤ n := fun n hn => by
        obtain ⟨i, hi, rfl⟩ := List.getElem_of_mem hn
        exact hpos i hi (by omega)
      have hns : ¬ ∃ n ∈ xs, n < 0 := fun ⟨n, hn, hn0⟩ => absurd (hall n hn) (by omega)
      refine aw_nilrow 8 3 1 8 (.inl (by decide)) (by simp only [go_sem, Nat.reduceBEq, Nat.reduceBneDiff, Nat.reduceLT, Nat.reduceLeDiff, Nat.reduceAdd, Nat.reduceMul, Nat.reduceSub, Nat.reduceEqDiff, reduceCtorEq]) ?_
      refine go_loop [24, 25, 26, 8, 9] [8] (fun p : Nat × List Int × Int => ⟨[(24, true, .lst 1 (v8 xs)), (25, true, .v (.int .i64 xs.length)), (26, true, .v (.int .i64 p.1)), (8, true, .ref 3 1 8 0 (v8 p.2.1).length), (9, true, .v (.int .i64 p.2.2))], [(8, .row 3 1 (v8 p.2.1))]⟩)
        (fun p => p.1 ≤ xs.length ∧ p.2.1.length = p.1 ∧ 0 ≤ p.2.2 ∧ I64 p.2.2 ∧ offs x xs = (offs p.2.2 (xs.drop p.1)).map (p.2.1 ++ ·)) (fun p => xs.length - p.1) (0, [], x) (by simp only [AState.nilrow, go_sem, Nat.reduceBEq, Nat.reduceBneDiff, Nat.reduceLT, Nat.reduceLeDiff, Nat.reduceAdd, Nat.reduceMul, Nat.reduceSub, Nat.reduceEqDiff, reduceCtorEq]; exact rfl) ⟨Nat.zero_le _, rfl, by show 0 ≤ x; omega, hx', by simp⟩ ?_
      clear hk hlt hw h hpos k
      intro ⟨k, out, at_⟩ ⟨hk, hlen, h0, hat, heq⟩
      simp only at hk hlen h0 hat heq ⊢
      unfold I64 at hat
      have hw := wrap_i64 (n := (k : Int) + 1) (by omega)
      by_cases hlt : k < xs.length
      · have g1 := v8_get hlt
        have hp := hall _ (List.getElem_mem hlt)
        have hm : I64 xs[k] := hxs _ (List.getElem_mem hlt)
        unfold I64 at hm
        have hso : (v8 out).length + 1 = k + 1 := by rw [v8_len, hlen]
        have hwm := fun h : at_ ≤ 4294967295 => wrap_i64 (n := at_ + min xs[k] 4294967296) (by omega)
        (repeat' (first
    | exact trivial
    | (with_reducible first | refine awA ?_ | refine awB ?_ | refine awC ?_ | refine awD ?_ | refine awE ?_ | refine awF ?_ | refine awG ?_ | refine awH ?_ | refine awI ?_ | refine awJ ?_ | refine awK ?_ | refine awL ?_ | refine awM (by decide) ?_)
    | ((with_reducible first | refine awN (tyOf_ok _) [] ?_ | refine awO (tyOf_ok _) [] ?_ | refine awP (tyOf_ok _) [] ?_ | refine awQ ?_ | refine awR ?_ | refine awS ?_); intro r hr; simp only [go_sem, Nat.reduceBEq, Nat.reduceBneDiff, Nat.reduceLT, Nat.reduceLeDiff, Nat.reduceAdd, Nat.reduceMul, Nat.reduceSub, Nat.reduceEqDiff, reduceCtorEq, v8_len, g1, hw, v8_app, v8_take, take_len (Nat.le_refl _)] at hr; subst hr; (first | refine awV ?_ ?_ | refine awW ?_ ?_ | refine endK ?_ ?_ | (refine condK (fun h => ?_) (fun h => ?_) <;> (try simp only [go_sem, reduceCtorEq] at h) <;> (try (exfalso; omega))))) | fail)) <;> (try omega)
        · have he : offsets x xs = ([], 91) := by
            rw [offsets, if_neg (by omega), if_neg hns, heq, offs_step hlt, if_pos h]; rfl
          rw [he]; exact AV.up_nil2 _ _
        · simp only [List.length_append, List.length_singleton]; omega
        · refine ⟨(k + 1, out ++ [at_], at_ + min xs[k] 4294967296), by simp only [go_sem, Nat.reduceBEq, Nat.reduceBneDiff, Nat.reduceLT, Nat.reduceLeDiff, Nat.reduceAdd, Nat.reduceMul, Nat.reduceSub, Nat.reduceEqDiff, reduceCtorEq, v8_len, hwm (by omega)]; exact rfl, ⟨hlt, by simp [hlen], by simp only; omega, by unfold I64; simp only; omega, ?_⟩, by simp only; omega⟩
          rw [heq, offs_step hlt, if_neg h, Option.map_map]
          congr 1
          funext l
          simp
      · (repeat' (first
    | exact trivial
    | (with_reducible first | refine awA ?_ | refine awB ?_ | refine awC ?_ | refine awD ?_ | refine awE ?_ | refine awF ?_ | refine awG ?_ | refine awH ?_ | refine awI ?_ | refine awJ ?_ | refine awK ?_ | refine awL ?_ | refine awM (by decide) ?_)
    | ((with_reducible first | refine awN (tyOf_ok _) [] ?_ | refine awO (tyOf_ok _) [] ?_ | refine awP (tyOf_ok _) [] ?_ | refine awQ ?_ | refine awR ?_ | refine awS ?_); intro r hr; simp only [go_sem, Nat.reduceBEq, Nat.reduceBneDiff, Nat.reduceLT, Nat.reduceLeDiff, Nat.reduceAdd, Nat.reduceMul, Nat.reduceSub, Nat.reduceEqDiff, reduceCtorEq, v8_len, hw] at hr; subst hr; (first | refine awV ?_ ?_ | refine awW ?_ ?_ | refine endK ?_ ?_ | (refine condK (fun h => ?_) (fun h => ?_) <;> (try simp only [go_sem, reduceCtorEq] at h) <;> (try (exfalso; omega))))) | fail)) <;> (try omega)
        have he : offsets x xs = (out, 0) := by
          rw [offsets, if_neg (by omega), if_neg hns, heq, drop_len (by omega)]; simp [offs]
        rw [he, take_len (by rw [v8_len]; exact Nat.le_refl _)]
        exact AV.up_rfl _
end Go.Proofs.Ytfgacgpicfknpaa
end
section
namespace Go.Proofs.Ytfgacgpicfknpaa
open Go.RowKit
set_option maxRecDepth 100000
def bad (x : Int) (xs : List Int) (e : Int) (i : Nat) : Bool := decide ((i = 0 ∧ xs.getD i 0 ≠ x) ∨ (0 < i ∧ xs.getD i 0 < xs.getD (i - 1) 0) ∨ e < xs.getD i 0)
def diffs (xs : List Int) (e : Int) (n : Nat) : List Int := (List.range n).map fun i => xs.getD (i + 1) e - xs.getD i 0
def lengths (x : Int) (xs : List Int) (e : Int) : List Int × Int × Int :=
  if x < 0 then ([], 0, 3) else match (List.range xs.length).find? (bad x xs e) with
  | some i => ([], i, 122)
  | none => (diffs xs e xs.length, 0, 0)
def lerr3 (r : List Int × Int × Int) : AV := .tup [.lst 1 (v8 r.1), .v (.int .i64 r.2.1), .v (.int .i64 r.2.2)]
theorem getD_lt {xs : List Int} {k : Nat} (h : k < xs.length) (d : Int) : xs.getD k d = xs[k] := by simp [h]
theorem diffs_succ (xs : List Int) (e : Int) (n : Nat) : diffs xs e (n + 1) = diffs xs e n ++ [xs.getD (n + 1) e - xs.getD n 0] := by simp [diffs, List.range_succ]
theorem bad_nonneg {x : Int} {xs : List Int} {e : Int} (hx : 0 ≤ x) : ∀ (k : Nat), k < xs.length → (∀ i, i ≤ k → bad x xs e i = false) → 0 ≤ xs.getD k 0 := by
  intro k
  induction k with
  | zero =>
    intro _ h
    have := h 0 (Nat.le_refl _)
    simp only [bad, decide_eq_false_iff_not, true_and, not_or, ne_eq, Decidable.not_not] at this
    omega
  | succ k ih =>
    intro hk h
    have h1 := ih (by omega) (fun i hi => h i (by omega))
    have := h (k + 1) (Nat.le_refl _)
    simp only [bad, decide_eq_false_iff_not, Nat.add_sub_cancel] at this
    omega
set_option maxHeartbeats 1000000 in
theorem lengths_any (x : Int) (hx : I64 x) (xs : List Int) (hl : xs.length ≤ 1000000000) (hxs : ∀ z ∈ xs, I64 z) (e : Int) (he : I64 e) : PCall Try.prog 17 [.v (.int .i64 x), .lst 1 (v8 xs), .v (.int .i64 e)] (fun r => r = lerr3 (lengths x xs e)) := by
  refine go_fnU (tyOf_ok _) Try.func17 rfl rfl (by rw [Try.results17]) Try.ntmps17 rfl fun E => ?_
  have hx' := hx
  unfold I64 at hx
  (repeat' (first
    | exact trivial
    | (with_reducible first | refine awA ?_ | refine awB ?_ | refine awC ?_ | refine awD ?_ | refine awE ?_ | refine awF ?_ | refine awG ?_ | refine awH ?_ | refine awI ?_ | refine awJ ?_ | refine awK ?_ | refine awL ?_ | refine awM (by decide) ?_)
    | ((with_reducible first | refine awN (tyOf_ok _) [] ?_ | refine awO (tyOf_ok _) [] ?_ | refine awP (tyOf_ok _) [] ?_ | refine awQ ?_ | refine awR ?_ | refine awS ?_); intro r hr; simp only [go_sem, Nat.reduceBEq, Nat.reduceBneDiff, Nat.reduceLT, Nat.reduceLeDiff, Nat.reduceAdd, Nat.reduceMul, Nat.reduceSub, Nat.reduceEqDiff, reduceCtorEq, v8_len] at hr; subst hr; (first | refine awV ?_ ?_ | refine awW ?_ ?_ | refine endK ?_ ?_ | (refine condK (fun h => ?_) (fun h => ?_) <;> (try simp only [go_sem, reduceCtorEq] at h) <;> (try (exfalso; omega))))) | fail)) <;> (try omega)
  · rw [lerr3, lengths, if_pos h]; exact AV.up_nil3 _ _ _
  · refine go_loop [0, 1, 2, 17, 18, 19] [] (fun k : Nat => ⟨[(0, true, .v (.int .i64 x)), (1, true, .lst 1 (v8 xs)), (2, true, .v (.int .i64 e)), (17, true, .lst 1 (v8 xs)), (18, true, .v (.int .i64 xs.length)), (19, true, .v (.int .i64 k))], []⟩) (fun k => k ≤ xs.length ∧ ∀ i, i < k → bad x xs e i = false) (fun k => xs.length - k) 0 (by simp only [go_sem, Nat.reduceBEq, Nat.reduceBneDiff, Nat.reduceLT, Nat.reduceLeDiff, Nat.reduceAdd, Nat.reduceMul, Nat.reduceSub, Nat.reduceEqDiff, reduceCtorEq, v8_len]; exact rfl) ⟨Nat.zero_le _, fun _ h => by omega⟩ ?_
    intro k ⟨hk, hgood⟩
    have hw := wrap_i64 (n := (k : Int) + 1) (by omega)
    by_cases hlt : k < xs.length
    · have g1 := v8_get hlt
      have hbad : (List.range xs.length).find? (bad x xs e) = some k ↔ bad x xs e k = true := by
        rw [List.find?_range_eq_some]
        refine ⟨fun h => h.1, fun h => ⟨h, List.mem_range.2 hlt, fun j hj => by simp [hgood j hj]⟩⟩
      have hnext : bad x xs e k = false → ∀ i, i < k + 1 → bad x xs e i = false := fun hb i hi => by
        rcases Nat.lt_or_ge i k with h' | h'
        · exact hgood i h'
        · have : i = k := by omega
          subst this; exact hb
      have hgk := getD_lt hlt 0
      have hend : bad x xs e k = true → (AV.tup [AV.v (Value.slice none 0 0), AV.v (Value.int IntKind.i64 ↑k), AV.v (Value.int IntKind.i64 122)]).up (lerr3 (lengths x xs e)) := fun hb => by
        rw [lerr3, lengths, if_neg (by omega), hbad.2 hb]; exact AV.up_nil3 _ _ _
      rcases Nat.eq_zero_or_pos k with hk0 | hk0
      · have e1 : ((k : Int) = 0) = True := eq_true (by omega)
        have e2 : ((0 : Int) < k) = False := eq_false (by omega)
        have hw1 := wrap_i64 (n := (k : Int) - 1) (by omega)
        have g0 : (v8 xs)[((k : Int) - 1).toNat]? = some [.v (.int .i64 xs[k])] := by rw [show ((k : Int) - 1).toNat = k by omega]; exact v8_get (by omega)
        by_cases e3 : xs[k] = x
        · have e4 : (xs[k] = x) = True := eq_true e3
          (repeat' (first
    | exact trivial
    | (with_reducible first | refine awA ?_ | refine awB ?_ | refine awC ?_ | refine awD ?_ | refine awE ?_ | refine awF ?_ | refine awG ?_ | refine awH ?_ | refine awI ?_ | refine awJ ?_ | refine awK ?_ | refine awL ?_ | refine awM (by decide) ?_)
    | ((with_reducible first | refine awN (tyOf_ok _) [] ?_ | refine awO (tyOf_ok _) [] ?_ | refine awP (tyOf_ok _) [] ?_ | refine awQ ?_ | refine awR ?_ | refine awS ?_); intro r hr; simp only [go_sem, Nat.reduceBEq, Nat.reduceBneDiff, Nat.reduceLT, Nat.reduceLeDiff, Nat.reduceAdd, Nat.reduceMul, Nat.reduceSub, Nat.reduceEqDiff, reduceCtorEq, v8_len, g1, hw, hw1, g0, e1, e2, e4] at hr; subst hr; (first | refine awV ?_ ?_ | refine awW ?_ ?_ | refine endK ?_ ?_ | (refine condK (fun h => ?_) (fun h => ?_) <;> (try simp only [go_sem, reduceCtorEq] at h) <;> (try (exfalso; omega))))) | fail)) <;> (try omega)
          · exact hend (by simp only [bad, decide_eq_true_eq, hgk]; omega)
          · exact ⟨k + 1, by simp only [go_sem, Nat.reduceBEq, Nat.reduceBneDiff, Nat.reduceLT, Nat.reduceLeDiff, Nat.reduceAdd, Nat.reduceMul, Nat.reduceSub, Nat.reduceEqDiff, reduceCtorEq]; exact rfl, ⟨by omega, hnext (by simp only [bad, decide_eq_false_iff_not, hgk]; omega)⟩, by omega⟩
        · (repeat' (first
    | exact trivial
    | (with_reducible first | refine awA ?_ | refine awB ?_ | refine awC ?_ | refine awD ?_ | refine awE ?_ | refine awF ?_ | refine awG ?_ | refine awH ?_ | refine awI ?_ | refine awJ ?_ | refine awK ?_ | refine awL ?_ | refine awM (by decide) ?_)
    | ((with_reducible first | refine awN (tyOf_ok _) [] ?_ | refine awO (tyOf_ok _) [] ?_ | refine awP (tyOf_ok _) [] ?_ | refine awQ ?_ | refine awR ?_ | refine awS ?_); intro r hr; simp only [go_sem, Nat.reduceBEq, Nat.reduceBneDiff, Nat.reduceLT, Nat.reduceLeDiff, Nat.reduceAdd, Nat.reduceMul, Nat.reduceSub, Nat.reduceEqDiff, reduceCtorEq, v8_len, g1, hw, hw1, g0, e1, e2, e3] at hr; subst hr; (first | refine awV ?_ ?_ | refine awW ?_ ?_ | refine endK ?_ ?_ | (refine condK (fun h => ?_) (fun h => ?_) <;> (try simp only [go_sem, reduceCtorEq] at h) <;> (try (exfalso; omega))))) | fail)) <;> (try omega)
          · exact hend (by simp only [bad, decide_eq_true_eq, hgk]; omega)
      · have e1 : ((k : Int) = 0) = False := eq_false (by omega)
        have e2 : ((0 : Int) < k) = True := eq_true (by omega)
        have hw1 := wrap_i64 (n := (k : Int) - 1) (by omega)
        have g0 : (v8 xs)[((k : Int) - 1).toNat]? = some [.v (.int .i64 xs[k - 1])] := by rw [show ((k : Int) - 1).toNat = k - 1 by omega]; exact v8_get (by omega)
        (repeat' (first
    | exact trivial
    | (with_reducible first | refine awA ?_ | refine awB ?_ | refine awC ?_ | refine awD ?_ | refine awE ?_ | refine awF ?_ | refine awG ?_ | refine awH ?_ | refine awI ?_ | refine awJ ?_ | refine awK ?_ | refine awL ?_ | refine awM (by decide) ?_)
    | ((with_reducible first | refine awN (tyOf_ok _) [] ?_ | refine awO (tyOf_ok _) [] ?_ | refine awP (tyOf_ok _) [] ?_ | refine awQ ?_ | refine awR ?_ | refine awS ?_); intro r hr; simp only [go_sem, Nat.reduceBEq, Nat.reduceBneDiff, Nat.reduceLT, Nat.reduceLeDiff, Nat.reduceAdd, Nat.reduceMul, Nat.reduceSub, Nat.reduceEqDiff, reduceCtorEq, v8_len, g1, g0, hw, hw1, e1, e2] at hr; subst hr; (first | refine awV ?_ ?_ | refine awW ?_ ?_ | refine endK ?_ ?_ | (refine condK (fun h => ?_) (fun h => ?_) <;> (try simp only [go_sem, reduceCtorEq] at h) <;> (try (exfalso; omega))))) | fail)) <;> (try omega)
        · exact hend (by simp only [bad, decide_eq_true_eq, hgk, getD_lt (xs := xs) (k := k - 1) (by omega) 0]; omega)
        · exact ⟨k + 1, by simp only [go_sem, Nat.reduceBEq, Nat.reduceBneDiff, Nat.reduceLT, Nat.reduceLeDiff, Nat.reduceAdd, Nat.reduceMul, Nat.reduceSub, Nat.reduceEqDiff, reduceCtorEq]; exact rfl, ⟨by omega, hnext (by simp only [bad, decide_eq_false_iff_not, hgk, getD_lt (xs := xs) (k := k - 1) (by omega) 0]; omega)⟩, by omega⟩
    · (repeat' (first
    | exact trivial
    | (with_reducible first | refine awA ?_ | refine awB ?_ | refine awC ?_ | refine awD ?_ | refine awE ?_ | refine awF ?_ | refine awG ?_ | refine awH ?_ | refine awI ?_ | refine awJ ?_ | refine awK ?_ | refine awL ?_ | refine awM (by decide) ?_)
    | ((with_reducible first | refine awN (tyOf_ok _) [] ?_ | refine awO (tyOf_ok _) [] ?_ | refine awP (tyOf_ok _) [] ?_ | refine awQ ?_ | refine awR ?_ | refine awS ?_); intro r hr; simp only [go_sem, Nat.reduceBEq, Nat.reduceBneDiff, Nat.reduceLT, Nat.reduceLeDiff, Nat.reduceAdd, Nat.reduceMul, Nat.reduceSub, Nat.reduceEqDiff, reduceCtorEq, v8_len, hw] at hr; subst hr; (first | refine awV ?_ ?_ | refine awW ?_ ?_ | refine endK ?_ ?_ | (refine condK (fun h => ?_) (fun h => ?_) <;> (try simp only [go_sem, reduceCtorEq] at h) <;> (try (exfalso; omega))))) | fail)) <;> (try omega)
      have hall : ∀ i, i < xs.length → bad x xs e i = false := fun i hi => hgood i (by omega)
      refine aw_nilrow 11 3 1 11 (.inl (by decide)) (by simp only [go_sem, Nat.reduceBEq, Nat.reduceBneDiff, Nat.reduceLT, Nat.reduceLeDiff, Nat.reduceAdd, Nat.reduceMul, Nat.reduceSub, Nat.reduceEqDiff, reduceCtorEq]) ?_
      refine go_loop [1, 2, 51, 52, 53, 11] [11] (fun k : Nat => ⟨[(1, true, .lst 1 (v8 xs)), (2, true, .v (.int .i64 e)), (51, true, .lst 1 (v8 xs)), (52, true, .v (.int .i64 xs.length)), (53, true, .v (.int .i64 k)), (11, true, .ref 3 1 11 0 (v8 (diffs xs e k)).length)], [(11, .row 3 1 (v8 (diffs xs e k)))]⟩)
        (fun k => k ≤ xs.length) (fun k => xs.length - k) 0 (by simp only [AState.nilrow, go_sem, Nat.reduceBEq, Nat.reduceBneDiff, Nat.reduceLT, Nat.reduceLeDiff, Nat.reduceAdd, Nat.reduceMul, Nat.reduceSub, Nat.reduceEqDiff, reduceCtorEq]; exact rfl) (Nat.zero_le _) ?_
      clear hk hlt hw h hgood k
      intro k hk
      have hw := wrap_i64 (n := (k : Int) + 1) (by omega)
      by_cases hlt : k < xs.length
      · have g1 := v8_get hlt
        have hgk := getD_lt hlt 0
        have hnn := bad_nonneg (by omega) k hlt (fun i hi => hall i (by omega))
        have hi := hxs _ (List.getElem_mem hlt)
        have hb := hall k hlt
        simp only [bad, decide_eq_false_iff_not, not_or, hgk] at hb hnn
        unfold I64 at he hi
        have hdl : ∀ k, (diffs xs e k).length = k := fun k => by simp [diffs]
        by_cases hn : k + 1 < xs.length
        · have g2 := v8_get hn
          have e1 : ((k : Int) + 1 < xs.length) = True := eq_true (by omega)
          have hgk' := getD_lt hn e
          have hgk'' := getD_lt hn 0
          have hi2 := hxs _ (List.getElem_mem hn)
          have hb2 := hall (k + 1) hn
          simp only [bad, decide_eq_false_iff_not, not_or, hgk'', hgk, Nat.add_sub_cancel] at hb2
          unfold I64 at hi2
          have hw2 := wrap_i64 (n := xs[k + 1] - xs[k]) (by omega)
          have g3 : ((k : Int) + 1).toNat = k + 1 := by omega
          have hds : diffs xs e k ++ [xs[k + 1] - xs[k]] = diffs xs e (k + 1) := by rw [diffs_succ, hgk, hgk']
          (repeat' (first
    | exact trivial
    | (with_reducible first | refine awA ?_ | refine awB ?_ | refine awC ?_ | refine awD ?_ | refine awE ?_ | refine awF ?_ | refine awG ?_ | refine awH ?_ | refine awI ?_ | refine awJ ?_ | refine awK ?_ | refine awL ?_ | refine awM (by decide) ?_)
    | ((with_reducible first | refine awN (tyOf_ok _) [] ?_ | refine awO (tyOf_ok _) [] ?_ | refine awP (tyOf_ok _) [] ?_ | refine awQ ?_ | refine awR ?_ | refine awS ?_); intro r hr; simp only [go_sem, Nat.reduceBEq, Nat.reduceBneDiff, Nat.reduceLT, Nat.reduceLeDiff, Nat.reduceAdd, Nat.reduceMul, Nat.reduceSub, Nat.reduceEqDiff, reduceCtorEq, v8_len, g1, g2, g3, hw, hw2, e1, v8_app, v8_take, take_len (Nat.le_refl _), hds] at hr; subst hr; (first | refine awV ?_ ?_ | refine awW ?_ ?_ | refine endK ?_ ?_ | (refine condK (fun h => ?_) (fun h => ?_) <;> (try simp only [go_sem, reduceCtorEq] at h) <;> (try (exfalso; omega))))) | fail)) <;> (try omega)
          · rw [hdl (k + 1)]; omega
          · exact ⟨k + 1, by simp only [go_sem, Nat.reduceBEq, Nat.reduceBneDiff, Nat.reduceLT, Nat.reduceLeDiff, Nat.reduceAdd, Nat.reduceMul, Nat.reduceSub, Nat.reduceEqDiff, reduceCtorEq, v8_len]; exact rfl, by omega, by omega⟩
        · have e1 : ((k : Int) + 1 < xs.length) = False := eq_false (by omega)
          have hgk' : xs.getD (k + 1) e = e := by simp [List.getElem?_eq_none (show xs.length ≤ k + 1 by omega)]
          have hw2 := wrap_i64 (n := e - xs[k]) (by omega)
          have hds : diffs xs e k ++ [e - xs[k]] = diffs xs e (k + 1) := by rw [diffs_succ, hgk, hgk']
          (repeat' (first
    | exact trivial
    | (with_reducible first | refine awA ?_ | refine awB ?_ | refine awC ?_ | refine awD ?_ | refine awE ?_ | refine awF ?_ | refine awG ?_ | refine awH ?_ | refine awI ?_ | refine awJ ?_ | refine awK ?_ | refine awL ?_ | refine awM (by decide) ?_)
    | ((with_reducible first | refine awN (tyOf_ok _) [] ?_ | refine awO (tyOf_ok _) [] ?_ | refine awP (tyOf_ok _) [] ?_ | refine awQ ?_ | refine awR ?_ | refine awS ?_); intro r hr; simp only [go_sem, Nat.reduceBEq, Nat.reduceBneDiff, Nat.reduceLT, Nat.reduceLeDiff, Nat.reduceAdd, Nat.reduceMul, Nat.reduceSub, Nat.reduceEqDiff, reduceCtorEq, v8_len, g1, hw, hw2, e1, v8_app, v8_take, take_len (Nat.le_refl _), hds] at hr; subst hr; (first | refine awV ?_ ?_ | refine awW ?_ ?_ | refine endK ?_ ?_ | (refine condK (fun h => ?_) (fun h => ?_) <;> (try simp only [go_sem, reduceCtorEq] at h) <;> (try (exfalso; omega))))) | fail)) <;> (try omega)
          · rw [hdl (k + 1)]; omega
          · exact ⟨k + 1, by simp only [go_sem, Nat.reduceBEq, Nat.reduceBneDiff, Nat.reduceLT, Nat.reduceLeDiff, Nat.reduceAdd, Nat.reduceMul, Nat.reduceSub, Nat.reduceEqDiff, reduceCtorEq, v8_len]; exact rfl, by omega, by omega⟩
      · (repeat' (first
    | exact trivial
    | (with_reducible first | refine awA ?_ | refine awB ?_ | refine awC ?_ | refine awD ?_ | refine awE ?_ | refine awF ?_ | refine awG ?_ | refine awH ?_ | refine awI ?_ | refine awJ ?_ | refine awK ?_ | refine awL ?_ | refine awM (by decide) ?_)
    | ((with_reducible first | refine awN (tyOf_ok _) [] ?_ | refine awO (tyOf_ok _) [] ?_ | refine awP (tyOf_ok _) [] ?_ | refine awQ ?_ | refine awR ?_ | refine awS ?_); intro r hr; simp only [go_sem, Nat.reduceBEq, Nat.reduceBneDiff, Nat.reduceLT, Nat.reduceLeDiff, Nat.reduceAdd, Nat.reduceMul, Nat.reduceSub, Nat.reduceEqDiff, reduceCtorEq, v8_len, hw] at hr; subst hr; (first | refine awV ?_ ?_ | refine awW ?_ ?_ | refine endK ?_ ?_ | (refine condK (fun h => ?_) (fun h => ?_) <;> (try simp only [go_sem, reduceCtorEq] at h) <;> (try (exfalso; omega))))) | fail)) <;> (try omega)
        have hke : k = xs.length := by omega
        subst hke
        rw [take_len (by rw [v8_len]; exact Nat.le_refl _)]
        have hno : (List.range xs.length).find? (bad x xs e) = none := by
          rw [List.find?_range_eq_none]
          intro i hi
          simp [hall i hi]
        rw [lerr3, lengths, if_neg (by omega), hno]
        exact AV.up_rfl _
end Go.Proofs.Ytfgacgpicfknpaa
end
section
namespace Go.Proofs.Ytfgacgpicfknpaa
open Go.RowKit
/-! More of what a walk needs: nil that grows within a variable; values of which less is said. -/
instance (n : Int) : Decidable (I64 n) := by unfold I64; exact inferInstance
theorem AV.up_agg {l m : List AV} (h : AV.upL l m) : (AV.agg l).up (.agg m) := fun F β w x hx => by
  obtain ⟨g1, g2⟩ := AV.upL_get h
  cases hx with
  | s h => cases h
  | agg h1 h2 h3 =>
    refine .agg (h1.trans g1) h2 fun i c u hc hu => ?_
    obtain ⟨a, ha, hu'⟩ := g2 i c hc
    exact hu' _ _ _ _ (h3 i a u ha hu)
theorem AV.up_cons' {a b : AV} {l m : List AV} (h : a.up b) (h' : AV.upL l m) : AV.upL (a :: l) (b :: m) := ⟨h, h'⟩
theorem AV.upL_rfl : ∀ l : List AV, AV.upL l l
  | [] => trivial
  | a :: l => ⟨AV.up_rfl a, AV.upL_rfl l⟩
theorem AV.up_trans {a b c : AV} (h : a.up b) (h' : b.up c) : a.up c := fun F β w x hx => h' F β w x (h F β w x hx)
mutual
/-- the same, but for nil where an empty list is read -/
inductive Up : AV → AV → Prop
  | rfl (a : AV) : Up a a
  | nil (k : Nat) : Up (.v (.slice none 0 0)) (.lst k [])
  | agg {l m : List AV} : UpL l m → Up (.agg l) (.agg m)
  | tup {l m : List AV} : UpL l m → Up (.tup l) (.tup m)
  | lst {k : Nat} {xs ys : List (List AV)} : UpLL xs ys → Up (.lst k xs) (.lst k ys)
  | lsx {k : Nat} {xs ys zs : List (List AV)} : UpLL xs ys → Up (.lsx k xs zs) (.lst k ys)
inductive UpL : List AV → List AV → Prop
  | nil : UpL [] []
  | cons {a b : AV} {l m : List AV} : Up a b → UpL l m → UpL (a :: l) (b :: m)
inductive UpLL : List (List AV) → List (List AV) → Prop
  | nil : UpLL [] []
  | cons {a b : List AV} {l m : List (List AV)} : UpL a b → UpLL l m → UpLL (a :: l) (b :: m)
end
section
variable {F : Nat → Prop} {w : World}
mutual
theorem Up.svr : ∀ {a b : AV}, Up a b → ∀ {x : Value}, SVR F w a x → SVR F w b x
  | _, _, .rfl _, _, h => h
  | _, _, .nil k, x, h => by
    have := AV.up_nil k F (fun _ => none) w x (.s h)
    cases this with
    | s h => exact h
  | _, _, .agg _, _, h => by cases h
  | _, _, .tup _, _, h => by cases h
  | _, _, .lst hu, _, h => by
    cases h with
    | lst g h1 h2 h3 h4 h5 h6 h7 =>
      have hl := UpLL.svr hu
      refine .lst g (h1.trans hl.1) h2 h3 (fun cs hcs => ?_) h5 h6 fun i j cs u hc hu => ?_
      · obtain ⟨i, hi⟩ := List.getElem?_of_mem hcs
        obtain ⟨cs', h8, h9, _⟩ := hl.2 i cs hi
        rw [← h9]; exact h4 cs' (List.mem_of_getElem? h8)
      · obtain ⟨cs', h8, _, h10⟩ := hl.2 i cs hc
        obtain ⟨u', h11, h12⟩ := h10 j u hu
        exact h12 _ (h7 i j cs' u' h8 h11)
  | _, _, .lsx hu, _, h => by
    replace h := h.lsx_lst
    cases h with
    | lst g h1 h2 h3 h4 h5 h6 h7 =>
      have hl := UpLL.svr hu
      refine .lst g (h1.trans hl.1) h2 h3 (fun cs hcs => ?_) h5 h6 fun i j cs u hc hu => ?_
      · obtain ⟨i, hi⟩ := List.getElem?_of_mem hcs
        obtain ⟨cs', h8, h9, _⟩ := hl.2 i cs hi
        rw [← h9]; exact h4 cs' (List.mem_of_getElem? h8)
      · obtain ⟨cs', h8, _, h10⟩ := hl.2 i cs hc
        obtain ⟨u', h11, h12⟩ := h10 j u hu
        exact h12 _ (h7 i j cs' u' h8 h11)
theorem UpL.svr : ∀ {l m : List AV}, UpL l m → l.length = m.length ∧ ∀ (j : Nat) (u : AV), m[j]? = some u → ∃ u', l[j]? = some u' ∧ ∀ x, SVR F w u' x → SVR F w u x
  | _, _, .nil => ⟨Eq.refl _, fun j u h => by simp at h⟩
  | _, _, .cons h hl => by
    have h1 := fun x => Up.svr h (x := x)
    have h2 := UpL.svr hl
    refine ⟨by simp [h2.1], fun j u hu => ?_⟩
    cases j with
    | zero => simp only [List.getElem?_cons_zero, Option.some.injEq] at hu; subst hu; exact ⟨_, by simp, fun x hx => h1 x hx⟩
    | succ j => exact h2.2 j u (by simpa using hu)
theorem UpLL.svr : ∀ {l m : List (List AV)}, UpLL l m → l.length = m.length ∧ ∀ (i : Nat) (cs : List AV), m[i]? = some cs → ∃ cs', l[i]? = some cs' ∧ cs'.length = cs.length ∧ ∀ (j : Nat) (u : AV), cs[j]? = some u → ∃ u', cs'[j]? = some u' ∧ ∀ x, SVR F w u' x → SVR F w u x
  | _, _, .nil => ⟨Eq.refl _, fun j u h => by simp at h⟩
  | _, _, .cons h hl => by
    have h1 := UpL.svr h
    have h2 := UpLL.svr hl
    refine ⟨by simp [h2.1], fun j u hu => ?_⟩
    cases j with
    | zero => simp only [List.getElem?_cons_zero, Option.some.injEq] at hu; subst hu; exact ⟨_, by simp, h1.1, h1.2⟩
    | succ j => exact h2.2 j u (by simpa using hu)
end
end
mutual
theorem Up.up : ∀ {a b : AV}, Up a b → a.up b
  | _, _, .rfl a => AV.up_rfl a
  | _, _, .nil k => AV.up_nil k
  | _, _, .agg h => AV.up_agg (UpL.up h)
  | _, _, .tup h => AV.up_tup (UpL.up h)
  | _, _, .lst h => fun F β w x hx => by
    cases hx with
    | s hx => exact .s (Up.svr (.lst h) hx)
  | _, _, .lsx h => fun F β w x hx => by
    cases hx with
    | s hx => exact .s (Up.svr (.lsx h) hx)
theorem UpL.up : ∀ {l m : List AV}, UpL l m → AV.upL l m
  | _, _, .nil => trivial
  | _, _, .cons h hl => ⟨Up.up h, UpL.up hl⟩
end
theorem PCall.args {P : Program} {f : Nat} {as' bs : List AV} {R : AV → Prop} (hu : UpL as' bs) (h : PCall P f bs R) : PCall P f as' R :=
  ⟨h.1, fun w F vs h1 h2 h3 => h.2 w F vs h1 (by
    have := (AV.upL_get hu.up).1
    omega) fun i x v hx hv => by
    obtain ⟨a, ha, hau⟩ := (AV.upL_get hu.up).2 i x hx
    exact hau _ _ _ _ (h3 i a v ha hv)⟩
section
variable {P : Program} {T : Nat → Option TyD} {E : Env} {s s' : AState} {n : Nat} {Q : Exit → AState → Prop}
/-- nil within a variable, as an empty row of an object that has no block yet -/
def AState.nilvar (s : AState) (o j ty k d : Nat) (cs : List AV) : AState := { fr := (s.drop d).fr, ob := (o, .var ((AV.kill.killL d cs).set j (.ref ty k d 0 0))) :: (d, .row ty k []) :: (s.drop d).ob }
theorem aw_nilvar {c : Code} (o j ty k d : Nat) {cs : List AV} (hd : ownN d) (hne : o ≠ d) (ho : lk s.ob o = some (.var cs)) (hj : cs[j]? = some (.v (.slice none 0 0))) (h : AWp P E n c Q (s.nilvar o j ty k d cs)) : AWp P E n c Q s := fun a w ⟨hn, hdf, β, hs⟩ => by
  refine h a w ⟨hn, hdf, upd β d none, ?_⟩
  have h1 := hs.turn (β' := upd β d none) (w' := w) d hd (fun e he => upd_other β _ he) (fun b hb => by rw [upd_same] at hb; cases hb) (Keeps.refl _ _)
  have h2 := h1.add d (.row ty k []) ⟨fun cs h => (by cases h), .inl rfl⟩
  refine h2.add o _ ?_
  have h3 := h1.ob o (.var (AV.kill.killL d cs)) (by rw [lk_drop_ob, bif_ne hne, ho]; rfl)
  obtain ⟨b, arr, t, g1, g2, g3, g4⟩ := h3
  refine ⟨b, arr, t, g1, g2, by simpa using g3, fun i u hu => ?_⟩
  by_cases hij : j = i
  · subst hij
    have hlt : j < (AV.kill.killL d cs).length := by
      rw [AV.killL_eq, List.length_map]
      rcases Nat.lt_or_ge j cs.length with h | h
      · exact h
      · rw [List.getElem?_eq_none h] at hj; cases hj
    rw [List.getElem?_set_self hlt] at hu
    injection hu with hu
    subst hu
    obtain ⟨x, hx, hr, ho⟩ := g4 j (.v (.slice none 0 0)) (by rw [AV.killL_eq, List.getElem?_map, hj]; rfl)
    refine ⟨x, hx, ?_, ho⟩
    cases hr with
    | s h =>
    cases h with
    | v h => exact .nil
  · rw [List.getElem?_set_ne hij] at hu
    exact g4 i u hu
end
end Go.Proofs.Ytfgacgpicfknpaa
end
section
namespace Go.Proofs.Ytfgacgpicfknpaa
open Go.RowKit
set_option maxRecDepth 100000
set_option maxHeartbeats 4000000
structure SlotM where
  at_ : Int
  var : Bool
  size : Int
structure LayM where
  size : Int
  slots : List SlotM
def encS (s : SlotM) : List AV := [vI s.at_, vB s.var, vI s.size]
def encSs (l : List SlotM) : List (List AV) := l.map encS
theorem encSs_len (l : List SlotM) : (encSs l).length = l.length := by simp [encSs]
theorem encSs_app (l : List SlotM) (s : SlotM) : encSs l ++ [[vI s.at_, vB s.var, vI s.size]] = encSs (l ++ [s]) := by simp [encSs, encS]
def encL (l : LayM) : List AV := [vI l.size, .lst 3 (encSs l.slots)]
def encLs (l : List LayM) : List (List AV) := l.map encL
def slotOf (e : ExtM) (a : Int) : SlotM := ⟨a, !e.fixed, if e.fixed = true then e.most else 4⟩
def layAdd (L : List ExtM) (l : LayM) (p : PartM) : LayM := ⟨plusL [l.size, (slotOf (atE L p.ty) l.size).size], l.slots ++ [slotOf (atE L p.ty) l.size]⟩
def layM (t : TypeM) (L : List ExtM) : LayM :=
  if t.kind = 8 then t.parts.foldl (layAdd L) ⟨0, []⟩
  else if t.kind = 4 then ⟨timesS t.n (slotOf (atE L t.elem) 0).size, [slotOf (atE L t.elem) 0]⟩
  else if t.kind = 5 then ⟨0, [slotOf (atE L t.elem) 0]⟩ else ⟨0, []⟩
theorem lay_succ (L : List ExtM) (l : List PartM) (x : LayM) {j : Nat} (h : j < l.length) : (l.take (j + 1)).foldl (layAdd L) x = layAdd L ((l.take j).foldl (layAdd L) x) l[j] := by
  rw [List.take_succ_eq_append_getElem h, List.foldl_append]; rfl
def vLay (l : LayM) : AV := .agg [vI l.size, .lst 3 (encSs l.slots)]
theorem slotS {e : ExtM} {a : Int} : slotM e.fixed e.most a = .agg [vI (slotOf e a).at_, vB (slotOf e a).var, vI (slotOf e a).size] := rfl
theorem lone_any (t : TypeM) (L : List ExtM) (hr : rightOK t L.length = true) (hl : t.parts.length ≤ 1000000000) (hL : ∀ e ∈ L, extOK e) : PCall Try.prog 41 [.agg [vI t.kind, vI t.n, vI t.elem, .lst 3 (encPs t.parts)], .lst 4 (encEs L)] (fun r => r = vLay (layM t L)) := by
  have ht := rightOK_ty hr
  refine go_fnU (tyOf_ok _) Try.func41 rfl rfl (by rw [Try.results41]) Try.ntmps41 rfl fun E => ?_
  by_cases k8 : t.kind = 8
  · have e8 : (t.kind = 8) = True := eq_true k8
    (repeat' (first
    | exact trivial
    | (with_reducible first | refine awA ?_ | refine awB ?_ | refine awC ?_ | refine awD ?_ | refine awE ?_ | refine awF ?_ | refine awG ?_ | refine awH ?_ | refine awI ?_ | refine awJ ?_ | refine awK ?_ | refine awL ?_ | refine awM (by decide) ?_)
    | (refine aw_draw (id := 7) (t := (.node [0, 1, 2, 3, 4, 5, 6] [(.node [7, 8, 9] []), (.node [8, 7, 9] [])])) (drR [7, 5] [25] []) mixed (by kernel_rfl) (by kernel_rfl) (fun _ _ h => h) ?_)
    | (refine aw_draw (id := 14) (t := (.node [0, 1, 2, 3, 5] [(.node [4, 6, 7, 8] []), (.node [6, 4, 7, 8] [])])) (drR [2, 9] [] []) mixed (by kernel_rfl) (by kernel_rfl) (fun _ _ h => h) ?_)
    | (refine at_done (by simp only [List.filterMap_cons, List.filterMap_nil, List.getElem?_toArray, List.getElem?_cons_zero, List.getElem?_cons_succ]; exact rfl) ?_) | (refine at_alt (by simp only [List.filterMap_cons, List.filterMap_nil, List.getElem?_toArray, List.getElem?_cons_zero, List.getElem?_cons_succ]; exact rfl) ?_) | refine qalt_normal ?_ | refine ats_cons ?_ ?_ | exact ats_nil
    | ((with_reducible first | refine awN (tyOf_ok _) [] ?_ | refine awO (tyOf_ok _) [] ?_ | refine awP (tyOf_ok _) [] ?_ | refine awQ ?_ | refine awR ?_ | refine awS ?_); intro r hr; simp only [go_sem, Nat.reduceBEq, Nat.reduceBneDiff, Nat.reduceLT, Nat.reduceLeDiff, Nat.reduceAdd, Nat.reduceMul, Nat.reduceSub, Nat.reduceEqDiff, reduceCtorEq, encPs_len, encEs_len, e8] at hr; subst hr; (first | refine awV ?_ ?_ | refine awW ?_ ?_ | refine endK ?_ ?_ | (refine condK (fun h => ?_) (fun h => ?_) <;> (try simp only [go_sem, reduceCtorEq] at h) <;> (try (exfalso; omega))))) | fail)) <;> (try omega)
    refine aw_nilvar 5 1 36 3 33 (cs := [vI 0, .v (.slice none 0 0)]) (.inl (by decide)) (by decide) (by simp only [go_sem, Nat.reduceBEq, Nat.reduceBneDiff, Nat.reduceLT, Nat.reduceLeDiff, Nat.reduceAdd, Nat.reduceMul, Nat.reduceSub, Nat.reduceEqDiff, reduceCtorEq]) rfl ?_
    refine go_loop [1, 4, 5, 15, 16, 17] [4, 5, 33] (fun x : Nat × LayM => ⟨[(1, true, .lst 4 (encEs L)), (4, true, .ptr 1 4 0 0), (5, true, .ptr 1 5 0 0), (15, true, .lst 3 (encPs t.parts)), (16, true, vI t.parts.length), (17, true, vI x.1)],
      [(4, .var [vI 0, .v (.slice none 0 0)]), (5, .var [vI x.2.size, .ref 36 3 33 0 (encSs x.2.slots).length]), (33, .row 36 3 (encSs x.2.slots))]⟩)
      (fun x => x.1 ≤ t.parts.length ∧ x.2 = (t.parts.take x.1).foldl (layAdd L) ⟨0, []⟩ ∧ x.2.slots.length = x.1 ∧ 0 ≤ x.2.size ∧ x.2.size ≤ 4611686018427387904) (fun x => t.parts.length - x.1) (0, ⟨0, []⟩) (by simp only [AState.nilvar, go_sem, Nat.reduceBEq, Nat.reduceBneDiff, Nat.reduceLT, Nat.reduceLeDiff, Nat.reduceAdd, Nat.reduceMul, Nat.reduceSub, Nat.reduceEqDiff, reduceCtorEq]; exact rfl) ⟨Nat.zero_le _, rfl, rfl, by decide, by decide⟩ ?_
    intro ⟨j, x⟩ ⟨hj, hx, hxl, hx1, hx2⟩
    simp only at hj hx hxl hx1 hx2 ⊢
    have hw1 := wrap_i64 (n := (j : Int) + 1) (by omega)
    by_cases hlt : j < t.parts.length
    · have e1 : ((j : Int) < t.parts.length) = True := eq_true (by omega)
      have g1 := encPs_get hlt
      have hty := ht.2 _ (List.getElem_mem hlt)
      have htl : (t.parts[j].ty).toNat < L.length := by omega
      have ge := encEs_get htl
      have hat : atE L t.parts[j].ty = L[(t.parts[j].ty).toNat] := by rw [atE, List.getElem?_eq_getElem htl]; rfl
      have hok := hL _ (List.getElem_mem htl)
      have hs := lay_succ L t.parts ⟨0, []⟩ hlt
      rw [← hx, layAdd, hat] at hs
      generalize L[(t.parts[j].ty).toNat] = e at ge hat hok hs
      obtain ⟨hlo, hmo, hde⟩ := hok
      have i1 : I64 x.size := by unfold I64; omega
      have i2 : I64 (slotOf e x.size).size := by unfold slotOf I64; dsimp only; split <;> omega
      have hb := plusL_bd [x.size, (slotOf e x.size).size]
      have htk : (encSs x.slots).take x.slots.length = encSs x.slots := take_len (by simp [encSs_len])
      have hlen : (x.slots ++ [slotOf e x.size]).length = j + 1 := by simp [hxl]
      (repeat' (first
    | exact trivial
    | (with_reducible first | refine awA ?_ | refine awB ?_ | refine awC ?_ | refine awD ?_ | refine awE ?_ | refine awF ?_ | refine awG ?_ | refine awH ?_ | refine awI ?_ | refine awJ ?_ | refine awK ?_ | refine awL ?_ | refine awM (by decide) ?_)
    | (refine aw_draw (id := 7) (t := (.node [0, 1, 2, 3, 4, 5, 6] [(.node [7, 8, 9] []), (.node [8, 7, 9] [])])) (drR [7, 5] [25] []) mixed (by kernel_rfl) (by kernel_rfl) (fun _ _ h => h) ?_)
    | (refine aw_draw (id := 14) (t := (.node [0, 1, 2, 3, 5] [(.node [4, 6, 7, 8] []), (.node [6, 4, 7, 8] [])])) (drR [2, 9] [] []) mixed (by kernel_rfl) (by kernel_rfl) (fun _ _ h => h) ?_)
    | (refine at_done (by simp only [List.filterMap_cons, List.filterMap_nil, List.getElem?_toArray, List.getElem?_cons_zero, List.getElem?_cons_succ]; exact rfl) ?_) | (refine at_alt (by simp only [List.filterMap_cons, List.filterMap_nil, List.getElem?_toArray, List.getElem?_cons_zero, List.getElem?_cons_succ]; exact rfl) ?_) | refine qalt_normal ?_ | refine ats_cons ?_ ?_ | exact ats_nil
    | ((with_reducible first | refine awN (tyOf_ok _) [] ?_ | refine awO (tyOf_ok _) [] ?_ | refine awP (tyOf_ok _) [] ?_ | refine awQ ?_ | refine awR ?_ | refine awS ?_); intro r hr; simp only [go_sem, Nat.reduceBEq, Nat.reduceBneDiff, Nat.reduceLT, Nat.reduceLeDiff, Nat.reduceAdd, Nat.reduceMul, Nat.reduceSub, Nat.reduceEqDiff, reduceCtorEq, hw1, e1, g1, ge, encPs_len, encEs_len, encSs_len, htk, slotS, encSs_app, hlen] at hr; subst hr; (first | refine caA (fun _ => lslot_any e x.size) rfl ?_ ?_ ?_ | refine caA (fun _ => plus2_p _ _ i1 i2) rfl ?_ ?_ ?_ | refine awV ?_ ?_ | refine awW ?_ ?_ | refine endK ?_ ?_ | (refine condK (fun h => ?_) (fun h => ?_) <;> (try simp only [go_sem, reduceCtorEq] at h) <;> (try (exfalso; omega))))) | fail)) <;> (try omega)
      all_goals exact ⟨(j + 1, ⟨_, _⟩), by simp only [go_sem, Nat.reduceBEq, Nat.reduceBneDiff, Nat.reduceLT, Nat.reduceLeDiff, Nat.reduceAdd, Nat.reduceMul, Nat.reduceSub, Nat.reduceEqDiff, reduceCtorEq, encSs_len, hlen]; exact rfl, ⟨hlt, hs.symm, by simp [hxl], by simp only; omega, by simp only; omega⟩, by simp only; omega⟩
    · have e1 : ((j : Int) < t.parts.length) = False := eq_false (by omega)
      have htk : (encSs x.slots).take x.slots.length = encSs x.slots := take_len (by simp [encSs_len])
      (repeat' (first
    | exact trivial
    | (with_reducible first | refine awA ?_ | refine awB ?_ | refine awC ?_ | refine awD ?_ | refine awE ?_ | refine awF ?_ | refine awG ?_ | refine awH ?_ | refine awI ?_ | refine awJ ?_ | refine awK ?_ | refine awL ?_ | refine awM (by decide) ?_)
    | (refine aw_draw (id := 7) (t := (.node [0, 1, 2, 3, 4, 5, 6] [(.node [7, 8, 9] []), (.node [8, 7, 9] [])])) (drR [7, 5] [25] []) mixed (by kernel_rfl) (by kernel_rfl) (fun _ _ h => h) ?_)
    | (refine aw_draw (id := 14) (t := (.node [0, 1, 2, 3, 5] [(.node [4, 6, 7, 8] []), (.node [6, 4, 7, 8] [])])) (drR [2, 9] [] []) mixed (by kernel_rfl) (by kernel_rfl) (fun _ _ h => h) ?_)
    | (refine at_done (by simp only [List.filterMap_cons, List.filterMap_nil, List.getElem?_toArray, List.getElem?_cons_zero, List.getElem?_cons_succ]; exact rfl) ?_) | (refine at_alt (by simp only [List.filterMap_cons, List.filterMap_nil, List.getElem?_toArray, List.getElem?_cons_zero, List.getElem?_cons_succ]; exact rfl) ?_) | refine qalt_normal ?_ | refine ats_cons ?_ ?_ | exact ats_nil
    | ((with_reducible first | refine awN (tyOf_ok _) [] ?_ | refine awO (tyOf_ok _) [] ?_ | refine awP (tyOf_ok _) [] ?_ | refine awQ ?_ | refine awR ?_ | refine awS ?_); intro r hr; simp only [go_sem, Nat.reduceBEq, Nat.reduceBneDiff, Nat.reduceLT, Nat.reduceLeDiff, Nat.reduceAdd, Nat.reduceMul, Nat.reduceSub, Nat.reduceEqDiff, reduceCtorEq, hw1, e1, encSs_len, htk] at hr; subst hr; (first | refine awV ?_ ?_ | refine awW ?_ ?_ | refine endK ?_ ?_ | (refine condK (fun h => ?_) (fun h => ?_) <;> (try simp only [go_sem, reduceCtorEq] at h) <;> (try (exfalso; omega))))) | fail)) <;> (try omega)
      rw [take_len (by omega)] at hx
      rw [layM, if_pos k8, ← hx]
      exact AV.up_rfl _
  · have e8 : (t.kind = 8) = False := eq_false k8
    by_cases k4 : t.kind = 4
    · have e4 : (t.kind = 4) = True := eq_true k4
      have hel := ht.1 (.inl k4)
      have hlt : t.elem.toNat < L.length := by omega
      have ge := encEs_get hlt
      have hat : atE L t.elem = L[t.elem.toNat] := by rw [atE, List.getElem?_eq_getElem hlt]; rfl
      have hok := hL _ (List.getElem_mem hlt)
      generalize L[t.elem.toNat] = e at ge hat hok
      obtain ⟨hlo, hmo, hde⟩ := hok
      have hn := rightOK_n hr (.inl k4)
      have i1 : I64 t.n := by unfold I64; omega
      have i2 : I64 (slotOf e 0).size := by unfold slotOf I64; dsimp only; split <;> omega
      (repeat' (first
    | exact trivial
    | (with_reducible first | refine awA ?_ | refine awB ?_ | refine awC ?_ | refine awD ?_ | refine awE ?_ | refine awF ?_ | refine awG ?_ | refine awH ?_ | refine awI ?_ | refine awJ ?_ | refine awK ?_ | refine awL ?_ | refine awM (by decide) ?_)
    | (refine aw_draw (id := 7) (t := (.node [0, 1, 2, 3, 4, 5, 6] [(.node [7, 8, 9] []), (.node [8, 7, 9] [])])) (drR [7, 5] [25] []) mixed (by kernel_rfl) (by kernel_rfl) (fun _ _ h => h) ?_)
    | (refine aw_draw (id := 14) (t := (.node [0, 1, 2, 3, 5] [(.node [4, 6, 7, 8] []), (.node [6, 4, 7, 8] [])])) (drR [2, 9] [] []) mixed (by kernel_rfl) (by kernel_rfl) (fun _ _ h => h) ?_)
    | (refine at_done (by simp only [List.filterMap_cons, List.filterMap_nil, List.getElem?_toArray, List.getElem?_cons_zero, List.getElem?_cons_succ]; exact rfl) ?_) | (refine at_alt (by simp only [List.filterMap_cons, List.filterMap_nil, List.getElem?_toArray, List.getElem?_cons_zero, List.getElem?_cons_succ]; exact rfl) ?_) | refine qalt_normal ?_ | refine ats_cons ?_ ?_ | exact ats_nil
    | ((with_reducible first | refine awN (tyOf_ok _) [] ?_ | refine awO (tyOf_ok _) [] ?_ | refine awP (tyOf_ok _) [] ?_ | refine awQ ?_ | refine awR ?_ | refine awS ?_); intro r hr; simp only [go_sem, Nat.reduceBEq, Nat.reduceBneDiff, Nat.reduceLT, Nat.reduceLeDiff, Nat.reduceAdd, Nat.reduceMul, Nat.reduceSub, Nat.reduceEqDiff, reduceCtorEq, encPs_len, encEs_len, e8, e4, ge, slotS] at hr; subst hr; (first | refine caA (fun _ => lslot_any e 0) rfl ?_ ?_ ?_ | refine caA (fun _ => times_p i1 i2) rfl ?_ ?_ ?_ | refine awV ?_ ?_ | refine awW ?_ ?_ | refine endK ?_ ?_ | (refine condK (fun h => ?_) (fun h => ?_) <;> (try simp only [go_sem, reduceCtorEq] at h) <;> (try (exfalso; omega))))) | fail)) <;> (try omega)
      all_goals (rw [layM, if_neg k8, if_pos k4, hat]; exact AV.up_rfl _)
    · have e4 : (t.kind = 4) = False := eq_false k4
      by_cases k5 : t.kind = 5
      · have e5 : (t.kind = 5) = True := eq_true k5
        have hel := ht.1 (.inr (.inl k5))
        have hlt : t.elem.toNat < L.length := by omega
        have ge := encEs_get hlt
        have hat : atE L t.elem = L[t.elem.toNat] := by rw [atE, List.getElem?_eq_getElem hlt]; rfl
        generalize L[t.elem.toNat] = e at ge hat
        (repeat' (first
    | exact trivial
    | (with_reducible first | refine awA ?_ | refine awB ?_ | refine awC ?_ | refine awD ?_ | refine awE ?_ | refine awF ?_ | refine awG ?_ | refine awH ?_ | refine awI ?_ | refine awJ ?_ | refine awK ?_ | refine awL ?_ | refine awM (by decide) ?_)
    | (refine aw_draw (id := 7) (t := (.node [0, 1, 2, 3, 4, 5, 6] [(.node [7, 8, 9] []), (.node [8, 7, 9] [])])) (drR [7, 5] [25] []) mixed (by kernel_rfl) (by kernel_rfl) (fun _ _ h => h) ?_)
    | (refine aw_draw (id := 14) (t := (.node [0, 1, 2, 3, 5] [(.node [4, 6, 7, 8] []), (.node [6, 4, 7, 8] [])])) (drR [2, 9] [] []) mixed (by kernel_rfl) (by kernel_rfl) (fun _ _ h => h) ?_)
    | (refine at_done (by simp only [List.filterMap_cons, List.filterMap_nil, List.getElem?_toArray, List.getElem?_cons_zero, List.getElem?_cons_succ]; exact rfl) ?_) | (refine at_alt (by simp only [List.filterMap_cons, List.filterMap_nil, List.getElem?_toArray, List.getElem?_cons_zero, List.getElem?_cons_succ]; exact rfl) ?_) | refine qalt_normal ?_ | refine ats_cons ?_ ?_ | exact ats_nil
    | ((with_reducible first | refine awN (tyOf_ok _) [] ?_ | refine awO (tyOf_ok _) [] ?_ | refine awP (tyOf_ok _) [] ?_ | refine awQ ?_ | refine awR ?_ | refine awS ?_); intro r hr; simp only [go_sem, Nat.reduceBEq, Nat.reduceBneDiff, Nat.reduceLT, Nat.reduceLeDiff, Nat.reduceAdd, Nat.reduceMul, Nat.reduceSub, Nat.reduceEqDiff, reduceCtorEq, encPs_len, encEs_len, e8, e4, e5, ge, slotS] at hr; subst hr; (first | refine caA (fun _ => lslot_any e 0) rfl ?_ ?_ ?_ | refine awV ?_ ?_ | refine awW ?_ ?_ | refine endK ?_ ?_ | (refine condK (fun h => ?_) (fun h => ?_) <;> (try simp only [go_sem, reduceCtorEq] at h) <;> (try (exfalso; omega))))) | fail)) <;> (try omega)
        all_goals (rw [layM, if_neg k8, if_neg k4, if_pos k5, hat]; exact AV.up_rfl _)
      · have e5 : (t.kind = 5) = False := eq_false k5
        (repeat' (first
    | exact trivial
    | (with_reducible first | refine awA ?_ | refine awB ?_ | refine awC ?_ | refine awD ?_ | refine awE ?_ | refine awF ?_ | refine awG ?_ | refine awH ?_ | refine awI ?_ | refine awJ ?_ | refine awK ?_ | refine awL ?_ | refine awM (by decide) ?_)
    | (refine aw_draw (id := 7) (t := (.node [0, 1, 2, 3, 4, 5, 6] [(.node [7, 8, 9] []), (.node [8, 7, 9] [])])) (drR [7, 5] [25] []) mixed (by kernel_rfl) (by kernel_rfl) (fun _ _ h => h) ?_)
    | (refine aw_draw (id := 14) (t := (.node [0, 1, 2, 3, 5] [(.node [4, 6, 7, 8] []), (.node [6, 4, 7, 8] [])])) (drR [2, 9] [] []) mixed (by kernel_rfl) (by kernel_rfl) (fun _ _ h => h) ?_)
    | (refine at_done (by simp only [List.filterMap_cons, List.filterMap_nil, List.getElem?_toArray, List.getElem?_cons_zero, List.getElem?_cons_succ]; exact rfl) ?_) | (refine at_alt (by simp only [List.filterMap_cons, List.filterMap_nil, List.getElem?_toArray, List.getElem?_cons_zero, List.getElem?_cons_succ]; exact rfl) ?_) | refine qalt_normal ?_ | refine ats_cons ?_ ?_ | exact ats_nil
    | ((with_reducible first | refine awN (tyOf_ok _) [] ?_ | refine awO (tyOf_ok _) [] ?_ | refine awP (tyOf_ok _) [] ?_ | refine awQ ?_ | refine awR ?_ | refine awS ?_); intro r hr; simp only [go_sem, Nat.reduceBEq, Nat.reduceBneDiff, Nat.reduceLT, Nat.reduceLeDiff, Nat.reduceAdd, Nat.reduceMul, Nat.reduceSub, Nat.reduceEqDiff, reduceCtorEq, encPs_len, encEs_len, e8, e4, e5] at hr; subst hr; (first | refine awV ?_ ?_ | refine awW ?_ ?_ | refine endK ?_ ?_ | (refine condK (fun h => ?_) (fun h => ?_) <;> (try simp only [go_sem, reduceCtorEq] at h) <;> (try (exfalso; omega))))) | fail)) <;> (try omega)
        rw [layM, if_neg k8, if_neg k4, if_neg k5]
        exact AV.up_agg ⟨AV.up_rfl _, AV.up_nil _, trivial⟩
end Go.Proofs.Ytfgacgpicfknpaa
end
section
namespace Go.Proofs.Ytfgacgpicfknpaa
open Go.RowKit
set_option maxRecDepth 100000
set_option maxHeartbeats 4000000
def lays (ts : List TypeM) : List LayM := ts.map fun t => layM t (exts ts)
def laysF (ts : List TypeM) (rs : List RootM) : List LayM × Int := if (checkF ts rs).1 ≠ 0 then ([], 92) else (lays ts, 0)
theorem encLs_len (l : List LayM) : (encLs l).length = l.length := by simp [encLs]
/-- of the first k types -/
def laysK (ts : List TypeM) (k : Nat) : List LayM := (ts.take k).map fun t => layM t (exts ts)
theorem laysK_succ {ts : List TypeM} {k : Nat} (h : k < ts.length) : laysK ts (k + 1) = laysK ts k ++ [layM ts[k] (exts ts)] := by
  rw [laysK, List.take_succ_eq_append_getElem h, List.map_append]; rfl
theorem laysK_len {ts : List TypeM} {k : Nat} (h : k ≤ ts.length) : (laysK ts k).length = k := by simp [laysK, Nat.min_eq_left h]
theorem rightOK_mono {t : TypeM} {k m : Int} (hkm : k ≤ m) (h : rightOK t k = true) : rightOK t m = true := by
  have hg : ∀ (kind : Int) (l pre : List PartM), goodFrom kind k pre l = true → goodFrom kind m pre l = true := by
    intro kind l
    induction l with
    | nil => intro pre _; rfl
    | cons p l ih =>
      intro pre h
      simp only [goodFrom, Bool.and_eq_true] at h ⊢
      refine ⟨?_, ih _ h.2⟩
      have h1 := h.1
      unfold good at h1 ⊢
      split at h1 <;> rename_i hk
      · rw [if_pos hk]
        simp only [Bool.and_eq_true, decide_eq_true_eq] at h1 ⊢
        exact ⟨⟨h1.1.1, by omega⟩, h1.2⟩
      · rw [if_neg hk]
        simp only [Bool.and_eq_true, decide_eq_true_eq] at h1 ⊢
        exact ⟨⟨h1.1.1, by omega⟩, h1.2⟩
  rw [rightOK, Bool.and_eq_true] at h ⊢
  refine ⟨h.1, ?_⟩
  have h2 := h.2
  split at h2 <;> rename_i h3
  · rw [if_pos h3]; exact h2
  · rw [if_neg h3]
    split at h2 <;> rename_i h4
    · rw [if_pos h4]
      simp only [Bool.and_eq_true, decide_eq_true_eq] at h2 ⊢
      exact ⟨⟨h2.1.1, by omega⟩, h2.2⟩
    · rw [if_neg h4]
      split at h2 <;> rename_i h5
      · rw [if_pos h5]
        simp only [Bool.and_eq_true, partsOK] at h2 ⊢
        exact ⟨h2.1, h2.2.1, hg _ _ _ h2.2.2⟩
      · cases h2
theorem exts_ok {ts : List TypeM} {rs : List RootM} (h : (checkF ts rs).1 = 0) (hts : ts.length ≤ 1000000000) : ∀ k, k ≤ ts.length → ∀ e ∈ exts (ts.take k), extOK e ∧ e.depth ≤ k := by
  intro k
  induction k with
  | zero => intro _ e he; cases he
  | succ k ih =>
    intro hk e he
    have hlt : k < ts.length := by omega
    rw [exts_succ hlt] at he
    rcases List.mem_append.1 he with he | he
    · have := ih (by omega) e he
      exact ⟨this.1, by have := this.2; omega⟩
    · rw [List.mem_singleton] at he
      subst he
      have := extM_ok (by omega) (by omega) (check_right h k hlt) (ih (by omega))
      exact ⟨this.1, by have := this.2; omega⟩
theorem layOf_any (ts : List TypeM) (rs : List RootM) (hts : ts.length ≤ 1000000000) (hrs : rs.length ≤ 1000000000) (hp : ∀ t ∈ ts, t.parts.length ≤ 1000000000) : PCall Try.prog 13 [vSch ts rs] (fun r => r = .tup [.lst 2 (encLs (laysF ts rs).1), vI (laysF ts rs).2]) := by
  refine go_fnU (tyOf_ok _) Try.func13 rfl rfl (by rw [Try.results13]) Try.ntmps13 rfl fun E => ?_
  by_cases hc : (checkF ts rs).1 = 0
  case neg =>
    have ec : ((checkF ts rs).1 = 0) = False := eq_false hc
    (repeat' (first
    | exact trivial
    | (with_reducible first | refine awA ?_ | refine awB ?_ | refine awC ?_ | refine awD ?_ | refine awE ?_ | refine awF ?_ | refine awG ?_ | refine awH ?_ | refine awI ?_ | refine awJ ?_ | refine awK ?_ | refine awL ?_ | refine awM (by decide) ?_)
    | ((with_reducible first | refine awN (tyOf_ok _) [] ?_ | refine awO (tyOf_ok _) [] ?_ | refine awP (tyOf_ok _) [] ?_ | refine awQ ?_ | refine awR ?_ | refine awS ?_); intro r hr; simp only [go_sem, Nat.reduceBEq, Nat.reduceBneDiff, Nat.reduceLT, Nat.reduceLeDiff, Nat.reduceAdd, Nat.reduceMul, Nat.reduceSub, Nat.reduceEqDiff, reduceCtorEq, vSch, vF, ec] at hr; subst hr; (first | refine caA (fun _ => check_any ts rs hts hrs hp) rfl ?_ ?_ ?_ | refine awV ?_ ?_ | refine awW ?_ ?_ | refine endK ?_ ?_ | (refine condK (fun h => ?_) (fun h => ?_) <;> (try simp only [go_sem, reduceCtorEq] at h) <;> (try (exfalso; omega))))) | fail)) <;> (try omega)
    rw [laysF, if_pos hc]; exact AV.up_nil2 _ _
  have ec : ((checkF ts rs).1 = 0) = True := eq_true hc
  have hsz : sizesF ts rs = (exts ts, 0) := by rw [sizesF, if_neg (fun g => g hc)]
  have hE := exts_ok hc hts ts.length (Nat.le_refl _)
  rw [take_len (Nat.le_refl _)] at hE
  have hEl := exts_len ts ts.length (Nat.le_refl _)
  rw [take_len (Nat.le_refl _)] at hEl
  have hsz1 : (sizesF ts rs).1 = exts ts := by rw [hsz]
  have hsz2 : (sizesF ts rs).2 = 0 := by rw [hsz]
  (repeat' (first
    | exact trivial
    | (with_reducible first | refine awA ?_ | refine awB ?_ | refine awC ?_ | refine awD ?_ | refine awE ?_ | refine awF ?_ | refine awG ?_ | refine awH ?_ | refine awI ?_ | refine awJ ?_ | refine awK ?_ | refine awL ?_ | refine awM (by decide) ?_)
    | ((with_reducible first | refine awN (tyOf_ok _) [] ?_ | refine awO (tyOf_ok _) [] ?_ | refine awP (tyOf_ok _) [] ?_ | refine awQ ?_ | refine awR ?_ | refine awS ?_); intro r hr; simp only [go_sem, Nat.reduceBEq, Nat.reduceBneDiff, Nat.reduceLT, Nat.reduceLeDiff, Nat.reduceAdd, Nat.reduceMul, Nat.reduceSub, Nat.reduceEqDiff, reduceCtorEq, vSch, vF, ec, hsz1, hsz2, encTs_len] at hr; subst hr; (first | refine caA (fun _ => check_any ts rs hts hrs hp) rfl ?_ ?_ ?_ | refine caC (sizeOf_any ts rs hts hrs hp) rfl ?_ ?_ ?_ | refine awV ?_ ?_ | refine awW ?_ ?_ | refine endK ?_ ?_ | (refine condK (fun h => ?_) (fun h => ?_) <;> (try simp only [go_sem, reduceCtorEq] at h) <;> (try (exfalso; omega))))) | fail)) <;> (try omega)
  refine aw_nilrow 6 34 2 6 (.inl (by decide)) (by simp only [go_sem, Nat.reduceBEq, Nat.reduceBneDiff, Nat.reduceLT, Nat.reduceLeDiff, Nat.reduceAdd, Nat.reduceMul, Nat.reduceSub, Nat.reduceEqDiff, reduceCtorEq]) ?_
  refine go_loop [4, 6, 21, 22, 23] [6] (fun k : Nat => ⟨[(4, true, .lst 4 (encEs (exts ts))), (6, true, .ref 34 2 6 0 k), (21, true, .lst 4 (encTs ts)), (22, true, vI ts.length), (23, true, vI k)],
      [(6, .row 34 2 (encLs (laysK ts k)))]⟩)
      (fun k => k ≤ ts.length) (fun k => ts.length - k) 0 (by simp only [AState.nilrow, go_sem, Nat.reduceBEq, Nat.reduceBneDiff, Nat.reduceLT, Nat.reduceLeDiff, Nat.reduceAdd, Nat.reduceMul, Nat.reduceSub, Nat.reduceEqDiff, reduceCtorEq]; exact rfl) (Nat.zero_le _) ?_
  intro k hk
  have hw1 := wrap_i64 (n := (k : Int) + 1) (by omega)
  have htk : (encLs (laysK ts k)).take k = encLs (laysK ts k) := take_len (by rw [encLs_len, laysK_len hk]; exact Nat.le_refl _)
  have hll : (encLs (laysK ts k)).length = k := by rw [encLs_len, laysK_len hk]
  by_cases hlt : k < ts.length
  · have e1 : ((k : Int) < ts.length) = True := eq_true (by omega)
    have g1 := encTs_get hlt
    have hone := lone_any ts[k] (exts ts) (rightOK_mono (by omega) (check_right hc k hlt)) (hp _ (List.getElem_mem hlt)) (fun e he => (hE e he).1)
    have happ : encLs (laysK ts k) ++ [[vI (layM ts[k] (exts ts)).size, .lst 3 (encSs (layM ts[k] (exts ts)).slots)]] = encLs (laysK ts (k + 1)) := by rw [laysK_succ hlt]; simp [encLs, encL]
    have hl1 : (encLs (laysK ts (k + 1))).length = k + 1 := by rw [encLs_len, laysK_len hlt]
    (repeat' (first
    | exact trivial
    | (with_reducible first | refine awA ?_ | refine awB ?_ | refine awC ?_ | refine awD ?_ | refine awE ?_ | refine awF ?_ | refine awG ?_ | refine awH ?_ | refine awI ?_ | refine awJ ?_ | refine awK ?_ | refine awL ?_ | refine awM (by decide) ?_)
    | ((with_reducible first | refine awN (tyOf_ok _) [] ?_ | refine awO (tyOf_ok _) [] ?_ | refine awP (tyOf_ok _) [] ?_ | refine awQ ?_ | refine awR ?_ | refine awS ?_); intro r hr; simp only [go_sem, Nat.reduceBEq, Nat.reduceBneDiff, Nat.reduceLT, Nat.reduceLeDiff, Nat.reduceAdd, Nat.reduceMul, Nat.reduceSub, Nat.reduceEqDiff, reduceCtorEq, hw1, e1, g1, vLay, htk, happ, hl1, hll, encTs_len] at hr; subst hr; (first | refine caC (hone) rfl ?_ ?_ ?_ | refine awV ?_ ?_ | refine awW ?_ ?_ | refine endK ?_ ?_ | (refine condK (fun h => ?_) (fun h => ?_) <;> (try simp only [go_sem, reduceCtorEq] at h) <;> (try (exfalso; omega))))) | fail)) <;> (try omega)
    exact ⟨k + 1, by simp only [go_sem, Nat.reduceBEq, Nat.reduceBneDiff, Nat.reduceLT, Nat.reduceLeDiff, Nat.reduceAdd, Nat.reduceMul, Nat.reduceSub, Nat.reduceEqDiff, reduceCtorEq]; exact rfl, hlt, by omega⟩
  · have e1 : ((k : Int) < ts.length) = False := eq_false (by omega)
    (repeat' (first
    | exact trivial
    | (with_reducible first | refine awA ?_ | refine awB ?_ | refine awC ?_ | refine awD ?_ | refine awE ?_ | refine awF ?_ | refine awG ?_ | refine awH ?_ | refine awI ?_ | refine awJ ?_ | refine awK ?_ | refine awL ?_ | refine awM (by decide) ?_)
    | ((with_reducible first | refine awN (tyOf_ok _) [] ?_ | refine awO (tyOf_ok _) [] ?_ | refine awP (tyOf_ok _) [] ?_ | refine awQ ?_ | refine awR ?_ | refine awS ?_); intro r hr; simp only [go_sem, Nat.reduceBEq, Nat.reduceBneDiff, Nat.reduceLT, Nat.reduceLeDiff, Nat.reduceAdd, Nat.reduceMul, Nat.reduceSub, Nat.reduceEqDiff, reduceCtorEq, hw1, e1, htk, hll] at hr; subst hr; (first | refine awV ?_ ?_ | refine awW ?_ ?_ | refine endK ?_ ?_ | (refine condK (fun h => ?_) (fun h => ?_) <;> (try simp only [go_sem, reduceCtorEq] at h) <;> (try (exfalso; omega))))) | fail)) <;> (try omega)
    have hke : k = ts.length := by omega
    subst hke
    rw [laysF, if_neg (fun g => g hc), lays, laysK, take_len (Nat.le_refl _)]
    exact AV.up_rfl _
end Go.Proofs.Ytfgacgpicfknpaa
end
section
namespace Go.Proofs.Ytfgacgpicfknpaa
open Go.RowKit
attribute [go_sem] v8_len encPs_len encTs_len encRs_len encEs_len encSs_len encLs_len
set_option maxRecDepth 100000
set_option maxHeartbeats 4000000
def ts0 : List TypeM := [⟨3, 0, 0, []⟩, ⟨4, 3, 0, []⟩]
theorem laysF0 : laysF ts0 [] = ([⟨0, []⟩, ⟨12, [⟨0, true, 4⟩]⟩], 0) := by kernel_rfl
theorem sch0_any : PCall Try.prog 13 [.agg [.lst 4 [[vI 3, vI 0, vI 0, .v (.slice none 0 0)], [vI 4, vI 3, vI 0, .v (.slice none 0 0)]], .v (.slice none 0 0)]] (fun r => r = .tup [.lst 2 [[vI 0, .lst 3 []], [vI 12, .lst 3 [[vI 0, vB true, vI 4]]]], vI 0]) := by
  have h := layOf_any ts0 [] (by decide) (by decide) (by decide)
  rw [laysF0] at h
  exact PCall.args (.cons (.agg (.cons (.lst (.cons (.cons (.rfl _) (.cons (.rfl _) (.cons (.rfl _) (.cons (.nil _) .nil)))) (.cons (.cons (.rfl _) (.cons (.rfl _) (.cons (.rfl _) (.cons (.nil _) .nil)))) .nil))) (.cons (.nil _) .nil))) .nil) h
theorem offs0 : offsets 9 [3, 0, 2] = ([9, 12, 12], 0) := by decide
theorem lens0 : lengths 9 [9, 12, 12] 14 = ([3, 0, 2], 0, 0) := by decide
theorem offs0_any : PCall Try.prog 16 [vI 9, .lst 1 [[vI 3], [vI 0], [vI 2]]] (fun r => r = .tup [.lst 1 [[vI 9], [vI 12], [vI 12]], vI 0]) := by
  have h := offsets_any 9 (by decide) [3, 0, 2] (by decide) (by decide)
  rw [offs0] at h; exact h
theorem lens0_any : PCall Try.prog 17 [vI 9, .lst 1 [[vI 9], [vI 12], [vI 12]], vI 14] (fun r => r = .tup [.lst 1 [[vI 3], [vI 0], [vI 2]], vI 0, vI 0]) := by
  have h := lengths_any 9 (by decide) [9, 12, 12] (by decide) (by decide) 14 (by decide)
  rw [lens0] at h; exact h
theorem same3 (a b c x y z : Int) : PCall Try.prog 20 [.lst 1 [[vI a], [vI b], [vI c]], .lst 1 [[vI x], [vI y], [vI z]]] (fun r => r = vB (decide ([a, b, c] = [x, y, z]))) := same_any [a, b, c] [x, y, z] (show 3 ≤ 4611686018427387904 by decide)
theorem awake13 : PCall Try.prog 12 [] (fun r => r = vB true) := by
  refine go_fn (tyOf_ok _) Try.func12 rfl rfl (by rw [Try.results12]) Try.ntmps12 rfl fun E => ?_
  (repeat' (first
    | exact trivial
    | (with_reducible first | refine awA ?_ | refine awB ?_ | refine awC ?_ | refine awD ?_ | refine awE ?_ | refine awF ?_ | refine awG ?_ | refine awH ?_ | refine awI ?_ | refine awJ ?_ | refine awK ?_ | refine awL ?_ | refine awM (by decide) ?_)
    | ((with_reducible first | refine awN (tyOf_ok _) [] ?_ | refine awO (tyOf_ok _) [] ?_ | refine awP (tyOf_ok _) [] ?_ | refine awQ ?_ | refine awR ?_ | refine awS ?_); intro r hr; simp only [go_sem, Nat.reduceBEq, Nat.reduceBneDiff, Nat.reduceLT, Nat.reduceLeDiff, Nat.reduceAdd, Nat.reduceMul, Nat.reduceSub, Nat.reduceEqDiff, reduceCtorEq, Int.cast_ofNat_Int, Int.reduceToNat, Int.reduceEq, Int.reduceLT, Int.reduceLE, Int.reduceNe] at hr; subst hr; (first | refine caC (offs0_any) rfl ?_ ?_ ?_ | refine caA (fun _ => same3 _ _ _ _ _ _) rfl ?_ ?_ ?_ | refine caC (lens0_any) rfl ?_ ?_ ?_ | refine caC (sch0_any) rfl ?_ ?_ ?_ | refine awV ?_ ?_ | refine awW ?_ ?_ | refine endK ?_ ?_ | (refine condK (fun h => ?_) (fun h => ?_) <;> (try simp only [go_sem, reduceCtorEq] at h) <;> (try (exfalso; omega))))) | fail)) <;> (try omega)
  exact rfl
end Go.Proofs.Ytfgacgpicfknpaa
end
section
namespace Go.Proofs.Ytfgacgpicfknpaa
open Go.RowKit
section
variable {P : Program} {E : Env} {s : AState} {n : Nat} {ops : Array Oper} {Q : Exit → AState → Prop} {D : Dr} {rest : List Oper} {o : Oper}
/-- 'go_callG' of the call whose answer has this name -/
theorem go_callGd (d : Nat) (_ : o.dst = some d) (hi bk : List (Nat × Nat)) (K V : List Nat) {f : Nat} {as' : List AV} {p : Prop} {ob ob1 : List (Nat × AObj)} {r : AV} (h : callG n ops s o hi = some (f, as', p)) (hp : p) (hk : handOK hi bk K V = true)
    (hD : hi.all (fun p => D.W p.1) = true) (hds : D.ds o = true ∨ hi = []) (hob : obIn s hi hi = ob) (hc : GCall P f as' ob r ob1) (hm : AV.allIn.allInL hi (o.op.operands.toList.map s.ev) = true ∨ (r.nm = true ∧ obNm ob1))
    (hr : AListD P E n ops D rest Q ((s.back K V bk ob1).put o.dst true (r.ren bk))) : AListR P E n ops D (o :: rest) Q s := go_callG hi bk K V h hp hk hD hds hob hc hm hr
end
end Go.Proofs.Ytfgacgpicfknpaa
end
section
namespace Go.Proofs.Ytfgacgpicfknpaa
open Go.RowKit
section
variable {P : Program} {T : Nat → Option TyD} {E : Env} {s s' : AState} {tm : Array Value} {w : World} {β : Nat → Option Nat} {F F' : Nat → Prop} {n : Nat} {Q : Exit → AState → Prop}
theorem aw_frz {c : Code} (d : Nat) {t k : Nat} {xs : List (List AV)} (ho : lk s.ob d = some (.row t k xs)) (hd : d < 10000) (h : AWp P E n c Q (s.frz d t k xs)) : AWp P E n c Q s := fun a w ⟨hn, hdf, β, hs⟩ =>
  h a w ⟨hn, hdf, upd β d none, hs.frz hd ho⟩
theorem aw_say {c : Code} (t : Nat) {x : AV} (y : AV) (ht : lk s.fr t = some (true, x)) (hu : x.up y) (h : AWp P E n c Q (s.say t y)) : AWp P E n c Q s := fun a w ⟨hn, hdf, β, hs⟩ => h a w ⟨hn, hdf, β, hs.say ht hu⟩
end
end Go.Proofs.Ytfgacgpicfknpaa
end
section
namespace Go.Proofs.Ytfgacgpicfknpaa
open Go.RowKit
theorem bitLen_le (k : Nat) : ∀ x : Nat, x < 2 ^ 64 → (Lib.bitLen x ≤ k ↔ x < 2 ^ k) := by
  induction k with
  | zero =>
    intro x hx
    by_cases h0 : x = 0
    · subst h0; exact ⟨fun _ => by decide, fun _ => by decide⟩
    · rw [Lib.bitLen_half x h0 hx]; simp; omega
  | succ k ih =>
    intro x hx
    by_cases h0 : x = 0
    · subst h0; exact ⟨fun _ => Nat.two_pow_pos _, fun _ => by have : Lib.bitLen 0 = 0 := by decide
                                                               omega⟩
    · have := ih (x / 2) (by omega)
      rw [Lib.bitLen_half x h0 hx, Nat.pow_succ]; omega

/-- does so wide a number hold n? -/
def fitsB (n wd : Int) : Bool := decide (1 ≤ wd) && decide (wd ≤ 8) && decide (n < 256 ^ wd.toNat)
theorem fitsB_lo (n wd : Int) (h : ¬ 1 ≤ wd) : fitsB n wd = false := by simp [fitsB, h]
theorem fitsB_hi (n wd : Int) (h : ¬ wd ≤ 8) : fitsB n wd = false := by simp [fitsB, h]
theorem fitsB_mid (n wd : Int) (hn : U64 n) (h1 : 1 ≤ wd) (h2 : wd ≤ 8) : decide ((Lib.bitLen n.toNat : Int) ≤ 8 * wd) = fitsB n wd := by
  obtain ⟨hn0, hn1⟩ := hn
  obtain ⟨m, rfl⟩ := Int.eq_ofNat_of_zero_le hn0
  obtain ⟨k, rfl⟩ := Int.eq_ofNat_of_zero_le (by omega : 0 ≤ wd)
  have := bitLen_le (8 * k) m (by omega)
  have e : (2 : Nat) ^ (8 * k) = 256 ^ k := by rw [Nat.pow_mul]
  have e2 : ((256 : Int) ^ k) = ((256 ^ k : Nat) : Int) := by rw [Int.natCast_pow]; rfl
  simp only [fitsB, h1, h2, decide_true, Bool.true_and, Int.toNat_natCast]
  rw [e] at this
  simp only [e2]
  by_cases hh : m < 256 ^ k
  · rw [decide_eq_true (by omega), decide_eq_true (by omega)]
  · rw [decide_eq_false (by omega), decide_eq_false (by omega)]

set_option maxHeartbeats 400000 in
theorem Fits_any (n wd : Int) (w : World) (hn : U64 n) (hw : I64 wd) :
    Calls Try.prog 93 #[.int .u64 n, .int .i64 wd] w fun e w' => e = .returned (.bool (fitsB n wd)) ∧ w = w' := by
  by_cases h1 : 1 ≤ wd
  · by_cases h2 : wd ≤ 8
    · have HM := Lib.hid (fitsB_mid n wd hn h1 h2)
      obtain ⟨hn0, hn1⟩ := hn
      obtain ⟨hw0, hw1⟩ := hw
      go_enter Try.func93, Try.ntmps93
      go_wp2_with (go_at_call 102; refine (Try.bits_Len64 _ _ (by assumption) (by assumption)).mono ?_; rintro e w' ⟨rfl, rfl⟩)
      go_ret
      exact ⟨ret_bool HM.out, rfl⟩
    · have HM := Lib.hid (fitsB_hi n wd h2)
      obtain ⟨hw0, hw1⟩ := hw
      go_enter Try.func93, Try.ntmps93
      go_wp2
      go_ret
      exact ⟨ret_bool HM.out.symm, rfl⟩
  · have HM := Lib.hid (fitsB_lo n wd h1)
    obtain ⟨hw0, hw1⟩ := hw
    go_enter Try.func93, Try.ntmps93
    go_wp2
    go_ret
    exact ⟨ret_bool HM.out.symm, rfl⟩
theorem fits_p {n w : Int} (hn : U64 n) (hw : I64 w) : PCall Try.prog 93 [.v (.int .u64 n), vI w] (fun x => x = vB (fitsB n w)) :=
  pcall_pure (xs := [.int .u64 n, .int .i64 w]) Try.func93 rfl rfl (fun x hx => by simp at hx; rcases hx with rfl | rfl <;> rfl) rfl fun W => Fits_any n w W hn hw
end Go.Proofs.Ytfgacgpicfknpaa
end
section
namespace Go.Proofs.Ytfgacgpicfknpaa
open Go.RowKit
set_option maxRecDepth 100000
set_option maxHeartbeats 4000000
/-! Lengths of values: what package size computes. -/
structure NodeM where
  kind : Int
  n : Int
  kids : Int
deriving DecidableEq
def vU (n : Int) : AV := .v (.int .u64 n)
def encN (x : NodeM) : List AV := [vI x.kind, vU x.n, vI x.kids]
def encNs (l : List NodeM) : List (List AV) := l.map encN
theorem encNs_len (l : List NodeM) : (encNs l).length = l.length := by simp [encNs]
theorem encNs_get {l : List NodeM} {k : Nat} (h : k < l.length) : (encNs l)[k]? = some [vI l[k].kind, vU l[k].n, vI l[k].kids] := by simp [encNs, encN, h]
attribute [go_sem] encNs_len vU
def vN (x : NodeM) : AV := .agg [vI x.kind, vU x.n, vI x.kids]
def nodeOK (x : NodeM) : Prop := I64 x.kind ∧ I64 x.kids ∧ 0 ≤ x.n ∧ x.n < 18446744073709551616
def isN (x : NodeM) (kind kids : Int) : Bool := decide (x.kind = kind) && decide (x.kids = kids) && (decide (kind = 1) || decide (kind = 6) || decide (x.n = 0))
/-- how many bytes a varint takes, of a number that is below 128 to the f -/
def leb : Nat → Int → Int
  | 0, _ => 1
  | f + 1, n => if n < 128 then 1 else leb f (n / 128) + 1
abbrev Rec := Nat → List Int → Int × Bool × List Int
def kidsW (X : List ExtM) (rec : Rec) (t : Int) : Nat → Int → List Int → Int × Bool × List Int
  | 0, sum, ls => (sum, true, ls)
  | m + 1, sum, ls => if (rec t.toNat ls).2.1 = true then kidsW X rec t m (plusL [sum, withinM (atE X t).fixed (rec t.toNat ls).1]) (rec t.toNat ls).2.2 else (0, false, (rec t.toNat ls).2.2)
def fieldsW (X : List ExtM) (rec : Rec) : List PartM → Int → List Int → Int × Bool × List Int
  | [], sum, ls => (sum, true, ls)
  | p :: l, sum, ls => if (rec p.ty.toNat ls).2.1 = true then fieldsW X rec l (plusL [sum, withinM (atE X p.ty).fixed (rec p.ty.toNat ls).1]) (rec p.ty.toNat ls).2.2 else (0, false, (rec p.ty.toNat ls).2.2)
def one1 (r : Int × Bool × List Int) : Int × Bool × List Int := (plusL [1, r.1], r.2.1, r.2.2)
def armOf (l : List PartM) (n : Int) : Option PartM := l.find? fun p => decide (p.tag % 18446744073709551616 = n)
def armW (rec : Rec) (l : List PartM) (n : Int) (ls : List Int) : Int × Bool × List Int := match armOf l n with
  | some p => one1 (rec p.ty.toNat ls)
  | none => (0, false, ls)
def nodeW (X : List ExtM) (rec : Rec) (v : NodeM) (x : TypeM) (ls : List Int) : Int × Bool × List Int :=
  if x.kind = 1 then (x.n, isN v 1 0 && fitsB v.n x.n, ls)
  else if x.kind = 2 then (1, decide (v.kind = 2) && decide (v.kids = 0) && decide (v.n ≤ 1), ls)
  else if x.kind = 3 then (leb 10 v.n, isN v 1 0, ls)
  else if x.kind = 4 then if isN v 3 x.n = true then kidsW X rec x.elem x.n.toNat 0 ls else (0, false, ls)
  else if x.kind = 5 then if 0 ≤ v.kids ∧ v.kids ≤ x.n ∧ isN v 3 v.kids = true then kidsW X rec x.elem v.kids.toNat 0 ls else (0, false, ls)
  else if x.kind = 6 then if 0 ≤ v.kids ∧ v.kids ≤ 1 ∧ isN v 5 v.kids = true then (if v.kids = 0 then (1, true, ls) else one1 (rec x.elem.toNat ls)) else (0, false, ls)
  else if x.kind = 7 then if isN v 6 1 = true then armW rec x.parts v.n ls else (0, false, ls)
  else if isN v 4 x.parts.length = true then fieldsW X rec x.parts 0 ls else (0, false, ls)
def setL (r : Int × Bool × List Int) (k : Nat) : Int × Bool × List Int := (r.1, r.2.1, r.2.2.set k r.1)
/-- the walk through a value, as deep as f types -/
def valW (ts : List TypeM) (X : List ExtM) (V : List NodeM) : Nat → Rec
  | 0, _, ls => (0, false, ls)
  | f + 1, t, ls => match V[ls.length]? with
    | some v => setL (nodeW X (valW ts X V f) v ((ts[t]?).getD ⟨0, 0, 0, []⟩) (ls ++ [0])) ls.length
    | none => (0, false, ls)
end Go.Proofs.Ytfgacgpicfknpaa
end
section
namespace Go.Proofs.Ytfgacgpicfknpaa
open Go.RowKit
set_option maxRecDepth 100000
set_option maxHeartbeats 4000000
theorem is_any (x : NodeM) (kind kids : Int) : PCall Try.prog 92 [.agg [vI x.kind, .v (.int .u64 x.n), vI x.kids], vI kind, vI kids] (fun r => r = vB (isN x kind kids)) := by
  refine go_fn (tyOf_ok _) Try.func92 rfl rfl (by rw [Try.results92]) Try.ntmps92 rfl fun E => ?_
  (repeat' (first
    | exact trivial
    | (with_reducible first | refine awA ?_ | refine awB ?_ | refine awC ?_ | refine awD ?_ | refine awE ?_ | refine awF ?_ | refine awG ?_ | refine awH ?_ | refine awI ?_ | refine awJ ?_ | refine awK ?_ | refine awL ?_ | refine awM (by decide) ?_)
    | ((with_reducible first | refine awN (tyOf_ok _) [] ?_ | refine awO (tyOf_ok _) [] ?_ | refine awP (tyOf_ok _) [] ?_ | refine awQ ?_ | refine awR ?_ | refine awS ?_); intro r hr; simp only [go_sem, Nat.reduceBEq, Nat.reduceBneDiff, Nat.reduceLT, Nat.reduceLeDiff, Nat.reduceAdd, Nat.reduceMul, Nat.reduceSub, Nat.reduceEqDiff, reduceCtorEq] at hr; subst hr; (first | refine awV ?_ ?_ | refine awW ?_ ?_ | refine endK ?_ ?_ | (refine condK (fun h => ?_) (fun h => ?_) <;> (try simp only [go_sem, reduceCtorEq] at h) <;> (try (exfalso; omega))))) | fail)) <;> (try omega)
  exact congrArg (fun b => AV.v (.bool b)) (by simp [isN])
theorem leb_big (f : Nat) : ∀ n : Int, 0 ≤ n → n < 128 ^ (f + 1) → leb f n ≤ f + 1 ∧ 1 ≤ leb f n := by
  induction f with
  | zero => intro n _ _; simp [leb]
  | succ f ih =>
    intro n h0 h1
    unfold leb
    split
    · omega
    · have := ih (n / 128) (by omega) (Int.ediv_lt_of_lt_mul (by omega) (by rw [Int.pow_succ] at h1; exact h1))
      omega
theorem varint_any (n : Int) (h0 : 0 ≤ n) (h1 : n < 18446744073709551616) : PCall Try.prog 94 [.v (.int .u64 n)] (fun r => r = vI (leb 10 n)) := by
  refine go_fn (tyOf_ok _) Try.func94 rfl rfl (by rw [Try.results94]) Try.ntmps94 rfl fun E => ?_
  (repeat' (first
    | exact trivial
    | (with_reducible first | refine awA ?_ | refine awB ?_ | refine awC ?_ | refine awD ?_ | refine awE ?_ | refine awF ?_ | refine awG ?_ | refine awH ?_ | refine awI ?_ | refine awJ ?_ | refine awK ?_ | refine awL ?_ | refine awM (by decide) ?_)
    | ((with_reducible first | refine awN (tyOf_ok _) [] ?_ | refine awO (tyOf_ok _) [] ?_ | refine awP (tyOf_ok _) [] ?_ | refine awQ ?_ | refine awR ?_ | refine awS ?_); intro r hr; simp only [go_sem, Nat.reduceBEq, Nat.reduceBneDiff, Nat.reduceLT, Nat.reduceLeDiff, Nat.reduceAdd, Nat.reduceMul, Nat.reduceSub, Nat.reduceEqDiff, reduceCtorEq] at hr; subst hr; (first | refine awV ?_ ?_ | refine awW ?_ ?_ | refine endK ?_ ?_ | (refine condK (fun h => ?_) (fun h => ?_) <;> (try simp only [go_sem, reduceCtorEq] at h) <;> (try (exfalso; omega))))) | fail)) <;> (try omega)
  generalize hZ : leb 10 n = Z
  refine go_loop [0, 3] [] (fun p : Nat × Nat × Int => ⟨[(0, true, vU p.2.2), (3, true, vI p.2.1)], []⟩) (fun p => p.1 + p.2.1 = 11 ∧ 1 ≤ p.2.1 ∧ 0 ≤ p.2.2 ∧ p.2.2 < 128 ^ (p.1 + 1) ∧ Z = leb p.1 p.2.2 + (p.2.1 - 1)) (fun p => p.1) (10, 1, n) (by simp only [go_sem, Nat.reduceBEq, Nat.reduceBneDiff, Nat.reduceLT, Nat.reduceLeDiff, Nat.reduceAdd, Nat.reduceMul, Nat.reduceSub, Nat.reduceEqDiff, reduceCtorEq, vU]; exact rfl)
    ⟨rfl, Nat.le_refl _, h0, by simp only; omega, by rw [← hZ]; simp⟩ ?_
  intro ⟨f, k, m⟩ ⟨hk, hk1, hm0, hm1, heq⟩
  simp only at hk hk1 hm0 hm1 heq
  have hw1 := wrap_i64 (n := (k : Int) + 1) (by omega)
  have hf : m.fdiv (2 ^ min (Int.toNat 7) 64) = m / 128 := Int.fdiv_eq_ediv_of_nonneg _ (by decide)
  by_cases hlt : 128 ≤ m
  · have e1 : (128 ≤ m) = True := eq_true hlt
    obtain ⟨f, rfl⟩ : ∃ g, f = g + 1 := ⟨f - 1, by
      cases f with
      | zero => simp at hm1; omega
      | succ f => rfl⟩
    rw [leb, if_neg (by omega)] at heq
    (repeat' (first
    | exact trivial
    | (with_reducible first | refine awA ?_ | refine awB ?_ | refine awC ?_ | refine awD ?_ | refine awE ?_ | refine awF ?_ | refine awG ?_ | refine awH ?_ | refine awI ?_ | refine awJ ?_ | refine awK ?_ | refine awL ?_ | refine awM (by decide) ?_)
    | ((with_reducible first | refine awN (tyOf_ok _) [] ?_ | refine awO (tyOf_ok _) [] ?_ | refine awP (tyOf_ok _) [] ?_ | refine awQ ?_ | refine awR ?_ | refine awS ?_); intro r hr; simp only [go_sem, Nat.reduceBEq, Nat.reduceBneDiff, Nat.reduceLT, Nat.reduceLeDiff, Nat.reduceAdd, Nat.reduceMul, Nat.reduceSub, Nat.reduceEqDiff, reduceCtorEq, vU, hw1, e1] at hr; subst hr; (first | refine awV ?_ ?_ | refine awW ?_ ?_ | refine endK ?_ ?_ | (refine condK (fun h => ?_) (fun h => ?_) <;> (try simp only [go_sem, reduceCtorEq] at h) <;> (try (exfalso; omega))))) | fail)) <;> (try omega)
    refine ⟨(f, k + 1, m / 128), by simp only [go_sem, Nat.reduceBEq, Nat.reduceBneDiff, Nat.reduceLT, Nat.reduceLeDiff, Nat.reduceAdd, Nat.reduceMul, Nat.reduceSub, Nat.reduceEqDiff, reduceCtorEq, vU, hf]; exact rfl, ⟨by simp only; omega, by simp only; omega, by simp only; omega, Int.ediv_lt_of_lt_mul (by omega) (by rw [Int.pow_succ] at hm1; exact hm1), ?_⟩, by simp only; omega⟩
    rw [heq]; simp only [Int.natCast_add, Int.natCast_one]; omega
  · have e1 : (128 ≤ m) = False := eq_false hlt
    (repeat' (first
    | exact trivial
    | (with_reducible first | refine awA ?_ | refine awB ?_ | refine awC ?_ | refine awD ?_ | refine awE ?_ | refine awF ?_ | refine awG ?_ | refine awH ?_ | refine awI ?_ | refine awJ ?_ | refine awK ?_ | refine awL ?_ | refine awM (by decide) ?_)
    | ((with_reducible first | refine awN (tyOf_ok _) [] ?_ | refine awO (tyOf_ok _) [] ?_ | refine awP (tyOf_ok _) [] ?_ | refine awQ ?_ | refine awR ?_ | refine awS ?_); intro r hr; simp only [go_sem, Nat.reduceBEq, Nat.reduceBneDiff, Nat.reduceLT, Nat.reduceLeDiff, Nat.reduceAdd, Nat.reduceMul, Nat.reduceSub, Nat.reduceEqDiff, reduceCtorEq, vU, hw1, e1] at hr; subst hr; (first | refine awV ?_ ?_ | refine awW ?_ ?_ | refine endK ?_ ?_ | (refine condK (fun h => ?_) (fun h => ?_) <;> (try simp only [go_sem, reduceCtorEq] at h) <;> (try (exfalso; omega))))) | fail)) <;> (try omega)
    rw [heq]
    have : leb f m = 1 := by
      cases f with
      | zero => rfl
      | succ f => rw [leb, if_pos (by omega)]
    rw [this]
    exact congrArg (fun z => AV.v (.int .i64 z)) (by omega)
end Go.Proofs.Ytfgacgpicfknpaa
end
section
namespace Go.Proofs.Ytfgacgpicfknpaa
open Go.RowKit
set_option maxRecDepth 100000
set_option maxHeartbeats 8000000
def wob (ts : List TypeM) (rs : List RootM) (X : List ExtM) (V : List NodeM) (ls : List Int) : List (Nat × AObj) :=
  [(10000, .var [.lst 4 (encTs ts), .lst 2 (encRs rs), .lst 4 (encEs X), .lst 3 (encNs V), vI ls.length, .ref 3 1 15000 0 ls.length]), (15000, .row 3 1 (v8 ls))]
def tupR (r : Int × Bool × List Int) : AV := .tup [vI r.1, vB r.2.1]
attribute [go_sem] wob tupR vN
def bdR (V : List NodeM) (ls : List Int) (r : Int × Bool × List Int) : Prop := (0 ≤ r.1 ∧ r.1 ≤ 4611686018427387904) ∧ ls.length ≤ r.2.2.length ∧ r.2.2.length ≤ V.length
def RecAt (ts : List TypeM) (rs : List RootM) (X : List ExtM) (V : List NodeM) (rec : Rec) (t : Nat) : Prop :=
  ∀ ls : List Int, ls.length ≤ V.length → GCall Try.prog 51 [.ptr 1 10000 0 0, vI t] (wob ts rs X V ls) (tupR (rec t ls)) (wob ts rs X V (rec t ls).2.2) ∧ bdR V ls (rec t ls)
structure WOK (ts : List TypeM) (rs : List RootM) (X : List ExtM) (V : List NodeM) : Prop where
  nts : ts.length ≤ 1000000000
  nV : V.length ≤ 1000000000
  nX : X.length = ts.length
  ok : ∀ e ∈ X, extOK e
  right : ∀ (k : Nat) (h : k < ts.length), rightOK ts[k] k = true
  parts : ∀ t ∈ ts, t.parts.length ≤ 1000000000
  node : ∀ x ∈ V, nodeOK x
section
variable {ts : List TypeM} {rs : List RootM} {X : List ExtM} {V : List NodeM} {rec : Rec}
theorem kid_any (W : WOK ts rs X V) {t : Nat} (ht : t < ts.length) (H : RecAt ts rs X V rec t) (ls : List Int) (hl : ls.length ≤ V.length) :
    GCall Try.prog 103 [.ptr 1 10000 0 0, vI t] (wob ts rs X V ls) (.tup [vI (withinM (atE X t).fixed (rec t ls).1), vB (rec t ls).2.1]) (wob ts rs X V (rec t ls).2.2) := by
  obtain ⟨hc, hb, _⟩ := H ls hl
  have hx := W.nX
  have g1 := encEs_get (l := X) (k := t) (by omega)
  have hat : X[t]'(by omega) = atE X t := by rw [atE, Int.toNat_natCast, List.getElem?_eq_getElem (by omega)]; rfl
  rw [hat] at g1
  generalize rec t ls = r at *
  obtain ⟨n, ok, ls'⟩ := r
  simp only at hb
  have hw := within_any (atE X t) n (by unfold I64; omega)
  refine go_fnG (tyOf_ok _) Try.func103 rfl rfl (by rw [Try.results103]) Try.ntmps103 rfl fun E => ?_
  (repeat' (first
    | exact trivial
    | (with_reducible first | refine awA ?_ | refine awB ?_ | refine awC ?_ | refine awD ?_ | refine awE ?_ | refine awF ?_ | refine awG ?_ | refine awH ?_ | refine awI ?_ | refine awJ ?_ | refine awK ?_ | refine awL ?_ | refine awM (by decide) ?_)
    | ((with_reducible first | refine awN (tyOf_ok _) [] ?_ | refine awO (tyOf_ok _) [] ?_ | refine awP (tyOf_ok _) [] ?_ | refine awQ ?_ | refine awR ?_ | refine awS ?_ | refine awT ?_ | refine awU ?_); intro r hr; simp only [go_sem, Nat.reduceBEq, Nat.reduceBneDiff, Nat.reduceLT, Nat.reduceLeDiff, Nat.reduceAdd, Nat.reduceMul, Nat.reduceSub, Nat.reduceEqDiff, reduceCtorEq, wob, tupR, g1, encEs_len, hx] at hr; subst hr; (first | refine caA (fun _ => hw) rfl ?_ ?_ ?_ | refine awV ?_ ?_ | refine awW ?_ ?_ | refine endK ?_ ?_ | refine endGK ?_ ?_ ?_ | (refine condK (fun h => ?_) (fun h => ?_) <;> (try simp only [go_sem, reduceCtorEq] at h) <;> (try (exfalso; omega)))))
    | (refine go_callGE [(10000, 10000), (15000, 15000)] [(10000, 10000), (15000, 15000)] [15000] [10000] ?_; intro r hr; simp only [go_sem, Nat.reduceBEq, Nat.reduceBneDiff, Nat.reduceLT, Nat.reduceLeDiff, Nat.reduceAdd, Nat.reduceMul, Nat.reduceSub, Nat.reduceEqDiff, reduceCtorEq, wob, tupR, g1, encEs_len, hx] at hr; subst hr; refine callGK (hc) rfl rfl (by first | exact .inl rfl | exact .inr rfl) ?_ (.inl rfl) ?_) | fail)) <;> (try omega)
  all_goals (first | exact AV.up_rfl _ | exact obUp_cons rfl (obUp_cons rfl obUp_nil))
theorem kids_any (W : WOK ts rs X V) {t : Nat} (ht : t < ts.length) (H : RecAt ts rs X V rec t) (m : Nat) (hm : m ≤ 1000000000) (ls0 : List Int) (hl0 : ls0.length ≤ V.length) :
    GCall Try.prog 95 [.ptr 1 10000 0 0, vI t, vI m] (wob ts rs X V ls0) (tupR (kidsW X rec t m 0 ls0)) (wob ts rs X V (kidsW X rec t m 0 ls0).2.2) := by
  refine go_fnG (tyOf_ok _) Try.func95 rfl rfl (by rw [Try.results95]) Try.ntmps95 rfl fun E => ?_
  (repeat' (first
    | exact trivial
    | (with_reducible first | refine awA ?_ | refine awB ?_ | refine awC ?_ | refine awD ?_ | refine awE ?_ | refine awF ?_ | refine awG ?_ | refine awH ?_ | refine awI ?_ | refine awJ ?_ | refine awK ?_ | refine awL ?_ | refine awM (by decide) ?_)
    | ((with_reducible first | refine awN (tyOf_ok _) [] ?_ | refine awO (tyOf_ok _) [] ?_ | refine awP (tyOf_ok _) [] ?_ | refine awQ ?_ | refine awR ?_ | refine awS ?_ | refine awT ?_ | refine awU ?_); intro r hr; simp only [go_sem, Nat.reduceBEq, Nat.reduceBneDiff, Nat.reduceLT, Nat.reduceLeDiff, Nat.reduceAdd, Nat.reduceMul, Nat.reduceSub, Nat.reduceEqDiff, reduceCtorEq] at hr; subst hr; (first | refine awV ?_ ?_ | refine awW ?_ ?_ | refine endK ?_ ?_ | refine endGK ?_ ?_ ?_ | (refine condK (fun h => ?_) (fun h => ?_) <;> (try simp only [go_sem, reduceCtorEq] at h) <;> (try (exfalso; omega))))) | fail)) <;> (try omega)
  refine go_loop [0, 1, 8, 11, 12] [10000, 15000] (fun p : Nat × Int × List Int => ⟨[(0, true, .ptr 1 10000 0 0), (1, true, vI t), (8, true, vI p.2.1), (11, true, vI m), (12, true, vI p.1)], wob ts rs X V p.2.2⟩)
    (fun p => p.1 ≤ m ∧ (0 ≤ p.2.1 ∧ p.2.1 ≤ 4611686018427387904) ∧ p.2.2.length ≤ V.length ∧ kidsW X rec t m 0 ls0 = kidsW X rec t (m - p.1) p.2.1 p.2.2) (fun p => m - p.1) (0, 0, ls0) (by simp only [go_sem, Nat.reduceBEq, Nat.reduceBneDiff, Nat.reduceLT, Nat.reduceLeDiff, Nat.reduceAdd, Nat.reduceMul, Nat.reduceSub, Nat.reduceEqDiff, reduceCtorEq, wob]; exact rfl)
    ⟨Nat.zero_le _, by simp only; omega, hl0, rfl⟩ ?_
  intro ⟨k, sum, ls⟩ ⟨hk, hs, hl, heq⟩
  simp only at hk hs hl heq
  have hw1 := wrap_i64 (n := (k : Int) + 1) (by omega)
  by_cases hlt : k < m
  · have e1 : ((k : Int) < m) = True := eq_true (by omega)
    have hc := kid_any W ht H ls hl
    have hb := (H ls hl).2
    rw [show m - k = (m - (k + 1)) + 1 by omega, kidsW, Int.toNat_natCast] at heq
    generalize rec t ls = r at *
    obtain ⟨n, ok, ls'⟩ := r
    obtain ⟨hb1, hb2, hb3⟩ := hb
    simp only at hb1 hb2 hb3 heq
    have hwb := withinM_bd (f := (atE X t).fixed) hb1
    have hpl := plus_p (zs := [sum, withinM (atE X t).fixed n]) (by intro z hz; simp at hz; rcases hz with rfl | rfl <;> (unfold I64; omega))
    cases ok with
    | false =>
      rw [if_neg (by decide)] at heq
      (repeat' (first
    | exact trivial
    | (with_reducible first | refine awA ?_ | refine awB ?_ | refine awC ?_ | refine awD ?_ | refine awE ?_ | refine awF ?_ | refine awG ?_ | refine awH ?_ | refine awI ?_ | refine awJ ?_ | refine awK ?_ | refine awL ?_ | refine awM (by decide) ?_)
    | ((with_reducible first | refine awN (tyOf_ok _) [] ?_ | refine awO (tyOf_ok _) [] ?_ | refine awP (tyOf_ok _) [] ?_ | refine awQ ?_ | refine awR ?_ | refine awS ?_ | refine awT ?_ | refine awU ?_); intro r hr; simp only [go_sem, Nat.reduceBEq, Nat.reduceBneDiff, Nat.reduceLT, Nat.reduceLeDiff, Nat.reduceAdd, Nat.reduceMul, Nat.reduceSub, Nat.reduceEqDiff, reduceCtorEq, wob, hw1, e1] at hr; subst hr; (first | refine caA (fun _ => hpl) rfl ?_ ?_ ?_ | refine awV ?_ ?_ | refine awW ?_ ?_ | refine endK ?_ ?_ | refine endGK ?_ ?_ ?_ | (refine condK (fun h => ?_) (fun h => ?_) <;> (try simp only [go_sem, reduceCtorEq] at h) <;> (try (exfalso; omega)))))
    | (refine go_callGE [(10000, 10000), (15000, 15000)] [(10000, 10000), (15000, 15000)] [15000] [10000] ?_; intro r hr; simp only [go_sem, Nat.reduceBEq, Nat.reduceBneDiff, Nat.reduceLT, Nat.reduceLeDiff, Nat.reduceAdd, Nat.reduceMul, Nat.reduceSub, Nat.reduceEqDiff, reduceCtorEq, wob, hw1, e1] at hr; subst hr; refine callGK (hc) rfl rfl (by first | exact .inl rfl | exact .inr rfl) ?_ (.inl rfl) ?_) | fail)) <;> (try omega)
      all_goals rw [heq]
      all_goals (first | exact AV.up_rfl _ | exact obUp_cons rfl (obUp_cons rfl obUp_nil))
    | true =>
      rw [if_pos rfl] at heq
      (repeat' (first
    | exact trivial
    | (with_reducible first | refine awA ?_ | refine awB ?_ | refine awC ?_ | refine awD ?_ | refine awE ?_ | refine awF ?_ | refine awG ?_ | refine awH ?_ | refine awI ?_ | refine awJ ?_ | refine awK ?_ | refine awL ?_ | refine awM (by decide) ?_)
    | ((with_reducible first | refine awN (tyOf_ok _) [] ?_ | refine awO (tyOf_ok _) [] ?_ | refine awP (tyOf_ok _) [] ?_ | refine awQ ?_ | refine awR ?_ | refine awS ?_ | refine awT ?_ | refine awU ?_); intro r hr; simp only [go_sem, Nat.reduceBEq, Nat.reduceBneDiff, Nat.reduceLT, Nat.reduceLeDiff, Nat.reduceAdd, Nat.reduceMul, Nat.reduceSub, Nat.reduceEqDiff, reduceCtorEq, wob, hw1, e1] at hr; subst hr; (first | refine caA (fun _ => hpl) rfl ?_ ?_ ?_ | refine awV ?_ ?_ | refine awW ?_ ?_ | refine endK ?_ ?_ | refine endGK ?_ ?_ ?_ | (refine condK (fun h => ?_) (fun h => ?_) <;> (try simp only [go_sem, reduceCtorEq] at h) <;> (try (exfalso; omega)))))
    | (refine go_callGE [(10000, 10000), (15000, 15000)] [(10000, 10000), (15000, 15000)] [15000] [10000] ?_; intro r hr; simp only [go_sem, Nat.reduceBEq, Nat.reduceBneDiff, Nat.reduceLT, Nat.reduceLeDiff, Nat.reduceAdd, Nat.reduceMul, Nat.reduceSub, Nat.reduceEqDiff, reduceCtorEq, wob, hw1, e1] at hr; subst hr; refine callGK (hc) rfl rfl (by first | exact .inl rfl | exact .inr rfl) ?_ (.inl rfl) ?_) | fail)) <;> (try omega)
      exact ⟨(k + 1, plusL [sum, withinM (atE X t).fixed n], ls'), by simp only [go_sem, Nat.reduceBEq, Nat.reduceBneDiff, Nat.reduceLT, Nat.reduceLeDiff, Nat.reduceAdd, Nat.reduceMul, Nat.reduceSub, Nat.reduceEqDiff, reduceCtorEq, wob]; exact rfl, ⟨by simp only; omega, plusL_bd _, by simp only; omega, heq⟩, by simp only; omega⟩
  · have e1 : ((k : Int) < m) = False := eq_false (by omega)
    have hz : m - k = 0 := by omega
    rw [hz, kidsW] at heq
    (repeat' (first
    | exact trivial
    | (with_reducible first | refine awA ?_ | refine awB ?_ | refine awC ?_ | refine awD ?_ | refine awE ?_ | refine awF ?_ | refine awG ?_ | refine awH ?_ | refine awI ?_ | refine awJ ?_ | refine awK ?_ | refine awL ?_ | refine awM (by decide) ?_)
    | ((with_reducible first | refine awN (tyOf_ok _) [] ?_ | refine awO (tyOf_ok _) [] ?_ | refine awP (tyOf_ok _) [] ?_ | refine awQ ?_ | refine awR ?_ | refine awS ?_ | refine awT ?_ | refine awU ?_); intro r hr; simp only [go_sem, Nat.reduceBEq, Nat.reduceBneDiff, Nat.reduceLT, Nat.reduceLeDiff, Nat.reduceAdd, Nat.reduceMul, Nat.reduceSub, Nat.reduceEqDiff, reduceCtorEq, wob, hw1, e1] at hr; subst hr; (first | refine awV ?_ ?_ | refine awW ?_ ?_ | refine endK ?_ ?_ | refine endGK ?_ ?_ ?_ | (refine condK (fun h => ?_) (fun h => ?_) <;> (try simp only [go_sem, reduceCtorEq] at h) <;> (try (exfalso; omega))))) | fail)) <;> (try omega)
    all_goals rw [heq]
    all_goals (first | exact AV.up_rfl _ | exact obUp_cons rfl (obUp_cons rfl obUp_nil))
theorem fields_any (W : WOK ts rs X V) (x : TypeM) (hp : x.parts.length ≤ 1000000000) (H : ∀ p ∈ x.parts, 0 ≤ p.ty ∧ p.ty < ts.length ∧ RecAt ts rs X V rec p.ty.toNat) (v : NodeM) (hv : nodeOK v) (ls0 : List Int) (hl0 : ls0.length ≤ V.length) :
    GCall Try.prog 96 [.ptr 1 10000 0 0, .agg [vI v.kind, .v (.int .u64 v.n), vI v.kids], .agg [vI x.kind, vI x.n, vI x.elem, .lst 3 (encPs x.parts)]] (wob ts rs X V ls0)
      (tupR (if isN v 4 x.parts.length = true then fieldsW X rec x.parts 0 ls0 else (0, false, ls0))) (wob ts rs X V (if isN v 4 x.parts.length = true then fieldsW X rec x.parts 0 ls0 else (0, false, ls0)).2.2) := by
  refine go_fnG (tyOf_ok _) Try.func96 rfl rfl (by rw [Try.results96]) Try.ntmps96 rfl fun E => ?_
  have his := is_any v 4 x.parts.length
  by_cases hi : isN v 4 x.parts.length = true
  case neg =>
    have e0 : isN v 4 x.parts.length = false := by simpa using hi
    rw [if_neg hi]
    (repeat' (first
    | exact trivial
    | (with_reducible first | refine awA ?_ | refine awB ?_ | refine awC ?_ | refine awD ?_ | refine awE ?_ | refine awF ?_ | refine awG ?_ | refine awH ?_ | refine awI ?_ | refine awJ ?_ | refine awK ?_ | refine awL ?_ | refine awM (by decide) ?_)
    | ((with_reducible first | refine awN (tyOf_ok _) [] ?_ | refine awO (tyOf_ok _) [] ?_ | refine awP (tyOf_ok _) [] ?_ | refine awQ ?_ | refine awR ?_ | refine awS ?_ | refine awT ?_ | refine awU ?_); intro r hr; simp only [go_sem, Nat.reduceBEq, Nat.reduceBneDiff, Nat.reduceLT, Nat.reduceLeDiff, Nat.reduceAdd, Nat.reduceMul, Nat.reduceSub, Nat.reduceEqDiff, reduceCtorEq, wob, encPs_len, e0] at hr; subst hr; (first | refine caA (fun _ => his) rfl ?_ ?_ ?_ | refine awV ?_ ?_ | refine awW ?_ ?_ | refine endK ?_ ?_ | refine endGK ?_ ?_ ?_ | (refine condK (fun h => ?_) (fun h => ?_) <;> (try simp only [go_sem, reduceCtorEq] at h) <;> (try (exfalso; omega))))) | fail)) <;> (try omega)
    all_goals (first | exact AV.up_rfl _ | exact obUp_cons rfl (obUp_cons rfl obUp_nil))
  rw [if_pos hi]
  (repeat' (first
    | exact trivial
    | (with_reducible first | refine awA ?_ | refine awB ?_ | refine awC ?_ | refine awD ?_ | refine awE ?_ | refine awF ?_ | refine awG ?_ | refine awH ?_ | refine awI ?_ | refine awJ ?_ | refine awK ?_ | refine awL ?_ | refine awM (by decide) ?_)
    | ((with_reducible first | refine awN (tyOf_ok _) [] ?_ | refine awO (tyOf_ok _) [] ?_ | refine awP (tyOf_ok _) [] ?_ | refine awQ ?_ | refine awR ?_ | refine awS ?_ | refine awT ?_ | refine awU ?_); intro r hr; simp only [go_sem, Nat.reduceBEq, Nat.reduceBneDiff, Nat.reduceLT, Nat.reduceLeDiff, Nat.reduceAdd, Nat.reduceMul, Nat.reduceSub, Nat.reduceEqDiff, reduceCtorEq, wob, encPs_len, hi] at hr; subst hr; (first | refine caA (fun _ => his) rfl ?_ ?_ ?_ | refine awV ?_ ?_ | refine awW ?_ ?_ | refine endK ?_ ?_ | refine endGK ?_ ?_ ?_ | (refine condK (fun h => ?_) (fun h => ?_) <;> (try simp only [go_sem, reduceCtorEq] at h) <;> (try (exfalso; omega))))) | fail)) <;> (try omega)
  refine go_loop [0, 8, 20, 21, 22] [10000, 15000] (fun p : Nat × Int × List Int => ⟨[(0, true, .ptr 1 10000 0 0), (8, true, vI p.2.1), (20, true, .lst 3 (encPs x.parts)), (21, true, vI x.parts.length), (22, true, vI p.1)], wob ts rs X V p.2.2⟩)
    (fun p => p.1 ≤ x.parts.length ∧ (0 ≤ p.2.1 ∧ p.2.1 ≤ 4611686018427387904) ∧ p.2.2.length ≤ V.length ∧ fieldsW X rec x.parts 0 ls0 = fieldsW X rec (x.parts.drop p.1) p.2.1 p.2.2) (fun p => x.parts.length - p.1) (0, 0, ls0) (by simp only [go_sem, Nat.reduceBEq, Nat.reduceBneDiff, Nat.reduceLT, Nat.reduceLeDiff, Nat.reduceAdd, Nat.reduceMul, Nat.reduceSub, Nat.reduceEqDiff, reduceCtorEq, wob]; exact rfl)
    ⟨Nat.zero_le _, by simp only; omega, hl0, rfl⟩ ?_
  intro ⟨k, sum, ls⟩ ⟨hk, hs, hl, heq⟩
  simp only at hk hs hl heq
  have hw1 := wrap_i64 (n := (k : Int) + 1) (by omega)
  by_cases hlt : k < x.parts.length
  · have e1 : ((k : Int) < x.parts.length) = True := eq_true (by omega)
    have g1 := encPs_get hlt
    obtain ⟨h0, h1, hr⟩ := H _ (List.getElem_mem hlt)
    have hc := kid_any W (t := x.parts[k].ty.toNat) (by omega) hr ls hl
    have hb := (hr ls hl).2
    rw [List.drop_eq_getElem_cons hlt, fieldsW] at heq
    rw [Int.toNat_of_nonneg h0] at hc
    generalize x.parts[k] = p at *
    generalize rec p.ty.toNat ls = r at *
    obtain ⟨n, ok, ls'⟩ := r
    obtain ⟨hb1, hb2, hb3⟩ := hb
    simp only at hb1 hb2 hb3 heq
    have hwb := withinM_bd (f := (atE X p.ty).fixed) hb1
    have hpl := plus_p (zs := [sum, withinM (atE X p.ty).fixed n]) (by intro z hz; simp at hz; rcases hz with rfl | rfl <;> (unfold I64; omega))
    cases ok with
    | false =>
      rw [if_neg (by decide)] at heq
      (repeat' (first
    | exact trivial
    | (with_reducible first | refine awA ?_ | refine awB ?_ | refine awC ?_ | refine awD ?_ | refine awE ?_ | refine awF ?_ | refine awG ?_ | refine awH ?_ | refine awI ?_ | refine awJ ?_ | refine awK ?_ | refine awL ?_ | refine awM (by decide) ?_)
    | ((with_reducible first | refine awN (tyOf_ok _) [] ?_ | refine awO (tyOf_ok _) [] ?_ | refine awP (tyOf_ok _) [] ?_ | refine awQ ?_ | refine awR ?_ | refine awS ?_ | refine awT ?_ | refine awU ?_); intro r hr; simp only [go_sem, Nat.reduceBEq, Nat.reduceBneDiff, Nat.reduceLT, Nat.reduceLeDiff, Nat.reduceAdd, Nat.reduceMul, Nat.reduceSub, Nat.reduceEqDiff, reduceCtorEq, wob, hw1, e1, g1] at hr; subst hr; (first | refine caA (fun _ => hpl) rfl ?_ ?_ ?_ | refine awV ?_ ?_ | refine awW ?_ ?_ | refine endK ?_ ?_ | refine endGK ?_ ?_ ?_ | (refine condK (fun h => ?_) (fun h => ?_) <;> (try simp only [go_sem, reduceCtorEq] at h) <;> (try (exfalso; omega)))))
    | (refine go_callGE [(10000, 10000), (15000, 15000)] [(10000, 10000), (15000, 15000)] [15000] [10000] ?_; intro r hr; simp only [go_sem, Nat.reduceBEq, Nat.reduceBneDiff, Nat.reduceLT, Nat.reduceLeDiff, Nat.reduceAdd, Nat.reduceMul, Nat.reduceSub, Nat.reduceEqDiff, reduceCtorEq, wob, hw1, e1, g1] at hr; subst hr; refine callGK (hc) rfl rfl (by first | exact .inl rfl | exact .inr rfl) ?_ (.inl rfl) ?_) | fail)) <;> (try omega)
      all_goals rw [heq]
      all_goals (first | exact AV.up_rfl _ | exact obUp_cons rfl (obUp_cons rfl obUp_nil))
    | true =>
      rw [if_pos rfl] at heq
      (repeat' (first
    | exact trivial
    | (with_reducible first | refine awA ?_ | refine awB ?_ | refine awC ?_ | refine awD ?_ | refine awE ?_ | refine awF ?_ | refine awG ?_ | refine awH ?_ | refine awI ?_ | refine awJ ?_ | refine awK ?_ | refine awL ?_ | refine awM (by decide) ?_)
    | ((with_reducible first | refine awN (tyOf_ok _) [] ?_ | refine awO (tyOf_ok _) [] ?_ | refine awP (tyOf_ok _) [] ?_ | refine awQ ?_ | refine awR ?_ | refine awS ?_ | refine awT ?_ | refine awU ?_); intro r hr; simp only [go_sem, Nat.reduceBEq, Nat.reduceBneDiff, Nat.reduceLT, Nat.reduceLeDiff, Nat.reduceAdd, Nat.reduceMul, Nat.reduceSub, Nat.reduceEqDiff, reduceCtorEq, wob, hw1, e1, g1] at hr; subst hr; (first | refine caA (fun _ => hpl) rfl ?_ ?_ ?_ | refine awV ?_ ?_ | refine awW ?_ ?_ | refine endK ?_ ?_ | refine endGK ?_ ?_ ?_ | (refine condK (fun h => ?_) (fun h => ?_) <;> (try simp only [go_sem, reduceCtorEq] at h) <;> (try (exfalso; omega)))))
    | (refine go_callGE [(10000, 10000), (15000, 15000)] [(10000, 10000), (15000, 15000)] [15000] [10000] ?_; intro r hr; simp only [go_sem, Nat.reduceBEq, Nat.reduceBneDiff, Nat.reduceLT, Nat.reduceLeDiff, Nat.reduceAdd, Nat.reduceMul, Nat.reduceSub, Nat.reduceEqDiff, reduceCtorEq, wob, hw1, e1, g1] at hr; subst hr; refine callGK (hc) rfl rfl (by first | exact .inl rfl | exact .inr rfl) ?_ (.inl rfl) ?_) | fail)) <;> (try omega)
      exact ⟨(k + 1, plusL [sum, withinM (atE X p.ty).fixed n], ls'), by simp only [go_sem, Nat.reduceBEq, Nat.reduceBneDiff, Nat.reduceLT, Nat.reduceLeDiff, Nat.reduceAdd, Nat.reduceMul, Nat.reduceSub, Nat.reduceEqDiff, reduceCtorEq, wob]; exact rfl, ⟨by simp only; omega, plusL_bd _, by simp only; omega, heq⟩, by simp only; omega⟩
  · have e1 : ((k : Int) < x.parts.length) = False := eq_false (by omega)
    rw [List.drop_eq_nil_of_le (by omega), fieldsW] at heq
    (repeat' (first
    | exact trivial
    | (with_reducible first | refine awA ?_ | refine awB ?_ | refine awC ?_ | refine awD ?_ | refine awE ?_ | refine awF ?_ | refine awG ?_ | refine awH ?_ | refine awI ?_ | refine awJ ?_ | refine awK ?_ | refine awL ?_ | refine awM (by decide) ?_)
    | ((with_reducible first | refine awN (tyOf_ok _) [] ?_ | refine awO (tyOf_ok _) [] ?_ | refine awP (tyOf_ok _) [] ?_ | refine awQ ?_ | refine awR ?_ | refine awS ?_ | refine awT ?_ | refine awU ?_); intro r hr; simp only [go_sem, Nat.reduceBEq, Nat.reduceBneDiff, Nat.reduceLT, Nat.reduceLeDiff, Nat.reduceAdd, Nat.reduceMul, Nat.reduceSub, Nat.reduceEqDiff, reduceCtorEq, wob, hw1, e1] at hr; subst hr; (first | refine awV ?_ ?_ | refine awW ?_ ?_ | refine endK ?_ ?_ | refine endGK ?_ ?_ ?_ | (refine condK (fun h => ?_) (fun h => ?_) <;> (try simp only [go_sem, reduceCtorEq] at h) <;> (try (exfalso; omega))))) | fail)) <;> (try omega)
    all_goals rw [heq]
    all_goals (first | exact AV.up_rfl _ | exact obUp_cons rfl (obUp_cons rfl obUp_nil))
end
end Go.Proofs.Ytfgacgpicfknpaa
end

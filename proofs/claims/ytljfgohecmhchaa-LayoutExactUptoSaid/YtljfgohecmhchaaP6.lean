import Derived.Shelf.Bits.Mul64
import Derived.Test.YtljfgohecmhchaaProg
import Derived.Test.YtljfgohecmhchaaP5
set_option linter.all false
section
namespace Go.Proofs.Ytljfgohecmhchaa
open Go.RowKit
set_option maxRecDepth 100000
set_option maxHeartbeats 4000000
/-- what mortiseref09 asks of a part, alone -/
def goodR (kind at_ : Int) (p : PartM) : Bool := (decide (0 ≤ p.ty) && decide (p.ty ≤ at_ - 1)) && !((decide (kind = 8) && (!isName p.label || !decide (p.tag = 0))) || (decide (kind = 7) && (!decide (p.label = ⟨#[]⟩) || !(decide (0 ≤ p.tag) && decide (p.tag ≤ 255)))))
theorem goodR_7 (at_ : Int) (p : PartM) : goodR 7 at_ p = (decide (0 ≤ p.ty) && decide (p.ty ≤ at_ - 1) && (decide (p.label = ⟨#[]⟩) && (decide (0 ≤ p.tag) && decide (p.tag ≤ 255)))) := by
  simp [goodR]
theorem goodR_8 (at_ : Int) (p : PartM) : goodR 8 at_ p = (decide (0 ≤ p.ty) && decide (p.ty ≤ at_ - 1) && (isName p.label && decide (p.tag = 0))) := by
  simp [goodR]
def dup (pre : List PartM) (p : PartM) : Bool := pre.any fun q => decide (q.label = p.label ∧ q.tag = p.tag)
theorem any_congr {α : Type} {l : List α} {f g : α → Bool} (h : ∀ a ∈ l, f a = g a) : l.any f = l.any g := by
  induction l with
  | nil => rfl
  | cons a l ih => rw [List.any_cons, List.any_cons, h a (List.mem_cons_self), ih fun b hb => h b (List.mem_cons_of_mem _ hb)]
theorem good_7 {at_ : Int} {pre : List PartM} {p : PartM} (h : ∀ q ∈ pre, q.label = ⟨#[]⟩) : good 7 at_ pre p = (goodR 7 at_ p && !dup pre p) := by
  rw [goodR_7, good, if_neg (by decide), show decide (p.ty ≤ at_ - 1) = decide (p.ty < at_) from decide_eq_decide.2 ⟨fun h => by omega, fun h => by omega⟩]
  by_cases hl : p.label = ⟨#[]⟩
  · have : (pre.any fun q => decide (q.tag = p.tag)) = dup pre p := any_congr fun q hq => decide_eq_decide.2 ⟨fun g => ⟨(h q hq).trans hl.symm, g⟩, fun g => g.2⟩
    rw [this, decide_eq_true hl]
    cases decide (0 ≤ p.tag) <;> cases decide (p.tag ≤ 255) <;> cases decide (0 ≤ p.ty) <;> cases decide (p.ty < at_) <;> simp
  · rw [decide_eq_false hl]; simp
theorem good_8 {at_ : Int} {pre : List PartM} {p : PartM} (h : ∀ q ∈ pre, q.tag = 0) : good 8 at_ pre p = (goodR 8 at_ p && !dup pre p) := by
  rw [goodR_8, good, if_pos rfl, show decide (p.ty ≤ at_ - 1) = decide (p.ty < at_) from decide_eq_decide.2 ⟨fun h => by omega, fun h => by omega⟩]
  by_cases hl : p.tag = 0
  · have : (pre.any fun q => decide (q.label = p.label)) = dup pre p := any_congr fun q hq => decide_eq_decide.2 ⟨fun g => ⟨g, (h q hq).trans hl.symm⟩, fun g => g.1⟩
    rw [this, decide_eq_true hl]
    cases isName p.label <;> cases decide (0 ≤ p.ty) <;> cases decide (p.ty < at_) <;> simp
  · rw [decide_eq_false hl]; simp
/-- what the parts ahead are, beside being good -/
def plainP (kind : Int) (q : PartM) : Prop := (kind = 7 → q.label = ⟨#[]⟩) ∧ (kind = 8 → q.tag = 0)
theorem good_R {kind at_ : Int} (hk : kind = 7 ∨ kind = 8) {pre : List PartM} {p : PartM} (h : ∀ q ∈ pre, plainP kind q) : good kind at_ pre p = (goodR kind at_ p && !dup pre p) := by
  rcases hk with rfl | rfl
  · exact good_7 fun q hq => (h q hq).1 rfl
  · exact good_8 fun q hq => (h q hq).2 rfl
theorem rparts_any (kind n elem at_ : Int) (hat : 0 ≤ at_ ∧ at_ ≤ 1000000000) (hkind : kind = 7 ∨ kind = 8) (l : List PartM) (hl : l.length ≤ 1000000000) : PCall Try.prog 60 [.agg [vI kind, vI n, vI elem, .lst 3 (encPs l)], vI at_] (fun r => r = vB (partsOK kind at_ 64 l)) := by
  refine go_fn (tyOf_ok _) Try.func60 rfl rfl (by rw [Try.results60]) Try.ntmps60 rfl fun E => ?_
  have hwa := wrap_i64 (n := at_ - 1) (by omega)
  rcases hkind with hk | hk
  · have k7 : (kind = 7) = True := eq_true hk
    have k8 : (kind = 8) = False := eq_false (by omega)
    (repeat' (first
    | exact trivial
    | (with_reducible first | refine awA ?_ | refine awB ?_ | refine awC ?_ | refine awD ?_ | refine awE ?_ | refine awF ?_ | refine awG ?_ | refine awH ?_ | refine awI ?_ | refine awJ ?_ | refine awK ?_ | refine awL ?_ | refine awM (by decide) ?_)
    | (refine aw_draw (id := 17) (t := (.node [0, 1, 2, 3, 4, 5, 6, 7, 8, 9, 10, 11, 12, 13, 14, 15, 16, 17, 18, 19] [])) (drR [2, 7] [76, 86] []) mixed (by kernel_rfl) (by kernel_rfl) (fun _ _ h => h) ?_)
    | (refine at_done (by simp only [List.filterMap_cons, List.filterMap_nil, List.getElem?_toArray, List.getElem?_cons_zero, List.getElem?_cons_succ]; exact rfl) ?_) | (refine at_alt (by simp only [List.filterMap_cons, List.filterMap_nil, List.getElem?_toArray, List.getElem?_cons_zero, List.getElem?_cons_succ]; exact rfl) ?_) | refine qalt_normal ?_ | refine ats_cons ?_ ?_ | exact ats_nil
    | ((with_reducible first | refine awN (tyOf_ok _) [] ?_ | refine awO (tyOf_ok _) [] ?_ | refine awP (tyOf_ok _) [] ?_ | refine awQ ?_ | refine awR ?_ | refine awS ?_); intro r hr; simp only [go_sem, Nat.reduceBEq, Nat.reduceBneDiff, Nat.reduceLT, Nat.reduceLeDiff, Nat.reduceAdd, Nat.reduceMul, Nat.reduceSub, Nat.reduceEqDiff, reduceCtorEq, encPs_len, k7, k8] at hr; subst hr; (first | refine caA (fun _ => in_any l.length 1 64) rfl ?_ ?_ ?_ | refine awV ?_ ?_ | refine awW ?_ ?_ | refine endK ?_ ?_ | (refine condK (fun h => ?_) (fun h => ?_) <;> (try simp only [go_sem, reduceCtorEq] at h) <;> (try (exfalso; omega))))) | fail)) <;> (try omega)
    · show AV.v (.bool _) = AV.v (.bool _)
      have : (decide (1 ≤ (l.length : Int)) && decide ((l.length : Int) ≤ 64)) = false := by
        rw [Bool.eq_false_iff]; intro g; simp only [Bool.and_eq_true, decide_eq_true_eq, ne_eq] at g; omega
      rw [partsOK, this]; rfl
    have hP : partsOK kind at_ 64 l = goodFrom kind at_ [] l := by
      rw [partsOK, show (decide (1 ≤ (l.length : Int)) && decide ((l.length : Int) ≤ 64)) = true by simp only [Bool.and_eq_true, decide_eq_true_eq]; exact h]; rfl
    refine go_loop [1, 2, 6] [2] (fun k : Nat => ⟨[(1, true, vI at_), (2, true, .ptr 1 2 0 0), (6, true, vI k)], [(2, .var [vI kind, vI n, vI elem, .lst 3 (encPs l)])]⟩)
      (fun k => k ≤ l.length ∧ goodFrom kind at_ [] l = goodFrom kind at_ (l.take k) (l.drop k) ∧ ∀ q ∈ l.take k, plainP kind q) (fun k => l.length - k) 0 (by simp only [go_sem, Nat.reduceBEq, Nat.reduceBneDiff, Nat.reduceLT, Nat.reduceLeDiff, Nat.reduceAdd, Nat.reduceMul, Nat.reduceSub, Nat.reduceEqDiff, reduceCtorEq]; exact rfl) ⟨Nat.zero_le _, rfl, fun q h => by cases h⟩ ?_
    intro k ⟨hk', hg, hpl⟩
    have hw1 := wrap_i64 (n := (k : Int) + 1) (by omega)
    by_cases hlt : k < l.length
    · have e1 : ((k : Int) < l.length) = True := eq_true (by omega)
      have g1 := encPs_get hlt
      rw [goodFrom_step kind at_ hlt, good_R (by omega) hpl] at hg
      (repeat' (first
    | exact trivial
    | (with_reducible first | refine awA ?_ | refine awB ?_ | refine awC ?_ | refine awD ?_ | refine awE ?_ | refine awF ?_ | refine awG ?_ | refine awH ?_ | refine awI ?_ | refine awJ ?_ | refine awK ?_ | refine awL ?_ | refine awM (by decide) ?_)
    | (refine aw_draw (id := 17) (t := (.node [0, 1, 2, 3, 4, 5, 6, 7, 8, 9, 10, 11, 12, 13, 14, 15, 16, 17, 18, 19] [])) (drR [2, 7] [76, 86] []) mixed (by kernel_rfl) (by kernel_rfl) (fun _ _ h => h) ?_)
    | (refine at_done (by simp only [List.filterMap_cons, List.filterMap_nil, List.getElem?_toArray, List.getElem?_cons_zero, List.getElem?_cons_succ]; exact rfl) ?_) | (refine at_alt (by simp only [List.filterMap_cons, List.filterMap_nil, List.getElem?_toArray, List.getElem?_cons_zero, List.getElem?_cons_succ]; exact rfl) ?_) | refine qalt_normal ?_ | refine ats_cons ?_ ?_ | exact ats_nil
    | ((with_reducible first | refine awN (tyOf_ok _) [] ?_ | refine awO (tyOf_ok _) [] ?_ | refine awP (tyOf_ok _) [] ?_ | refine awQ ?_ | refine awR ?_ | refine awS ?_); intro r hr; simp only [go_sem, Nat.reduceBEq, Nat.reduceBneDiff, Nat.reduceLT, Nat.reduceLeDiff, Nat.reduceAdd, Nat.reduceMul, Nat.reduceSub, Nat.reduceEqDiff, reduceCtorEq, hw1, hwa, e1, g1, encPs_len, k7, k8] at hr; subst hr; (first | refine caA (fun _ => in_any _ _ _) rfl ?_ ?_ ?_ | refine caA (fun _ => name5_any _) rfl ?_ ?_ ?_ | refine awV ?_ ?_ | refine awW ?_ ?_ | refine endK ?_ ?_ | (refine condK (fun h => ?_) (fun h => ?_) <;> (try simp only [go_sem, reduceCtorEq] at h) <;> (try (exfalso; omega))))) | fail)) <;> (try omega)
      · show AV.v (.bool _) = AV.v (.bool _)
        have : goodR kind at_ l[k] = false := by
          rw [hk, goodR_7, Bool.eq_false_iff]; intro g; simp only [Bool.and_eq_true, decide_eq_true_eq, ne_eq] at g; omega
        rw [hP, hg, this]; rfl
      · show AV.v (.bool _) = AV.v (.bool _)
        have : goodR kind at_ l[k] = false := by
          rw [hk, goodR_7, Bool.eq_false_iff]; intro g; simp only [Bool.and_eq_true, decide_eq_true_eq, ne_eq] at g
          rcases h with h | h
          · exact h g.2.1
          · omega
        rw [hP, hg, this]; rfl
      · refine go_loop [1, 2, 6, 7, 8] [2, 7] (fun j : Nat => ⟨[(1, true, vI at_), (2, true, .ptr 1 2 0 0), (6, true, vI k), (7, true, .ptr 1 7 0 0), (8, true, vI j)],
          [(2, .var [vI kind, vI n, vI elem, .lst 3 (encPs l)]), (7, .var [vS l[k].label, vI l[k].tag, vI l[k].ty])]⟩)
          (fun j => j ≤ k ∧ ∀ i (hi : i < l.length), i < j → ¬ (l[i].label = l[k].label ∧ l[i].tag = l[k].tag)) (fun j => k - j) 0 (by simp only [go_sem, Nat.reduceBEq, Nat.reduceBneDiff, Nat.reduceLT, Nat.reduceLeDiff, Nat.reduceAdd, Nat.reduceMul, Nat.reduceSub, Nat.reduceEqDiff, reduceCtorEq]; exact rfl) ⟨Nat.zero_le _, fun i hi h => by omega⟩ ?_
        intro j ⟨hj, hdj⟩
        have hw2 := wrap_i64 (n := (j : Int) + 1) (by omega)
        by_cases hjk : j < k
        · have e2 : ((j : Int) < k) = True := eq_true (by omega)
          have g2 := encPs_get (l := l) (k := j) (by omega)
          (repeat' (first
    | exact trivial
    | (with_reducible first | refine awA ?_ | refine awB ?_ | refine awC ?_ | refine awD ?_ | refine awE ?_ | refine awF ?_ | refine awG ?_ | refine awH ?_ | refine awI ?_ | refine awJ ?_ | refine awK ?_ | refine awL ?_ | refine awM (by decide) ?_)
    | (refine aw_draw (id := 17) (t := (.node [0, 1, 2, 3, 4, 5, 6, 7, 8, 9, 10, 11, 12, 13, 14, 15, 16, 17, 18, 19] [])) (drR [2, 7] [76, 86] []) mixed (by kernel_rfl) (by kernel_rfl) (fun _ _ h => h) ?_)
    | (refine at_done (by simp only [List.filterMap_cons, List.filterMap_nil, List.getElem?_toArray, List.getElem?_cons_zero, List.getElem?_cons_succ]; exact rfl) ?_) | (refine at_alt (by simp only [List.filterMap_cons, List.filterMap_nil, List.getElem?_toArray, List.getElem?_cons_zero, List.getElem?_cons_succ]; exact rfl) ?_) | refine qalt_normal ?_ | refine ats_cons ?_ ?_ | exact ats_nil
    | ((with_reducible first | refine awN (tyOf_ok _) [] ?_ | refine awO (tyOf_ok _) [] ?_ | refine awP (tyOf_ok _) [] ?_ | refine awQ ?_ | refine awR ?_ | refine awS ?_); intro r hr; simp only [go_sem, Nat.reduceBEq, Nat.reduceBneDiff, Nat.reduceLT, Nat.reduceLeDiff, Nat.reduceAdd, Nat.reduceMul, Nat.reduceSub, Nat.reduceEqDiff, reduceCtorEq, hw2, e2, g2, encPs_len] at hr; subst hr; (first | refine awV ?_ ?_ | refine awW ?_ ?_ | refine endK ?_ ?_ | (refine condK (fun h => ?_) (fun h => ?_) <;> (try simp only [go_sem, reduceCtorEq] at h) <;> (try (exfalso; omega))))) | fail)) <;> (try omega)
          · exact ⟨by omega, fun g => ⟨g, by omega⟩⟩
          · show AV.v (.bool _) = AV.v (.bool _)
            have : dup (l.take k) l[k] = true := List.any_eq_true.2 ⟨l[j], List.mem_of_getElem? (by rw [List.getElem?_take_of_lt hjk, List.getElem?_eq_getElem (by omega)]), decide_eq_true h⟩
            rw [hP, hg, this]; simp
          · refine ⟨j + 1, by simp only [go_sem, Nat.reduceBEq, Nat.reduceBneDiff, Nat.reduceLT, Nat.reduceLeDiff, Nat.reduceAdd, Nat.reduceMul, Nat.reduceSub, Nat.reduceEqDiff, reduceCtorEq]; exact rfl, ⟨by omega, fun i hi hij => ?_⟩, by omega⟩
            rcases Nat.lt_or_ge i j with h' | h'
            · exact hdj i hi h'
            · have : i = j := by omega
              subst this
              exact fun g => by
                rcases h with h | h
                · exact h g.1
                · exact h g.2
        · have e2 : ((j : Int) < k) = False := eq_false (by omega)
          (repeat' (first
    | exact trivial
    | (with_reducible first | refine awA ?_ | refine awB ?_ | refine awC ?_ | refine awD ?_ | refine awE ?_ | refine awF ?_ | refine awG ?_ | refine awH ?_ | refine awI ?_ | refine awJ ?_ | refine awK ?_ | refine awL ?_ | refine awM (by decide) ?_)
    | (refine aw_draw (id := 17) (t := (.node [0, 1, 2, 3, 4, 5, 6, 7, 8, 9, 10, 11, 12, 13, 14, 15, 16, 17, 18, 19] [])) (drR [2, 7] [76, 86] []) mixed (by kernel_rfl) (by kernel_rfl) (fun _ _ h => h) ?_)
    | (refine at_done (by simp only [List.filterMap_cons, List.filterMap_nil, List.getElem?_toArray, List.getElem?_cons_zero, List.getElem?_cons_succ]; exact rfl) ?_) | (refine at_alt (by simp only [List.filterMap_cons, List.filterMap_nil, List.getElem?_toArray, List.getElem?_cons_zero, List.getElem?_cons_succ]; exact rfl) ?_) | refine qalt_normal ?_ | refine ats_cons ?_ ?_ | exact ats_nil
    | ((with_reducible first | refine awN (tyOf_ok _) [] ?_ | refine awO (tyOf_ok _) [] ?_ | refine awP (tyOf_ok _) [] ?_ | refine awQ ?_ | refine awR ?_ | refine awS ?_); intro r hr; simp only [go_sem, Nat.reduceBEq, Nat.reduceBneDiff, Nat.reduceLT, Nat.reduceLeDiff, Nat.reduceAdd, Nat.reduceMul, Nat.reduceSub, Nat.reduceEqDiff, reduceCtorEq, hw1, hw2, e2] at hr; subst hr; (first | refine awV ?_ ?_ | refine awW ?_ ?_ | refine endK ?_ ?_ | (refine condK (fun h => ?_) (fun h => ?_) <;> (try simp only [go_sem, reduceCtorEq] at h) <;> (try (exfalso; omega))))) | fail)) <;> (try omega)
          have hd : dup (l.take k) l[k] = false := by
            rw [Bool.eq_false_iff]
            intro hd
            obtain ⟨q, hq, he⟩ := List.any_eq_true.1 hd
            obtain ⟨i, hi, rfl⟩ := List.getElem_of_mem hq
            rw [List.length_take] at hi
            rw [List.getElem_take] at he
            exact hdj i (by omega) (by omega) (of_decide_eq_true he)
          have hA := ‹0 ≤ l[k].ty ∧ l[k].ty ≤ at_ - 1›
          have hB := ‹l[k].label = ({ data := #[] } : ByteArray) ∧ 0 ≤ l[k].tag ∧ l[k].tag ≤ 255›
          have hR : goodR kind at_ l[k] = true := by rw [hk, goodR_7]; simp only [Bool.and_eq_true, decide_eq_true_eq]; exact ⟨hA, hB⟩
          refine ⟨k + 1, by simp only [go_sem, Nat.reduceBEq, Nat.reduceBneDiff, Nat.reduceLT, Nat.reduceLeDiff, Nat.reduceAdd, Nat.reduceMul, Nat.reduceSub, Nat.reduceEqDiff, reduceCtorEq]; exact rfl, ⟨hlt, by rw [hg, hR, hd]; rfl, fun q hq => ?_⟩, by omega⟩
          rw [List.take_succ_eq_append_getElem hlt] at hq
          rcases List.mem_append.1 hq with hq | hq
          · exact hpl q hq
          · rw [List.mem_singleton] at hq
            subst hq
            exact ⟨fun _ => hB.1, fun h => by omega⟩
    · have e1 : ((k : Int) < l.length) = False := eq_false (by omega)
      (repeat' (first
    | exact trivial
    | (with_reducible first | refine awA ?_ | refine awB ?_ | refine awC ?_ | refine awD ?_ | refine awE ?_ | refine awF ?_ | refine awG ?_ | refine awH ?_ | refine awI ?_ | refine awJ ?_ | refine awK ?_ | refine awL ?_ | refine awM (by decide) ?_)
    | (refine aw_draw (id := 17) (t := (.node [0, 1, 2, 3, 4, 5, 6, 7, 8, 9, 10, 11, 12, 13, 14, 15, 16, 17, 18, 19] [])) (drR [2, 7] [76, 86] []) mixed (by kernel_rfl) (by kernel_rfl) (fun _ _ h => h) ?_)
    | (refine at_done (by simp only [List.filterMap_cons, List.filterMap_nil, List.getElem?_toArray, List.getElem?_cons_zero, List.getElem?_cons_succ]; exact rfl) ?_) | (refine at_alt (by simp only [List.filterMap_cons, List.filterMap_nil, List.getElem?_toArray, List.getElem?_cons_zero, List.getElem?_cons_succ]; exact rfl) ?_) | refine qalt_normal ?_ | refine ats_cons ?_ ?_ | exact ats_nil
    | ((with_reducible first | refine awN (tyOf_ok _) [] ?_ | refine awO (tyOf_ok _) [] ?_ | refine awP (tyOf_ok _) [] ?_ | refine awQ ?_ | refine awR ?_ | refine awS ?_); intro r hr; simp only [go_sem, Nat.reduceBEq, Nat.reduceBneDiff, Nat.reduceLT, Nat.reduceLeDiff, Nat.reduceAdd, Nat.reduceMul, Nat.reduceSub, Nat.reduceEqDiff, reduceCtorEq, hw1, e1, encPs_len] at hr; subst hr; (first | refine awV ?_ ?_ | refine awW ?_ ?_ | refine endK ?_ ?_ | (refine condK (fun h => ?_) (fun h => ?_) <;> (try simp only [go_sem, reduceCtorEq] at h) <;> (try (exfalso; omega))))) | fail)) <;> (try omega)
      show AV.v (.bool _) = AV.v (.bool _)
      rw [hP, hg, List.drop_of_length_le (by omega)]; rfl
  · have k7 : (kind = 7) = False := eq_false (by omega)
    have k8 : (kind = 8) = True := eq_true hk
    (repeat' (first
    | exact trivial
    | (with_reducible first | refine awA ?_ | refine awB ?_ | refine awC ?_ | refine awD ?_ | refine awE ?_ | refine awF ?_ | refine awG ?_ | refine awH ?_ | refine awI ?_ | refine awJ ?_ | refine awK ?_ | refine awL ?_ | refine awM (by decide) ?_)
    | (refine aw_draw (id := 17) (t := (.node [0, 1, 2, 3, 4, 5, 6, 7, 8, 9, 10, 11, 12, 13, 14, 15, 16, 17, 18, 19] [])) (drR [2, 7] [76, 86] []) mixed (by kernel_rfl) (by kernel_rfl) (fun _ _ h => h) ?_)
    | (refine at_done (by simp only [List.filterMap_cons, List.filterMap_nil, List.getElem?_toArray, List.getElem?_cons_zero, List.getElem?_cons_succ]; exact rfl) ?_) | (refine at_alt (by simp only [List.filterMap_cons, List.filterMap_nil, List.getElem?_toArray, List.getElem?_cons_zero, List.getElem?_cons_succ]; exact rfl) ?_) | refine qalt_normal ?_ | refine ats_cons ?_ ?_ | exact ats_nil
    | ((with_reducible first | refine awN (tyOf_ok _) [] ?_ | refine awO (tyOf_ok _) [] ?_ | refine awP (tyOf_ok _) [] ?_ | refine awQ ?_ | refine awR ?_ | refine awS ?_); intro r hr; simp only [go_sem, Nat.reduceBEq, Nat.reduceBneDiff, Nat.reduceLT, Nat.reduceLeDiff, Nat.reduceAdd, Nat.reduceMul, Nat.reduceSub, Nat.reduceEqDiff, reduceCtorEq, encPs_len, k7, k8] at hr; subst hr; (first | refine caA (fun _ => in_any l.length 1 64) rfl ?_ ?_ ?_ | refine awV ?_ ?_ | refine awW ?_ ?_ | refine endK ?_ ?_ | (refine condK (fun h => ?_) (fun h => ?_) <;> (try simp only [go_sem, reduceCtorEq] at h) <;> (try (exfalso; omega))))) | fail)) <;> (try omega)
    · show AV.v (.bool _) = AV.v (.bool _)
      have : (decide (1 ≤ (l.length : Int)) && decide ((l.length : Int) ≤ 64)) = false := by
        rw [Bool.eq_false_iff]; intro g; simp only [Bool.and_eq_true, decide_eq_true_eq, ne_eq] at g; omega
      rw [partsOK, this]; rfl
    have hP : partsOK kind at_ 64 l = goodFrom kind at_ [] l := by
      rw [partsOK, show (decide (1 ≤ (l.length : Int)) && decide ((l.length : Int) ≤ 64)) = true by simp only [Bool.and_eq_true, decide_eq_true_eq]; exact h]; rfl
    refine go_loop [1, 2, 6] [2] (fun k : Nat => ⟨[(1, true, vI at_), (2, true, .ptr 1 2 0 0), (6, true, vI k)], [(2, .var [vI kind, vI n, vI elem, .lst 3 (encPs l)])]⟩)
      (fun k => k ≤ l.length ∧ goodFrom kind at_ [] l = goodFrom kind at_ (l.take k) (l.drop k) ∧ ∀ q ∈ l.take k, plainP kind q) (fun k => l.length - k) 0 (by simp only [go_sem, Nat.reduceBEq, Nat.reduceBneDiff, Nat.reduceLT, Nat.reduceLeDiff, Nat.reduceAdd, Nat.reduceMul, Nat.reduceSub, Nat.reduceEqDiff, reduceCtorEq]; exact rfl) ⟨Nat.zero_le _, rfl, fun q h => by cases h⟩ ?_
    intro k ⟨hk', hg, hpl⟩
    have hw1 := wrap_i64 (n := (k : Int) + 1) (by omega)
    by_cases hlt : k < l.length
    · have e1 : ((k : Int) < l.length) = True := eq_true (by omega)
      have g1 := encPs_get hlt
      rw [goodFrom_step kind at_ hlt, good_R (by omega) hpl] at hg
      (repeat' (first
    | exact trivial
    | (with_reducible first | refine awA ?_ | refine awB ?_ | refine awC ?_ | refine awD ?_ | refine awE ?_ | refine awF ?_ | refine awG ?_ | refine awH ?_ | refine awI ?_ | refine awJ ?_ | refine awK ?_ | refine awL ?_ | refine awM (by decide) ?_)
    | (refine aw_draw (id := 17) (t := (.node [0, 1, 2, 3, 4, 5, 6, 7, 8, 9, 10, 11, 12, 13, 14, 15, 16, 17, 18, 19] [])) (drR [2, 7] [76, 86] []) mixed (by kernel_rfl) (by kernel_rfl) (fun _ _ h => h) ?_)
    | (refine at_done (by simp only [List.filterMap_cons, List.filterMap_nil, List.getElem?_toArray, List.getElem?_cons_zero, List.getElem?_cons_succ]; exact rfl) ?_) | (refine at_alt (by simp only [List.filterMap_cons, List.filterMap_nil, List.getElem?_toArray, List.getElem?_cons_zero, List.getElem?_cons_succ]; exact rfl) ?_) | refine qalt_normal ?_ | refine ats_cons ?_ ?_ | exact ats_nil
    | ((with_reducible first | refine awN (tyOf_ok _) [] ?_ | refine awO (tyOf_ok _) [] ?_ | refine awP (tyOf_ok _) [] ?_ | refine awQ ?_ | refine awR ?_ | refine awS ?_); intro r hr; simp only [go_sem, Nat.reduceBEq, Nat.reduceBneDiff, Nat.reduceLT, Nat.reduceLeDiff, Nat.reduceAdd, Nat.reduceMul, Nat.reduceSub, Nat.reduceEqDiff, reduceCtorEq, hw1, hwa, e1, g1, encPs_len, k7, k8] at hr; subst hr; (first | refine caA (fun _ => in_any _ _ _) rfl ?_ ?_ ?_ | refine caA (fun _ => name5_any _) rfl ?_ ?_ ?_ | refine awV ?_ ?_ | refine awW ?_ ?_ | refine endK ?_ ?_ | (refine condK (fun h => ?_) (fun h => ?_) <;> (try simp only [go_sem, reduceCtorEq] at h) <;> (try (exfalso; omega))))) | fail)) <;> (try omega)
      · show AV.v (.bool _) = AV.v (.bool _)
        have : goodR kind at_ l[k] = false := by
          rw [hk, goodR_8, Bool.eq_false_iff]; intro g; simp only [Bool.and_eq_true, decide_eq_true_eq, ne_eq] at g; omega
        rw [hP, hg, this]; rfl
      · show AV.v (.bool _) = AV.v (.bool _)
        have : goodR kind at_ l[k] = false := by
          rw [hk, goodR_8, Bool.eq_false_iff]; intro g; simp only [Bool.and_eq_true, decide_eq_true_eq, ne_eq] at g
          rcases h with h | h
          · rw [h] at g; exact Bool.noConfusion g.2.1
          · exact h g.2.2
        rw [hP, hg, this]; rfl
      · refine go_loop [1, 2, 6, 7, 8] [2, 7] (fun j : Nat => ⟨[(1, true, vI at_), (2, true, .ptr 1 2 0 0), (6, true, vI k), (7, true, .ptr 1 7 0 0), (8, true, vI j)],
          [(2, .var [vI kind, vI n, vI elem, .lst 3 (encPs l)]), (7, .var [vS l[k].label, vI l[k].tag, vI l[k].ty])]⟩)
          (fun j => j ≤ k ∧ ∀ i (hi : i < l.length), i < j → ¬ (l[i].label = l[k].label ∧ l[i].tag = l[k].tag)) (fun j => k - j) 0 (by simp only [go_sem, Nat.reduceBEq, Nat.reduceBneDiff, Nat.reduceLT, Nat.reduceLeDiff, Nat.reduceAdd, Nat.reduceMul, Nat.reduceSub, Nat.reduceEqDiff, reduceCtorEq]; exact rfl) ⟨Nat.zero_le _, fun i hi h => by omega⟩ ?_
        intro j ⟨hj, hdj⟩
        have hw2 := wrap_i64 (n := (j : Int) + 1) (by omega)
        by_cases hjk : j < k
        · have e2 : ((j : Int) < k) = True := eq_true (by omega)
          have g2 := encPs_get (l := l) (k := j) (by omega)
          (repeat' (first
    | exact trivial
    | (with_reducible first | refine awA ?_ | refine awB ?_ | refine awC ?_ | refine awD ?_ | refine awE ?_ | refine awF ?_ | refine awG ?_ | refine awH ?_ | refine awI ?_ | refine awJ ?_ | refine awK ?_ | refine awL ?_ | refine awM (by decide) ?_)
    | (refine aw_draw (id := 17) (t := (.node [0, 1, 2, 3, 4, 5, 6, 7, 8, 9, 10, 11, 12, 13, 14, 15, 16, 17, 18, 19] [])) (drR [2, 7] [76, 86] []) mixed (by kernel_rfl) (by kernel_rfl) (fun _ _ h => h) ?_)
    | (refine at_done (by simp only [List.filterMap_cons, List.filterMap_nil, List.getElem?_toArray, List.getElem?_cons_zero, List.getElem?_cons_succ]; exact rfl) ?_) | (refine at_alt (by simp only [List.filterMap_cons, List.filterMap_nil, List.getElem?_toArray, List.getElem?_cons_zero, List.getElem?_cons_succ]; exact rfl) ?_) | refine qalt_normal ?_ | refine ats_cons ?_ ?_ | exact ats_nil
    | ((with_reducible first | refine awN (tyOf_ok _) [] ?_ | refine awO (tyOf_ok _) [] ?_ | refine awP (tyOf_ok _) [] ?_ | refine awQ ?_ | refine awR ?_ | refine awS ?_); intro r hr; simp only [go_sem, Nat.reduceBEq, Nat.reduceBneDiff, Nat.reduceLT, Nat.reduceLeDiff, Nat.reduceAdd, Nat.reduceMul, Nat.reduceSub, Nat.reduceEqDiff, reduceCtorEq, hw2, e2, g2, encPs_len] at hr; subst hr; (first | refine awV ?_ ?_ | refine awW ?_ ?_ | refine endK ?_ ?_ | (refine condK (fun h => ?_) (fun h => ?_) <;> (try simp only [go_sem, reduceCtorEq] at h) <;> (try (exfalso; omega))))) | fail)) <;> (try omega)
          · exact ⟨by omega, fun g => ⟨g, by omega⟩⟩
          · show AV.v (.bool _) = AV.v (.bool _)
            have : dup (l.take k) l[k] = true := List.any_eq_true.2 ⟨l[j], List.mem_of_getElem? (by rw [List.getElem?_take_of_lt hjk, List.getElem?_eq_getElem (by omega)]), decide_eq_true h⟩
            rw [hP, hg, this]; simp
          · refine ⟨j + 1, by simp only [go_sem, Nat.reduceBEq, Nat.reduceBneDiff, Nat.reduceLT, Nat.reduceLeDiff, Nat.reduceAdd, Nat.reduceMul, Nat.reduceSub, Nat.reduceEqDiff, reduceCtorEq]; exact rfl, ⟨by omega, fun i hi hij => ?_⟩, by omega⟩
            rcases Nat.lt_or_ge i j with h' | h'
            · exact hdj i hi h'
            · have : i = j := by omega
              subst this
              exact fun g => by
                rcases h with h | h
                · exact h g.1
                · exact h g.2
        · have e2 : ((j : Int) < k) = False := eq_false (by omega)
          (repeat' (first
    | exact trivial
    | (with_reducible first | refine awA ?_ | refine awB ?_ | refine awC ?_ | refine awD ?_ | refine awE ?_ | refine awF ?_ | refine awG ?_ | refine awH ?_ | refine awI ?_ | refine awJ ?_ | refine awK ?_ | refine awL ?_ | refine awM (by decide) ?_)
    | (refine aw_draw (id := 17) (t := (.node [0, 1, 2, 3, 4, 5, 6, 7, 8, 9, 10, 11, 12, 13, 14, 15, 16, 17, 18, 19] [])) (drR [2, 7] [76, 86] []) mixed (by kernel_rfl) (by kernel_rfl) (fun _ _ h => h) ?_)
    | (refine at_done (by simp only [List.filterMap_cons, List.filterMap_nil, List.getElem?_toArray, List.getElem?_cons_zero, List.getElem?_cons_succ]; exact rfl) ?_) | (refine at_alt (by simp only [List.filterMap_cons, List.filterMap_nil, List.getElem?_toArray, List.getElem?_cons_zero, List.getElem?_cons_succ]; exact rfl) ?_) | refine qalt_normal ?_ | refine ats_cons ?_ ?_ | exact ats_nil
    | ((with_reducible first | refine awN (tyOf_ok _) [] ?_ | refine awO (tyOf_ok _) [] ?_ | refine awP (tyOf_ok _) [] ?_ | refine awQ ?_ | refine awR ?_ | refine awS ?_); intro r hr; simp only [go_sem, Nat.reduceBEq, Nat.reduceBneDiff, Nat.reduceLT, Nat.reduceLeDiff, Nat.reduceAdd, Nat.reduceMul, Nat.reduceSub, Nat.reduceEqDiff, reduceCtorEq, hw1, hw2, e2] at hr; subst hr; (first | refine awV ?_ ?_ | refine awW ?_ ?_ | refine endK ?_ ?_ | (refine condK (fun h => ?_) (fun h => ?_) <;> (try simp only [go_sem, reduceCtorEq] at h) <;> (try (exfalso; omega))))) | fail)) <;> (try omega)
          have hd : dup (l.take k) l[k] = false := by
            rw [Bool.eq_false_iff]
            intro hd
            obtain ⟨q, hq, he⟩ := List.any_eq_true.1 hd
            obtain ⟨i, hi, rfl⟩ := List.getElem_of_mem hq
            rw [List.length_take] at hi
            rw [List.getElem_take] at he
            exact hdj i (by omega) (by omega) (of_decide_eq_true he)
          have hA := ‹0 ≤ l[k].ty ∧ l[k].ty ≤ at_ - 1›
          have hB := ‹isName l[k].label = true ∧ l[k].tag = 0›
          have hR : goodR kind at_ l[k] = true := by rw [hk, goodR_8]; simp only [Bool.and_eq_true, decide_eq_true_eq]; exact ⟨hA, hB⟩
          refine ⟨k + 1, by simp only [go_sem, Nat.reduceBEq, Nat.reduceBneDiff, Nat.reduceLT, Nat.reduceLeDiff, Nat.reduceAdd, Nat.reduceMul, Nat.reduceSub, Nat.reduceEqDiff, reduceCtorEq]; exact rfl, ⟨hlt, by rw [hg, hR, hd]; rfl, fun q hq => ?_⟩, by omega⟩
          rw [List.take_succ_eq_append_getElem hlt] at hq
          rcases List.mem_append.1 hq with hq | hq
          · exact hpl q hq
          · rw [List.mem_singleton] at hq
            subst hq
            exact ⟨fun h => by omega, fun _ => hB.2⟩
    · have e1 : ((k : Int) < l.length) = False := eq_false (by omega)
      (repeat' (first
    | exact trivial
    | (with_reducible first | refine awA ?_ | refine awB ?_ | refine awC ?_ | refine awD ?_ | refine awE ?_ | refine awF ?_ | refine awG ?_ | refine awH ?_ | refine awI ?_ | refine awJ ?_ | refine awK ?_ | refine awL ?_ | refine awM (by decide) ?_)
    | (refine aw_draw (id := 17) (t := (.node [0, 1, 2, 3, 4, 5, 6, 7, 8, 9, 10, 11, 12, 13, 14, 15, 16, 17, 18, 19] [])) (drR [2, 7] [76, 86] []) mixed (by kernel_rfl) (by kernel_rfl) (fun _ _ h => h) ?_)
    | (refine at_done (by simp only [List.filterMap_cons, List.filterMap_nil, List.getElem?_toArray, List.getElem?_cons_zero, List.getElem?_cons_succ]; exact rfl) ?_) | (refine at_alt (by simp only [List.filterMap_cons, List.filterMap_nil, List.getElem?_toArray, List.getElem?_cons_zero, List.getElem?_cons_succ]; exact rfl) ?_) | refine qalt_normal ?_ | refine ats_cons ?_ ?_ | exact ats_nil
    | ((with_reducible first | refine awN (tyOf_ok _) [] ?_ | refine awO (tyOf_ok _) [] ?_ | refine awP (tyOf_ok _) [] ?_ | refine awQ ?_ | refine awR ?_ | refine awS ?_); intro r hr; simp only [go_sem, Nat.reduceBEq, Nat.reduceBneDiff, Nat.reduceLT, Nat.reduceLeDiff, Nat.reduceAdd, Nat.reduceMul, Nat.reduceSub, Nat.reduceEqDiff, reduceCtorEq, hw1, e1, encPs_len] at hr; subst hr; (first | refine awV ?_ ?_ | refine awW ?_ ?_ | refine endK ?_ ?_ | (refine condK (fun h => ?_) (fun h => ?_) <;> (try simp only [go_sem, reduceCtorEq] at h) <;> (try (exfalso; omega))))) | fail)) <;> (try omega)
      show AV.v (.bool _) = AV.v (.bool _)
      rw [hP, hg, List.drop_of_length_le (by omega)]; rfl
end Go.Proofs.Ytljfgohecmhchaa
end
section
namespace Go.Proofs.Ytljfgohecmhchaa
open Go.RowKit
set_option maxRecDepth 100000
set_option maxHeartbeats 4000000
theorem rright_any (t : TypeM) (at_ : Int) (hat : 0 ≤ at_ ∧ at_ ≤ 1000000000) (hl : t.parts.length ≤ 1000000000) : PCall Try.prog 50 [.agg [vI t.kind, vI t.n, vI t.elem, .lst 3 (encPs t.parts)], vI at_] (fun r => r = vB (rightOK t at_)) := by
  have hwa := wrap_i64 (n := at_ - 1) (by omega)
  have hlt : decide (t.elem ≤ at_ - 1) = decide (t.elem < at_) := decide_eq_decide.2 ⟨fun h => by omega, fun h => by omega⟩
  refine go_fn (tyOf_ok _) Try.func50 rfl rfl (by rw [Try.results50]) Try.ntmps50 rfl fun E => ?_
  by_cases hk : t.kind = 7 ∨ t.kind = 8
  · rcases hk with hk | hk
    · have k1 : (t.kind = 1) = False := eq_false (by omega)
      have k2 : (t.kind = 2) = False := eq_false (by omega)
      have k3 : (t.kind = 3) = False := eq_false (by omega)
      have k4 : (t.kind = 4) = False := eq_false (by omega)
      have k5 : (t.kind = 5) = False := eq_false (by omega)
      have k6 : (t.kind = 6) = False := eq_false (by omega)
      have k7 : (t.kind = 7) = True := eq_true (by omega)
      (repeat' (first
    | exact trivial
    | (with_reducible first | refine awA ?_ | refine awB ?_ | refine awC ?_ | refine awD ?_ | refine awE ?_ | refine awF ?_ | refine awG ?_ | refine awH ?_ | refine awI ?_ | refine awJ ?_ | refine awK ?_ | refine awL ?_ | refine awM (by decide) ?_)
    | ((with_reducible first | refine awN (tyOf_ok _) [] ?_ | refine awO (tyOf_ok _) [] ?_ | refine awP (tyOf_ok _) [] ?_ | refine awQ ?_ | refine awR ?_ | refine awS ?_); intro r hr; simp only [go_sem, Nat.reduceBEq, Nat.reduceBneDiff, Nat.reduceLT, Nat.reduceLeDiff, Nat.reduceAdd, Nat.reduceMul, Nat.reduceSub, Nat.reduceEqDiff, reduceCtorEq, encPs_len, hwa, k1, k2, k3, k4, k5, k6, k7] at hr; subst hr; (first | refine caA (fun _ => rparts_any t.kind t.n t.elem at_ hat (by omega) t.parts hl) rfl ?_ ?_ ?_ | refine awV ?_ ?_ | refine awW ?_ ?_ | refine endK ?_ ?_ | (refine condK (fun h => ?_) (fun h => ?_) <;> (try simp only [go_sem, reduceCtorEq] at h) <;> (try (exfalso; omega))))) | fail)) <;> (try omega)
      all_goals (show AV.v (.bool _) = AV.v (.bool _); simp [rightOK, numberOK, *, and_assoc, Bool.and_assoc])
    · have k1 : (t.kind = 1) = False := eq_false (by omega)
      have k2 : (t.kind = 2) = False := eq_false (by omega)
      have k3 : (t.kind = 3) = False := eq_false (by omega)
      have k4 : (t.kind = 4) = False := eq_false (by omega)
      have k5 : (t.kind = 5) = False := eq_false (by omega)
      have k6 : (t.kind = 6) = False := eq_false (by omega)
      have k7 : (t.kind = 7) = False := eq_false (by omega)
      have k8 : (t.kind = 8) = True := eq_true (by omega)
      (repeat' (first
    | exact trivial
    | (with_reducible first | refine awA ?_ | refine awB ?_ | refine awC ?_ | refine awD ?_ | refine awE ?_ | refine awF ?_ | refine awG ?_ | refine awH ?_ | refine awI ?_ | refine awJ ?_ | refine awK ?_ | refine awL ?_ | refine awM (by decide) ?_)
    | ((with_reducible first | refine awN (tyOf_ok _) [] ?_ | refine awO (tyOf_ok _) [] ?_ | refine awP (tyOf_ok _) [] ?_ | refine awQ ?_ | refine awR ?_ | refine awS ?_); intro r hr; simp only [go_sem, Nat.reduceBEq, Nat.reduceBneDiff, Nat.reduceLT, Nat.reduceLeDiff, Nat.reduceAdd, Nat.reduceMul, Nat.reduceSub, Nat.reduceEqDiff, reduceCtorEq, encPs_len, hwa, k1, k2, k3, k4, k5, k6, k7, k8] at hr; subst hr; (first | refine caA (fun _ => rparts_any t.kind t.n t.elem at_ hat (by omega) t.parts hl) rfl ?_ ?_ ?_ | refine awV ?_ ?_ | refine awW ?_ ?_ | refine endK ?_ ?_ | (refine condK (fun h => ?_) (fun h => ?_) <;> (try simp only [go_sem, reduceCtorEq] at h) <;> (try (exfalso; omega))))) | fail)) <;> (try omega)
      all_goals (show AV.v (.bool _) = AV.v (.bool _); simp [rightOK, numberOK, *, and_assoc, Bool.and_assoc])
  · have k7 : (t.kind = 7) = False := eq_false (by omega)
    have k8 : (t.kind = 8) = False := eq_false (by omega)
    (repeat' (first
    | exact trivial
    | (with_reducible first | refine awA ?_ | refine awB ?_ | refine awC ?_ | refine awD ?_ | refine awE ?_ | refine awF ?_ | refine awG ?_ | refine awH ?_ | refine awI ?_ | refine awJ ?_ | refine awK ?_ | refine awL ?_ | refine awM (by decide) ?_)
    | ((with_reducible first | refine awN (tyOf_ok _) [] ?_ | refine awO (tyOf_ok _) [] ?_ | refine awP (tyOf_ok _) [] ?_ | refine awQ ?_ | refine awR ?_ | refine awS ?_); intro r hr; simp only [go_sem, Nat.reduceBEq, Nat.reduceBneDiff, Nat.reduceLT, Nat.reduceLeDiff, Nat.reduceAdd, Nat.reduceMul, Nat.reduceSub, Nat.reduceEqDiff, reduceCtorEq, encPs_len, hwa, k7, k8] at hr; subst hr; (first | refine caA (fun _ => in_any _ _ _) rfl ?_ ?_ ?_ | refine awV ?_ ?_ | refine awW ?_ ?_ | refine endK ?_ ?_ | (refine condK (fun h => ?_) (fun h => ?_) <;> (try simp only [go_sem, reduceCtorEq] at h) <;> (try (exfalso; omega))))) | fail)) <;> (try omega)
    all_goals (show AV.v (.bool _) = AV.v (.bool _); simp [rightOK, numberOK, *, and_assoc, Bool.and_assoc])
end Go.Proofs.Ytljfgohecmhchaa
end
section
namespace Go.Proofs.Ytljfgohecmhchaa
open Go.RowKit
set_option maxRecDepth 100000
set_option maxHeartbeats 4000000
theorem depTo_bd {D : List Int} {B : Int} (hD : ∀ i, 0 ≤ D.getD i 0 ∧ D.getD i 0 ≤ B) : ∀ (l : List PartM) (c : Int), 0 ≤ c → c ≤ B → 0 ≤ depTo D l c ∧ depTo D l c ≤ B
  | [], c, h1, h2 => ⟨h1, h2⟩
  | p :: l, c, h1, h2 => by
    have := hD p.ty.toNat
    exact depTo_bd hD l (max c (D.getD p.ty.toNat 0)) (by omega) (by omega)
theorem rdepths_any (l : List TypeM) (rs : List RootM) (hl : l.length ≤ 1000000000) (hp : ∀ t ∈ l, t.parts.length ≤ 1000000000) (hr : ∀ (k : Nat) (h : k < l.length), tyOK l[k] k) : PCall Try.prog 51 [vSch l rs] (fun r => r = .lst 1 (v8 (deps l))) := by
  refine go_fnU (tyOf_ok _) Try.func51 rfl rfl (by rw [Try.results51]) Try.ntmps51 rfl fun E => ?_
  (repeat' (first
    | exact trivial
    | (with_reducible first | refine awA ?_ | refine awB ?_ | refine awC ?_ | refine awD ?_ | refine awE ?_ | refine awF ?_ | refine awG ?_ | refine awH ?_ | refine awI ?_ | refine awJ ?_ | refine awK ?_ | refine awL ?_ | refine awM (by decide) ?_)
    | ((with_reducible first | refine awN (tyOf_ok _) [] ?_ | refine awO (tyOf_ok _) [] ?_ | refine awP (tyOf_ok _) [] ?_ | refine awQ ?_ | refine awR ?_ | refine awS ?_); intro r hr; simp only [go_sem, Nat.reduceBEq, Nat.reduceBneDiff, Nat.reduceLT, Nat.reduceLeDiff, Nat.reduceAdd, Nat.reduceMul, Nat.reduceSub, Nat.reduceEqDiff, reduceCtorEq, encTs_len, vSch] at hr; subst hr; (first | refine awV ?_ ?_ | refine awW ?_ ?_ | refine endK ?_ ?_ | (refine condK (fun h => ?_) (fun h => ?_) <;> (try simp only [go_sem, reduceCtorEq] at h) <;> (try (exfalso; omega))))) | fail)) <;> (try omega)
  refine aw_nilrow 3 3 1 3 (.inl (by decide)) (by simp only [go_sem, Nat.reduceBEq, Nat.reduceBneDiff, Nat.reduceLT, Nat.reduceLeDiff, Nat.reduceAdd, Nat.reduceMul, Nat.reduceSub, Nat.reduceEqDiff, reduceCtorEq]) ?_
  refine go_loop [1, 3, 4] [1, 3] (fun k : Nat => ⟨[(1, true, .ptr 1 1 0 0), (3, true, .ref 3 1 3 0 (v8 (deps (l.take k))).length), (4, true, vI k)],
    [(1, .var [.lst 4 (encTs l), .lst 2 (encRs rs)]), (3, .row 3 1 (v8 (deps (l.take k))))]⟩)
    (fun k => k ≤ l.length ∧ ∀ i, 0 ≤ (deps (l.take k)).getD i 0 ∧ (deps (l.take k)).getD i 0 ≤ k) (fun k => l.length - k) 0 (by simp only [AState.nilrow, go_sem, Nat.reduceBEq, Nat.reduceBneDiff, Nat.reduceLT, Nat.reduceLeDiff, Nat.reduceAdd, Nat.reduceMul, Nat.reduceSub, Nat.reduceEqDiff, reduceCtorEq]; exact rfl) ⟨Nat.zero_le _, fun i => by simp [deps]⟩ ?_
  intro k ⟨hk, hd⟩
  have hw1 := wrap_i64 (n := (k : Int) + 1) (by omega)
  by_cases hlt : k < l.length
  · have e1 : ((k : Int) < l.length) = True := eq_true (by omega)
    have g1 := encTs_get hlt
    have hDl := deps_len l k hk
    obtain ⟨hel0, hpt⟩ := hr k hlt
    have hpl := hp _ (List.getElem_mem hlt)
    have hnext := deps_succ hlt
    generalize hD : deps (l.take k) = D at hd hDl hnext
    by_cases hkind : l[k].kind = 4 ∨ l[k].kind = 5 ∨ l[k].kind = 6
    · have hel := hel0 hkind
      have r4 : (v8 D)[l[k].elem.toNat]? = some [vI (D.getD l[k].elem.toNat 0)] := by rw [v8_get (by omega), List.getD_eq_getElem?_getD, List.getElem?_eq_getElem (by omega)]; rfl
      have hc0 : dep0 D l[k] = D.getD l[k].elem.toNat 0 := by rw [dep0, if_pos hkind]
      have hcb := hd l[k].elem.toNat
      (repeat' (first
    | exact trivial
    | (with_reducible first | refine awA ?_ | refine awB ?_ | refine awC ?_ | refine awD ?_ | refine awE ?_ | refine awF ?_ | refine awG ?_ | refine awH ?_ | refine awI ?_ | refine awJ ?_ | refine awK ?_ | refine awL ?_ | refine awM (by decide) ?_)
    | ((with_reducible first | refine awN (tyOf_ok _) [] ?_ | refine awO (tyOf_ok _) [] ?_ | refine awP (tyOf_ok _) [] ?_ | refine awQ ?_ | refine awR ?_ | refine awS ?_); intro r hr; simp only [go_sem, Nat.reduceBEq, Nat.reduceBneDiff, Nat.reduceLT, Nat.reduceLeDiff, Nat.reduceAdd, Nat.reduceMul, Nat.reduceSub, Nat.reduceEqDiff, reduceCtorEq, hw1, e1, g1, encTs_len, encPs_len, r4] at hr; subst hr; (first | refine awV ?_ ?_ | refine awW ?_ ?_ | refine endK ?_ ?_ | (refine condK (fun h => ?_) (fun h => ?_) <;> (try simp only [go_sem, reduceCtorEq] at h) <;> (try (exfalso; omega))))) | fail)) <;> (try omega)
      · rw [v8_len]; omega
      refine go_loop [1, 3, 4, 5, 6, 7] [1, 3, 5] (fun j : Nat => ⟨[(1, true, .ptr 1 1 0 0), (3, true, .ref 3 1 3 0 (v8 D).length), (4, true, vI k), (5, true, .ptr 1 5 0 0), (6, true, vI (depTo D (l[k].parts.take j) (dep0 D l[k]))), (7, true, vI j)],
        [(1, .var [.lst 4 (encTs l), .lst 2 (encRs rs)]), (3, .row 3 1 (v8 D)), (5, .var [vI l[k].kind, vI l[k].n, vI l[k].elem, .lst 3 (encPs l[k].parts)])]⟩)
        (fun j => j ≤ l[k].parts.length) (fun j => l[k].parts.length - j) 0 (by simp only [hc0, go_sem, Nat.reduceBEq, Nat.reduceBneDiff, Nat.reduceLT, Nat.reduceLeDiff, Nat.reduceAdd, Nat.reduceMul, Nat.reduceSub, Nat.reduceEqDiff, reduceCtorEq]; exact rfl) (Nat.zero_le _) ?_
      intro j hj
      have hw2 := wrap_i64 (n := (j : Int) + 1) (by omega)
      by_cases hjl : j < l[k].parts.length
      · have e2 : ((j : Int) < l[k].parts.length) = True := eq_true (by omega)
        have g2 := encPs_get hjl
        have hty := hpt _ (List.getElem_mem hjl)
        have r5 : (v8 D)[l[k].parts[j].ty.toNat]? = some [vI (D.getD l[k].parts[j].ty.toNat 0)] := by rw [v8_get (by omega), List.getD_eq_getElem?_getD, List.getElem?_eq_getElem (by omega)]; rfl
        have hds := (depTo_succ D l[k].parts (dep0 D l[k]) hjl).symm
        (repeat' (first
    | exact trivial
    | (with_reducible first | refine awA ?_ | refine awB ?_ | refine awC ?_ | refine awD ?_ | refine awE ?_ | refine awF ?_ | refine awG ?_ | refine awH ?_ | refine awI ?_ | refine awJ ?_ | refine awK ?_ | refine awL ?_ | refine awM (by decide) ?_)
    | ((with_reducible first | refine awN (tyOf_ok _) [] ?_ | refine awO (tyOf_ok _) [] ?_ | refine awP (tyOf_ok _) [] ?_ | refine awQ ?_ | refine awR ?_ | refine awS ?_); intro r hr; simp only [go_sem, Nat.reduceBEq, Nat.reduceBneDiff, Nat.reduceLT, Nat.reduceLeDiff, Nat.reduceAdd, Nat.reduceMul, Nat.reduceSub, Nat.reduceEqDiff, reduceCtorEq, hw2, e2, g2, encPs_len, r5, hds] at hr; subst hr; (first | refine awV ?_ ?_ | refine awW ?_ ?_ | refine endK ?_ ?_ | (refine condK (fun h => ?_) (fun h => ?_) <;> (try simp only [go_sem, reduceCtorEq] at h) <;> (try (exfalso; omega))))) | fail)) <;> (try omega)
        · rw [v8_len]; omega
        · exact ⟨j + 1, by simp only [go_sem, Nat.reduceBEq, Nat.reduceBneDiff, Nat.reduceLT, Nat.reduceLeDiff, Nat.reduceAdd, Nat.reduceMul, Nat.reduceSub, Nat.reduceEqDiff, reduceCtorEq]; exact rfl, hjl, by omega⟩
      · have e2 : ((j : Int) < l[k].parts.length) = False := eq_false (by omega)
        have hje : l[k].parts.take j = l[k].parts := take_len (by omega)
        have hdb := depTo_bd hd l[k].parts (dep0 D l[k]) (by omega) (by omega)
        have hw3 := wrap_i64 (n := depTo D l[k].parts (dep0 D l[k]) + 1) (by omega)
        have hdl : (v8 D ++ [[.v (.int .i64 (depTo D l[k].parts (dep0 D l[k]) + 1))]]) = v8 (deps (l.take (k + 1))) := by rw [hnext]; simp [v8, dep]
        have hlen : (v8 (deps (l.take (k + 1)))).length = k + 1 := by rw [hnext]; simp [v8, hDl]
        (repeat' (first
    | exact trivial
    | (with_reducible first | refine awA ?_ | refine awB ?_ | refine awC ?_ | refine awD ?_ | refine awE ?_ | refine awF ?_ | refine awG ?_ | refine awH ?_ | refine awI ?_ | refine awJ ?_ | refine awK ?_ | refine awL ?_ | refine awM (by decide) ?_)
    | ((with_reducible first | refine awN (tyOf_ok _) [] ?_ | refine awO (tyOf_ok _) [] ?_ | refine awP (tyOf_ok _) [] ?_ | refine awQ ?_ | refine awR ?_ | refine awS ?_); intro r hr; simp only [go_sem, Nat.reduceBEq, Nat.reduceBneDiff, Nat.reduceLT, Nat.reduceLeDiff, Nat.reduceAdd, Nat.reduceMul, Nat.reduceSub, Nat.reduceEqDiff, reduceCtorEq, hw1, hw2, hw3, e2, encPs_len, hje, take_len (Nat.le_refl _), hdl] at hr; subst hr; (first | refine awV ?_ ?_ | refine awW ?_ ?_ | refine endK ?_ ?_ | (refine condK (fun h => ?_) (fun h => ?_) <;> (try simp only [go_sem, reduceCtorEq] at h) <;> (try (exfalso; omega))))) | fail)) <;> (try omega)
        refine ⟨k + 1, by simp only [go_sem, Nat.reduceBEq, Nat.reduceBneDiff, Nat.reduceLT, Nat.reduceLeDiff, Nat.reduceAdd, Nat.reduceMul, Nat.reduceSub, Nat.reduceEqDiff, reduceCtorEq]; exact rfl, ⟨hlt, fun i => ?_⟩, by omega⟩
        rw [hnext]
        exact getD_app D (dep D l[k]) (fun z => 0 ≤ z ∧ z ≤ ((k + 1 : Nat) : Int)) (fun i => by have := hd i; omega) (by show 0 ≤ depTo _ _ _ + 1 ∧ depTo _ _ _ + 1 ≤ _; omega) (by omega) i
    · have k4 : ¬ l[k].kind = 4 := fun h => hkind (.inl h)
      have k5 : ¬ l[k].kind = 5 := fun h => hkind (.inr (.inl h))
      have k6 : ¬ l[k].kind = 6 := fun h => hkind (.inr (.inr h))
      have hc0 : dep0 D l[k] = 0 := by rw [dep0, if_neg hkind]
      have hcb : (0 : Int) ≤ 0 ∧ (0 : Int) ≤ k := by omega
      (repeat' (first
    | exact trivial
    | (with_reducible first | refine awA ?_ | refine awB ?_ | refine awC ?_ | refine awD ?_ | refine awE ?_ | refine awF ?_ | refine awG ?_ | refine awH ?_ | refine awI ?_ | refine awJ ?_ | refine awK ?_ | refine awL ?_ | refine awM (by decide) ?_)
    | ((with_reducible first | refine awN (tyOf_ok _) [] ?_ | refine awO (tyOf_ok _) [] ?_ | refine awP (tyOf_ok _) [] ?_ | refine awQ ?_ | refine awR ?_ | refine awS ?_); intro r hr; simp only [go_sem, Nat.reduceBEq, Nat.reduceBneDiff, Nat.reduceLT, Nat.reduceLeDiff, Nat.reduceAdd, Nat.reduceMul, Nat.reduceSub, Nat.reduceEqDiff, reduceCtorEq, hw1, e1, g1, encTs_len, encPs_len, k4, k5, k6] at hr; subst hr; (first | refine awV ?_ ?_ | refine awW ?_ ?_ | refine endK ?_ ?_ | (refine condK (fun h => ?_) (fun h => ?_) <;> (try simp only [go_sem, reduceCtorEq] at h) <;> (try (exfalso; omega))))) | fail)) <;> (try omega)
      refine go_loop [1, 3, 4, 5, 6, 7] [1, 3, 5] (fun j : Nat => ⟨[(1, true, .ptr 1 1 0 0), (3, true, .ref 3 1 3 0 (v8 D).length), (4, true, vI k), (5, true, .ptr 1 5 0 0), (6, true, vI (depTo D (l[k].parts.take j) (dep0 D l[k]))), (7, true, vI j)],
        [(1, .var [.lst 4 (encTs l), .lst 2 (encRs rs)]), (3, .row 3 1 (v8 D)), (5, .var [vI l[k].kind, vI l[k].n, vI l[k].elem, .lst 3 (encPs l[k].parts)])]⟩)
        (fun j => j ≤ l[k].parts.length) (fun j => l[k].parts.length - j) 0 (by simp only [hc0, go_sem, Nat.reduceBEq, Nat.reduceBneDiff, Nat.reduceLT, Nat.reduceLeDiff, Nat.reduceAdd, Nat.reduceMul, Nat.reduceSub, Nat.reduceEqDiff, reduceCtorEq]; exact rfl) (Nat.zero_le _) ?_
      intro j hj
      have hw2 := wrap_i64 (n := (j : Int) + 1) (by omega)
      by_cases hjl : j < l[k].parts.length
      · have e2 : ((j : Int) < l[k].parts.length) = True := eq_true (by omega)
        have g2 := encPs_get hjl
        have hty := hpt _ (List.getElem_mem hjl)
        have r5 : (v8 D)[l[k].parts[j].ty.toNat]? = some [vI (D.getD l[k].parts[j].ty.toNat 0)] := by rw [v8_get (by omega), List.getD_eq_getElem?_getD, List.getElem?_eq_getElem (by omega)]; rfl
        have hds := (depTo_succ D l[k].parts (dep0 D l[k]) hjl).symm
        (repeat' (first
    | exact trivial
    | (with_reducible first | refine awA ?_ | refine awB ?_ | refine awC ?_ | refine awD ?_ | refine awE ?_ | refine awF ?_ | refine awG ?_ | refine awH ?_ | refine awI ?_ | refine awJ ?_ | refine awK ?_ | refine awL ?_ | refine awM (by decide) ?_)
    | ((with_reducible first | refine awN (tyOf_ok _) [] ?_ | refine awO (tyOf_ok _) [] ?_ | refine awP (tyOf_ok _) [] ?_ | refine awQ ?_ | refine awR ?_ | refine awS ?_); intro r hr; simp only [go_sem, Nat.reduceBEq, Nat.reduceBneDiff, Nat.reduceLT, Nat.reduceLeDiff, Nat.reduceAdd, Nat.reduceMul, Nat.reduceSub, Nat.reduceEqDiff, reduceCtorEq, hw2, e2, g2, encPs_len, r5, hds] at hr; subst hr; (first | refine awV ?_ ?_ | refine awW ?_ ?_ | refine endK ?_ ?_ | (refine condK (fun h => ?_) (fun h => ?_) <;> (try simp only [go_sem, reduceCtorEq] at h) <;> (try (exfalso; omega))))) | fail)) <;> (try omega)
        · rw [v8_len]; omega
        · exact ⟨j + 1, by simp only [go_sem, Nat.reduceBEq, Nat.reduceBneDiff, Nat.reduceLT, Nat.reduceLeDiff, Nat.reduceAdd, Nat.reduceMul, Nat.reduceSub, Nat.reduceEqDiff, reduceCtorEq]; exact rfl, hjl, by omega⟩
      · have e2 : ((j : Int) < l[k].parts.length) = False := eq_false (by omega)
        have hje : l[k].parts.take j = l[k].parts := take_len (by omega)
        have hdb := depTo_bd hd l[k].parts (dep0 D l[k]) (by omega) (by omega)
        have hw3 := wrap_i64 (n := depTo D l[k].parts (dep0 D l[k]) + 1) (by omega)
        have hdl : (v8 D ++ [[.v (.int .i64 (depTo D l[k].parts (dep0 D l[k]) + 1))]]) = v8 (deps (l.take (k + 1))) := by rw [hnext]; simp [v8, dep]
        have hlen : (v8 (deps (l.take (k + 1)))).length = k + 1 := by rw [hnext]; simp [v8, hDl]
        (repeat' (first
    | exact trivial
    | (with_reducible first | refine awA ?_ | refine awB ?_ | refine awC ?_ | refine awD ?_ | refine awE ?_ | refine awF ?_ | refine awG ?_ | refine awH ?_ | refine awI ?_ | refine awJ ?_ | refine awK ?_ | refine awL ?_ | refine awM (by decide) ?_)
    | ((with_reducible first | refine awN (tyOf_ok _) [] ?_ | refine awO (tyOf_ok _) [] ?_ | refine awP (tyOf_ok _) [] ?_ | refine awQ ?_ | refine awR ?_ | refine awS ?_); intro r hr; simp only [go_sem, Nat.reduceBEq, Nat.reduceBneDiff, Nat.reduceLT, Nat.reduceLeDiff, Nat.reduceAdd, Nat.reduceMul, Nat.reduceSub, Nat.reduceEqDiff, reduceCtorEq, hw1, hw2, hw3, e2, encPs_len, hje, take_len (Nat.le_refl _), hdl] at hr; subst hr; (first | refine awV ?_ ?_ | refine awW ?_ ?_ | refine endK ?_ ?_ | (refine condK (fun h => ?_) (fun h => ?_) <;> (try simp only [go_sem, reduceCtorEq] at h) <;> (try (exfalso; omega))))) | fail)) <;> (try omega)
        refine ⟨k + 1, by simp only [go_sem, Nat.reduceBEq, Nat.reduceBneDiff, Nat.reduceLT, Nat.reduceLeDiff, Nat.reduceAdd, Nat.reduceMul, Nat.reduceSub, Nat.reduceEqDiff, reduceCtorEq]; exact rfl, ⟨hlt, fun i => ?_⟩, by omega⟩
        rw [hnext]
        exact getD_app D (dep D l[k]) (fun z => 0 ≤ z ∧ z ≤ ((k + 1 : Nat) : Int)) (fun i => by have := hd i; omega) (by show 0 ≤ depTo _ _ _ + 1 ∧ depTo _ _ _ + 1 ≤ _; omega) (by omega) i
  · have e1 : ((k : Int) < l.length) = False := eq_false (by omega)
    (repeat' (first
    | exact trivial
    | (with_reducible first | refine awA ?_ | refine awB ?_ | refine awC ?_ | refine awD ?_ | refine awE ?_ | refine awF ?_ | refine awG ?_ | refine awH ?_ | refine awI ?_ | refine awJ ?_ | refine awK ?_ | refine awL ?_ | refine awM (by decide) ?_)
    | ((with_reducible first | refine awN (tyOf_ok _) [] ?_ | refine awO (tyOf_ok _) [] ?_ | refine awP (tyOf_ok _) [] ?_ | refine awQ ?_ | refine awR ?_ | refine awS ?_); intro r hr; simp only [go_sem, Nat.reduceBEq, Nat.reduceBneDiff, Nat.reduceLT, Nat.reduceLeDiff, Nat.reduceAdd, Nat.reduceMul, Nat.reduceSub, Nat.reduceEqDiff, reduceCtorEq, hw1, e1, encTs_len] at hr; subst hr; (first | refine awV ?_ ?_ | refine awW ?_ ?_ | refine endK ?_ ?_ | (refine condK (fun h => ?_) (fun h => ?_) <;> (try simp only [go_sem, reduceCtorEq] at h) <;> (try (exfalso; omega))))) | fail)) <;> (try omega)
    have hke : l.take k = l := take_len (by omega)
    rw [hke, take_len (Nat.le_refl _)]
    exact AV.up_rfl _
end Go.Proofs.Ytljfgohecmhchaa
end
section
namespace Go.Proofs.Ytljfgohecmhchaa
open Go.RowKit
set_option maxRecDepth 100000
set_option maxHeartbeats 4000000
theorem foldl_deps (l : List TypeM) : ∀ ds : List Int, ∃ t, l.foldl (fun ds t => ds ++ [dep ds t]) ds = ds ++ t := by
  induction l with
  | nil => intro ds; exact ⟨[], by simp⟩
  | cons a l ih =>
    intro ds
    obtain ⟨t, ht⟩ := ih (ds ++ [dep ds a])
    exact ⟨dep ds a :: t, by rw [List.foldl_cons, ht]; simp⟩
theorem deps_at {l : List TypeM} {k : Nat} (h : k < l.length) : (deps l)[k]? = some (dep (deps (l.take k)) l[k]) := by
  obtain ⟨t, ht⟩ := foldl_deps (l.drop (k + 1)) (deps (l.take (k + 1)))
  have h1 : deps l = deps (l.take (k + 1)) ++ t := by
    rw [← ht]
    conv => lhs; rw [← List.take_append_drop (k + 1) l]
    rw [deps, List.foldl_append]; rfl
  rw [h1, deps_succ h, List.append_assoc]
  have := deps_len l k (by omega)
  rw [List.getElem?_append_right (by omega), this, Nat.sub_self]; rfl
theorem rcheck_any (ts : List TypeM) (rs : List RootM) (hts : ts.length ≤ 1000000000) (hrs : rs.length ≤ 1000000000) (hp : ∀ t ∈ ts, t.parts.length ≤ 1000000000) : PCall Try.prog 26 [vSch ts rs] (fun r => r = vF (checkF ts rs)) := by
  refine go_fn (tyOf_ok _) Try.func26 rfl rfl (by rw [Try.results26]) Try.ntmps26 rfl fun E => ?_
  (repeat' (first
    | exact trivial
    | (with_reducible first | refine awA ?_ | refine awB ?_ | refine awC ?_ | refine awD ?_ | refine awE ?_ | refine awF ?_ | refine awG ?_ | refine awH ?_ | refine awI ?_ | refine awJ ?_ | refine awK ?_ | refine awL ?_ | refine awM (by decide) ?_)
    | (refine aw_draw (id := 15) (t := (.node [0, 1, 2, 3, 4, 5, 6, 7, 8, 9, 10, 11, 12, 13, 14, 15, 16, 17, 18, 19, 20, 21, 22, 23, 24] [])) (drR [1] [56, 65] []) mixed (by kernel_rfl) (by kernel_rfl) (fun _ _ h => h) ?_)
    | (refine aw_draw (id := 19) (t := (.node [0, 1, 2, 3, 4, 5, 6, 7, 8, 9, 10, 11, 12, 13, 14, 15, 16] [])) (drR [1] [84, 90] []) mixed (by kernel_rfl) (by kernel_rfl) (fun _ _ h => h) ?_)
    | (refine at_done (by simp only [List.filterMap_cons, List.filterMap_nil, List.getElem?_toArray, List.getElem?_cons_zero, List.getElem?_cons_succ]; exact rfl) ?_) | (refine at_alt (by simp only [List.filterMap_cons, List.filterMap_nil, List.getElem?_toArray, List.getElem?_cons_zero, List.getElem?_cons_succ]; exact rfl) ?_) | refine qalt_normal ?_ | refine ats_cons ?_ ?_ | exact ats_nil
    | ((with_reducible first | refine awN (tyOf_ok _) [] ?_ | refine awO (tyOf_ok _) [] ?_ | refine awP (tyOf_ok _) [] ?_ | refine awQ ?_ | refine awR ?_ | refine awS ?_); intro r hr; simp only [go_sem, Nat.reduceBEq, Nat.reduceBneDiff, Nat.reduceLT, Nat.reduceLeDiff, Nat.reduceAdd, Nat.reduceMul, Nat.reduceSub, Nat.reduceEqDiff, reduceCtorEq, encTs_len, vSch] at hr; subst hr; (first | refine awV ?_ ?_ | refine awW ?_ ?_ | refine endK ?_ ?_ | (refine condK (fun h => ?_) (fun h => ?_) <;> (try simp only [go_sem, reduceCtorEq] at h) <;> (try (exfalso; omega))))) | fail)) <;> (try omega)
  refine go_loop [1, 2, 3] [1, 2] (fun k : Nat => ⟨[(1, true, .ptr 1 1 0 0), (2, true, .ptr 1 2 0 0), (3, true, vI k)],
    [(1, .var [.lst 4 (encTs ts), .lst 2 (encRs rs)]), (2, .var [vI 0, vI 0])]⟩)
    (fun k => k ≤ ts.length ∧ ∀ i, i < k → wrongType ts i = false) (fun k => ts.length - k) 0 (by simp only [go_sem, Nat.reduceBEq, Nat.reduceBneDiff, Nat.reduceLT, Nat.reduceLeDiff, Nat.reduceAdd, Nat.reduceMul, Nat.reduceSub, Nat.reduceEqDiff, reduceCtorEq]; exact rfl) ⟨Nat.zero_le _, fun i h => by omega⟩ ?_
  intro k ⟨hk, hno⟩
  have hw1 := wrap_i64 (n := (k : Int) + 1) (by omega)
  by_cases hlt : k < ts.length
  · have e1 : ((k : Int) < ts.length) = True := eq_true (by omega)
    have g1 := encTs_get hlt
    have hpl := hp _ (List.getElem_mem hlt)
    have hwt : wrongType ts k = !rightOK ts[k] k := by rw [wrongType, List.getElem?_eq_getElem hlt]
    (repeat' (first
    | exact trivial
    | (with_reducible first | refine awA ?_ | refine awB ?_ | refine awC ?_ | refine awD ?_ | refine awE ?_ | refine awF ?_ | refine awG ?_ | refine awH ?_ | refine awI ?_ | refine awJ ?_ | refine awK ?_ | refine awL ?_ | refine awM (by decide) ?_)
    | (refine aw_draw (id := 15) (t := (.node [0, 1, 2, 3, 4, 5, 6, 7, 8, 9, 10, 11, 12, 13, 14, 15, 16, 17, 18, 19, 20, 21, 22, 23, 24] [])) (drR [1] [56, 65] []) mixed (by kernel_rfl) (by kernel_rfl) (fun _ _ h => h) ?_)
    | (refine aw_draw (id := 19) (t := (.node [0, 1, 2, 3, 4, 5, 6, 7, 8, 9, 10, 11, 12, 13, 14, 15, 16] [])) (drR [1] [84, 90] []) mixed (by kernel_rfl) (by kernel_rfl) (fun _ _ h => h) ?_)
    | (refine at_done (by simp only [List.filterMap_cons, List.filterMap_nil, List.getElem?_toArray, List.getElem?_cons_zero, List.getElem?_cons_succ]; exact rfl) ?_) | (refine at_alt (by simp only [List.filterMap_cons, List.filterMap_nil, List.getElem?_toArray, List.getElem?_cons_zero, List.getElem?_cons_succ]; exact rfl) ?_) | refine qalt_normal ?_ | refine ats_cons ?_ ?_ | exact ats_nil
    | ((with_reducible first | refine awN (tyOf_ok _) [] ?_ | refine awO (tyOf_ok _) [] ?_ | refine awP (tyOf_ok _) [] ?_ | refine awQ ?_ | refine awR ?_ | refine awS ?_); intro r hr; simp only [go_sem, Nat.reduceBEq, Nat.reduceBneDiff, Nat.reduceLT, Nat.reduceLeDiff, Nat.reduceAdd, Nat.reduceMul, Nat.reduceSub, Nat.reduceEqDiff, reduceCtorEq, hw1, e1, g1, encTs_len] at hr; subst hr; (first | refine caA (fun _ => rright_any ts[k] k (by omega) hpl) rfl ?_ ?_ ?_ | refine awV ?_ ?_ | refine awW ?_ ?_ | refine endK ?_ ?_ | (refine condK (fun h => ?_) (fun h => ?_) <;> (try simp only [go_sem, reduceCtorEq] at h) <;> (try (exfalso; omega))))) | fail)) <;> (try omega)
    · show vF (92, (k : Int)) = vF (checkF ts rs)
      rw [checkF, find_some hlt hno (by rw [hwt, h]; rfl)]
    · refine ⟨k + 1, by simp only [go_sem, Nat.reduceBEq, Nat.reduceBneDiff, Nat.reduceLT, Nat.reduceLeDiff, Nat.reduceAdd, Nat.reduceMul, Nat.reduceSub, Nat.reduceEqDiff, reduceCtorEq]; exact rfl, ⟨hlt, fun i hi => ?_⟩, by omega⟩
      rcases Nat.lt_or_ge i k with h' | h'
      · exact hno i h'
      · have : i = k := by omega
        subst this
        rw [hwt, h]; rfl
  · have e1 : ((k : Int) < ts.length) = False := eq_false (by omega)
    have hall : ∀ (k : Nat) (h : k < ts.length), tyOK ts[k] k := fun k h => rightOK_ty (by
      have := hno k (by omega)
      rw [wrongType, List.getElem?_eq_getElem h] at this
      simpa using this)
    have hnone := find_none fun i (hi : i < ts.length) => hno i (by omega)
    have hdl : (deps ts).length = ts.length := by have := deps_len ts ts.length (Nat.le_refl _); rwa [take_len (Nat.le_refl _)] at this
    (repeat' (first
    | exact trivial
    | (with_reducible first | refine awA ?_ | refine awB ?_ | refine awC ?_ | refine awD ?_ | refine awE ?_ | refine awF ?_ | refine awG ?_ | refine awH ?_ | refine awI ?_ | refine awJ ?_ | refine awK ?_ | refine awL ?_ | refine awM (by decide) ?_)
    | (refine aw_draw (id := 15) (t := (.node [0, 1, 2, 3, 4, 5, 6, 7, 8, 9, 10, 11, 12, 13, 14, 15, 16, 17, 18, 19, 20, 21, 22, 23, 24] [])) (drR [1] [56, 65] []) mixed (by kernel_rfl) (by kernel_rfl) (fun _ _ h => h) ?_)
    | (refine aw_draw (id := 19) (t := (.node [0, 1, 2, 3, 4, 5, 6, 7, 8, 9, 10, 11, 12, 13, 14, 15, 16] [])) (drR [1] [84, 90] []) mixed (by kernel_rfl) (by kernel_rfl) (fun _ _ h => h) ?_)
    | (refine at_done (by simp only [List.filterMap_cons, List.filterMap_nil, List.getElem?_toArray, List.getElem?_cons_zero, List.getElem?_cons_succ]; exact rfl) ?_) | (refine at_alt (by simp only [List.filterMap_cons, List.filterMap_nil, List.getElem?_toArray, List.getElem?_cons_zero, List.getElem?_cons_succ]; exact rfl) ?_) | refine qalt_normal ?_ | refine ats_cons ?_ ?_ | exact ats_nil
    | ((with_reducible first | refine awN (tyOf_ok _) [] ?_ | refine awO (tyOf_ok _) [] ?_ | refine awP (tyOf_ok _) [] ?_ | refine awQ ?_ | refine awR ?_ | refine awS ?_); intro r hr; simp only [go_sem, Nat.reduceBEq, Nat.reduceBneDiff, Nat.reduceLT, Nat.reduceLeDiff, Nat.reduceAdd, Nat.reduceMul, Nat.reduceSub, Nat.reduceEqDiff, reduceCtorEq, hw1, e1, encTs_len, encRs_len] at hr; subst hr; (first | refine caC (rdepths_any ts rs hts hp hall) rfl ?_ ?_ ?_ | refine awV ?_ ?_ | refine awW ?_ ?_ | refine endK ?_ ?_ | (refine condK (fun h => ?_) (fun h => ?_) <;> (try simp only [go_sem, reduceCtorEq] at h) <;> (try (exfalso; omega))))) | fail)) <;> (try omega)
    refine go_loop [1, 2, 4, 5] [1, 2] (fun k : Nat => ⟨[(1, true, .ptr 1 1 0 0), (2, true, .ptr 1 2 0 0), (4, true, .lst 1 (v8 (deps ts))), (5, true, vI k)],
      [(1, .var [.lst 4 (encTs ts), .lst 2 (encRs rs)]), (2, .var [vI 0, vI 0])]⟩)
      (fun k => k ≤ ts.length ∧ ∀ i, i < k → tooDeep ts i = false) (fun k => ts.length - k) 0 (by simp only [go_sem, Nat.reduceBEq, Nat.reduceBneDiff, Nat.reduceLT, Nat.reduceLeDiff, Nat.reduceAdd, Nat.reduceMul, Nat.reduceSub, Nat.reduceEqDiff, reduceCtorEq]; exact rfl) ⟨Nat.zero_le _, fun i h => by omega⟩ ?_
    clear hno hw1 hlt e1 hk h k
    intro k ⟨hk, hno⟩
    have hw1 := wrap_i64 (n := (k : Int) + 1) (by omega)
    by_cases hlt : k < ts.length
    · have e1 : ((k : Int) < ts.length) = True := eq_true (by omega)
      have g1 : (v8 (deps ts))[k]? = some [vI (dep (deps (ts.take k)) ts[k])] := by rw [v8, List.getElem?_map, deps_at hlt]; rfl
      have htd : tooDeep ts k = decide (64 < dep (deps (ts.take k)) ts[k]) := by rw [tooDeep, List.getElem?_eq_getElem hlt]; rfl
      (repeat' (first
    | exact trivial
    | (with_reducible first | refine awA ?_ | refine awB ?_ | refine awC ?_ | refine awD ?_ | refine awE ?_ | refine awF ?_ | refine awG ?_ | refine awH ?_ | refine awI ?_ | refine awJ ?_ | refine awK ?_ | refine awL ?_ | refine awM (by decide) ?_)
    | (refine aw_draw (id := 15) (t := (.node [0, 1, 2, 3, 4, 5, 6, 7, 8, 9, 10, 11, 12, 13, 14, 15, 16, 17, 18, 19, 20, 21, 22, 23, 24] [])) (drR [1] [56, 65] []) mixed (by kernel_rfl) (by kernel_rfl) (fun _ _ h => h) ?_)
    | (refine aw_draw (id := 19) (t := (.node [0, 1, 2, 3, 4, 5, 6, 7, 8, 9, 10, 11, 12, 13, 14, 15, 16] [])) (drR [1] [84, 90] []) mixed (by kernel_rfl) (by kernel_rfl) (fun _ _ h => h) ?_)
    | (refine at_done (by simp only [List.filterMap_cons, List.filterMap_nil, List.getElem?_toArray, List.getElem?_cons_zero, List.getElem?_cons_succ]; exact rfl) ?_) | (refine at_alt (by simp only [List.filterMap_cons, List.filterMap_nil, List.getElem?_toArray, List.getElem?_cons_zero, List.getElem?_cons_succ]; exact rfl) ?_) | refine qalt_normal ?_ | refine ats_cons ?_ ?_ | exact ats_nil
    | ((with_reducible first | refine awN (tyOf_ok _) [] ?_ | refine awO (tyOf_ok _) [] ?_ | refine awP (tyOf_ok _) [] ?_ | refine awQ ?_ | refine awR ?_ | refine awS ?_); intro r hr; simp only [go_sem, Nat.reduceBEq, Nat.reduceBneDiff, Nat.reduceLT, Nat.reduceLeDiff, Nat.reduceAdd, Nat.reduceMul, Nat.reduceSub, Nat.reduceEqDiff, reduceCtorEq, hw1, e1, g1, v8_len, hdl] at hr; subst hr; (first | refine awV ?_ ?_ | refine awW ?_ ?_ | refine endK ?_ ?_ | (refine condK (fun h => ?_) (fun h => ?_) <;> (try simp only [go_sem, reduceCtorEq] at h) <;> (try (exfalso; omega))))) | fail)) <;> (try omega)
      · have hdf : deepF ts = (83, (k : Int)) := by rw [deepF, find_some hlt hno (by rw [htd]; exact decide_eq_true h)]
        have hc : checkF ts rs = (83, (k : Int)) := by
          rw [checkF, hnone]
          show (if (deepF ts).1 ≠ 0 then deepF ts else _) = _
          rw [hdf]; rfl
        rw [hc]; exact rfl
      · refine ⟨k + 1, by simp only [go_sem, Nat.reduceBEq, Nat.reduceBneDiff, Nat.reduceLT, Nat.reduceLeDiff, Nat.reduceAdd, Nat.reduceMul, Nat.reduceSub, Nat.reduceEqDiff, reduceCtorEq]; exact rfl, ⟨hlt, fun i hi => ?_⟩, by omega⟩
        rcases Nat.lt_or_ge i k with h' | h'
        · exact hno i h'
        · have : i = k := by omega
          subst this
          rw [htd]; exact decide_eq_false h
    · have e1 : ((k : Int) < ts.length) = False := eq_false (by omega)
      (repeat' (first
    | exact trivial
    | (with_reducible first | refine awA ?_ | refine awB ?_ | refine awC ?_ | refine awD ?_ | refine awE ?_ | refine awF ?_ | refine awG ?_ | refine awH ?_ | refine awI ?_ | refine awJ ?_ | refine awK ?_ | refine awL ?_ | refine awM (by decide) ?_)
    | (refine aw_draw (id := 15) (t := (.node [0, 1, 2, 3, 4, 5, 6, 7, 8, 9, 10, 11, 12, 13, 14, 15, 16, 17, 18, 19, 20, 21, 22, 23, 24] [])) (drR [1] [56, 65] []) mixed (by kernel_rfl) (by kernel_rfl) (fun _ _ h => h) ?_)
    | (refine aw_draw (id := 19) (t := (.node [0, 1, 2, 3, 4, 5, 6, 7, 8, 9, 10, 11, 12, 13, 14, 15, 16] [])) (drR [1] [84, 90] []) mixed (by kernel_rfl) (by kernel_rfl) (fun _ _ h => h) ?_)
    | (refine at_done (by simp only [List.filterMap_cons, List.filterMap_nil, List.getElem?_toArray, List.getElem?_cons_zero, List.getElem?_cons_succ]; exact rfl) ?_) | (refine at_alt (by simp only [List.filterMap_cons, List.filterMap_nil, List.getElem?_toArray, List.getElem?_cons_zero, List.getElem?_cons_succ]; exact rfl) ?_) | refine qalt_normal ?_ | refine ats_cons ?_ ?_ | exact ats_nil
    | ((with_reducible first | refine awN (tyOf_ok _) [] ?_ | refine awO (tyOf_ok _) [] ?_ | refine awP (tyOf_ok _) [] ?_ | refine awQ ?_ | refine awR ?_ | refine awS ?_); intro r hr; simp only [go_sem, Nat.reduceBEq, Nat.reduceBneDiff, Nat.reduceLT, Nat.reduceLeDiff, Nat.reduceAdd, Nat.reduceMul, Nat.reduceSub, Nat.reduceEqDiff, reduceCtorEq, hw1, e1, v8_len, hdl] at hr; subst hr; (first | refine awV ?_ ?_ | refine awW ?_ ?_ | refine endK ?_ ?_ | (refine condK (fun h => ?_) (fun h => ?_) <;> (try simp only [go_sem, reduceCtorEq] at h) <;> (try (exfalso; omega))))) | fail)) <;> (try omega)
      have hdf : deepF ts = (0, 0) := by rw [deepF, find_none fun i (hi : i < ts.length) => hno i (by omega)]
      have hc : checkF ts rs = match (List.range rs.length).find? (wrongRoot ts.length rs) with
        | some k => (92, (ts.length : Int) + k)
        | none => (0, 0) := by
          rw [checkF, hnone]
          show (if (deepF ts).1 ≠ 0 then deepF ts else _) = _
          rw [hdf]; rfl
      refine go_loop [1, 2, 6] [1, 2] (fun k : Nat => ⟨[(1, true, .ptr 1 1 0 0), (2, true, .ptr 1 2 0 0), (6, true, vI k)],
        [(1, .var [.lst 4 (encTs ts), .lst 2 (encRs rs)]), (2, .var [vI 0, vI 0])]⟩)
        (fun k => k ≤ rs.length ∧ ∀ i, i < k → wrongRoot ts.length rs i = false) (fun k => rs.length - k) 0 (by simp only [go_sem, Nat.reduceBEq, Nat.reduceBneDiff, Nat.reduceLT, Nat.reduceLeDiff, Nat.reduceAdd, Nat.reduceMul, Nat.reduceSub, Nat.reduceEqDiff, reduceCtorEq]; exact rfl) ⟨Nat.zero_le _, fun i h => by omega⟩ ?_
      clear hno hw1 hlt e1 hk h k
      intro k ⟨hk, hno⟩
      have hw1 := wrap_i64 (n := (k : Int) + 1) (by omega)
      have hw4 := wrap_i64 (n := (ts.length : Int) + k) (by omega)
      have hw5 := wrap_i64 (n := (ts.length : Int) - 1) (by omega)
      by_cases hlt : k < rs.length
      · have e1 : ((k : Int) < rs.length) = True := eq_true (by omega)
        have g1 := encRs_get hlt
        have hwr : wrongRoot ts.length rs k = (!isName rs[k].name || ((rs.take k).any fun q => decide (q.name = rs[k].name)) || decide (rs[k].ty < 0) || decide ((ts.length : Int) ≤ rs[k].ty) || decide (256 ≤ k)) := by rw [wrongRoot, List.getElem?_eq_getElem hlt]
        (repeat' (first
    | exact trivial
    | (with_reducible first | refine awA ?_ | refine awB ?_ | refine awC ?_ | refine awD ?_ | refine awE ?_ | refine awF ?_ | refine awG ?_ | refine awH ?_ | refine awI ?_ | refine awJ ?_ | refine awK ?_ | refine awL ?_ | refine awM (by decide) ?_)
    | (refine aw_draw (id := 15) (t := (.node [0, 1, 2, 3, 4, 5, 6, 7, 8, 9, 10, 11, 12, 13, 14, 15, 16, 17, 18, 19, 20, 21, 22, 23, 24] [])) (drR [1] [56, 65] []) mixed (by kernel_rfl) (by kernel_rfl) (fun _ _ h => h) ?_)
    | (refine aw_draw (id := 19) (t := (.node [0, 1, 2, 3, 4, 5, 6, 7, 8, 9, 10, 11, 12, 13, 14, 15, 16] [])) (drR [1] [84, 90] []) mixed (by kernel_rfl) (by kernel_rfl) (fun _ _ h => h) ?_)
    | (refine at_done (by simp only [List.filterMap_cons, List.filterMap_nil, List.getElem?_toArray, List.getElem?_cons_zero, List.getElem?_cons_succ]; exact rfl) ?_) | (refine at_alt (by simp only [List.filterMap_cons, List.filterMap_nil, List.getElem?_toArray, List.getElem?_cons_zero, List.getElem?_cons_succ]; exact rfl) ?_) | refine qalt_normal ?_ | refine ats_cons ?_ ?_ | exact ats_nil
    | ((with_reducible first | refine awN (tyOf_ok _) [] ?_ | refine awO (tyOf_ok _) [] ?_ | refine awP (tyOf_ok _) [] ?_ | refine awQ ?_ | refine awR ?_ | refine awS ?_); intro r hr; simp only [go_sem, Nat.reduceBEq, Nat.reduceBneDiff, Nat.reduceLT, Nat.reduceLeDiff, Nat.reduceAdd, Nat.reduceMul, Nat.reduceSub, Nat.reduceEqDiff, reduceCtorEq, hw1, hw4, hw5, e1, g1, encTs_len, encRs_len] at hr; subst hr; (first | refine caA (fun _ => name5_any _) rfl ?_ ?_ ?_ | refine caA (fun _ => in_any _ _ _) rfl ?_ ?_ ?_ | refine awV ?_ ?_ | refine awW ?_ ?_ | refine endK ?_ ?_ | (refine condK (fun h => ?_) (fun h => ?_) <;> (try simp only [go_sem, reduceCtorEq] at h) <;> (try (exfalso; omega))))) | fail)) <;> (try omega)
        · exact fun g => ⟨g, by omega⟩
        generalize hok : (decide ((k : Int) < 256) && isName rs[k].name && (decide (0 ≤ rs[k].ty) && decide (rs[k].ty ≤ (ts.length : Int) - 1))) = ok0
        refine go_loop [1, 2, 6, 7, 8] [1, 2] (fun x : Nat × Bool => ⟨[(1, true, .ptr 1 1 0 0), (2, true, .ptr 1 2 0 0), (6, true, vI k), (7, true, vB x.2), (8, true, vI x.1)],
          [(1, .var [.lst 4 (encTs ts), .lst 2 (encRs rs)]), (2, .var [vI 0, vI 0])]⟩)
          (fun x => x.1 ≤ k ∧ x.2 = (ok0 && !((rs.take x.1).any fun q => decide (q.name = rs[k].name)))) (fun x => k - x.1) (0, ok0) (by simp only [go_sem, Nat.reduceBEq, Nat.reduceBneDiff, Nat.reduceLT, Nat.reduceLeDiff, Nat.reduceAdd, Nat.reduceMul, Nat.reduceSub, Nat.reduceEqDiff, reduceCtorEq]; exact rfl) ⟨Nat.zero_le _, by simp⟩ ?_
        intro ⟨j, b⟩ ⟨hj, hb⟩
        simp only at hj hb ⊢
        have hw2 := wrap_i64 (n := (j : Int) + 1) (by omega)
        by_cases hjk : j < k
        · have e2 : ((j : Int) < k) = True := eq_true (by omega)
          have g2 := encRs_get (l := rs) (k := j) (by omega)
          (repeat' (first
    | exact trivial
    | (with_reducible first | refine awA ?_ | refine awB ?_ | refine awC ?_ | refine awD ?_ | refine awE ?_ | refine awF ?_ | refine awG ?_ | refine awH ?_ | refine awI ?_ | refine awJ ?_ | refine awK ?_ | refine awL ?_ | refine awM (by decide) ?_)
    | (refine aw_draw (id := 15) (t := (.node [0, 1, 2, 3, 4, 5, 6, 7, 8, 9, 10, 11, 12, 13, 14, 15, 16, 17, 18, 19, 20, 21, 22, 23, 24] [])) (drR [1] [56, 65] []) mixed (by kernel_rfl) (by kernel_rfl) (fun _ _ h => h) ?_)
    | (refine aw_draw (id := 19) (t := (.node [0, 1, 2, 3, 4, 5, 6, 7, 8, 9, 10, 11, 12, 13, 14, 15, 16] [])) (drR [1] [84, 90] []) mixed (by kernel_rfl) (by kernel_rfl) (fun _ _ h => h) ?_)
    | (refine at_done (by simp only [List.filterMap_cons, List.filterMap_nil, List.getElem?_toArray, List.getElem?_cons_zero, List.getElem?_cons_succ]; exact rfl) ?_) | (refine at_alt (by simp only [List.filterMap_cons, List.filterMap_nil, List.getElem?_toArray, List.getElem?_cons_zero, List.getElem?_cons_succ]; exact rfl) ?_) | refine qalt_normal ?_ | refine ats_cons ?_ ?_ | exact ats_nil
    | ((with_reducible first | refine awN (tyOf_ok _) [] ?_ | refine awO (tyOf_ok _) [] ?_ | refine awP (tyOf_ok _) [] ?_ | refine awQ ?_ | refine awR ?_ | refine awS ?_); intro r hr; simp only [go_sem, Nat.reduceBEq, Nat.reduceBneDiff, Nat.reduceLT, Nat.reduceLeDiff, Nat.reduceAdd, Nat.reduceMul, Nat.reduceSub, Nat.reduceEqDiff, reduceCtorEq, hw2, e2, g1, g2, encRs_len] at hr; subst hr; (first | refine awV ?_ ?_ | refine awW ?_ ?_ | refine endK ?_ ?_ | (refine condK (fun h => ?_) (fun h => ?_) <;> (try simp only [go_sem, reduceCtorEq] at h) <;> (try (exfalso; omega))))) | fail)) <;> (try omega)
          · exact ⟨fun g => ⟨g, by omega⟩, fun g => ⟨g, by omega⟩⟩
          · refine ⟨(j + 1, _), by simp only [go_sem, Nat.reduceBEq, Nat.reduceBneDiff, Nat.reduceLT, Nat.reduceLeDiff, Nat.reduceAdd, Nat.reduceMul, Nat.reduceSub, Nat.reduceEqDiff, reduceCtorEq]; exact rfl, ⟨hjk, ?_⟩, by simp only; omega⟩
            rw [List.take_succ_eq_append_getElem (by omega), List.any_append, hb]
            simp only [List.any_cons, List.any_nil, Bool.or_false]
            cases ok0 <;> simp
        · have e2 : ((j : Int) < k) = False := eq_false (by omega)
          (repeat' (first
    | exact trivial
    | (with_reducible first | refine awA ?_ | refine awB ?_ | refine awC ?_ | refine awD ?_ | refine awE ?_ | refine awF ?_ | refine awG ?_ | refine awH ?_ | refine awI ?_ | refine awJ ?_ | refine awK ?_ | refine awL ?_ | refine awM (by decide) ?_)
    | (refine aw_draw (id := 15) (t := (.node [0, 1, 2, 3, 4, 5, 6, 7, 8, 9, 10, 11, 12, 13, 14, 15, 16, 17, 18, 19, 20, 21, 22, 23, 24] [])) (drR [1] [56, 65] []) mixed (by kernel_rfl) (by kernel_rfl) (fun _ _ h => h) ?_)
    | (refine aw_draw (id := 19) (t := (.node [0, 1, 2, 3, 4, 5, 6, 7, 8, 9, 10, 11, 12, 13, 14, 15, 16] [])) (drR [1] [84, 90] []) mixed (by kernel_rfl) (by kernel_rfl) (fun _ _ h => h) ?_)
    | (refine at_done (by simp only [List.filterMap_cons, List.filterMap_nil, List.getElem?_toArray, List.getElem?_cons_zero, List.getElem?_cons_succ]; exact rfl) ?_) | (refine at_alt (by simp only [List.filterMap_cons, List.filterMap_nil, List.getElem?_toArray, List.getElem?_cons_zero, List.getElem?_cons_succ]; exact rfl) ?_) | refine qalt_normal ?_ | refine ats_cons ?_ ?_ | exact ats_nil
    | ((with_reducible first | refine awN (tyOf_ok _) [] ?_ | refine awO (tyOf_ok _) [] ?_ | refine awP (tyOf_ok _) [] ?_ | refine awQ ?_ | refine awR ?_ | refine awS ?_); intro r hr; simp only [go_sem, Nat.reduceBEq, Nat.reduceBneDiff, Nat.reduceLT, Nat.reduceLeDiff, Nat.reduceAdd, Nat.reduceMul, Nat.reduceSub, Nat.reduceEqDiff, reduceCtorEq, hw1, hw2, hw4, e2, encTs_len, encRs_len] at hr; subst hr; (first | refine awV ?_ ?_ | refine awW ?_ ?_ | refine endK ?_ ?_ | (refine condK (fun h => ?_) (fun h => ?_) <;> (try simp only [go_sem, reduceCtorEq] at h) <;> (try (exfalso; omega))))) | fail)) <;> (try omega)
          all_goals
            have hje : j = k := by omega
            subst hje
            have hrel : wrongRoot ts.length rs j = !b := by
              rw [hwr, hb, ← hok, show decide (rs[j].ty ≤ (ts.length : Int) - 1) = !decide ((ts.length : Int) ≤ rs[j].ty) by rw [← decide_not]; exact decide_eq_decide.2 (by omega), show decide (0 ≤ rs[j].ty) = !decide (rs[j].ty < 0) by rw [← decide_not]; exact decide_eq_decide.2 (by omega),
                show decide (256 ≤ j) = !decide ((j : Int) < 256) by rw [← decide_not]; exact decide_eq_decide.2 (by omega)]
              generalize ((rs.take j).any fun q => decide (q.name = rs[j].name)) = a
              cases isName rs[j].name <;> cases a <;> cases decide (rs[j].ty < 0) <;> cases decide ((ts.length : Int) ≤ rs[j].ty) <;> cases decide ((j : Int) < 256) <;> rfl
          · show vF (92, (ts.length : Int) + j) = vF (checkF ts rs)
            rw [hc, find_some hlt hno (by rw [hrel, h]; rfl)]
          · refine ⟨j + 1, by simp only [go_sem, Nat.reduceBEq, Nat.reduceBneDiff, Nat.reduceLT, Nat.reduceLeDiff, Nat.reduceAdd, Nat.reduceMul, Nat.reduceSub, Nat.reduceEqDiff, reduceCtorEq]; exact rfl, ⟨hlt, fun i hi => ?_⟩, by omega⟩
            rcases Nat.lt_or_ge i j with h' | h'
            · exact hno i h'
            · have : i = j := by omega
              subst this
              rw [hrel, h]; rfl
      · have e1 : ((k : Int) < rs.length) = False := eq_false (by omega)
        (repeat' (first
    | exact trivial
    | (with_reducible first | refine awA ?_ | refine awB ?_ | refine awC ?_ | refine awD ?_ | refine awE ?_ | refine awF ?_ | refine awG ?_ | refine awH ?_ | refine awI ?_ | refine awJ ?_ | refine awK ?_ | refine awL ?_ | refine awM (by decide) ?_)
    | (refine aw_draw (id := 15) (t := (.node [0, 1, 2, 3, 4, 5, 6, 7, 8, 9, 10, 11, 12, 13, 14, 15, 16, 17, 18, 19, 20, 21, 22, 23, 24] [])) (drR [1] [56, 65] []) mixed (by kernel_rfl) (by kernel_rfl) (fun _ _ h => h) ?_)
    | (refine aw_draw (id := 19) (t := (.node [0, 1, 2, 3, 4, 5, 6, 7, 8, 9, 10, 11, 12, 13, 14, 15, 16] [])) (drR [1] [84, 90] []) mixed (by kernel_rfl) (by kernel_rfl) (fun _ _ h => h) ?_)
    | (refine at_done (by simp only [List.filterMap_cons, List.filterMap_nil, List.getElem?_toArray, List.getElem?_cons_zero, List.getElem?_cons_succ]; exact rfl) ?_) | (refine at_alt (by simp only [List.filterMap_cons, List.filterMap_nil, List.getElem?_toArray, List.getElem?_cons_zero, List.getElem?_cons_succ]; exact rfl) ?_) | refine qalt_normal ?_ | refine ats_cons ?_ ?_ | exact ats_nil
    | ((with_reducible first | refine awN (tyOf_ok _) [] ?_ | refine awO (tyOf_ok _) [] ?_ | refine awP (tyOf_ok _) [] ?_ | refine awQ ?_ | refine awR ?_ | refine awS ?_); intro r hr; simp only [go_sem, Nat.reduceBEq, Nat.reduceBneDiff, Nat.reduceLT, Nat.reduceLeDiff, Nat.reduceAdd, Nat.reduceMul, Nat.reduceSub, Nat.reduceEqDiff, reduceCtorEq, hw1, e1, encRs_len] at hr; subst hr; (first | refine awV ?_ ?_ | refine awW ?_ ?_ | refine endK ?_ ?_ | (refine condK (fun h => ?_) (fun h => ?_) <;> (try simp only [go_sem, reduceCtorEq] at h) <;> (try (exfalso; omega))))) | fail)) <;> (try omega)
        rw [hc, find_none fun i (hi : i < rs.length) => hno i (by omega)]
        exact rfl
end Go.Proofs.Ytljfgohecmhchaa
end
section
namespace Go.Proofs.Ytljfgohecmhchaa
open Go.RowKit
set_option maxRecDepth 100000
set_option maxHeartbeats 4000000
/-! Nodes; what is known of a type that is right. -/
/-- does so wide a number hold n? -/
def fitsB (n wd : Int) : Bool := decide (1 ≤ wd) && decide (wd ≤ 8) && decide (n < 256 ^ wd.toNat)
theorem rightOK_kind {t : TypeM} {k : Int} (h : rightOK t k = true) : (t.kind = 1 ∨ t.kind = 2 ∨ t.kind = 3) ∨ (t.kind = 4 ∨ t.kind = 5 ∨ t.kind = 6) ∨ (t.kind = 7 ∨ t.kind = 8) := by
  rw [rightOK, Bool.and_eq_true] at h
  obtain ⟨_, h⟩ := h
  split at h
  · exact .inl ‹_›
  · split at h
    · exact .inr (.inl ‹_›)
    · split at h
      · rename_i h3
        exact .inr (.inr (by omega))
      · cases h
theorem rightOK_n {t : TypeM} {k : Int} (h : rightOK t k = true) (hk : t.kind = 4 ∨ t.kind = 5 ∨ t.kind = 6) : 0 ≤ t.n ∧ t.n ≤ 1048576 := by
  rw [rightOK, Bool.and_eq_true] at h
  obtain ⟨h, _⟩ := h
  rw [numberOK, if_neg (by omega)] at h
  split at h
  · simp only [Bool.and_eq_true, decide_eq_true_eq] at h; omega
  · simp only [decide_eq_true_eq] at h; omega
theorem check_right {ts : List TypeM} {rs : List RootM} (h : (checkF ts rs).1 = 0) : ∀ (k : Nat) (hk : k < ts.length), rightOK ts[k] k = true := by
  intro k hk
  cases hf : (List.range ts.length).find? (wrongType ts) with
  | some j => rw [checkF, hf] at h; exact absurd (show (92 : Int) = 0 from h) (by decide)
  | none =>
    rw [List.find?_range_eq_none] at hf
    have := hf k hk
    rw [wrongType, List.getElem?_eq_getElem hk] at this
    simpa using this
/-- what the walk needs of a type that is right -/
theorem right_1 {x : TypeM} {k : Int} (h : rightOK x k = true) (hk : x.kind = 1) : 1 ≤ x.n ∧ x.n ≤ 8 := by
  rw [rightOK, Bool.and_eq_true] at h
  have := h.1
  rw [numberOK, if_pos hk] at this
  simp only [Bool.or_eq_true, decide_eq_true_eq] at this
  omega
theorem goodFrom_tag {at_ : Int} : ∀ (l pre : List PartM), goodFrom 7 at_ pre l = true → ∀ p ∈ l, 0 ≤ p.tag ∧ p.tag ≤ 255
  | [], _, _ => fun p hp => by cases hp
  | q :: l, pre, h => fun p hp => by
    simp only [goodFrom, Bool.and_eq_true] at h
    rcases List.mem_cons.1 hp with rfl | hp
    · have := h.1
      rw [good, if_neg (by decide)] at this
      simp only [Bool.and_eq_true, decide_eq_true_eq] at this
      omega
    · exact goodFrom_tag l _ h.2 p hp
theorem right_parts {x : TypeM} {k : Int} (h : rightOK x k = true) (hk : x.kind = 7 ∨ x.kind = 8) : x.parts.length ≤ 64 ∧ 1 ≤ x.parts.length := by
  rw [rightOK, Bool.and_eq_true, if_neg (by omega), if_neg (by omega), if_pos (by omega), partsOK] at h
  simp only [Bool.and_eq_true, decide_eq_true_eq] at h
  omega
theorem right_tag {x : TypeM} {k : Int} (h : rightOK x k = true) (hk : x.kind = 7) : ∀ p ∈ x.parts, 0 ≤ p.tag ∧ p.tag ≤ 255 := by
  rw [rightOK, Bool.and_eq_true, if_neg (by omega), if_neg (by omega), if_pos (by omega), Bool.and_eq_true, partsOK, Bool.and_eq_true, hk] at h
  exact goodFrom_tag _ _ h.2.2.2
structure NodeM where
  kind : Int
  n : Int
  kids : Int
deriving DecidableEq
def vU (n : Int) : AV := .v (.int .u64 n)
def encN (x : NodeM) : List AV := [vI x.kind, vU x.n, vI x.kids]
def encNs (l : List NodeM) : List (List AV) := l.map encN
theorem encNs_len (l : List NodeM) : (encNs l).length = l.length := by simp [encNs]
theorem encNs_get {l : List NodeM} {k : Nat} (h : k < l.length) : (encNs l)[k]? = some [vI l[k].kind, vU l[k].n, vI l[k].kids] := by simp [encNs, encN, h]
def vN (x : NodeM) : AV := .agg [vI x.kind, vU x.n, vI x.kids]
def nodeOK (x : NodeM) : Prop := I64 x.kind ∧ I64 x.kids ∧ 0 ≤ x.n ∧ x.n < 18446744073709551616
def armOf (l : List PartM) (n : Int) : Option PartM := l.find? fun p => decide (p.tag % 18446744073709551616 = n)
attribute [go_sem] encNs_len vU vN v8_len encPs_len encTs_len encRs_len
end Go.Proofs.Ytljfgohecmhchaa
end
section
/-
  DERIVED: THE SHELF's CONTRACTS AT THIS DUMP, IN PLAIN WORDS (tools/lay-plain.mjs out of 'TryShelf.lean', which tools/lay-shelf.mjs wrote): THE SAME DECLARATIONS UNDER THE SAME NAMES: 'import', 'namespace', 'open', 'def', 'theorem' AND NOTHING ELSE: no command of the shelf's: FOR A HAND-IN. Each laying: the table of numbers ('.._ren') and one theorem, a field a fact of the dump's own or the kernel's comparison; each contract: ONE APPLICATION.
-/
namespace Go.Proofs
open Go.Shelf
def Try.lays264_ren : Go.Shelf.Ren := ⟨fun | 264 => 59 | n => n, fun | 53 => 109 | 46 => 115 | n => n, fun | n => n⟩
theorem Try.lays264 : Go.Proofs.Lays.n264 Try.prog Try.lays264_ren := {
  mixed := by kernel_rfl
  f264 := Try.func59.trans (congrArg some (by kernel_rfl))
  t46 := Try.underlying115
  a46 := Try.isAgg115
  z46 := Try.sizeOf115
  v46 := Try.zeroValue115
  t53 := Try.underlying109
  a53 := Try.isAgg109
  z53 := Try.sizeOf109
  v53 := Try.zeroValue109 }
open Go.RowKit Go.Lib in
theorem Try.bits_Mul64 (x y : Nat) (hx : x < 18446744073709551616) (hy : y < 18446744073709551616) (w : World) :
    Calls Try.prog 59 #[.int .u64 x, .int .u64 y] w fun e w' => e = .returned (.tuple #[.int .u64 ((x * y / 18446744073709551616 : Nat) : Int), .int .u64 ((x * y % 18446744073709551616 : Nat) : Int)]) ∧ w' = w := Any.bits_Mul64 Try.lays264 x y hx hy w
end Go.Proofs
end
section
/- sums and products of sizes, in plain numbers -/
namespace Go.Proofs.Ytljfgohecmhchaa
def sz (n : Int) : Int := min (max n 0) 4611686018427387904
theorem sz_lo (n : Int) : 0 ≤ sz n := by unfold sz; omega
theorem sz_hi (n : Int) : sz n ≤ 4611686018427387904 := by unfold sz; omega
def addS (s x : Int) : Int := min s (4611686018427387904 - sz x) + sz x
def plusL (zs : List Int) : Int := zs.foldl addS 0
theorem plusL_snoc (zs : List Int) (x : Int) : plusL (zs ++ [x]) = addS (plusL zs) x := by simp [plusL]
theorem foldl_addS_bd (zs : List Int) : ∀ s : Int, 0 ≤ s → s ≤ 4611686018427387904 → 0 ≤ zs.foldl addS s ∧ zs.foldl addS s ≤ 4611686018427387904 := by
  induction zs with
  | nil => intro s h0 h1; exact ⟨h0, h1⟩
  | cons x xs ih => intro s h0 h1; exact ih _ (by unfold addS sz; omega) (by unfold addS sz; omega)
theorem plusL_bd (zs : List Int) : 0 ≤ plusL zs ∧ plusL zs ≤ 4611686018427387904 := foldl_addS_bd zs 0 (by omega) (by omega)
/-- the product of two sizes -/
def timesS (a b : Int) : Int := min (sz a * sz b) 4611686018427387904


theorem timesS_bd (a b : Int) : 0 ≤ timesS a b ∧ timesS a b ≤ 4611686018427387904 := by
  have h : 0 ≤ sz a * sz b := Int.mul_nonneg (sz_lo a) (sz_lo b)
  unfold timesS; omega
theorem sz_of {n : Int} (h0 : 0 ≤ n) (h1 : n ≤ 4611686018427387904) : sz n = n := by unfold sz; omega
theorem sz_timesS (a b : Int) : sz (timesS a b) = timesS a b := sz_of (timesS_bd a b).1 (timesS_bd a b).2
theorem sz_plusL (zs : List Int) : sz (plusL zs) = plusL zs := sz_of (plusL_bd zs).1 (plusL_bd zs).2
def sumS (zs : List Int) : Int := (zs.map sz).sum
theorem sumS_nn (zs : List Int) : 0 ≤ sumS zs := by
  induction zs with
  | nil => simp [sumS]
  | cons x xs ih => have := sz_lo x; simp only [sumS, List.map_cons, List.sum_cons] at *; omega
theorem foldl_addS (zs : List Int) : ∀ s : Int, 0 ≤ s → s ≤ 4611686018427387904 → zs.foldl addS s = min (s + sumS zs) 4611686018427387904 := by
  induction zs with
  | nil => intro s h0 h1; simp [sumS]; omega
  | cons x xs ih =>
    intro s h0 h1
    have hx := sz_lo x
    have hx' := sz_hi x
    have hn := sumS_nn xs
    have h3 : addS s x = min (s + sz x) 4611686018427387904 := by unfold addS; omega
    simp only [List.foldl_cons]
    rw [ih _ (by rw [h3]; omega) (by rw [h3]; omega), h3]
    have : sumS (x :: xs) = sz x + sumS xs := by simp [sumS]
    omega
theorem plusL_eq (zs : List Int) : plusL zs = min (sumS zs) 4611686018427387904 := by
  have := foldl_addS zs 0 (by omega) (by omega)
  simpa [plusL] using this
theorem sumS_append (xs ys : List Int) : sumS (xs ++ ys) = sumS xs + sumS ys := by simp [sumS]
theorem plusL_reverse (zs : List Int) : plusL zs.reverse = plusL zs := by
  rw [plusL_eq, plusL_eq]
  have : sumS zs.reverse = sumS zs := by
    induction zs with
    | nil => rfl
    | cons x xs ih => rw [List.reverse_cons, sumS_append, ih]; simp [sumS]; omega
  rw [this]
theorem plusL_two (a b : Int) : plusL [a, b] = min (sz a + sz b) 4611686018427387904 := by rw [plusL_eq]; simp [sumS]
theorem plusL_one (a : Int) : plusL [a] = sz a := by rw [plusL_eq]; have := sz_hi a; simp [sumS]; omega
theorem plusL_cut (zs : List Int) (k : Nat) : plusL [plusL (zs.take k), plusL (zs.drop k)] = plusL zs := by
  rw [plusL_two, sz_plusL, sz_plusL, plusL_eq, plusL_eq (zs.drop k), plusL_eq zs]
  have h : sumS zs = sumS (zs.take k) + sumS (zs.drop k) := by rw [← sumS_append, List.take_append_drop]
  have h1 := sumS_nn (zs.take k)
  have h2 := sumS_nn (zs.drop k)
  omega
theorem sz_le_sumS (zs : List Int) (x : Int) (h : x ∈ zs) : sz x ≤ sumS zs := by
  induction zs with
  | nil => cases h
  | cons y ys ih =>
    have hy := sz_lo y
    have hn := sumS_nn ys
    have e : sumS (y :: ys) = sz y + sumS ys := by simp [sumS]
    rcases List.mem_cons.1 h with rfl | h'
    · omega
    · have := ih h'; omega
theorem plusL_one_le (zs : List Int) (x : Int) (h : x ∈ zs) : plusL [x] ≤ plusL zs := by
  rw [plusL_one, plusL_eq]; have := sz_le_sumS zs x h; have := sz_hi x; omega
theorem m0 : min (0 : Int) 4611686018427387904 = 0 := by omega
theorem timesS_comm (a b : Int) : timesS b a = timesS a b := by unfold timesS; rw [Int.mul_comm]
theorem min_mul_hi (X C H : Int) (hX : 0 ≤ X) (hC : 1 ≤ C) (hH : 0 ≤ H) : min (min X H * C) H = min (X * C) H := by
  by_cases h : X ≤ H
  · rw [Int.min_eq_left h]
  · rw [Int.min_eq_right (by omega : H ≤ X)]
    have h1 : H * 1 ≤ H * C := Int.mul_le_mul_of_nonneg_left hC hH
    have h2 : H * C ≤ X * C := Int.mul_le_mul_of_nonneg_right (by omega) (by omega)
    omega
theorem timesS_assoc (a b c : Int) : timesS a (timesS b c) = timesS (timesS a b) c := by
  have ha := sz_lo a; have hb := sz_lo b; have hc := sz_lo c
  have e1 : timesS a (timesS b c) = min (sz a * timesS b c) 4611686018427387904 := by show min (sz a * sz (timesS b c)) _ = _; rw [sz_timesS]
  have e2 : timesS (timesS a b) c = min (timesS a b * sz c) 4611686018427387904 := by show min (sz (timesS a b) * sz c) _ = _; rw [sz_timesS]
  rw [e1, e2]
  unfold timesS
  generalize sz a = A at *; generalize sz b = B at *; generalize sz c = C at *
  by_cases hA : A = 0
  · subst hA; simp [m0]
  by_cases hC : C = 0
  · subst hC; simp [m0]
  rw [Int.mul_comm A, min_mul_hi (B * C) A _ (Int.mul_nonneg hb hc) (by omega) (by omega), min_mul_hi (A * B) C _ (Int.mul_nonneg ha hb) (by omega) (by omega)]
  rw [Int.mul_comm (B * C), Int.mul_assoc]
theorem timesS_plus (a b c : Int) : timesS a (plusL [b, c]) = plusL [timesS a b, timesS a c] := by
  have ha := sz_lo a; have hb := sz_lo b; have hc := sz_lo c
  have e1 : timesS a (plusL [b, c]) = min (sz a * plusL [b, c]) 4611686018427387904 := by show min (sz a * sz (plusL [b, c])) _ = _; rw [sz_plusL]
  rw [e1, plusL_two, plusL_two, sz_timesS, sz_timesS]
  unfold timesS
  generalize sz a = A at *; generalize sz b = B at *; generalize sz c = C at *
  by_cases hA : A = 0
  · subst hA; simp [m0]
  rw [Int.mul_comm A (min _ _), min_mul_hi (B + C) A _ (by omega) (by omega) (by omega), Int.mul_comm (B + C) A, Int.mul_add]
  have h1 := Int.mul_nonneg ha hb
  have h2 := Int.mul_nonneg ha hc
  generalize A * B = X at *; generalize A * C = Y at *
  omega
theorem timesS_1 (a : Int) : timesS a 1 = plusL [a] := by
  rw [plusL_one]; unfold timesS; have := sz_hi a; have e : sz 1 = 1 := by decide
  rw [e]; omega
theorem timesS_0 (a : Int) : timesS a 0 = 0 := by unfold timesS; have e : sz 0 = 0 := by decide
                                                  rw [e]; simp [m0]
theorem plusL_le_timesS (a b : Int) (h : 1 ≤ b) : plusL [a] ≤ timesS a b := by
  rw [plusL_one]
  have ha := sz_lo a; have ha' := sz_hi a
  have hb : 1 ≤ sz b := by unfold sz; omega
  have h1 : sz a * 1 ≤ sz a * sz b := Int.mul_le_mul_of_nonneg_left hb ha
  unfold timesS
  generalize sz a * sz b = X at *
  omega
end Go.Proofs.Ytljfgohecmhchaa
end
section
namespace Go.Proofs.Ytljfgohecmhchaa
open Go.RowKit

set_option maxHeartbeats 400000 in
theorem sized_any (n : Int) (w : World) (_h0 : -9223372036854775808 ≤ n) (_h1 : n ≤ 9223372036854775807) :
    Calls Try.prog 58 #[.int .i64 n] w fun e w' => e = .returned (.int .i64 (sz n)) ∧ w = w' := by
  go_enter Try.func58, Try.ntmps58
  go_wp2
  all_goals
    go_ret
    exact ⟨ret_int (by unfold sz; omega), rfl⟩

set_option maxHeartbeats 400000 in
theorem Plus_any (A : Option Addr) (n c : Nat) (zs : List Int) (w : World) (B : Nat) (hr : Row w B A (zs.map (Value.int .i64))) (hn : n = zs.length) (hz : ∀ z ∈ zs, I64 z) (hm : n ≤ maxLen) :
    Calls Try.prog 48 #[.slice A n c] w fun e w' => e = .returned (.int .i64 (plusL zs)) ∧ w = w' := by
  unfold maxLen at hm
  have hr' := hr.ints
  clear hr
  subst hn
  go_enter Try.func48, Try.ntmps48
  go_wp2
  go_loop [3, 5, 8] (fun s _ i => ∃ k : Nat, k ≤ zs.length ∧ i = .int .i64 k ∧ s = .int .i64 (plusL (zs.take k))) (fun _ _ i => zs.length - (intOf i).toNat)
  case atStart => exact ⟨0, Nat.zero_le _, rfl, rfl⟩
  case round =>
    obtain ⟨k, hk, rfl, rfl⟩ := hrel
    have hd := plusL_bd (zs.take k)
    obtain ⟨hd0, hd1⟩ := hd
    by_cases hlt : k < zs.length
    · obtain ⟨b, off, rfl, hb, hc⟩ := hr' (by omega)
      have hck := hc k hlt
      have hx := hz _ (getD_mem hlt)
      have hs := plusL_snoc (zs.take k) (zs.getD k 0)
      rw [← take_snoc_getD hlt] at hs
      have HS := Lib.hid hs
      clear hs hc
      generalize zs.getD k 0 = x at *
      obtain ⟨hx0, hx1⟩ := hx
      have h2 := sz_lo x
      have h3 := sz_hi x
      go_wp2_with (go_at_call 58; refine (sized_any _ _ hx0 hx1).mono ?_; rintro e w' ⟨rfl, rfl⟩)
      all_goals
        go_round
        case rel => exact ⟨k + 1, by omega, by go_num, by rw [HS.out]; first | rfl | exact congrArg (Value.int .i64) (by unfold addS; split <;> omega)⟩
        case measure => simp [intOf]; omega
    · obtain rfl : k = zs.length := by omega
      go_wp2
      go_ret
      exact ⟨ret_int (by simp), rfl⟩

theorem Mul64_int (x y : Int) (w : World) (hx0 : 0 ≤ x) (hx : x < 18446744073709551616) (hy0 : 0 ≤ y) (hy : y < 18446744073709551616) :
    Calls Try.prog 59 #[.int .u64 x, .int .u64 y] w fun e w' => e = .returned (.tuple #[.int .u64 (x * y / 18446744073709551616), .int .u64 (x * y % 18446744073709551616)]) ∧ w = w' := by
  obtain ⟨m, rfl⟩ := Int.eq_ofNat_of_zero_le hx0
  obtain ⟨n, rfl⟩ := Int.eq_ofNat_of_zero_le hy0
  refine (Try.bits_Mul64 m n (by omega) (by omega) w).mono ?_
  rintro e w' ⟨rfl, rfl⟩
  refine ⟨?_, rfl⟩
  have h1 : ((m * n / 18446744073709551616 : Nat) : Int) = (m : Int) * n / 18446744073709551616 := by rw [Int.natCast_ediv, Int.natCast_mul]; rfl
  have h2 : ((m * n % 18446744073709551616 : Nat) : Int) = (m : Int) * n % 18446744073709551616 := by rw [Int.natCast_emod, Int.natCast_mul]; rfl
  rw [h1, h2]

set_option maxHeartbeats 400000 in
theorem Times_any (a b : Int) (w : World) (ha : I64 a) (hb : I64 b) :
    Calls Try.prog 49 #[.int .i64 a, .int .i64 b] w fun e w' => e = .returned (.int .i64 (timesS a b)) ∧ w = w' := by
  obtain ⟨ha0, ha1⟩ := ha
  obtain ⟨hb0, hb1⟩ := hb
  have h1 := sz_lo a
  have h2 := sz_hi a
  have h3 := sz_lo b
  have h4 := sz_hi b
  have hp : 0 ≤ sz a * sz b := Int.mul_nonneg h1 h3
  go_enter Try.func49, Try.ntmps49
  go_wp2_with (first | (go_at_call 58; refine (sized_any _ _ (by assumption) (by assumption)).mono ?_; rintro e w' ⟨rfl, rfl⟩) | (go_at_call 59; refine (Mul64_int _ _ _ (by assumption) (by omega) (by assumption) (by omega)).mono ?_; rintro e w' ⟨rfl, rfl⟩))
  all_goals
    go_ret
    exact ⟨ret_int (by unfold timesS; clear h1 h2 h3 h4; generalize sz a * sz b = p at *; omega), rfl⟩

end Go.Proofs.Ytljfgohecmhchaa
end
section
namespace Go.Proofs.Ytljfgohecmhchaa
open Go.RowKit

set_option maxHeartbeats 400000 in
theorem refsize_any (n : Int) (w : World) (_h0 : -9223372036854775808 ≤ n) (_h1 : n ≤ 9223372036854775807) :
    Calls Try.prog 71 #[.int .i64 n] w fun e w' => e = .returned (.int .i64 (sz n)) ∧ w = w' := by
  go_enter Try.func71, Try.ntmps71
  go_wp2
  all_goals
    go_ret
    exact ⟨ret_int (by unfold sz; omega), rfl⟩

theorem foldl_huge (zs : List Int) : zs.foldl addS 4611686018427387904 = 4611686018427387904 := by
  have := foldl_addS zs 4611686018427387904 (by omega) (by omega)
  have h := sumS_nn zs
  omega
theorem plusL_stop (zs : List Int) (k : Nat) (hk : k < zs.length) (h : 4611686018427387904 - plusL (zs.take k) < sz (zs.getD k 0)) : plusL zs = 4611686018427387904 := by
  have e : plusL zs = (zs.drop (k + 1)).foldl addS (plusL (zs.take (k + 1))) := by
    conv => lhs; rw [← List.take_append_drop (k + 1) zs]
    unfold plusL; rw [List.foldl_append]
  rw [e, take_snoc_getD hk, plusL_snoc]
  have h1 := plusL_bd (zs.take k)
  have h2 := sz_hi (zs.getD k 0)
  have : addS (plusL (zs.take k)) (zs.getD k 0) = 4611686018427387904 := by unfold addS; omega
  rw [this, foldl_huge]

set_option maxHeartbeats 400000 in
theorem refPlus_any (A : Option Addr) (n c : Nat) (zs : List Int) (w : World) (B : Nat) (hr : Row w B A (zs.map (Value.int .i64))) (hn : n = zs.length) (hz : ∀ z ∈ zs, I64 z) (hm : n ≤ maxLen) :
    Calls Try.prog 70 #[.slice A n c] w fun e w' => e = .returned (.int .i64 (plusL zs)) ∧ w = w' := by
  unfold maxLen at hm
  have hr' := hr.ints
  clear hr
  subst hn
  go_enter Try.func70, Try.ntmps70
  go_wp2
  go_loop [3, 4] (fun s i => ∃ k : Nat, k ≤ zs.length ∧ i = .int .i64 k ∧ s = .int .i64 (plusL (zs.take k))) (fun _ i => zs.length - (intOf i).toNat)
  case atStart => exact ⟨0, Nat.zero_le _, rfl, rfl⟩
  case round =>
    obtain ⟨k, hk, rfl, rfl⟩ := hrel
    have hd := plusL_bd (zs.take k)
    obtain ⟨hd0, hd1⟩ := hd
    by_cases hlt : k < zs.length
    · obtain ⟨b, off, rfl, hb, hc⟩ := hr' (by omega)
      have hck := hc k hlt
      have hx := hz _ (getD_mem hlt)
      have hs := plusL_snoc (zs.take k) (zs.getD k 0)
      rw [← take_snoc_getD hlt] at hs
      have HS := Lib.hid hs
      have HE := Lib.hid (plusL_stop zs k hlt)
      clear hs hc
      generalize zs.getD k 0 = x at *
      obtain ⟨hx0, hx1⟩ := hx
      have h2 := sz_lo x
      have h3 := sz_hi x
      by_cases hbig : 4611686018427387904 - plusL (zs.take k) < sz x
      · go_wp2_with (go_at_call 71; refine (refsize_any _ _ hx0 hx1).mono ?_; rintro e w' ⟨rfl, rfl⟩)
        go_ret
        exact ⟨ret_int (HE.out hbig).symm, rfl⟩
      · go_wp2_with (go_at_call 71; refine (refsize_any _ _ hx0 hx1).mono ?_; rintro e w' ⟨rfl, rfl⟩)
        go_round
        case rel => exact ⟨k + 1, by omega, by go_num, by rw [HS.out]; unfold addS; congr 1; omega⟩
        case measure => simp [intOf]; omega
    · obtain rfl : k = zs.length := by omega
      go_wp2
      go_ret
      exact ⟨ret_int (by simp), rfl⟩

theorem timesS_zero {a b : Int} (h : sz a = 0 ∨ sz b = 0) : timesS a b = 0 := by
  unfold timesS; rcases h with h | h <;> rw [h] <;> simp [m0]
theorem timesS_big {a b : Int} (hb : 0 < sz b) (h : 4611686018427387904 / sz b < sz a) : timesS a b = 4611686018427387904 := by
  have : 4611686018427387904 < sz a * sz b := by
    have h1 := Int.lt_mul_of_ediv_lt hb h
    exact h1
  unfold timesS; omega
theorem timesS_small {a b : Int} (hb : 0 < sz b) (h : sz a ≤ 4611686018427387904 / sz b) : timesS a b = sz a * sz b ∧ sz a * sz b ≤ 4611686018427387904 := by
  have := Int.mul_le_of_le_ediv hb h
  unfold timesS; omega

set_option maxHeartbeats 400000 in
theorem refTimes_any (a b : Int) (w : World) (ha : I64 a) (hb : I64 b) :
    Calls Try.prog 69 #[.int .i64 a, .int .i64 b] w fun e w' => e = .returned (.int .i64 (timesS a b)) ∧ w = w' := by
  obtain ⟨ha0, ha1⟩ := ha
  obtain ⟨hb0, hb1⟩ := hb
  have h1 := sz_lo a
  have h2 := sz_hi a
  have h3 := sz_lo b
  have h4 := sz_hi b
  have HZ := Lib.hid (@timesS_zero a b)
  have HB := Lib.hid (@timesS_big a b)
  have HS := Lib.hid (@timesS_small a b)
  by_cases hz : sz a = 0 ∨ sz b = 0
  · have hz' := HZ.out hz
    have HH := Lib.hid hz'
    clear hz' HZ HB HS
    have hq : ((sz a == 0) || (sz b == 0)) = true := by rcases hz with h | h <;> simp [h]
    clear hz
    go_enter Try.func69, Try.ntmps69
    go_wp2_with (go_at_call 71; refine (refsize_any _ _ (by assumption) (by assumption)).mono ?_; rintro e w' ⟨rfl, rfl⟩)
    all_goals
      go_ret
      exact ⟨ret_int HH.out.symm, rfl⟩
  · have hqa : (sz a == 0) = false := by simp; omega
    have hqb : (sz b == 0) = false := by simp; omega
    have hb1 : 1 ≤ sz b := by omega
    clear hz HZ
    by_cases hbig : 4611686018427387904 / sz b < sz a
    · have HH := Lib.hid (HB.out (by omega) hbig)
      clear HB HS
      go_enter Try.func69, Try.ntmps69
      go_wp2_with (go_at_call 71; refine (refsize_any _ _ (by assumption) (by assumption)).mono ?_; rintro e w' ⟨rfl, rfl⟩)
      go_ret
      exact ⟨ret_int HH.out.symm, rfl⟩
    · obtain ⟨hh, hle⟩ := HS.out (by omega) (by omega)
      have hnn : 0 ≤ sz a * sz b := Int.mul_nonneg h1 h3
      have HH := Lib.hid hh
      clear HB HS hh
      go_enter Try.func69, Try.ntmps69
      go_wp2_with (go_at_call 71; refine (refsize_any _ _ (by assumption) (by assumption)).mono ?_; rintro e w' ⟨rfl, rfl⟩)
      go_ret
      exact ⟨ret_int HH.out.symm, rfl⟩

end Go.Proofs.Ytljfgohecmhchaa
end
section
namespace Go.Proofs.Ytljfgohecmhchaa
open Go.RowKit
/-! Contracts of the old road, in the new one. -/
section
variable {P : Program}
theorem pcall_pure {f : Nat} {fn : Func} (hf : P.funcs[f]? = some fn) (hb : fn.body.isSome = true) (hn : (fn.name == "runtime.NumGoroutine") = false) {xs : List Value} {r : Value} (hx : ∀ x ∈ xs, flatV x = true) (hr : flatV r = true)
    (h : ∀ w : World, Calls P f xs.toArray w fun e w' => e = .returned r ∧ w = w') : PCall P f (xs.map .v) (fun x => x = .v r) := by
  refine ⟨⟨fn, hf, hb, hn⟩, fun w F vs _ hl ha => ?_⟩
  have hv : vs = xs.toArray := by
    apply Array.ext
    · simpa using hl
    · intro i h1 h2
      have h2' : i < xs.length := by simpa using h2
      have := ha i (.v xs[i]) vs[i] (by rw [List.getElem?_map, List.getElem?_eq_getElem h2']; rfl) (Array.getElem?_eq_getElem h1)
      have hx' : xs.toArray[i]'h2 = xs[i] := by simp
      rw [hx']
      generalize xs[i] = y at this ⊢
      generalize vs[i] = z at this ⊢
      cases this with
      | s this =>
      cases this with
      | v _ => rfl
  subst hv
  refine (h w).mono fun e w' ⟨h1, h2⟩ => ?_
  subst h2
  exact ⟨r, .v r, h1, rfl, ⟨rfl, rfl, rfl, Nat.le_refl _, fun _ _ => rfl⟩, .s (.v hr)⟩
theorem pcall_ints {f : Nat} {fn : Func} (hf : P.funcs[f]? = some fn) (hb : fn.body.isSome = true) (hn : (fn.name == "runtime.NumGoroutine") = false) {zs : List Int} {r : Value} (hr : flatV r = true)
    (h : ∀ (A : Option Addr) (n c : Nat) (w : World), Row w w.heap.size A (zs.map (Value.int .i64)) → n = zs.length → n ≤ maxLen → Calls P f #[.slice A n c] w fun e w' => e = .returned r ∧ w = w') : PCall P f [.lst 1 (v8 zs)] (fun x => x = .v r) := by
  refine ⟨⟨fn, hf, hb, hn⟩, fun w F vs hF hl ha => ?_⟩
  obtain ⟨v, rfl⟩ : ∃ v, vs = #[v] := by
    cases vs with | mk l => 
    match l, hl with
    | [v], _ => exact ⟨v, rfl⟩
  have h0 := ha 0 _ v rfl rfl
  cases h0 with
  | s h0 =>
  cases h0 with
  | @lst k xs A n c g g1 g2 g3 g4 g5 g6 g7 =>
  rw [v8_len] at g1
  refine (h A n c w (fun h0 => ?_) g1 (Nat.le_trans g2 g3)).mono fun e w' ⟨h1, h2⟩ => ?_
  · obtain ⟨b, off, hA, hb, hc⟩ := g5 (by rw [List.length_map] at h0; omega)
    refine ⟨b, off, hA, hF.lt b hb, fun k u hu => ?_⟩
    have hk : k < zs.length := by
      rcases Nat.lt_or_ge k zs.length with h | h
      · exact h
      · rw [List.getElem?_eq_none (by simpa using h)] at hu; cases hu
    have h1 := hc k 0 (by omega) (by decide)
    have h2 := g7 k 0 _ _ (v8_get hk) rfl
    rw [Nat.mul_one, Nat.add_zero] at h1
    rw [h1]
    rw [List.getElem?_map, List.getElem?_eq_getElem hk] at hu
    injection hu with hu
    subst hu
    generalize g k 0 = z at h2
    cases h2 with
    | v _ => rfl
  · subst h2
    exact ⟨r, .v r, h1, rfl, ⟨rfl, rfl, rfl, Nat.le_refl _, fun _ _ => rfl⟩, .s (.v hr)⟩
end
theorem plus_p {zs : List Int} (hz : ∀ z ∈ zs, I64 z) : PCall Try.prog 48 [.lst 1 (v8 zs)] (fun x => x = vI (plusL zs)) :=
  pcall_ints Try.func48 rfl rfl rfl fun A n c w hr hn hm => Plus_any A n c zs w _ hr hn hz hm
theorem times_p {a b : Int} (ha : I64 a) (hb : I64 b) : PCall Try.prog 49 [vI a, vI b] (fun x => x = vI (timesS a b)) :=
  pcall_pure (xs := [.int .i64 a, .int .i64 b]) Try.func49 rfl rfl (fun x hx => by simp at hx; rcases hx with rfl | rfl <;> rfl) rfl fun w => Times_any a b w ha hb
theorem plus1_p {zs : List Int} (hz : ∀ z ∈ zs, I64 z) : PCall Try.prog 70 [.lst 1 (v8 zs)] (fun x => x = vI (plusL zs)) :=
  pcall_ints Try.func70 rfl rfl rfl fun A n c w hr hn hm => refPlus_any A n c zs w _ hr hn hz hm
theorem times1_p {a b : Int} (ha : I64 a) (hb : I64 b) : PCall Try.prog 69 [vI a, vI b] (fun x => x = vI (timesS a b)) :=
  pcall_pure (xs := [.int .i64 a, .int .i64 b]) Try.func69 rfl rfl (fun x hx => by simp at hx; rcases hx with rfl | rfl <;> rfl) rfl fun w => refTimes_any a b w ha hb
end Go.Proofs.Ytljfgohecmhchaa
end
section
namespace Go.Proofs.Ytljfgohecmhchaa
open Go.RowKit
set_option maxRecDepth 100000
set_option maxHeartbeats 4000000
structure ExtM where
  fixed : Bool
  least : Int
  most : Int
  depth : Int
def encE (e : ExtM) : List AV := [vB e.fixed, vI e.least, vI e.most, vI e.depth]
def encEs (l : List ExtM) : List (List AV) := l.map encE
theorem encEs_len (l : List ExtM) : (encEs l).length = l.length := by simp [encEs]
theorem encEs_get {l : List ExtM} {k : Nat} (h : k < l.length) : (encEs l)[k]? = some [vB l[k].fixed, vI l[k].least, vI l[k].most, vI l[k].depth] := by simp [encEs, encE, h]
theorem plus2_p (a b : Int) (ha : I64 a) (hb : I64 b) : PCall Try.prog 48 [.lst 1 [[vI a], [vI b]]] (fun x => x = vI (plusL [a, b])) :=
  plus_p (zs := [a, b]) (fun z hz => by simp at hz; rcases hz with rfl | rfl <;> assumption)
def withinM (fixed : Bool) (b : Int) : Int := if fixed = true then b else plusL [4, b]
theorem within_any (e : ExtM) (b : Int) (hb : I64 b) : PCall Try.prog 55 [.agg [vB e.fixed, vI e.least, vI e.most, vI e.depth], vI b] (fun r => r = vI (withinM e.fixed b)) := by
  refine go_fn (tyOf_ok _) Try.func55 rfl rfl (by rw [Try.results55]) Try.ntmps55 rfl fun E => ?_
  have h4 : I64 4 := by unfold I64; omega
  (repeat' (first
    | exact trivial
    | (with_reducible first | refine awA ?_ | refine awB ?_ | refine awC ?_ | refine awD ?_ | refine awE ?_ | refine awF ?_ | refine awG ?_ | refine awH ?_ | refine awI ?_ | refine awJ ?_ | refine awK ?_ | refine awL ?_ | refine awM (by decide) ?_)
    | ((with_reducible first | refine awN (tyOf_ok _) [] ?_ | refine awO (tyOf_ok _) [] ?_ | refine awP (tyOf_ok _) [] ?_ | refine awQ ?_ | refine awR ?_ | refine awS ?_); intro r hr; simp only [go_sem, Nat.reduceBEq, Nat.reduceBneDiff, Nat.reduceLT, Nat.reduceLeDiff, Nat.reduceAdd, Nat.reduceMul, Nat.reduceSub, Nat.reduceEqDiff, reduceCtorEq] at hr; subst hr; (first | refine caA (fun _ => plus2_p 4 b h4 hb) rfl ?_ ?_ ?_ | refine awV ?_ ?_ | refine awW ?_ ?_ | refine endK ?_ ?_ | (refine condK (fun h => ?_) (fun h => ?_) <;> (try simp only [go_sem, reduceCtorEq] at h) <;> (try (exfalso; omega))))) | fail)) <;> (try omega)
  · show AV.v _ = AV.v _
    rw [withinM, if_pos h]
  · show AV.v _ = AV.v _
    rw [withinM, if_neg (by rw [h]; decide)]
/-- a slot: at, variable, size -/
def slotM (fixed : Bool) (most a : Int) : AV := .agg [vI a, vB (!fixed), vI (if fixed = true then most else 4)]
theorem lslot_any (e : ExtM) (a : Int) : PCall Try.prog 47 [.agg [vB e.fixed, vI e.least, vI e.most, vI e.depth], vI a] (fun r => r = slotM e.fixed e.most a) := by
  refine go_fn (tyOf_ok _) Try.func47 rfl rfl (by rw [Try.results47]) Try.ntmps47 rfl fun E => ?_
  (repeat' (first
    | exact trivial
    | (with_reducible first | refine awA ?_ | refine awB ?_ | refine awC ?_ | refine awD ?_ | refine awE ?_ | refine awF ?_ | refine awG ?_ | refine awH ?_ | refine awI ?_ | refine awJ ?_ | refine awK ?_ | refine awL ?_ | refine awM (by decide) ?_)
    | ((with_reducible first | refine awN (tyOf_ok _) [] ?_ | refine awO (tyOf_ok _) [] ?_ | refine awP (tyOf_ok _) [] ?_ | refine awQ ?_ | refine awR ?_ | refine awS ?_); intro r hr; simp only [go_sem, Nat.reduceBEq, Nat.reduceBneDiff, Nat.reduceLT, Nat.reduceLeDiff, Nat.reduceAdd, Nat.reduceMul, Nat.reduceSub, Nat.reduceEqDiff, reduceCtorEq] at hr; subst hr; (first | refine awV ?_ ?_ | refine awW ?_ ?_ | refine endK ?_ ?_ | (refine condK (fun h => ?_) (fun h => ?_) <;> (try simp only [go_sem, reduceCtorEq] at h) <;> (try (exfalso; omega))))) | fail)) <;> (try omega)
  · rw [slotM, h]; exact rfl
  · rw [slotM, h]; exact rfl
theorem rslot_any (e : ExtM) (a : Int) : PCall Try.prog 28 [.agg [vB e.fixed, vI e.least, vI e.most, vI e.depth], vI a] (fun r => r = slotM e.fixed e.least a) := by
  refine go_fn (tyOf_ok _) Try.func28 rfl rfl (by rw [Try.results28]) Try.ntmps28 rfl fun E => ?_
  (repeat' (first
    | exact trivial
    | (with_reducible first | refine awA ?_ | refine awB ?_ | refine awC ?_ | refine awD ?_ | refine awE ?_ | refine awF ?_ | refine awG ?_ | refine awH ?_ | refine awI ?_ | refine awJ ?_ | refine awK ?_ | refine awL ?_ | refine awM (by decide) ?_)
    | ((with_reducible first | refine awN (tyOf_ok _) [] ?_ | refine awO (tyOf_ok _) [] ?_ | refine awP (tyOf_ok _) [] ?_ | refine awQ ?_ | refine awR ?_ | refine awS ?_); intro r hr; simp only [go_sem, Nat.reduceBEq, Nat.reduceBneDiff, Nat.reduceLT, Nat.reduceLeDiff, Nat.reduceAdd, Nat.reduceMul, Nat.reduceSub, Nat.reduceEqDiff, reduceCtorEq] at hr; subst hr; (first | refine awV ?_ ?_ | refine awW ?_ ?_ | refine endK ?_ ?_ | (refine condK (fun h => ?_) (fun h => ?_) <;> (try simp only [go_sem, reduceCtorEq] at h) <;> (try (exfalso; omega))))) | fail)) <;> (try omega)
  · rw [slotM, h]; exact rfl
  · rw [slotM, h]; exact rfl
end Go.Proofs.Ytljfgohecmhchaa
end

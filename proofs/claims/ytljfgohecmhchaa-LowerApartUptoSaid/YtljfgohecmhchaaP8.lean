import Derived.Test.YtljfgohecmhchaaP7
set_option linter.all false
section
namespace Go.Proofs.Ytljfgohecmhchaa
open Go.RowKit
set_option maxRecDepth 100000
set_option maxHeartbeats 8000000
/-! Package lower: what lays instructions, and marks. -/
structure InsM where
  op : Int
  a : Int
  b : Int
  c : Int
deriving DecidableEq
def encI (x : InsM) : List AV := [vI x.op, vI x.a, vI x.b, vI x.c]
def encIs (l : List InsM) : List (List AV) := l.map encI
theorem encIs_len (l : List InsM) : (encIs l).length = l.length := by simp [encIs]
theorem encIs_get {l : List InsM} {k : Nat} (h : k < l.length) : (encIs l)[k]? = some [vI l[k].op, vI l[k].a, vI l[k].b, vI l[k].c] := by simp [encIs, encI, h]
theorem encIs_app (l : List InsM) (a b c d : Int) : encIs l ++ [[vI a, vI b, vI c, vI d]] = encIs (l ++ [⟨a, b, c, d⟩]) := by simp [encIs, encI]
abbrev nilW : AV := .v (.slice none 0 0)
/-- what a maker is: the schema, its extents, its layouts, the code so far, the entries -/
def mkV (ts : List TypeM) (rs : List RootM) (X : List ExtM) (Y : List LayM) (c n : Nat) : List AV := [.lst 4 (encTs ts), .lst 2 (encRs rs), .lst 4 (encEs X), .lst 2 (encLs Y), .v (.bool false), .ref 40 4 15000 0 c, .ref 3 1 15001 0 n]
def obm (ts : List TypeM) (rs : List RootM) (X : List ExtM) (Y : List LayM) (N : List Int) (C : List InsM) : List (Nat × AObj) := [(10000, .var (mkV ts rs X Y C.length N.length)), (15000, .row 40 4 (encIs C)), (15001, .row 3 1 (v8 N))]
section
variable {ts : List TypeM} {rs : List RootM} {X : List ExtM} {Y : List LayM} {N : List Int}
theorem lay_G (C : List InsM) (hC : C.length ≤ 1000000000) (op a b c : Int) :
    GCall Try.prog 40 [.ptr 1 10000 0 0, vI op, vI a, vI b, vI c] (obm ts rs X Y N C) (.tup []) (obm ts rs X Y N (C ++ [⟨op, a, b, c⟩])) := by
  refine go_fnG (tyOf_ok _) Try.func40 rfl rfl (by rw [Try.results40]) Try.ntmps40 rfl fun E => ?_
  have htk : (encIs C).take C.length = encIs C := take_len (by rw [encIs_len]; exact Nat.le_refl _)
  have hl : (C ++ [⟨op, a, b, c⟩] : List InsM).length = C.length + 1 := by simp
  (repeat' (first
    | exact trivial
    | (with_reducible first | refine awA ?_ | refine awB ?_ | refine awC ?_ | refine awD ?_ | refine awE ?_ | refine awF ?_ | refine awG ?_ | refine awH ?_ | refine awI ?_ | refine awJ ?_ | refine awK ?_ | refine awL ?_ | refine awM (by decide) ?_)
    | ((with_reducible first | refine awN (tyOf_ok _) [] ?_ | refine awO (tyOf_ok _) [] ?_ | refine awP (tyOf_ok _) [] ?_ | refine awQ ?_ | refine awR ?_ | refine awS ?_ | refine awT ?_ | refine awU ?_); intro r hr; simp only [go_sem, Nat.reduceBEq, Nat.reduceBneDiff, Nat.reduceLT, Nat.reduceLeDiff, Nat.reduceAdd, Nat.reduceMul, Nat.reduceSub, Nat.reduceEqDiff, reduceCtorEq, obm, mkV, encIs_len, htk, hl, encIs_app] at hr; subst hr; (first | refine awV ?_ ?_ | refine awW ?_ ?_ | refine endK ?_ ?_ | refine endGK ?_ ?_ ?_ | (refine condK (fun h => ?_) (fun h => ?_) <;> (try simp only [go_sem, reduceCtorEq] at h) <;> (try (exfalso; omega))))) | fail)) <;> (try omega)
  · exact AV.up_rfl _
  · unfold obm mkV
    rw [hl]
    exact obUp_cons rfl (obUp_cons rfl (obUp_cons rfl obUp_nil))
/-- what reads a value of a type as a kid -/
def readF (T : TypeM) (kid t : Int) : InsM := if T.kind = 1 then ⟨1, kid, T.n, 0⟩ else if T.kind = 2 then ⟨3, kid, 0, 0⟩ else if T.kind = 3 then ⟨4, kid, 0, 0⟩ else ⟨16, kid, 0, t⟩
theorem read_G (C : List InsM) (hC : C.length ≤ 1000000000) (kid : Int) (t : Nat) (ht : t < ts.length) :
    GCall Try.prog 32 [.ptr 1 10000 0 0, vI kid, vI t] (obm ts rs X Y N C) (.tup []) (obm ts rs X Y N (C ++ [readF ts[t] kid t])) := by
  refine go_fnG (tyOf_ok _) Try.func32 rfl rfl (by rw [Try.results32]) Try.ntmps32 rfl fun E => ?_
  have g1 := encTs_get ht
  have zt : ((t : Int)).toNat = t := by omega
  generalize hT : ts[t] = T at *
  have hl := fun op a b c => lay_G (ts := ts) (rs := rs) (X := X) (Y := Y) (N := N) C hC op a b c
  by_cases h1 : T.kind = 1
  · have e1 : (T.kind = 1) = True := eq_true h1
    have hR : readF T kid t = ⟨1, kid, T.n, 0⟩ := by rw [readF, if_pos h1]
    have hl := hl 1 kid T.n 0
    rw [hR]
    generalize hC' : (C ++ [⟨1, kid, T.n, 0⟩] : List InsM) = C' at *
    simp only [obm, mkV] at hl
    (repeat' (first
    | exact trivial
    | (with_reducible first | refine awA ?_ | refine awB ?_ | refine awC ?_ | refine awD ?_ | refine awE ?_ | refine awF ?_ | refine awG ?_ | refine awH ?_ | refine awI ?_ | refine awJ ?_ | refine awK ?_ | refine awL ?_ | refine awM (by decide) ?_)
    | ((with_reducible first | refine awN (tyOf_ok _) [] ?_ | refine awO (tyOf_ok _) [] ?_ | refine awP (tyOf_ok _) [] ?_ | refine awQ ?_ | refine awR ?_ | refine awS ?_ | refine awT ?_ | refine awU ?_); intro r hr; simp only [go_sem, Nat.reduceBEq, Nat.reduceBneDiff, Nat.reduceLT, Nat.reduceLeDiff, Nat.reduceAdd, Nat.reduceMul, Nat.reduceSub, Nat.reduceEqDiff, reduceCtorEq, obm, mkV, encTs_len, g1, zt, e1] at hr; subst hr; (first | refine awV ?_ ?_ | refine awW ?_ ?_ | refine endK ?_ ?_ | refine endGK ?_ ?_ ?_ | (refine condK (fun h => ?_) (fun h => ?_) <;> (try simp only [go_sem, reduceCtorEq] at h) <;> (try (exfalso; omega)))))
    | (refine go_callGE [(10000, 10000), (15000, 15000), (15001, 15001)] [(10000, 10000), (15000, 15000), (15001, 15001)] [15000, 15001] [10000] ?_; intro r hr; simp only [go_sem, Nat.reduceBEq, Nat.reduceBneDiff, Nat.reduceLT, Nat.reduceLeDiff, Nat.reduceAdd, Nat.reduceMul, Nat.reduceSub, Nat.reduceEqDiff, reduceCtorEq, obm, mkV, encTs_len, g1, zt, e1] at hr; subst hr; refine callGK (hl) rfl rfl (by first | exact .inl rfl | exact .inr rfl) ?_ (.inl rfl) ?_) | fail)) <;> (try omega)
    all_goals (first | exact AV.up_rfl _ | (repeat first | exact obUp_nil | refine obUp_cons rfl ?_))
  have e1 : (T.kind = 1) = False := eq_false h1
  by_cases h2 : T.kind = 2
  · have e2 : (T.kind = 2) = True := eq_true h2
    have hR : readF T kid t = ⟨3, kid, 0, 0⟩ := by rw [readF, if_neg h1, if_pos h2]
    have hl := hl 3 kid 0 0
    rw [hR]
    generalize hC' : (C ++ [⟨3, kid, 0, 0⟩] : List InsM) = C' at *
    simp only [obm, mkV] at hl
    (repeat' (first
    | exact trivial
    | (with_reducible first | refine awA ?_ | refine awB ?_ | refine awC ?_ | refine awD ?_ | refine awE ?_ | refine awF ?_ | refine awG ?_ | refine awH ?_ | refine awI ?_ | refine awJ ?_ | refine awK ?_ | refine awL ?_ | refine awM (by decide) ?_)
    | ((with_reducible first | refine awN (tyOf_ok _) [] ?_ | refine awO (tyOf_ok _) [] ?_ | refine awP (tyOf_ok _) [] ?_ | refine awQ ?_ | refine awR ?_ | refine awS ?_ | refine awT ?_ | refine awU ?_); intro r hr; simp only [go_sem, Nat.reduceBEq, Nat.reduceBneDiff, Nat.reduceLT, Nat.reduceLeDiff, Nat.reduceAdd, Nat.reduceMul, Nat.reduceSub, Nat.reduceEqDiff, reduceCtorEq, obm, mkV, encTs_len, g1, zt, e1, e2] at hr; subst hr; (first | refine awV ?_ ?_ | refine awW ?_ ?_ | refine endK ?_ ?_ | refine endGK ?_ ?_ ?_ | (refine condK (fun h => ?_) (fun h => ?_) <;> (try simp only [go_sem, reduceCtorEq] at h) <;> (try (exfalso; omega)))))
    | (refine go_callGE [(10000, 10000), (15000, 15000), (15001, 15001)] [(10000, 10000), (15000, 15000), (15001, 15001)] [15000, 15001] [10000] ?_; intro r hr; simp only [go_sem, Nat.reduceBEq, Nat.reduceBneDiff, Nat.reduceLT, Nat.reduceLeDiff, Nat.reduceAdd, Nat.reduceMul, Nat.reduceSub, Nat.reduceEqDiff, reduceCtorEq, obm, mkV, encTs_len, g1, zt, e1, e2] at hr; subst hr; refine callGK (hl) rfl rfl (by first | exact .inl rfl | exact .inr rfl) ?_ (.inl rfl) ?_) | fail)) <;> (try omega)
    all_goals (first | exact AV.up_rfl _ | (repeat first | exact obUp_nil | refine obUp_cons rfl ?_))
  have e2 : (T.kind = 2) = False := eq_false h2
  by_cases h3 : T.kind = 3
  · have e3 : (T.kind = 3) = True := eq_true h3
    have hR : readF T kid t = ⟨4, kid, 0, 0⟩ := by rw [readF, if_neg h1, if_neg h2, if_pos h3]
    have hl := hl 4 kid 0 0
    rw [hR]
    generalize hC' : (C ++ [⟨4, kid, 0, 0⟩] : List InsM) = C' at *
    simp only [obm, mkV] at hl
    (repeat' (first
    | exact trivial
    | (with_reducible first | refine awA ?_ | refine awB ?_ | refine awC ?_ | refine awD ?_ | refine awE ?_ | refine awF ?_ | refine awG ?_ | refine awH ?_ | refine awI ?_ | refine awJ ?_ | refine awK ?_ | refine awL ?_ | refine awM (by decide) ?_)
    | ((with_reducible first | refine awN (tyOf_ok _) [] ?_ | refine awO (tyOf_ok _) [] ?_ | refine awP (tyOf_ok _) [] ?_ | refine awQ ?_ | refine awR ?_ | refine awS ?_ | refine awT ?_ | refine awU ?_); intro r hr; simp only [go_sem, Nat.reduceBEq, Nat.reduceBneDiff, Nat.reduceLT, Nat.reduceLeDiff, Nat.reduceAdd, Nat.reduceMul, Nat.reduceSub, Nat.reduceEqDiff, reduceCtorEq, obm, mkV, encTs_len, g1, zt, e1, e2, e3] at hr; subst hr; (first | refine awV ?_ ?_ | refine awW ?_ ?_ | refine endK ?_ ?_ | refine endGK ?_ ?_ ?_ | (refine condK (fun h => ?_) (fun h => ?_) <;> (try simp only [go_sem, reduceCtorEq] at h) <;> (try (exfalso; omega)))))
    | (refine go_callGE [(10000, 10000), (15000, 15000), (15001, 15001)] [(10000, 10000), (15000, 15000), (15001, 15001)] [15000, 15001] [10000] ?_; intro r hr; simp only [go_sem, Nat.reduceBEq, Nat.reduceBneDiff, Nat.reduceLT, Nat.reduceLeDiff, Nat.reduceAdd, Nat.reduceMul, Nat.reduceSub, Nat.reduceEqDiff, reduceCtorEq, obm, mkV, encTs_len, g1, zt, e1, e2, e3] at hr; subst hr; refine callGK (hl) rfl rfl (by first | exact .inl rfl | exact .inr rfl) ?_ (.inl rfl) ?_) | fail)) <;> (try omega)
    all_goals (first | exact AV.up_rfl _ | (repeat first | exact obUp_nil | refine obUp_cons rfl ?_))
  have e3 : (T.kind = 3) = False := eq_false h3
  have hR : readF T kid t = ⟨16, kid, 0, t⟩ := by rw [readF, if_neg h1, if_neg h2, if_neg h3]
  have hl := hl 16 kid 0 t
  rw [hR]
  generalize hC' : (C ++ [⟨16, kid, 0, t⟩] : List InsM) = C' at *
  simp only [obm, mkV] at hl
  (repeat' (first
    | exact trivial
    | (with_reducible first | refine awA ?_ | refine awB ?_ | refine awC ?_ | refine awD ?_ | refine awE ?_ | refine awF ?_ | refine awG ?_ | refine awH ?_ | refine awI ?_ | refine awJ ?_ | refine awK ?_ | refine awL ?_ | refine awM (by decide) ?_)
    | ((with_reducible first | refine awN (tyOf_ok _) [] ?_ | refine awO (tyOf_ok _) [] ?_ | refine awP (tyOf_ok _) [] ?_ | refine awQ ?_ | refine awR ?_ | refine awS ?_ | refine awT ?_ | refine awU ?_); intro r hr; simp only [go_sem, Nat.reduceBEq, Nat.reduceBneDiff, Nat.reduceLT, Nat.reduceLeDiff, Nat.reduceAdd, Nat.reduceMul, Nat.reduceSub, Nat.reduceEqDiff, reduceCtorEq, obm, mkV, encTs_len, g1, zt, e1, e2, e3] at hr; subst hr; (first | refine awV ?_ ?_ | refine awW ?_ ?_ | refine endK ?_ ?_ | refine endGK ?_ ?_ ?_ | (refine condK (fun h => ?_) (fun h => ?_) <;> (try simp only [go_sem, reduceCtorEq] at h) <;> (try (exfalso; omega)))))
    | (refine go_callGE [(10000, 10000), (15000, 15000), (15001, 15001)] [(10000, 10000), (15000, 15000), (15001, 15001)] [15000, 15001] [10000] ?_; intro r hr; simp only [go_sem, Nat.reduceBEq, Nat.reduceBneDiff, Nat.reduceLT, Nat.reduceLeDiff, Nat.reduceAdd, Nat.reduceMul, Nat.reduceSub, Nat.reduceEqDiff, reduceCtorEq, obm, mkV, encTs_len, g1, zt, e1, e2, e3] at hr; subst hr; refine callGK (hl) rfl rfl (by first | exact .inl rfl | exact .inr rfl) ?_ (.inl rfl) ?_) | fail)) <;> (try omega)
  all_goals (first | exact AV.up_rfl _ | (repeat first | exact obUp_nil | refine obUp_cons rfl ?_))
end
end Go.Proofs.Ytljfgohecmhchaa
end
section
namespace Go.Proofs.Ytljfgohecmhchaa
open Go.RowKit
set_option maxRecDepth 100000
set_option maxHeartbeats 8000000
/-! Marks of package lower. -/
/-- of a row, the first ones in their new state -/
def ovk {α : Type} (z y : α) (n i : Nat) : List α := List.replicate i z ++ List.replicate (n - i) y
theorem ovk_len {α : Type} (z y : α) {n i : Nat} (h : i ≤ n) : (ovk z y n i).length = n := by simp [ovk]; omega
theorem ovk_0 {α : Type} (z y : α) (n : Nat) : ovk z y n 0 = List.replicate n y := by simp [ovk]
theorem ovk_end {α : Type} (z y : α) (n : Nat) : ovk z y n n = List.replicate n z := by simp [ovk]
theorem ovk_get {α : Type} (z y : α) {n i : Nat} (h : i < n) : (ovk z y n i)[i]? = some y := by
  rw [ovk, List.getElem?_append_right (by simp), List.length_replicate, Nat.sub_self, List.getElem?_replicate, if_pos (by omega)]
theorem ovk_set {α : Type} (z y : α) {n i : Nat} (h : i < n) : (ovk z y n i).set i z = ovk z y n (i + 1) := by
  apply List.ext_getElem?
  intro j
  rw [List.getElem?_set]
  have hl := ovk_len z y (show i ≤ n by omega)
  by_cases hj : i = j
  · subst hj
    rw [if_pos rfl, if_pos (show i < (ovk z y n i).length by omega), ovk, List.getElem?_append_left (by simp), List.getElem?_replicate, if_pos (show i < i + 1 by omega)]
  · rw [if_neg hj]
    simp only [ovk, List.getElem?_append, List.length_replicate, List.getElem?_replicate]
    by_cases h1 : j < i
    · simp [h1, show j < i + 1 by omega]
    · have h3 : ¬ j < i + 1 := by omega
      by_cases h2 : j < n
      · simp [h1, h3, show j - i < n - i by omega, show j - (i + 1) < n - (i + 1) by omega]
      · simp [h1, h3, show ¬ j - i < n - i by omega, show ¬ j - (i + 1) < n - (i + 1) by omega]
def mkn : List AV := [vI (-1), nilW]
theorem marks_G (n : Nat) (hn : n ≤ 1000000) : GCall Try.prog 35 [vI n] [] (.ref 94 2 6 0 n) [(6, .row 94 2 (List.replicate n mkn))] := by
  refine go_fnG (tyOf_ok _) Try.func35 rfl rfl (by rw [Try.results35]) Try.ntmps35 rfl fun E => ?_
  have zn : ((n : Int)).toNat = n := by omega
  have hz : List.replicate n [vI 0, nilW] = ovk mkn [vI 0, nilW] n 0 := (ovk_0 _ _ _).symm
  have e0 : (0 ≤ (n : Int)) = True := eq_true (by omega)
  (repeat' (first
    | exact trivial
    | (with_reducible first | refine awA ?_ | refine awB ?_ | refine awC ?_ | refine awD ?_ | refine awE ?_ | refine awF ?_ | refine awG ?_ | refine awH ?_ | refine awI ?_ | refine awJ ?_ | refine awK ?_ | refine awL ?_ | refine awM (by decide) ?_)
    | ((with_reducible first | refine awN (tyOf_ok _) [] ?_ | refine awO (tyOf_ok _) [] ?_ | refine awP (tyOf_ok _) [] ?_ | refine awQ ?_ | refine awR ?_ | refine awS ?_ | refine awT ?_ | refine awU ?_); intro r hr; simp only [go_sem, Nat.reduceBEq, Nat.reduceBneDiff, Nat.reduceLT, Nat.reduceLeDiff, Nat.reduceAdd, Nat.reduceMul, Nat.reduceSub, Nat.reduceEqDiff, reduceCtorEq, zn, e0] at hr; subst hr; (first | refine awV ?_ ?_ | refine awW ?_ ?_ | refine endK ?_ ?_ | refine endGK ?_ ?_ ?_ | (refine condK (fun h => ?_) (fun h => ?_) <;> (try simp only [go_sem, reduceCtorEq] at h) <;> (try (exfalso; omega))))) | fail)) <;> (try omega)
  rw [hz]
  refine go_loop [3, 8, 9] [6] (fun i : Nat => ⟨[(3, true, .ref 94 2 6 0 n), (8, true, vI n), (9, true, vI i)], [(6, .row 94 2 (ovk mkn [vI 0, nilW] n i))]⟩)
    (fun i => i ≤ n) (fun i => n - i) 0 (by simp only [go_sem, Nat.reduceBEq, Nat.reduceBneDiff, Nat.reduceLT, Nat.reduceLeDiff, Nat.reduceAdd, Nat.reduceMul, Nat.reduceSub, Nat.reduceEqDiff, reduceCtorEq] <;> exact rfl) (Nat.zero_le _) ?_
  intro i hi
  have hw := wrap_i64 (n := (i : Int) + 1) (by omega)
  have hl := ovk_len mkn [vI 0, nilW] (n := n) hi
  by_cases hlt : i < n
  · have f1 : ((i : Int) < n) = True := eq_true (by omega)
    have g1 := ovk_get mkn [vI 0, nilW] hlt
    have g2 : (ovk mkn [vI 0, nilW] n i).set i [vI (-1), nilW] = ovk mkn [vI 0, nilW] n (i + 1) := ovk_set mkn [vI 0, nilW] hlt
    have zi : ((i : Int)).toNat = i := by omega
    (repeat' (first
    | exact trivial
    | (with_reducible first | refine awA ?_ | refine awB ?_ | refine awC ?_ | refine awD ?_ | refine awE ?_ | refine awF ?_ | refine awG ?_ | refine awH ?_ | refine awI ?_ | refine awJ ?_ | refine awK ?_ | refine awL ?_ | refine awM (by decide) ?_)
    | ((with_reducible first | refine awN (tyOf_ok _) [] ?_ | refine awO (tyOf_ok _) [] ?_ | refine awP (tyOf_ok _) [] ?_ | refine awQ ?_ | refine awR ?_ | refine awS ?_ | refine awT ?_ | refine awU ?_); intro r hr; simp only [go_sem, Nat.reduceBEq, Nat.reduceBneDiff, Nat.reduceLT, Nat.reduceLeDiff, Nat.reduceAdd, Nat.reduceMul, Nat.reduceSub, Nat.reduceEqDiff, reduceCtorEq, f1, g1, g2, hl, hw, zi] at hr; subst hr; (first | refine awV ?_ ?_ | refine awW ?_ ?_ | refine endK ?_ ?_ | refine endGK ?_ ?_ ?_ | (refine condK (fun h => ?_) (fun h => ?_) <;> (try simp only [go_sem, reduceCtorEq] at h) <;> (try (exfalso; omega))))) | fail)) <;> (try omega)
    all_goals exact ⟨i + 1, by simp only [go_sem, Nat.reduceBEq, Nat.reduceBneDiff, Nat.reduceLT, Nat.reduceLeDiff, Nat.reduceAdd, Nat.reduceMul, Nat.reduceSub, Nat.reduceEqDiff, reduceCtorEq] <;> exact rfl, hlt, by omega⟩
  · have f1 : ((i : Int) < n) = False := eq_false (by omega)
    have hie : i = n := by omega
    subst hie
    rw [ovk_end]
    (repeat' (first
    | exact trivial
    | (with_reducible first | refine awA ?_ | refine awB ?_ | refine awC ?_ | refine awD ?_ | refine awE ?_ | refine awF ?_ | refine awG ?_ | refine awH ?_ | refine awI ?_ | refine awJ ?_ | refine awK ?_ | refine awL ?_ | refine awM (by decide) ?_)
    | ((with_reducible first | refine awN (tyOf_ok _) [] ?_ | refine awO (tyOf_ok _) [] ?_ | refine awP (tyOf_ok _) [] ?_ | refine awQ ?_ | refine awR ?_ | refine awS ?_ | refine awT ?_ | refine awU ?_); intro r hr; simp only [go_sem, Nat.reduceBEq, Nat.reduceBneDiff, Nat.reduceLT, Nat.reduceLeDiff, Nat.reduceAdd, Nat.reduceMul, Nat.reduceSub, Nat.reduceEqDiff, reduceCtorEq, f1] at hr; subst hr; (first | refine awV ?_ ?_ | refine awW ?_ ?_ | refine endK ?_ ?_ | refine endGK ?_ ?_ ?_ | (refine condK (fun h => ?_) (fun h => ?_) <;> (try simp only [go_sem, reduceCtorEq] at h) <;> (try (exfalso; omega))))) | fail)) <;> (try omega)
    all_goals (first | exact AV.up_rfl _ | (repeat first | exact obUp_nil | refine obUp_cons rfl ?_))
theorem mkn_nm (n : Nat) : ∀ cs ∈ List.replicate n [vI (-1), nilW], ∀ u ∈ cs, ∃ x, u = .v x := by
  intro cs hcs u hu
  rw [(List.mem_replicate.1 hcs).2] at hu
  simp only [List.mem_cons, List.not_mem_nil, or_false] at hu
  rcases hu with rfl | rfl <;> exact ⟨_, rfl⟩
/-- instructions get their target -/
def setB (C : List InsM) (w B : Int) : List InsM := C.set w.toNat ⟨(C[w.toNat]?.getD ⟨0, 0, 0, 0⟩).op, (C[w.toNat]?.getD ⟨0, 0, 0, 0⟩).a, B, (C[w.toNat]?.getD ⟨0, 0, 0, 0⟩).c⟩
def patch (C : List InsM) (ws : List Int) (B : Int) : List InsM := ws.foldl (fun C w => setB C w B) C
theorem setB_len (C : List InsM) (w B : Int) : (setB C w B).length = C.length := by simp [setB]
theorem patch_len (ws : List Int) (B : Int) : ∀ C : List InsM, (patch C ws B).length = C.length := by
  induction ws with
  | nil => intro C; rfl
  | cons w ws ih => intro C; rw [patch, List.foldl_cons]; exact (ih _).trans (setB_len _ _ _)
def encKs (l : List (Int × AV)) : List (List AV) := l.map fun m => [vI m.1, m.2]
section
variable {ts : List TypeM} {rs : List RootM} {X : List ExtM} {Y : List LayM} {N : List Int}
/-- a target that is known -/
theorem to_known (C : List InsM) (hC : C.length ≤ 1000000000) (K : List (List AV)) (i : Nat) (at_ : Int) (W : AV) (hK : K[i]? = some [vI at_, W]) (ha : 0 ≤ at_) (op a : Int) :
    GCall Try.prog 36 [.ptr 1 10000 0 0, .ptr 2 10001 i 0, vI op, vI a] (obm ts rs X Y N C ++ [(10001, .row 94 2 K)]) (.tup []) (obm ts rs X Y N (C ++ [⟨op, a, at_, 0⟩]) ++ [(10001, .row 94 2 K)]) := by
  refine go_fnG (tyOf_ok _) Try.func36 rfl rfl (by rw [Try.results36]) Try.ntmps36 rfl fun E => ?_
  have hl := lay_G (ts := ts) (rs := rs) (X := X) (Y := Y) (N := N) C hC op a at_ 0
  have e1 : (at_ < 0) = False := eq_false (by omega)
  generalize hC' : (C ++ [⟨op, a, at_, 0⟩] : List InsM) = C' at *
  simp only [obm, mkV] at hl
  have hi : i < K.length := (List.getElem?_eq_some_iff.1 hK).1
  (repeat' (first
    | exact trivial
    | (with_reducible first | refine awA ?_ | refine awB ?_ | refine awC ?_ | refine awD ?_ | refine awE ?_ | refine awF ?_ | refine awG ?_ | refine awH ?_ | refine awI ?_ | refine awJ ?_ | refine awK ?_ | refine awL ?_ | refine awM (by decide) ?_)
    | (refine aw_draw (id := 1) (t := (.node [0, 1, 2, 3, 4, 5, 6, 7, 8, 9, 10, 11, 12, 13, 14, 15] [])) (drR [10000] [17] []) mixed (by kernel_rfl) (by kernel_rfl) (fun _ _ h => h) ?_)
    | (refine at_done (by simp only [List.filterMap_cons, List.filterMap_nil, List.getElem?_toArray, List.getElem?_cons_zero, List.getElem?_cons_succ]; exact rfl) ?_) | (refine at_alt (by simp only [List.filterMap_cons, List.filterMap_nil, List.getElem?_toArray, List.getElem?_cons_zero, List.getElem?_cons_succ]; exact rfl) ?_) | refine qalt_normal ?_ | refine ats_cons ?_ ?_ | exact ats_nil
    | ((with_reducible first | refine awN (tyOf_ok _) [] ?_ | refine awO (tyOf_ok _) [] ?_ | refine awP (tyOf_ok _) [] ?_ | refine awQ ?_ | refine awR ?_ | refine awS ?_ | refine awT ?_ | refine awU ?_); intro r hr; simp only [go_sem, Nat.reduceBEq, Nat.reduceBneDiff, Nat.reduceLT, Nat.reduceLeDiff, Nat.reduceAdd, Nat.reduceMul, Nat.reduceSub, Nat.reduceEqDiff, reduceCtorEq, obm, mkV, hK, e1, List.cons_append, List.nil_append] at hr; subst hr; (first | refine awV ?_ ?_ | refine awW ?_ ?_ | refine endK ?_ ?_ | refine endGK ?_ ?_ ?_ | (refine condK (fun h => ?_) (fun h => ?_) <;> (try simp only [go_sem, reduceCtorEq] at h) <;> (try (exfalso; omega)))))
    | (refine go_callGE [(10000, 10000), (15000, 15000), (15001, 15001)] [(10000, 10000), (15000, 15000), (15001, 15001)] [15000, 15001] [10000] ?_; intro r hr; simp only [go_sem, Nat.reduceBEq, Nat.reduceBneDiff, Nat.reduceLT, Nat.reduceLeDiff, Nat.reduceAdd, Nat.reduceMul, Nat.reduceSub, Nat.reduceEqDiff, reduceCtorEq, obm, mkV, hK, e1, List.cons_append, List.nil_append] at hr; subst hr; refine callGK (hl) rfl rfl (by first | exact .inl rfl | exact .inr rfl) ?_ (.inl rfl) ?_) | fail)) <;> (try omega)
  all_goals (first | exact AV.up_rfl _ | (repeat first | exact obUp_nil | refine obUp_cons rfl ?_))
/-- a target that is not known yet: the mark waits -/
theorem to_wait (C : List InsM) (hC : C.length ≤ 1000000000) (K : List (List AV)) (i : Nat) (at_ : Int) (hK : K[i]? = some [vI at_, nilW]) (ha : at_ < 0) (op a : Int) :
    GCall Try.prog 36 [.ptr 1 10000 0 0, .ptr 2 10001 i 0, vI op, vI a] (obm ts rs X Y N C ++ [(10001, .row 94 2 K)]) (.tup []) (obm ts rs X Y N (C ++ [⟨op, a, at_, 0⟩]) ++ [(10001, .row 94 2 (K.set i [vI at_, .lsx 1 [[vI (C.length : Int)]] []]))]) := by
  refine go_fnG (tyOf_ok _) Try.func36 rfl rfl (by rw [Try.results36]) Try.ntmps36 rfl fun E => ?_
  have hl := lay_G (ts := ts) (rs := rs) (X := X) (Y := Y) (N := N) C hC op a at_ 0
  have e1 : (at_ < 0) = True := eq_true (by omega)
  generalize hC' : (C ++ [⟨op, a, at_, 0⟩] : List InsM) = C' at *
  simp only [obm, mkV] at hl
  have hi : i < K.length := (List.getElem?_eq_some_iff.1 hK).1
  have g2 : (K.set i [vI at_, .lsx 1 [[vI (C.length : Int)]] []])[i]? = some [vI at_, .lsx 1 [[vI (C.length : Int)]] []] := by rw [List.getElem?_set_self hi]
  (repeat' (first
    | exact trivial
    | (with_reducible first | refine awA ?_ | refine awB ?_ | refine awC ?_ | refine awD ?_ | refine awE ?_ | refine awF ?_ | refine awG ?_ | refine awH ?_ | refine awI ?_ | refine awJ ?_ | refine awK ?_ | refine awL ?_ | refine awM (by decide) ?_)
    | (refine aw_draw (id := 1) (t := (.node [0, 1, 2, 3, 4, 5, 6, 7, 8, 9, 10, 11, 12, 13, 14, 15] [])) (drR [10000] [17] []) mixed (by kernel_rfl) (by kernel_rfl) (fun _ _ h => h) ?_)
    | (refine at_done (by simp only [List.filterMap_cons, List.filterMap_nil, List.getElem?_toArray, List.getElem?_cons_zero, List.getElem?_cons_succ]; exact rfl) ?_) | (refine at_alt (by simp only [List.filterMap_cons, List.filterMap_nil, List.getElem?_toArray, List.getElem?_cons_zero, List.getElem?_cons_succ]; exact rfl) ?_) | refine qalt_normal ?_ | refine ats_cons ?_ ?_ | exact ats_nil
    | ((with_reducible first | refine awN (tyOf_ok _) [25] ?_ | refine awO (tyOf_ok _) [25] ?_ | refine awP (tyOf_ok _) [25] ?_ | refine awQ ?_ | refine awR ?_ | refine awS ?_ | refine awT ?_ | refine awU ?_); intro r hr; simp only [go_sem, Nat.reduceBEq, Nat.reduceBneDiff, Nat.reduceLT, Nat.reduceLeDiff, Nat.reduceAdd, Nat.reduceMul, Nat.reduceSub, Nat.reduceEqDiff, reduceCtorEq, obm, mkV, hK, e1, encIs_len, g2, List.cons_append, List.nil_append] at hr; subst hr; (first | refine awV ?_ ?_ | refine awW ?_ ?_ | refine endK ?_ ?_ | refine endGK ?_ ?_ ?_ | (refine condK (fun h => ?_) (fun h => ?_) <;> (try simp only [go_sem, reduceCtorEq] at h) <;> (try (exfalso; omega)))))
    | (refine go_callGE [(10000, 10000), (15000, 15000), (15001, 15001)] [(10000, 10000), (15000, 15000), (15001, 15001)] [15000, 15001] [10000] ?_; intro r hr; simp only [go_sem, Nat.reduceBEq, Nat.reduceBneDiff, Nat.reduceLT, Nat.reduceLeDiff, Nat.reduceAdd, Nat.reduceMul, Nat.reduceSub, Nat.reduceEqDiff, reduceCtorEq, obm, mkV, hK, e1, encIs_len, g2, List.cons_append, List.nil_append] at hr; subst hr; refine callGK (hl) rfl rfl (by first | exact .inl rfl | exact .inr rfl) ?_ (.inl rfl) ?_) | fail)) <;> (try omega)
  all_goals (first | exact AV.up_rfl _ | (repeat first | exact obUp_nil | refine obUp_cons rfl ?_))
/-- the mark stands at the end of the code; what waited for it gets its target -/
theorem here_none (C : List InsM) (hC : C.length ≤ 1000000000) (K : List (List AV)) (i : Nat) (at_ : Int) (hK : K[i]? = some [vI at_, nilW]) :
    GCall Try.prog 37 [.ptr 1 10000 0 0, .ptr 2 10001 i 0] (obm ts rs X Y N C ++ [(10001, .row 94 2 K)]) (.tup []) (obm ts rs X Y N C ++ [(10001, .row 94 2 (K.set i [vI C.length, nilW]))]) := by
  refine go_fnG (tyOf_ok _) Try.func37 rfl rfl (by rw [Try.results37]) Try.ntmps37 rfl fun E => ?_
  have hi : i < K.length := (List.getElem?_eq_some_iff.1 hK).1
  have g2 : (K.set i [vI (C.length : Int), nilW])[i]? = some [vI (C.length : Int), nilW] := by rw [List.getElem?_set_self hi]
  (repeat' (first
    | exact trivial
    | (with_reducible first | refine awA ?_ | refine awB ?_ | refine awC ?_ | refine awD ?_ | refine awE ?_ | refine awF ?_ | refine awG ?_ | refine awH ?_ | refine awI ?_ | refine awJ ?_ | refine awK ?_ | refine awL ?_ | refine awM (by decide) ?_)
    | (refine aw_draw (id := 4) (t := (.node [0, 1, 2, 3, 4, 5, 6, 7, 8, 9, 10, 11, 12] [])) (drR [10000] [33] []) mixed (by kernel_rfl) (by kernel_rfl) (fun _ _ h => h) ?_)
    | (refine at_done (by simp only [List.filterMap_cons, List.filterMap_nil, List.getElem?_toArray, List.getElem?_cons_zero, List.getElem?_cons_succ]; exact rfl) ?_) | (refine at_alt (by simp only [List.filterMap_cons, List.filterMap_nil, List.getElem?_toArray, List.getElem?_cons_zero, List.getElem?_cons_succ]; exact rfl) ?_) | refine qalt_normal ?_ | refine ats_cons ?_ ?_ | exact ats_nil
    | ((with_reducible first | refine awN (tyOf_ok _) [] ?_ | refine awO (tyOf_ok _) [] ?_ | refine awP (tyOf_ok _) [] ?_ | refine awQ ?_ | refine awR ?_ | refine awS ?_ | refine awT ?_ | refine awU ?_); intro r hr; simp only [go_sem, Nat.reduceBEq, Nat.reduceBneDiff, Nat.reduceLT, Nat.reduceLeDiff, Nat.reduceAdd, Nat.reduceMul, Nat.reduceSub, Nat.reduceEqDiff, reduceCtorEq, obm, mkV, hK, encIs_len, g2, List.cons_append, List.nil_append] at hr; subst hr; (first | refine awV ?_ ?_ | refine awW ?_ ?_ | refine endK ?_ ?_ | refine endGK ?_ ?_ ?_ | (refine condK (fun h => ?_) (fun h => ?_) <;> (try simp only [go_sem, reduceCtorEq] at h) <;> (try (exfalso; omega))))) | fail)) <;> (try omega)
  refine go_loop [0, 1, 18, 19, 20] [10000, 10001, 15000, 15001] (fun _ : Unit => ⟨[(0, true, .ptr 1 10000 0 0), (1, true, .ptr 2 10001 i 0), (18, true, nilW), (19, true, vI 0), (20, true, vI 0)], [(10000, .var (mkV ts rs X Y C.length N.length)), (10001, .row 94 2 (K.set i [vI (C.length : Int), nilW])), (15000, .row 40 4 (encIs C)), (15001, .row 3 1 (v8 N))]⟩)
    (fun _ => True) (fun _ => 0) () (by simp only [mkV, go_sem, Nat.reduceBEq, Nat.reduceBneDiff, Nat.reduceLT, Nat.reduceLeDiff, Nat.reduceAdd, Nat.reduceMul, Nat.reduceSub, Nat.reduceEqDiff, reduceCtorEq] <;> exact rfl) trivial ?_
  intro _ _
  have hss : (K.set i [vI (C.length : Int), nilW]).set i [vI (C.length : Int), nilW] = K.set i [vI (C.length : Int), nilW] := by simp
  have hil : i < (K.set i [vI (C.length : Int), nilW]).length := by simpa using hi
  (repeat' (first
    | exact trivial
    | (with_reducible first | refine awA ?_ | refine awB ?_ | refine awC ?_ | refine awD ?_ | refine awE ?_ | refine awF ?_ | refine awG ?_ | refine awH ?_ | refine awI ?_ | refine awJ ?_ | refine awK ?_ | refine awL ?_ | refine awM (by decide) ?_)
    | (refine aw_draw (id := 4) (t := (.node [0, 1, 2, 3, 4, 5, 6, 7, 8, 9, 10, 11, 12] [])) (drR [10000] [33] []) mixed (by kernel_rfl) (by kernel_rfl) (fun _ _ h => h) ?_)
    | (refine at_done (by simp only [List.filterMap_cons, List.filterMap_nil, List.getElem?_toArray, List.getElem?_cons_zero, List.getElem?_cons_succ]; exact rfl) ?_) | (refine at_alt (by simp only [List.filterMap_cons, List.filterMap_nil, List.getElem?_toArray, List.getElem?_cons_zero, List.getElem?_cons_succ]; exact rfl) ?_) | refine qalt_normal ?_ | refine ats_cons ?_ ?_ | exact ats_nil
    | ((with_reducible first | refine awN (tyOf_ok _) [] ?_ | refine awO (tyOf_ok _) [] ?_ | refine awP (tyOf_ok _) [] ?_ | refine awQ ?_ | refine awR ?_ | refine awS ?_ | refine awT ?_ | refine awU ?_); intro r hr; simp only [go_sem, Nat.reduceBEq, Nat.reduceBneDiff, Nat.reduceLT, Nat.reduceLeDiff, Nat.reduceAdd, Nat.reduceMul, Nat.reduceSub, Nat.reduceEqDiff, reduceCtorEq, mkV, g2, hss, Int.cast_ofNat_Int, Int.reduceToNat, Int.reduceEq, Int.reduceLT, Int.reduceLE, Int.reduceNe] at hr; subst hr; (first | refine awV ?_ ?_ | refine awW ?_ ?_ | refine endK ?_ ?_ | refine endGK ?_ ?_ ?_ | (refine condK (fun h => ?_) (fun h => ?_) <;> (try simp only [go_sem, reduceCtorEq] at h) <;> (try (exfalso; omega))))) | fail)) <;> (try omega)
  all_goals (first | exact AV.up_rfl _ | (repeat first | exact obUp_nil | refine obUp_cons rfl ?_))
theorem patch_succ (C : List InsM) (ws : List Int) (B : Int) {k : Nat} (h : k < ws.length) : patch C (ws.take (k + 1)) B = setB (patch C (ws.take k) B) ws[k] B := by
  rw [patch, List.take_succ_eq_append_getElem h, List.foldl_append]; rfl
theorem encIs_setB (D : List InsM) (w : Nat) (hw : w < D.length) (B : Int) : (encIs D).set w [vI D[w].op, vI D[w].a, vI B, vI D[w].c] = encIs (setB D w B) := by
  unfold setB
  rw [Int.toNat_natCast, List.getElem?_eq_getElem hw, Option.getD_some, encIs, encIs, List.map_set]
  rfl
theorem here_ws (C : List InsM) (hC : C.length ≤ 1000000000) (K : List (List AV)) (i : Nat) (at_ : Int) (ws : List Int) (hK : K[i]? = some [vI at_, .lsx 1 (v8 ws) []]) (hws : ∀ w ∈ ws, 0 ≤ w ∧ w < C.length) (hwl : ws.length ≤ 1000000000) :
    GCall Try.prog 37 [.ptr 1 10000 0 0, .ptr 2 10001 i 0] (obm ts rs X Y N C ++ [(10001, .row 94 2 K)]) (.tup []) (obm ts rs X Y N (patch C ws C.length) ++ [(10001, .row 94 2 (K.set i [vI C.length, nilW]))]) := by
  refine go_fnG (tyOf_ok _) Try.func37 rfl rfl (by rw [Try.results37]) Try.ntmps37 rfl fun E => ?_
  have hi : i < K.length := (List.getElem?_eq_some_iff.1 hK).1
  have g2 : (K.set i [vI (C.length : Int), .lsx 1 (v8 ws) []])[i]? = some [vI (C.length : Int), .lsx 1 (v8 ws) []] := by rw [List.getElem?_set_self hi]
  (repeat' (first
    | exact trivial
    | (with_reducible first | refine awA ?_ | refine awB ?_ | refine awC ?_ | refine awD ?_ | refine awE ?_ | refine awF ?_ | refine awG ?_ | refine awH ?_ | refine awI ?_ | refine awJ ?_ | refine awK ?_ | refine awL ?_ | refine awM (by decide) ?_)
    | (refine aw_draw (id := 4) (t := (.node [0, 1, 2, 3, 4, 5, 6, 7, 8, 9, 10, 11, 12] [])) (drR [10000] [33] []) mixed (by kernel_rfl) (by kernel_rfl) (fun _ _ h => h) ?_)
    | (refine at_done (by simp only [List.filterMap_cons, List.filterMap_nil, List.getElem?_toArray, List.getElem?_cons_zero, List.getElem?_cons_succ]; exact rfl) ?_) | (refine at_alt (by simp only [List.filterMap_cons, List.filterMap_nil, List.getElem?_toArray, List.getElem?_cons_zero, List.getElem?_cons_succ]; exact rfl) ?_) | refine qalt_normal ?_ | refine ats_cons ?_ ?_ | exact ats_nil
    | ((with_reducible first | refine awN (tyOf_ok _) [] ?_ | refine awO (tyOf_ok _) [] ?_ | refine awP (tyOf_ok _) [] ?_ | refine awQ ?_ | refine awR ?_ | refine awS ?_ | refine awT ?_ | refine awU ?_); intro r hr; simp only [go_sem, Nat.reduceBEq, Nat.reduceBneDiff, Nat.reduceLT, Nat.reduceLeDiff, Nat.reduceAdd, Nat.reduceMul, Nat.reduceSub, Nat.reduceEqDiff, reduceCtorEq, obm, mkV, hK, encIs_len, g2, List.cons_append, List.nil_append] at hr; subst hr; (first | refine awV ?_ ?_ | refine awW ?_ ?_ | refine endK ?_ ?_ | refine endGK ?_ ?_ ?_ | (refine condK (fun h => ?_) (fun h => ?_) <;> (try simp only [go_sem, reduceCtorEq] at h) <;> (try (exfalso; omega))))) | fail)) <;> (try omega)
  refine go_loop [0, 1, 18, 19, 20] [10000, 10001, 15000, 15001] (fun k : Nat => ⟨[(0, true, .ptr 1 10000 0 0), (1, true, .ptr 2 10001 i 0), (18, true, .lsx 1 (v8 ws) []), (19, true, vI ws.length), (20, true, vI k)], [(10000, .var (mkV ts rs X Y C.length N.length)), (10001, .row 94 2 (K.set i [vI (C.length : Int), .lsx 1 (v8 ws) []])), (15000, .row 40 4 (encIs (patch C (ws.take k) C.length))), (15001, .row 3 1 (v8 N))]⟩)
    (fun k => k ≤ ws.length) (fun k => ws.length - k) 0 (by simp only [mkV, v8_len, go_sem, Nat.reduceBEq, Nat.reduceBneDiff, Nat.reduceLT, Nat.reduceLeDiff, Nat.reduceAdd, Nat.reduceMul, Nat.reduceSub, Nat.reduceEqDiff, reduceCtorEq] <;> exact rfl) (Nat.zero_le _) ?_
  intro k hk
  have hil : i < (K.set i [vI (C.length : Int), .lsx 1 (v8 ws) []]).length := by simpa using hi
  have hwk := wrap_i64 (n := (k : Int) + 1) (by omega)
  have hDl := patch_len (ws.take k) C.length C
  by_cases hlt : k < ws.length
  · have f1 : ((k : Int) < ws.length) = True := eq_true (by omega)
    have gk := v8_get hlt
    have zk : ((k : Int)).toNat = k := by omega
    have hb := hws _ (List.getElem_mem hlt)
    have hps := patch_succ C ws C.length hlt
    obtain ⟨w, hw⟩ : ∃ w : Nat, ws[k] = w := ⟨ws[k].toNat, by omega⟩
    rw [hw] at gk hps hb
    have hlt2 : w < (patch C (ws.take k) C.length).length := by omega
    have gD := encIs_get hlt2
    have gS := encIs_setB _ w hlt2 C.length
    rw [← hps] at gS
    generalize patch C (ws.take k) C.length = D at *
    generalize D[w] = x at *
    have zw : ((w : Int)).toNat = w := by omega
    (repeat' (first
    | exact trivial
    | (with_reducible first | refine awA ?_ | refine awB ?_ | refine awC ?_ | refine awD ?_ | refine awE ?_ | refine awF ?_ | refine awG ?_ | refine awH ?_ | refine awI ?_ | refine awJ ?_ | refine awK ?_ | refine awL ?_ | refine awM (by decide) ?_)
    | (refine aw_draw (id := 4) (t := (.node [0, 1, 2, 3, 4, 5, 6, 7, 8, 9, 10, 11, 12] [])) (drR [10000] [33] []) mixed (by kernel_rfl) (by kernel_rfl) (fun _ _ h => h) ?_)
    | (refine at_done (by simp only [List.filterMap_cons, List.filterMap_nil, List.getElem?_toArray, List.getElem?_cons_zero, List.getElem?_cons_succ]; exact rfl) ?_) | (refine at_alt (by simp only [List.filterMap_cons, List.filterMap_nil, List.getElem?_toArray, List.getElem?_cons_zero, List.getElem?_cons_succ]; exact rfl) ?_) | refine qalt_normal ?_ | refine ats_cons ?_ ?_ | exact ats_nil
    | ((with_reducible first | refine awN (tyOf_ok _) [] ?_ | refine awO (tyOf_ok _) [] ?_ | refine awP (tyOf_ok _) [] ?_ | refine awQ ?_ | refine awR ?_ | refine awS ?_ | refine awT ?_ | refine awU ?_); intro r hr; simp only [go_sem, Nat.reduceBEq, Nat.reduceBneDiff, Nat.reduceLT, Nat.reduceLeDiff, Nat.reduceAdd, Nat.reduceMul, Nat.reduceSub, Nat.reduceEqDiff, reduceCtorEq, mkV, f1, gk, zk, g2, gD, gS, zw, hwk, v8_len, encIs_len, List.append_nil] at hr; subst hr; (first | refine awV ?_ ?_ | refine awW ?_ ?_ | refine endK ?_ ?_ | refine endGK ?_ ?_ ?_ | (refine condK (fun h => ?_) (fun h => ?_) <;> (try simp only [go_sem, reduceCtorEq] at h) <;> (try (exfalso; omega))))) | fail)) <;> (try omega)
    all_goals exact ⟨k + 1, by simp only [mkV, go_sem, Nat.reduceBEq, Nat.reduceBneDiff, Nat.reduceLT, Nat.reduceLeDiff, Nat.reduceAdd, Nat.reduceMul, Nat.reduceSub, Nat.reduceEqDiff, reduceCtorEq] <;> exact rfl, hlt, by omega⟩
  · have f1 : ((k : Int) < ws.length) = False := eq_false (by omega)
    have hke : ws.take k = ws := take_len (by omega)
    have hss : (K.set i [vI (C.length : Int), .lsx 1 (v8 ws) []]).set i [vI (C.length : Int), nilW] = K.set i [vI (C.length : Int), nilW] := by simp
    rw [hke] at hDl ⊢
    (repeat' (first
    | exact trivial
    | (with_reducible first | refine awA ?_ | refine awB ?_ | refine awC ?_ | refine awD ?_ | refine awE ?_ | refine awF ?_ | refine awG ?_ | refine awH ?_ | refine awI ?_ | refine awJ ?_ | refine awK ?_ | refine awL ?_ | refine awM (by decide) ?_)
    | (refine aw_draw (id := 4) (t := (.node [0, 1, 2, 3, 4, 5, 6, 7, 8, 9, 10, 11, 12] [])) (drR [10000] [33] []) mixed (by kernel_rfl) (by kernel_rfl) (fun _ _ h => h) ?_)
    | (refine at_done (by simp only [List.filterMap_cons, List.filterMap_nil, List.getElem?_toArray, List.getElem?_cons_zero, List.getElem?_cons_succ]; exact rfl) ?_) | (refine at_alt (by simp only [List.filterMap_cons, List.filterMap_nil, List.getElem?_toArray, List.getElem?_cons_zero, List.getElem?_cons_succ]; exact rfl) ?_) | refine qalt_normal ?_ | refine ats_cons ?_ ?_ | exact ats_nil
    | ((with_reducible first | refine awN (tyOf_ok _) [] ?_ | refine awO (tyOf_ok _) [] ?_ | refine awP (tyOf_ok _) [] ?_ | refine awQ ?_ | refine awR ?_ | refine awS ?_ | refine awT ?_ | refine awU ?_); intro r hr; simp only [go_sem, Nat.reduceBEq, Nat.reduceBneDiff, Nat.reduceLT, Nat.reduceLeDiff, Nat.reduceAdd, Nat.reduceMul, Nat.reduceSub, Nat.reduceEqDiff, reduceCtorEq, mkV, f1, g2, hss] at hr; subst hr; (first | refine awV ?_ ?_ | refine awW ?_ ?_ | refine endK ?_ ?_ | refine endGK ?_ ?_ ?_ | (refine condK (fun h => ?_) (fun h => ?_) <;> (try simp only [go_sem, reduceCtorEq] at h) <;> (try (exfalso; omega))))) | fail)) <;> (try omega)
    · exact AV.up_rfl _
    · unfold obm mkV
      rw [hDl]
      (first | exact AV.up_rfl _ | (repeat first | exact obUp_nil | refine obUp_cons rfl ?_))
end
end Go.Proofs.Ytljfgohecmhchaa
end
section
namespace Go.Proofs.Ytljfgohecmhchaa
open Go.RowKit
set_option maxRecDepth 100000
set_option maxHeartbeats 16000000
/-! Routines of package lower: rounds. -/
/-- what rounds lays behind a code -/
def rnd (C : List InsM) (t : Int) (D1 : List InsM) : List InsM := patch (D1 ++ [⟨12, 0, C.length, 0⟩, ⟨19, 0, -1, 0⟩, ⟨17, -1, -1, t⟩, ⟨18, -1, 0, 0⟩]) [((D1.length + 1 : Nat) : Int)] ((D1.length + 4 : Nat) : Int) ++ [⟨15, 0, ((D1.length + 2 : Nat) : Int), 0⟩]
section
variable {ts : List TypeM} {rs : List RootM} {X : List ExtM} {Y : List LayM} {N : List Int}
theorem rounds_n (C : List InsM) (hC : C.length ≤ 100000000) (first t : Int) :
    GCall Try.prog 56 [.ptr 1 10000 0 0, vI first, vI t, .v (.pointer none)] (obm ts rs X Y N C) (.tup []) (obm ts rs X Y N (rnd C t (C ++ [⟨10, first, 0, 0⟩]))) := by
  refine go_fnG (tyOf_ok _) Try.func56 rfl rfl (by rw [Try.results56]) Try.ntmps56 rfl fun E => ?_
  have hm := marks_G 3 (by decide)
  have h0 := here_none (ts := ts) (rs := rs) (X := X) (Y := Y) (N := N) C (by omega) [mkn, mkn, mkn] 0 (-1) rfl
  have l0 := lay_G (ts := ts) (rs := rs) (X := X) (Y := Y) (N := N) C (by omega) 10 first 0 0
  obtain ⟨C1, hC1⟩ : ∃ D, (C ++ [⟨10, first, 0, 0⟩] : List InsM) = D := ⟨_, rfl⟩
  have z1 : C1.length = C.length + 1 := by rw [← hC1]; simp
  rw [hC1] at l0 ⊢
  have t0 := to_known (ts := ts) (rs := rs) (X := X) (Y := Y) (N := N) C1 (by omega) [[vI (C.length : Int), nilW], mkn, mkn] 0 C.length nilW rfl (by omega) 12 0
  obtain ⟨C2, hC2⟩ : ∃ D, (C1 ++ [⟨12, 0, C.length, 0⟩] : List InsM) = D := ⟨_, rfl⟩
  have z2 : C2.length = C.length + 2 := by rw [← hC2]; simp [z1]
  rw [hC2] at t0
  have t1 := to_wait (ts := ts) (rs := rs) (X := X) (Y := Y) (N := N) C2 (by omega) [[vI (C.length : Int), nilW], mkn, mkn] 1 (-1) rfl (by decide) 19 0
  obtain ⟨C3, hC3⟩ : ∃ D, (C2 ++ [⟨19, 0, -1, 0⟩] : List InsM) = D := ⟨_, rfl⟩
  have z3 : C3.length = C.length + 3 := by rw [← hC3]; simp [z2]
  rw [hC3] at t1
  have h2 := here_none (ts := ts) (rs := rs) (X := X) (Y := Y) (N := N) C3 (by omega) [[vI (C.length : Int), nilW], [vI (-1), .lsx 1 [[vI (C2.length : Int)]] []], mkn] 2 (-1) rfl
  have l3 := lay_G (ts := ts) (rs := rs) (X := X) (Y := Y) (N := N) C3 (by omega) 17 (-1) (-1) t
  obtain ⟨C4, hC4⟩ : ∃ D, (C3 ++ [⟨17, -1, -1, t⟩] : List InsM) = D := ⟨_, rfl⟩
  have z4 : C4.length = C.length + 4 := by rw [← hC4]; simp [z3]
  rw [hC4] at l3
  have l4 := lay_G (ts := ts) (rs := rs) (X := X) (Y := Y) (N := N) C4 (by omega) 18 (-1) 0 0
  obtain ⟨C5, hC5⟩ : ∃ D, (C4 ++ [⟨18, -1, 0, 0⟩] : List InsM) = D := ⟨_, rfl⟩
  have z5 : C5.length = C.length + 5 := by rw [← hC5]; simp [z4]
  rw [hC5] at l4
  have h1 := here_ws (ts := ts) (rs := rs) (X := X) (Y := Y) (N := N) C5 (by omega) [[vI (C.length : Int), nilW], [vI (-1), .lsx 1 [[vI (C2.length : Int)]] []], [vI (C3.length : Int), nilW]] 1 (-1) [(C2.length : Int)] rfl (fun w hw => by rw [List.mem_singleton] at hw; omega) (by simp)
  obtain ⟨C6, hC6⟩ : ∃ D, patch C5 [(C2.length : Int)] C5.length = D := ⟨_, rfl⟩
  have z6 : C6.length = C.length + 5 := by rw [← hC6, patch_len, z5]
  rw [hC6] at h1
  have t3 := to_known (ts := ts) (rs := rs) (X := X) (Y := Y) (N := N) C6 (by omega) [[vI (C.length : Int), nilW], [vI (C5.length : Int), nilW], [vI (C3.length : Int), nilW]] 2 C3.length nilW rfl (by omega) 15 0
  have hR : rnd C t C1 = C6 ++ [⟨15, 0, C3.length, 0⟩] := by
    rw [rnd, ← hC6, ← hC5, ← hC4, ← hC3, ← hC2]
    simp
  rw [hR]
  generalize hC7 : (C6 ++ [⟨15, 0, C3.length, 0⟩] : List InsM) = C7 at *
  clear hR hC1 hC2 hC3 hC4 hC5 hC6 hC7
  simp only [obm, mkV, mkn, List.set_cons_zero, List.set_cons_succ, List.cons_append, List.nil_append] at *
  (repeat' (first
    | exact trivial
    | (with_reducible first | refine awA ?_ | refine awB ?_ | refine awC ?_ | refine awD ?_ | refine awE ?_ | refine awF ?_ | refine awG ?_ | refine awH ?_ | refine awI ?_ | refine awJ ?_ | refine awK ?_ | refine awL ?_ | refine awM (by decide) ?_)
    | ((with_reducible first | refine awN (tyOf_ok _) [] ?_ | refine awO (tyOf_ok _) [] ?_ | refine awP (tyOf_ok _) [] ?_ | refine awQ ?_ | refine awR ?_ | refine awS ?_ | refine awT ?_ | refine awU ?_); intro r hr; simp only [go_sem, Nat.reduceBEq, Nat.reduceBneDiff, Nat.reduceLT, Nat.reduceLeDiff, Nat.reduceAdd, Nat.reduceMul, Nat.reduceSub, Nat.reduceEqDiff, reduceCtorEq, obm, mkV, mkn, List.set_cons_zero, List.set_cons_succ, List.cons_append, List.nil_append, Int.reduceToNat, Int.cast_ofNat_Int, Int.reduceToNat, Int.reduceEq, Int.reduceLT, Int.reduceLE, Int.reduceNe] at hr; subst hr; (first | refine awV ?_ ?_ | refine awW ?_ ?_ | refine endK ?_ ?_ | refine endGK ?_ ?_ ?_ | (refine condK (fun h => ?_) (fun h => ?_) <;> (try simp only [go_sem, reduceCtorEq] at h) <;> (try (exfalso; omega)))))
    | (refine go_callGd 9 rfl [] [(6, 9)] [9] [] (by simp only [go_sem, Nat.reduceBEq, Nat.reduceBneDiff, Nat.reduceLT, Nat.reduceLeDiff, Nat.reduceAdd, Nat.reduceMul, Nat.reduceSub, Nat.reduceEqDiff, reduceCtorEq, obm, mkV, mkn, List.set_cons_zero, List.set_cons_succ, List.cons_append, List.nil_append, Int.reduceToNat, Int.cast_ofNat_Int, Int.reduceToNat, Int.reduceEq, Int.reduceLT, Int.reduceLE, Int.reduceNe]; exact rfl) ?_ rfl rfl (by first | exact .inl rfl | exact .inr rfl) (by simp only [go_sem, Nat.reduceBEq, Nat.reduceBneDiff, Nat.reduceLT, Nat.reduceLeDiff, Nat.reduceAdd, Nat.reduceMul, Nat.reduceSub, Nat.reduceEqDiff, reduceCtorEq, obm, mkV, mkn, List.set_cons_zero, List.set_cons_succ, List.cons_append, List.nil_append, Int.reduceToNat, Int.cast_ofNat_Int, Int.reduceToNat, Int.reduceEq, Int.reduceLT, Int.reduceLE, Int.reduceNe] <;> exact rfl) (hm) (.inr ⟨rfl, ?_⟩) ?_)
    | (refine go_callGE [(10000, 10000), (15000, 15000), (15001, 15001), (9, 10001)] [(10000, 10000), (15000, 15000), (15001, 15001), (10001, 9)] [15000, 15001] [10000, 9] ?_; intro r hr; simp only [go_sem, Nat.reduceBEq, Nat.reduceBneDiff, Nat.reduceLT, Nat.reduceLeDiff, Nat.reduceAdd, Nat.reduceMul, Nat.reduceSub, Nat.reduceEqDiff, reduceCtorEq, obm, mkV, mkn, List.set_cons_zero, List.set_cons_succ, List.cons_append, List.nil_append, Int.reduceToNat, Int.cast_ofNat_Int, Int.reduceToNat, Int.reduceEq, Int.reduceLT, Int.reduceLE, Int.reduceNe] at hr; subst hr; refine callGK (h0) rfl rfl (by first | exact .inl rfl | exact .inr rfl) ?_ (.inl rfl) ?_)
    | (refine go_callGE [(10000, 10000), (15000, 15000), (15001, 15001)] [(10000, 10000), (15000, 15000), (15001, 15001)] [15000, 15001] [10000] ?_; intro r hr; simp only [go_sem, Nat.reduceBEq, Nat.reduceBneDiff, Nat.reduceLT, Nat.reduceLeDiff, Nat.reduceAdd, Nat.reduceMul, Nat.reduceSub, Nat.reduceEqDiff, reduceCtorEq, obm, mkV, mkn, List.set_cons_zero, List.set_cons_succ, List.cons_append, List.nil_append, Int.reduceToNat, Int.cast_ofNat_Int, Int.reduceToNat, Int.reduceEq, Int.reduceLT, Int.reduceLE, Int.reduceNe] at hr; subst hr; refine callGK (l0) rfl rfl (by first | exact .inl rfl | exact .inr rfl) ?_ (.inl rfl) ?_)
    | (refine go_callGE [(10000, 10000), (15000, 15000), (15001, 15001), (9, 10001)] [(10000, 10000), (15000, 15000), (15001, 15001), (10001, 9)] [15000, 15001] [10000, 9] ?_; intro r hr; simp only [go_sem, Nat.reduceBEq, Nat.reduceBneDiff, Nat.reduceLT, Nat.reduceLeDiff, Nat.reduceAdd, Nat.reduceMul, Nat.reduceSub, Nat.reduceEqDiff, reduceCtorEq, obm, mkV, mkn, List.set_cons_zero, List.set_cons_succ, List.cons_append, List.nil_append, Int.reduceToNat, Int.cast_ofNat_Int, Int.reduceToNat, Int.reduceEq, Int.reduceLT, Int.reduceLE, Int.reduceNe] at hr; subst hr; refine callGK (t0) rfl rfl (by first | exact .inl rfl | exact .inr rfl) ?_ (.inl rfl) ?_)
    | (refine go_callGE [(10000, 10000), (15000, 15000), (15001, 15001), (9, 10001)] [(10000, 10000), (15000, 15000), (15001, 15001), (10001, 9)] [15000, 15001] [10000, 9] ?_; intro r hr; simp only [go_sem, Nat.reduceBEq, Nat.reduceBneDiff, Nat.reduceLT, Nat.reduceLeDiff, Nat.reduceAdd, Nat.reduceMul, Nat.reduceSub, Nat.reduceEqDiff, reduceCtorEq, obm, mkV, mkn, List.set_cons_zero, List.set_cons_succ, List.cons_append, List.nil_append, Int.reduceToNat, Int.cast_ofNat_Int, Int.reduceToNat, Int.reduceEq, Int.reduceLT, Int.reduceLE, Int.reduceNe] at hr; subst hr; refine callGK (t1) rfl rfl (by first | exact .inl rfl | exact .inr rfl) ?_ (.inl rfl) ?_)
    | (refine go_callGE [(10000, 10000), (15000, 15000), (15001, 15001), (9, 10001)] [(10000, 10000), (15000, 15000), (15001, 15001), (10001, 9)] [15000, 15001] [10000, 9] ?_; intro r hr; simp only [go_sem, Nat.reduceBEq, Nat.reduceBneDiff, Nat.reduceLT, Nat.reduceLeDiff, Nat.reduceAdd, Nat.reduceMul, Nat.reduceSub, Nat.reduceEqDiff, reduceCtorEq, obm, mkV, mkn, List.set_cons_zero, List.set_cons_succ, List.cons_append, List.nil_append, Int.reduceToNat, Int.cast_ofNat_Int, Int.reduceToNat, Int.reduceEq, Int.reduceLT, Int.reduceLE, Int.reduceNe] at hr; subst hr; refine callGK (h2) rfl rfl (by first | exact .inl rfl | exact .inr rfl) ?_ (.inl rfl) ?_)
    | (refine go_callGE [(10000, 10000), (15000, 15000), (15001, 15001)] [(10000, 10000), (15000, 15000), (15001, 15001)] [15000, 15001] [10000] ?_; intro r hr; simp only [go_sem, Nat.reduceBEq, Nat.reduceBneDiff, Nat.reduceLT, Nat.reduceLeDiff, Nat.reduceAdd, Nat.reduceMul, Nat.reduceSub, Nat.reduceEqDiff, reduceCtorEq, obm, mkV, mkn, List.set_cons_zero, List.set_cons_succ, List.cons_append, List.nil_append, Int.reduceToNat, Int.cast_ofNat_Int, Int.reduceToNat, Int.reduceEq, Int.reduceLT, Int.reduceLE, Int.reduceNe] at hr; subst hr; refine callGK (l3) rfl rfl (by first | exact .inl rfl | exact .inr rfl) ?_ (.inl rfl) ?_)
    | (refine go_callGE [(10000, 10000), (15000, 15000), (15001, 15001)] [(10000, 10000), (15000, 15000), (15001, 15001)] [15000, 15001] [10000] ?_; intro r hr; simp only [go_sem, Nat.reduceBEq, Nat.reduceBneDiff, Nat.reduceLT, Nat.reduceLeDiff, Nat.reduceAdd, Nat.reduceMul, Nat.reduceSub, Nat.reduceEqDiff, reduceCtorEq, obm, mkV, mkn, List.set_cons_zero, List.set_cons_succ, List.cons_append, List.nil_append, Int.reduceToNat, Int.cast_ofNat_Int, Int.reduceToNat, Int.reduceEq, Int.reduceLT, Int.reduceLE, Int.reduceNe] at hr; subst hr; refine callGK (l4) rfl rfl (by first | exact .inl rfl | exact .inr rfl) ?_ (.inl rfl) ?_)
    | (refine go_callGE [(10000, 10000), (15000, 15000), (15001, 15001), (9, 10001)] [(10000, 10000), (15000, 15000), (15001, 15001), (10001, 9)] [15000, 15001] [10000, 9] ?_; intro r hr; simp only [go_sem, Nat.reduceBEq, Nat.reduceBneDiff, Nat.reduceLT, Nat.reduceLeDiff, Nat.reduceAdd, Nat.reduceMul, Nat.reduceSub, Nat.reduceEqDiff, reduceCtorEq, obm, mkV, mkn, List.set_cons_zero, List.set_cons_succ, List.cons_append, List.nil_append, Int.reduceToNat, Int.cast_ofNat_Int, Int.reduceToNat, Int.reduceEq, Int.reduceLT, Int.reduceLE, Int.reduceNe] at hr; subst hr; refine callGK (h1) rfl rfl (by first | exact .inl rfl | exact .inr rfl) ?_ (.inl rfl) ?_)
    | (refine go_callGE [(10000, 10000), (15000, 15000), (15001, 15001), (9, 10001)] [(10000, 10000), (15000, 15000), (15001, 15001), (10001, 9)] [15000, 15001] [10000, 9] ?_; intro r hr; simp only [go_sem, Nat.reduceBEq, Nat.reduceBneDiff, Nat.reduceLT, Nat.reduceLeDiff, Nat.reduceAdd, Nat.reduceMul, Nat.reduceSub, Nat.reduceEqDiff, reduceCtorEq, obm, mkV, mkn, List.set_cons_zero, List.set_cons_succ, List.cons_append, List.nil_append, Int.reduceToNat, Int.cast_ofNat_Int, Int.reduceToNat, Int.reduceEq, Int.reduceLT, Int.reduceLE, Int.reduceNe] at hr; subst hr; refine callGK (t3) rfl rfl (by first | exact .inl rfl | exact .inr rfl) ?_ (.inl rfl) ?_) | fail)) <;> (try omega)
  all_goals first | exact ⟨mkn_nm _, trivial⟩ | (first | exact AV.up_rfl _ | (repeat first | exact obUp_nil | refine obUp_cons rfl ?_))
theorem rounds_s (C : List InsM) (hC : C.length ≤ 100000000) (first t : Int) (K : List (List AV)) (at_ : Int) (ws : List Int) (hK : K[2]? = some [vI at_, .lsx 1 (v8 ws) []]) (hws : ∀ w ∈ ws, 0 ≤ w ∧ w < C.length) (hwl : ws.length ≤ 1000000000) :
    GCall Try.prog 56 [.ptr 1 10000 0 0, vI first, vI t, .ptr 2 10001 2 0] (obm ts rs X Y N C ++ [(10001, .row 94 2 K)]) (.tup []) (obm ts rs X Y N (rnd C t (patch (C ++ [⟨10, first, 0, 0⟩]) ws ((C.length + 1 : Nat) : Int))) ++ [(10001, .row 94 2 (K.set 2 [vI ((C.length + 1 : Nat) : Int), nilW]))]) := by
  refine go_fnG (tyOf_ok _) Try.func56 rfl rfl (by rw [Try.results56]) Try.ntmps56 rfl fun E => ?_
  have hm := marks_G 3 (by decide)
  have h0 := here_none (ts := ts) (rs := rs) (X := X) (Y := Y) (N := N) C (by omega) [mkn, mkn, mkn] 0 (-1) rfl
  have l0 := lay_G (ts := ts) (rs := rs) (X := X) (Y := Y) (N := N) C (by omega) 10 first 0 0
  obtain ⟨C0, hC0⟩ : ∃ D, (C ++ [⟨10, first, 0, 0⟩] : List InsM) = D := ⟨_, rfl⟩
  have z0 : C0.length = C.length + 1 := by rw [← hC0]; simp
  rw [hC0] at l0 ⊢
  have hS := here_ws (ts := ts) (rs := rs) (X := X) (Y := Y) (N := N) C0 (by omega) K 2 at_ ws hK (fun w hw => by have := hws w hw; omega) hwl
  rw [← z0]
  obtain ⟨C1, hC1⟩ : ∃ D, patch C0 ws C0.length = D := ⟨_, rfl⟩
  have z1 : C1.length = C.length + 1 := by rw [← hC1, patch_len, z0]
  rw [hC1] at hS ⊢
  generalize hK2 : K.set 2 [vI (C0.length : Int), nilW] = K2 at *
  have t0 := to_known (ts := ts) (rs := rs) (X := X) (Y := Y) (N := N) C1 (by omega) [[vI (C.length : Int), nilW], mkn, mkn] 0 C.length nilW rfl (by omega) 12 0
  obtain ⟨C2, hC2⟩ : ∃ D, (C1 ++ [⟨12, 0, C.length, 0⟩] : List InsM) = D := ⟨_, rfl⟩
  have z2 : C2.length = C.length + 2 := by rw [← hC2]; simp [z1]
  rw [hC2] at t0
  have t1 := to_wait (ts := ts) (rs := rs) (X := X) (Y := Y) (N := N) C2 (by omega) [[vI (C.length : Int), nilW], mkn, mkn] 1 (-1) rfl (by decide) 19 0
  obtain ⟨C3, hC3⟩ : ∃ D, (C2 ++ [⟨19, 0, -1, 0⟩] : List InsM) = D := ⟨_, rfl⟩
  have z3 : C3.length = C.length + 3 := by rw [← hC3]; simp [z2]
  rw [hC3] at t1
  have h2 := here_none (ts := ts) (rs := rs) (X := X) (Y := Y) (N := N) C3 (by omega) [[vI (C.length : Int), nilW], [vI (-1), .lsx 1 [[vI (C2.length : Int)]] []], mkn] 2 (-1) rfl
  have l3 := lay_G (ts := ts) (rs := rs) (X := X) (Y := Y) (N := N) C3 (by omega) 17 (-1) (-1) t
  obtain ⟨C4, hC4⟩ : ∃ D, (C3 ++ [⟨17, -1, -1, t⟩] : List InsM) = D := ⟨_, rfl⟩
  have z4 : C4.length = C.length + 4 := by rw [← hC4]; simp [z3]
  rw [hC4] at l3
  have l4 := lay_G (ts := ts) (rs := rs) (X := X) (Y := Y) (N := N) C4 (by omega) 18 (-1) 0 0
  obtain ⟨C5, hC5⟩ : ∃ D, (C4 ++ [⟨18, -1, 0, 0⟩] : List InsM) = D := ⟨_, rfl⟩
  have z5 : C5.length = C.length + 5 := by rw [← hC5]; simp [z4]
  rw [hC5] at l4
  have h1 := here_ws (ts := ts) (rs := rs) (X := X) (Y := Y) (N := N) C5 (by omega) [[vI (C.length : Int), nilW], [vI (-1), .lsx 1 [[vI (C2.length : Int)]] []], [vI (C3.length : Int), nilW]] 1 (-1) [(C2.length : Int)] rfl (fun w hw => by rw [List.mem_singleton] at hw; omega) (by simp)
  obtain ⟨C6, hC6⟩ : ∃ D, patch C5 [(C2.length : Int)] C5.length = D := ⟨_, rfl⟩
  have z6 : C6.length = C.length + 5 := by rw [← hC6, patch_len, z5]
  rw [hC6] at h1
  have t3 := to_known (ts := ts) (rs := rs) (X := X) (Y := Y) (N := N) C6 (by omega) [[vI (C.length : Int), nilW], [vI (C5.length : Int), nilW], [vI (C3.length : Int), nilW]] 2 C3.length nilW rfl (by omega) 15 0
  have hR : rnd C t C1 = C6 ++ [⟨15, 0, C3.length, 0⟩] := by
    rw [rnd, ← hC6, ← hC5, ← hC4, ← hC3, ← hC2]
    simp
  rw [hR]
  generalize hC7 : (C6 ++ [⟨15, 0, C3.length, 0⟩] : List InsM) = C7 at *
  clear hR hK2 hC0 hC1 hC2 hC3 hC4 hC5 hC6 hC7
  simp only [obm, mkV, mkn, List.set_cons_zero, List.set_cons_succ, List.cons_append, List.nil_append] at *
  (repeat' (first
    | exact trivial
    | (with_reducible first | refine awA ?_ | refine awB ?_ | refine awC ?_ | refine awD ?_ | refine awE ?_ | refine awF ?_ | refine awG ?_ | refine awH ?_ | refine awI ?_ | refine awJ ?_ | refine awK ?_ | refine awL ?_ | refine awM (by decide) ?_)
    | ((with_reducible first | refine awN (tyOf_ok _) [] ?_ | refine awO (tyOf_ok _) [] ?_ | refine awP (tyOf_ok _) [] ?_ | refine awQ ?_ | refine awR ?_ | refine awS ?_ | refine awT ?_ | refine awU ?_); intro r hr; simp only [go_sem, Nat.reduceBEq, Nat.reduceBneDiff, Nat.reduceLT, Nat.reduceLeDiff, Nat.reduceAdd, Nat.reduceMul, Nat.reduceSub, Nat.reduceEqDiff, reduceCtorEq, obm, mkV, mkn, List.set_cons_zero, List.set_cons_succ, List.cons_append, List.nil_append, Int.reduceToNat, Int.cast_ofNat_Int, Int.reduceToNat, Int.reduceEq, Int.reduceLT, Int.reduceLE, Int.reduceNe] at hr; subst hr; (first | refine awV ?_ ?_ | refine awW ?_ ?_ | refine endK ?_ ?_ | refine endGK ?_ ?_ ?_ | (refine condK (fun h => ?_) (fun h => ?_) <;> (try simp only [go_sem, reduceCtorEq] at h) <;> (try (exfalso; omega)))))
    | (refine go_callGd 9 rfl [] [(6, 9)] [9] [] (by simp only [go_sem, Nat.reduceBEq, Nat.reduceBneDiff, Nat.reduceLT, Nat.reduceLeDiff, Nat.reduceAdd, Nat.reduceMul, Nat.reduceSub, Nat.reduceEqDiff, reduceCtorEq, obm, mkV, mkn, List.set_cons_zero, List.set_cons_succ, List.cons_append, List.nil_append, Int.reduceToNat, Int.cast_ofNat_Int, Int.reduceToNat, Int.reduceEq, Int.reduceLT, Int.reduceLE, Int.reduceNe]; exact rfl) ?_ rfl rfl (by first | exact .inl rfl | exact .inr rfl) (by simp only [go_sem, Nat.reduceBEq, Nat.reduceBneDiff, Nat.reduceLT, Nat.reduceLeDiff, Nat.reduceAdd, Nat.reduceMul, Nat.reduceSub, Nat.reduceEqDiff, reduceCtorEq, obm, mkV, mkn, List.set_cons_zero, List.set_cons_succ, List.cons_append, List.nil_append, Int.reduceToNat, Int.cast_ofNat_Int, Int.reduceToNat, Int.reduceEq, Int.reduceLT, Int.reduceLE, Int.reduceNe] <;> exact rfl) (hm) (.inr ⟨rfl, ?_⟩) ?_)
    | (refine go_callGE [(10000, 10000), (15000, 15000), (15001, 15001), (9, 10001)] [(10000, 10000), (15000, 15000), (15001, 15001), (10001, 9)] [15000, 15001] [10000, 9] ?_; intro r hr; simp only [go_sem, Nat.reduceBEq, Nat.reduceBneDiff, Nat.reduceLT, Nat.reduceLeDiff, Nat.reduceAdd, Nat.reduceMul, Nat.reduceSub, Nat.reduceEqDiff, reduceCtorEq, obm, mkV, mkn, List.set_cons_zero, List.set_cons_succ, List.cons_append, List.nil_append, Int.reduceToNat, Int.cast_ofNat_Int, Int.reduceToNat, Int.reduceEq, Int.reduceLT, Int.reduceLE, Int.reduceNe] at hr; subst hr; refine callGK (h0) rfl rfl (by first | exact .inl rfl | exact .inr rfl) ?_ (.inl rfl) ?_)
    | (refine go_callGE [(10000, 10000), (15000, 15000), (15001, 15001)] [(10000, 10000), (15000, 15000), (15001, 15001)] [15000, 15001] [10000] ?_; intro r hr; simp only [go_sem, Nat.reduceBEq, Nat.reduceBneDiff, Nat.reduceLT, Nat.reduceLeDiff, Nat.reduceAdd, Nat.reduceMul, Nat.reduceSub, Nat.reduceEqDiff, reduceCtorEq, obm, mkV, mkn, List.set_cons_zero, List.set_cons_succ, List.cons_append, List.nil_append, Int.reduceToNat, Int.cast_ofNat_Int, Int.reduceToNat, Int.reduceEq, Int.reduceLT, Int.reduceLE, Int.reduceNe] at hr; subst hr; refine callGK (l0) rfl rfl (by first | exact .inl rfl | exact .inr rfl) ?_ (.inl rfl) ?_)
    | (refine go_callGE [(10000, 10000), (15000, 15000), (15001, 15001), (10001, 10001)] [(10000, 10000), (15000, 15000), (15001, 15001), (10001, 10001)] [15000, 15001] [10000, 10001] ?_; intro r hr; simp only [go_sem, Nat.reduceBEq, Nat.reduceBneDiff, Nat.reduceLT, Nat.reduceLeDiff, Nat.reduceAdd, Nat.reduceMul, Nat.reduceSub, Nat.reduceEqDiff, reduceCtorEq, obm, mkV, mkn, List.set_cons_zero, List.set_cons_succ, List.cons_append, List.nil_append, Int.reduceToNat, Int.cast_ofNat_Int, Int.reduceToNat, Int.reduceEq, Int.reduceLT, Int.reduceLE, Int.reduceNe] at hr; subst hr; refine callGK (hS) rfl rfl (by first | exact .inl rfl | exact .inr rfl) ?_ (.inl rfl) ?_)
    | (refine go_callGE [(10000, 10000), (15000, 15000), (15001, 15001), (9, 10001)] [(10000, 10000), (15000, 15000), (15001, 15001), (10001, 9)] [15000, 15001] [10000, 9] ?_; intro r hr; simp only [go_sem, Nat.reduceBEq, Nat.reduceBneDiff, Nat.reduceLT, Nat.reduceLeDiff, Nat.reduceAdd, Nat.reduceMul, Nat.reduceSub, Nat.reduceEqDiff, reduceCtorEq, obm, mkV, mkn, List.set_cons_zero, List.set_cons_succ, List.cons_append, List.nil_append, Int.reduceToNat, Int.cast_ofNat_Int, Int.reduceToNat, Int.reduceEq, Int.reduceLT, Int.reduceLE, Int.reduceNe] at hr; subst hr; refine callGK (t0) rfl rfl (by first | exact .inl rfl | exact .inr rfl) ?_ (.inl rfl) ?_)
    | (refine go_callGE [(10000, 10000), (15000, 15000), (15001, 15001), (9, 10001)] [(10000, 10000), (15000, 15000), (15001, 15001), (10001, 9)] [15000, 15001] [10000, 9] ?_; intro r hr; simp only [go_sem, Nat.reduceBEq, Nat.reduceBneDiff, Nat.reduceLT, Nat.reduceLeDiff, Nat.reduceAdd, Nat.reduceMul, Nat.reduceSub, Nat.reduceEqDiff, reduceCtorEq, obm, mkV, mkn, List.set_cons_zero, List.set_cons_succ, List.cons_append, List.nil_append, Int.reduceToNat, Int.cast_ofNat_Int, Int.reduceToNat, Int.reduceEq, Int.reduceLT, Int.reduceLE, Int.reduceNe] at hr; subst hr; refine callGK (t1) rfl rfl (by first | exact .inl rfl | exact .inr rfl) ?_ (.inl rfl) ?_)
    | (refine go_callGE [(10000, 10000), (15000, 15000), (15001, 15001), (9, 10001)] [(10000, 10000), (15000, 15000), (15001, 15001), (10001, 9)] [15000, 15001] [10000, 9] ?_; intro r hr; simp only [go_sem, Nat.reduceBEq, Nat.reduceBneDiff, Nat.reduceLT, Nat.reduceLeDiff, Nat.reduceAdd, Nat.reduceMul, Nat.reduceSub, Nat.reduceEqDiff, reduceCtorEq, obm, mkV, mkn, List.set_cons_zero, List.set_cons_succ, List.cons_append, List.nil_append, Int.reduceToNat, Int.cast_ofNat_Int, Int.reduceToNat, Int.reduceEq, Int.reduceLT, Int.reduceLE, Int.reduceNe] at hr; subst hr; refine callGK (h2) rfl rfl (by first | exact .inl rfl | exact .inr rfl) ?_ (.inl rfl) ?_)
    | (refine go_callGE [(10000, 10000), (15000, 15000), (15001, 15001)] [(10000, 10000), (15000, 15000), (15001, 15001)] [15000, 15001] [10000] ?_; intro r hr; simp only [go_sem, Nat.reduceBEq, Nat.reduceBneDiff, Nat.reduceLT, Nat.reduceLeDiff, Nat.reduceAdd, Nat.reduceMul, Nat.reduceSub, Nat.reduceEqDiff, reduceCtorEq, obm, mkV, mkn, List.set_cons_zero, List.set_cons_succ, List.cons_append, List.nil_append, Int.reduceToNat, Int.cast_ofNat_Int, Int.reduceToNat, Int.reduceEq, Int.reduceLT, Int.reduceLE, Int.reduceNe] at hr; subst hr; refine callGK (l3) rfl rfl (by first | exact .inl rfl | exact .inr rfl) ?_ (.inl rfl) ?_)
    | (refine go_callGE [(10000, 10000), (15000, 15000), (15001, 15001)] [(10000, 10000), (15000, 15000), (15001, 15001)] [15000, 15001] [10000] ?_; intro r hr; simp only [go_sem, Nat.reduceBEq, Nat.reduceBneDiff, Nat.reduceLT, Nat.reduceLeDiff, Nat.reduceAdd, Nat.reduceMul, Nat.reduceSub, Nat.reduceEqDiff, reduceCtorEq, obm, mkV, mkn, List.set_cons_zero, List.set_cons_succ, List.cons_append, List.nil_append, Int.reduceToNat, Int.cast_ofNat_Int, Int.reduceToNat, Int.reduceEq, Int.reduceLT, Int.reduceLE, Int.reduceNe] at hr; subst hr; refine callGK (l4) rfl rfl (by first | exact .inl rfl | exact .inr rfl) ?_ (.inl rfl) ?_)
    | (refine go_callGE [(10000, 10000), (15000, 15000), (15001, 15001), (9, 10001)] [(10000, 10000), (15000, 15000), (15001, 15001), (10001, 9)] [15000, 15001] [10000, 9] ?_; intro r hr; simp only [go_sem, Nat.reduceBEq, Nat.reduceBneDiff, Nat.reduceLT, Nat.reduceLeDiff, Nat.reduceAdd, Nat.reduceMul, Nat.reduceSub, Nat.reduceEqDiff, reduceCtorEq, obm, mkV, mkn, List.set_cons_zero, List.set_cons_succ, List.cons_append, List.nil_append, Int.reduceToNat, Int.cast_ofNat_Int, Int.reduceToNat, Int.reduceEq, Int.reduceLT, Int.reduceLE, Int.reduceNe] at hr; subst hr; refine callGK (h1) rfl rfl (by first | exact .inl rfl | exact .inr rfl) ?_ (.inl rfl) ?_)
    | (refine go_callGE [(10000, 10000), (15000, 15000), (15001, 15001), (9, 10001)] [(10000, 10000), (15000, 15000), (15001, 15001), (10001, 9)] [15000, 15001] [10000, 9] ?_; intro r hr; simp only [go_sem, Nat.reduceBEq, Nat.reduceBneDiff, Nat.reduceLT, Nat.reduceLeDiff, Nat.reduceAdd, Nat.reduceMul, Nat.reduceSub, Nat.reduceEqDiff, reduceCtorEq, obm, mkV, mkn, List.set_cons_zero, List.set_cons_succ, List.cons_append, List.nil_append, Int.reduceToNat, Int.cast_ofNat_Int, Int.reduceToNat, Int.reduceEq, Int.reduceLT, Int.reduceLE, Int.reduceNe] at hr; subst hr; refine callGK (t3) rfl rfl (by first | exact .inl rfl | exact .inr rfl) ?_ (.inl rfl) ?_) | fail)) <;> (try omega)
  all_goals first | exact ⟨mkn_nm _, trivial⟩ | (first | exact AV.up_rfl _ | (repeat first | exact obUp_nil | refine obUp_cons rfl ?_))
end
end Go.Proofs.Ytljfgohecmhchaa
end
section
namespace Go.Proofs.Ytljfgohecmhchaa
open Go.RowKit
set_option maxRecDepth 100000
set_option maxHeartbeats 16000000
/-! Routines of package lower: vectors, lists. -/
def vT (T : TypeM) : AV := .agg [vI T.kind, vI T.n, vI T.elem, .lst 3 (encPs T.parts)]
def fixE (X : List ExtM) (i : Int) : Bool := (atE X i).fixed
theorem fixE_get {X : List ExtM} {e : Nat} (h : e < X.length) : (encEs X)[e]? = some [vB (fixE X e), vI X[e].least, vI X[e].most, vI X[e].depth] := by
  rw [encEs_get h, fixE, atE, Int.toNat_natCast, List.getElem?_eq_getElem h, Option.getD_some]
/-- the routine of a vector, but for its end -/
def vecC (ts : List TypeM) (X : List ExtM) (n e : Nat) (C : List InsM) : List InsM :=
  if fixE X e = true then C ++ [⟨5, 0, 0, 0⟩, readF ((ts[e]?).getD ⟨0, 0, 0, []⟩) (-1) e, ⟨14, n, ((C.length + 1 : Nat) : Int), 0⟩]
  else rnd (C ++ [⟨5, 0, 0, 0⟩]) e (C ++ [⟨5, 0, 0, 0⟩, ⟨10, 4 * (n : Int), 0, 0⟩])
/-- that of a list -/
def lisC (ts : List TypeM) (X : List ExtM) (n e : Nat) (C : List InsM) : List InsM :=
  if fixE X e = true then patch (C ++ [⟨5, 0, 0, 0⟩, ⟨13, n, -1, 0⟩, readF ((ts[e]?).getD ⟨0, 0, 0, []⟩) (-1) e, ⟨19, 0, ((C.length + 1 : Nat) : Int), 0⟩]) [((C.length + 1 : Nat) : Int)] ((C.length + 4 : Nat) : Int)
  else patch (rnd (C ++ [⟨5, 0, 0, 0⟩, ⟨11, n, -1, 0⟩, ⟨19, 0, -1, 0⟩]) e (patch (C ++ [⟨5, 0, 0, 0⟩, ⟨11, n, -1, 0⟩, ⟨19, 0, -1, 0⟩, ⟨10, 4, 0, 0⟩]) [((C.length + 2 : Nat) : Int)] ((C.length + 4 : Nat) : Int))) [((C.length + 1 : Nat) : Int)] ((C.length + 9 : Nat) : Int)
theorem rnd_len (C : List InsM) (t : Int) (D : List InsM) : (rnd C t D).length = D.length + 5 := by simp [rnd, patch_len]
section
variable {ts : List TypeM} {rs : List RootM} {X : List ExtM} {Y : List LayM} {N : List Int}
theorem vector_G (C : List InsM) (hC : C.length ≤ 10000000) (T : TypeM) (n e : Nat) (hn : T.n = n) (hn2 : n ≤ 100000000) (he : T.elem = e) (het : e < ts.length) (heX : e < X.length) :
    GCall Try.prog 33 [.ptr 1 10000 0 0, vT T] (obm ts rs X Y N C) (.tup []) (obm ts rs X Y N (vecC ts X n e C)) := by
  refine go_fnG (tyOf_ok _) Try.func33 rfl rfl (by rw [Try.results33]) Try.ntmps33 rfl fun E => ?_
  have gX := fixE_get heX
  have ze : ((e : Int)).toNat = e := by omega
  have l0 := lay_G (ts := ts) (rs := rs) (X := X) (Y := Y) (N := N) C (by omega) 5 0 0 0
  obtain ⟨C1, hC1⟩ : ∃ D, (C ++ [⟨5, 0, 0, 0⟩] : List InsM) = D := ⟨_, rfl⟩
  have z1 : C1.length = C.length + 1 := by rw [← hC1]; simp
  rw [hC1] at l0
  have hw4 := wrap_i64 (n := 4 * (n : Int)) (by omega)
  cases hf : fixE X e with
  | false =>
    rw [hf] at gX
    have r0 := rounds_n (ts := ts) (rs := rs) (X := X) (Y := Y) (N := N) C1 (by omega) (4 * (n : Int)) e
    have hR : vecC ts X n e C = rnd C1 e (C1 ++ [⟨10, 4 * (n : Int), 0, 0⟩]) := by rw [vecC, hf, if_neg (by simp), ← hC1]; simp
    rw [hR]
    generalize rnd C1 e (C1 ++ [⟨10, 4 * (n : Int), 0, 0⟩]) = C2 at *
    clear hR hC1
    simp only [obm, mkV] at *
    (repeat' (first
    | exact trivial
    | (with_reducible first | refine awA ?_ | refine awB ?_ | refine awC ?_ | refine awD ?_ | refine awE ?_ | refine awF ?_ | refine awG ?_ | refine awH ?_ | refine awI ?_ | refine awJ ?_ | refine awK ?_ | refine awL ?_ | refine awM (by decide) ?_)
    | (refine aw_draw (id := 2) (t := (.node [0, 1, 2, 3, 4, 5, 6, 7, 8, 9] [])) (drR [10000, 3] [15] []) mixed (by kernel_rfl) (by kernel_rfl) (fun _ _ h => h) ?_)
    | (refine aw_draw (id := 7) (t := (.node [0, 1, 2, 3, 4, 5] [])) (drR [3] [] [38]) mixed (by kernel_rfl) (by kernel_rfl) (fun _ _ h => h) ?_)
    | (refine at_done (by simp only [List.filterMap_cons, List.filterMap_nil, List.getElem?_toArray, List.getElem?_cons_zero, List.getElem?_cons_succ]; exact rfl) ?_) | (refine at_alt (by simp only [List.filterMap_cons, List.filterMap_nil, List.getElem?_toArray, List.getElem?_cons_zero, List.getElem?_cons_succ]; exact rfl) ?_) | refine qalt_normal ?_ | refine ats_cons ?_ ?_ | exact ats_nil
    | ((with_reducible first | refine awN (tyOf_ok _) [] ?_ | refine awO (tyOf_ok _) [] ?_ | refine awP (tyOf_ok _) [] ?_ | refine awQ ?_ | refine awR ?_ | refine awS ?_ | refine awT ?_ | refine awU ?_); intro r hr; simp only [go_sem, Nat.reduceBEq, Nat.reduceBneDiff, Nat.reduceLT, Nat.reduceLeDiff, Nat.reduceAdd, Nat.reduceMul, Nat.reduceSub, Nat.reduceEqDiff, reduceCtorEq, obm, mkV, vT, hn, he, gX, ze, hw4, encEs_len] at hr; subst hr; (first | refine awV ?_ ?_ | refine awW ?_ ?_ | refine endK ?_ ?_ | refine endGK ?_ ?_ ?_ | (refine condK (fun h => ?_) (fun h => ?_) <;> (try simp only [go_sem, reduceCtorEq] at h) <;> (try (exfalso; omega)))))
    | (refine go_callGE [(10000, 10000), (15000, 15000), (15001, 15001)] [(10000, 10000), (15000, 15000), (15001, 15001)] [15000, 15001] [10000] ?_; intro r hr; simp only [go_sem, Nat.reduceBEq, Nat.reduceBneDiff, Nat.reduceLT, Nat.reduceLeDiff, Nat.reduceAdd, Nat.reduceMul, Nat.reduceSub, Nat.reduceEqDiff, reduceCtorEq, obm, mkV, vT, hn, he, gX, ze, hw4, encEs_len] at hr; subst hr; refine callGK (l0) rfl rfl (by first | exact .inl rfl | exact .inr rfl) ?_ (.inl rfl) ?_)
    | (refine go_callGE [(10000, 10000), (15000, 15000), (15001, 15001)] [(10000, 10000), (15000, 15000), (15001, 15001)] [15000, 15001] [10000] ?_; intro r hr; simp only [go_sem, Nat.reduceBEq, Nat.reduceBneDiff, Nat.reduceLT, Nat.reduceLeDiff, Nat.reduceAdd, Nat.reduceMul, Nat.reduceSub, Nat.reduceEqDiff, reduceCtorEq, obm, mkV, vT, hn, he, gX, ze, hw4, encEs_len] at hr; subst hr; refine callGK (r0) rfl rfl (by first | exact .inl rfl | exact .inr rfl) ?_ (.inl rfl) ?_) | fail)) <;> (try omega)
    all_goals (first | exact AV.up_rfl _ | (repeat first | exact obUp_nil | refine obUp_cons rfl ?_))
  | true =>
    rw [hf] at gX
    have hm := marks_G 1 (by decide)
    have h0 := here_none (ts := ts) (rs := rs) (X := X) (Y := Y) (N := N) C1 (by omega) [mkn] 0 (-1) rfl
    have rd := read_G (ts := ts) (rs := rs) (X := X) (Y := Y) (N := N) C1 (by omega) (-1) e het
    obtain ⟨C2, hC2⟩ : ∃ D, (C1 ++ [readF ts[e] (-1) e] : List InsM) = D := ⟨_, rfl⟩
    have z2 : C2.length = C.length + 2 := by rw [← hC2]; simp [z1]
    rw [hC2] at rd
    have t0 := to_known (ts := ts) (rs := rs) (X := X) (Y := Y) (N := N) C2 (by omega) [[vI (C1.length : Int), nilW]] 0 C1.length nilW rfl (by omega) 14 n
    have hR : vecC ts X n e C = C2 ++ [⟨14, n, C1.length, 0⟩] := by rw [vecC, if_pos hf, ← hC2, ← hC1, List.getElem?_eq_getElem het]; simp
    rw [hR]
    generalize (C2 ++ [⟨14, n, C1.length, 0⟩] : List InsM) = C3 at *
    clear hR hC1 hC2
    simp only [obm, mkV, mkn, List.set_cons_zero, List.set_cons_succ, List.cons_append, List.nil_append] at *
    (repeat' (first
    | exact trivial
    | (with_reducible first | refine awA ?_ | refine awB ?_ | refine awC ?_ | refine awD ?_ | refine awE ?_ | refine awF ?_ | refine awG ?_ | refine awH ?_ | refine awI ?_ | refine awJ ?_ | refine awK ?_ | refine awL ?_ | refine awM (by decide) ?_)
    | (refine aw_draw (id := 2) (t := (.node [0, 1, 2, 3, 4, 5, 6, 7, 8, 9] [])) (drR [10000, 3] [15] []) mixed (by kernel_rfl) (by kernel_rfl) (fun _ _ h => h) ?_)
    | (refine aw_draw (id := 7) (t := (.node [0, 1, 2, 3, 4, 5] [])) (drR [3] [] [38]) mixed (by kernel_rfl) (by kernel_rfl) (fun _ _ h => h) ?_)
    | (refine at_done (by simp only [List.filterMap_cons, List.filterMap_nil, List.getElem?_toArray, List.getElem?_cons_zero, List.getElem?_cons_succ]; exact rfl) ?_) | (refine at_alt (by simp only [List.filterMap_cons, List.filterMap_nil, List.getElem?_toArray, List.getElem?_cons_zero, List.getElem?_cons_succ]; exact rfl) ?_) | refine qalt_normal ?_ | refine ats_cons ?_ ?_ | exact ats_nil
    | ((with_reducible first | refine awN (tyOf_ok _) [] ?_ | refine awO (tyOf_ok _) [] ?_ | refine awP (tyOf_ok _) [] ?_ | refine awQ ?_ | refine awR ?_ | refine awS ?_ | refine awT ?_ | refine awU ?_); intro r hr; simp only [go_sem, Nat.reduceBEq, Nat.reduceBneDiff, Nat.reduceLT, Nat.reduceLeDiff, Nat.reduceAdd, Nat.reduceMul, Nat.reduceSub, Nat.reduceEqDiff, reduceCtorEq, obm, mkV, mkn, vT, hn, he, gX, ze, encEs_len, List.set_cons_zero, List.set_cons_succ, List.cons_append, List.nil_append, Int.reduceToNat, Int.cast_ofNat_Int, Int.reduceToNat, Int.reduceEq, Int.reduceLT, Int.reduceLE, Int.reduceNe] at hr; subst hr; (first | refine awV ?_ ?_ | refine awW ?_ ?_ | refine endK ?_ ?_ | refine endGK ?_ ?_ ?_ | (refine condK (fun h => ?_) (fun h => ?_) <;> (try simp only [go_sem, reduceCtorEq] at h) <;> (try (exfalso; omega)))))
    | (refine go_callGE [(10000, 10000), (15000, 15000), (15001, 15001)] [(10000, 10000), (15000, 15000), (15001, 15001)] [15000, 15001] [10000] ?_; intro r hr; simp only [go_sem, Nat.reduceBEq, Nat.reduceBneDiff, Nat.reduceLT, Nat.reduceLeDiff, Nat.reduceAdd, Nat.reduceMul, Nat.reduceSub, Nat.reduceEqDiff, reduceCtorEq, obm, mkV, mkn, vT, hn, he, gX, ze, encEs_len, List.set_cons_zero, List.set_cons_succ, List.cons_append, List.nil_append, Int.reduceToNat, Int.cast_ofNat_Int, Int.reduceToNat, Int.reduceEq, Int.reduceLT, Int.reduceLE, Int.reduceNe] at hr; subst hr; refine callGK (l0) rfl rfl (by first | exact .inl rfl | exact .inr rfl) ?_ (.inl rfl) ?_)
    | (refine go_callGd 24 rfl [] [(6, 24)] [24] [] (by simp only [go_sem, Nat.reduceBEq, Nat.reduceBneDiff, Nat.reduceLT, Nat.reduceLeDiff, Nat.reduceAdd, Nat.reduceMul, Nat.reduceSub, Nat.reduceEqDiff, reduceCtorEq, obm, mkV, mkn, vT, hn, he, gX, ze, encEs_len, List.set_cons_zero, List.set_cons_succ, List.cons_append, List.nil_append, Int.reduceToNat, Int.cast_ofNat_Int, Int.reduceToNat, Int.reduceEq, Int.reduceLT, Int.reduceLE, Int.reduceNe]; exact rfl) ?_ rfl rfl (by first | exact .inl rfl | exact .inr rfl) (by simp only [go_sem, Nat.reduceBEq, Nat.reduceBneDiff, Nat.reduceLT, Nat.reduceLeDiff, Nat.reduceAdd, Nat.reduceMul, Nat.reduceSub, Nat.reduceEqDiff, reduceCtorEq, obm, mkV, mkn, vT, hn, he, gX, ze, encEs_len, List.set_cons_zero, List.set_cons_succ, List.cons_append, List.nil_append, Int.reduceToNat, Int.cast_ofNat_Int, Int.reduceToNat, Int.reduceEq, Int.reduceLT, Int.reduceLE, Int.reduceNe] <;> exact rfl) (hm) (.inr ⟨rfl, ?_⟩) ?_)
    | (refine go_callGE [(10000, 10000), (15000, 15000), (15001, 15001), (24, 10001)] [(10000, 10000), (15000, 15000), (15001, 15001), (10001, 24)] [15000, 15001] [10000, 24] ?_; intro r hr; simp only [go_sem, Nat.reduceBEq, Nat.reduceBneDiff, Nat.reduceLT, Nat.reduceLeDiff, Nat.reduceAdd, Nat.reduceMul, Nat.reduceSub, Nat.reduceEqDiff, reduceCtorEq, obm, mkV, mkn, vT, hn, he, gX, ze, encEs_len, List.set_cons_zero, List.set_cons_succ, List.cons_append, List.nil_append, Int.reduceToNat, Int.cast_ofNat_Int, Int.reduceToNat, Int.reduceEq, Int.reduceLT, Int.reduceLE, Int.reduceNe] at hr; subst hr; refine callGK (h0) rfl rfl (by first | exact .inl rfl | exact .inr rfl) ?_ (.inl rfl) ?_)
    | (refine go_callGE [(10000, 10000), (15000, 15000), (15001, 15001)] [(10000, 10000), (15000, 15000), (15001, 15001)] [15000, 15001] [10000] ?_; intro r hr; simp only [go_sem, Nat.reduceBEq, Nat.reduceBneDiff, Nat.reduceLT, Nat.reduceLeDiff, Nat.reduceAdd, Nat.reduceMul, Nat.reduceSub, Nat.reduceEqDiff, reduceCtorEq, obm, mkV, mkn, vT, hn, he, gX, ze, encEs_len, List.set_cons_zero, List.set_cons_succ, List.cons_append, List.nil_append, Int.reduceToNat, Int.cast_ofNat_Int, Int.reduceToNat, Int.reduceEq, Int.reduceLT, Int.reduceLE, Int.reduceNe] at hr; subst hr; refine callGK (rd) rfl rfl (by first | exact .inl rfl | exact .inr rfl) ?_ (.inl rfl) ?_)
    | (refine go_callGE [(10000, 10000), (15000, 15000), (15001, 15001), (24, 10001)] [(10000, 10000), (15000, 15000), (15001, 15001), (10001, 24)] [15000, 15001] [10000, 24] ?_; intro r hr; simp only [go_sem, Nat.reduceBEq, Nat.reduceBneDiff, Nat.reduceLT, Nat.reduceLeDiff, Nat.reduceAdd, Nat.reduceMul, Nat.reduceSub, Nat.reduceEqDiff, reduceCtorEq, obm, mkV, mkn, vT, hn, he, gX, ze, encEs_len, List.set_cons_zero, List.set_cons_succ, List.cons_append, List.nil_append, Int.reduceToNat, Int.cast_ofNat_Int, Int.reduceToNat, Int.reduceEq, Int.reduceLT, Int.reduceLE, Int.reduceNe] at hr; subst hr; refine callGK (t0) rfl rfl (by first | exact .inl rfl | exact .inr rfl) ?_ (.inl rfl) ?_) | fail)) <;> (try omega)
    all_goals first | exact ⟨mkn_nm _, trivial⟩ | (first | exact AV.up_rfl _ | (repeat first | exact obUp_nil | refine obUp_cons rfl ?_))
theorem list_G (C : List InsM) (hC : C.length ≤ 10000000) (T : TypeM) (n e : Nat) (hn : T.n = n) (he : T.elem = e) (het : e < ts.length) (heX : e < X.length) :
    GCall Try.prog 34 [.ptr 1 10000 0 0, vT T] (obm ts rs X Y N C) (.tup []) (obm ts rs X Y N (lisC ts X n e C)) := by
  refine go_fnG (tyOf_ok _) Try.func34 rfl rfl (by rw [Try.results34]) Try.ntmps34 rfl fun E => ?_
  have gX := fixE_get heX
  have ze : ((e : Int)).toNat = e := by omega
  have hm := marks_G 3 (by decide)
  have l0 := lay_G (ts := ts) (rs := rs) (X := X) (Y := Y) (N := N) C (by omega) 5 0 0 0
  obtain ⟨C1, hC1⟩ : ∃ D, (C ++ [⟨5, 0, 0, 0⟩] : List InsM) = D := ⟨_, rfl⟩
  have z1 : C1.length = C.length + 1 := by rw [← hC1]; simp
  rw [hC1] at l0
  cases hf : fixE X e with
  | true =>
    rw [hf] at gX
    have h0 := here_none (ts := ts) (rs := rs) (X := X) (Y := Y) (N := N) C1 (by omega) [mkn, mkn, mkn] 0 (-1) rfl
    have t0 := to_wait (ts := ts) (rs := rs) (X := X) (Y := Y) (N := N) C1 (by omega) [[vI (C1.length : Int), nilW], mkn, mkn] 1 (-1) rfl (by decide) 13 n
    obtain ⟨C2, hC2⟩ : ∃ D, (C1 ++ [⟨13, n, -1, 0⟩] : List InsM) = D := ⟨_, rfl⟩
    have z2 : C2.length = C.length + 2 := by rw [← hC2]; simp [z1]
    rw [hC2] at t0
    have rd := read_G (ts := ts) (rs := rs) (X := X) (Y := Y) (N := N) C2 (by omega) (-1) e het
    obtain ⟨C3, hC3⟩ : ∃ D, (C2 ++ [readF ts[e] (-1) e] : List InsM) = D := ⟨_, rfl⟩
    have z3 : C3.length = C.length + 3 := by rw [← hC3]; simp [z2]
    rw [hC3] at rd
    have t1 := to_known (ts := ts) (rs := rs) (X := X) (Y := Y) (N := N) C3 (by omega) [[vI (C1.length : Int), nilW], [vI (-1), .lsx 1 [[vI (C1.length : Int)]] []], mkn] 0 C1.length nilW rfl (by omega) 19 0
    obtain ⟨C4, hC4⟩ : ∃ D, (C3 ++ [⟨19, 0, C1.length, 0⟩] : List InsM) = D := ⟨_, rfl⟩
    have z4 : C4.length = C.length + 4 := by rw [← hC4]; simp [z3]
    rw [hC4] at t1
    have h1 := here_ws (ts := ts) (rs := rs) (X := X) (Y := Y) (N := N) C4 (by omega) [[vI (C1.length : Int), nilW], [vI (-1), .lsx 1 [[vI (C1.length : Int)]] []], mkn] 1 (-1) [(C1.length : Int)] rfl (fun w hw => by rw [List.mem_singleton] at hw; omega) (by simp)
    have hR : lisC ts X n e C = patch C4 [(C1.length : Int)] C4.length := by rw [lisC, if_pos hf, z4, z1, ← hC4, ← hC3, ← hC2, z1, ← hC1, List.getElem?_eq_getElem het]; simp
    rw [hR]
    have z5 := patch_len [(C1.length : Int)] C4.length C4
    generalize patch C4 [(C1.length : Int)] C4.length = C5 at *
    clear hR hC1 hC2 hC3 hC4
    simp only [obm, mkV, mkn, List.set_cons_zero, List.set_cons_succ, List.cons_append, List.nil_append] at *
    (repeat' (first
    | exact trivial
    | (with_reducible first | refine awA ?_ | refine awB ?_ | refine awC ?_ | refine awD ?_ | refine awE ?_ | refine awF ?_ | refine awG ?_ | refine awH ?_ | refine awI ?_ | refine awJ ?_ | refine awK ?_ | refine awL ?_ | refine awM (by decide) ?_)
    | (refine aw_draw (id := 3) (t := (.node [0, 1, 2, 3, 4, 5, 6, 7, 8] [])) (drR [10000, 3] [16] []) mixed (by kernel_rfl) (by kernel_rfl) (fun _ _ h => h) ?_)
    | (refine aw_draw (id := 5) (t := (.node [0, 1, 2, 3, 4, 5] [])) (drR [3] [] [26]) mixed (by kernel_rfl) (by kernel_rfl) (fun _ _ h => h) ?_)
    | (refine aw_draw (id := 9) (t := (.node [0, 1, 2, 3, 4, 5] [])) (drR [3] [] [44]) mixed (by kernel_rfl) (by kernel_rfl) (fun _ _ h => h) ?_)
    | (refine aw_draw (id := 11) (t := (.node [0, 1, 2, 3, 4, 5] [])) (drR [3] [] [54]) mixed (by kernel_rfl) (by kernel_rfl) (fun _ _ h => h) ?_)
    | (refine at_done (by simp only [List.filterMap_cons, List.filterMap_nil, List.getElem?_toArray, List.getElem?_cons_zero, List.getElem?_cons_succ]; exact rfl) ?_) | (refine at_alt (by simp only [List.filterMap_cons, List.filterMap_nil, List.getElem?_toArray, List.getElem?_cons_zero, List.getElem?_cons_succ]; exact rfl) ?_) | refine qalt_normal ?_ | refine ats_cons ?_ ?_ | exact ats_nil
    | ((with_reducible first | refine awN (tyOf_ok _) [] ?_ | refine awO (tyOf_ok _) [] ?_ | refine awP (tyOf_ok _) [] ?_ | refine awQ ?_ | refine awR ?_ | refine awS ?_ | refine awT ?_ | refine awU ?_); intro r hr; simp only [go_sem, Nat.reduceBEq, Nat.reduceBneDiff, Nat.reduceLT, Nat.reduceLeDiff, Nat.reduceAdd, Nat.reduceMul, Nat.reduceSub, Nat.reduceEqDiff, reduceCtorEq, obm, mkV, mkn, vT, hn, he, gX, ze, encEs_len, List.set_cons_zero, List.set_cons_succ, List.cons_append, List.nil_append, Int.reduceToNat, Int.cast_ofNat_Int, Int.reduceToNat, Int.reduceEq, Int.reduceLT, Int.reduceLE, Int.reduceNe] at hr; subst hr; (first | refine awV ?_ ?_ | refine awW ?_ ?_ | refine endK ?_ ?_ | refine endGK ?_ ?_ ?_ | (refine condK (fun h => ?_) (fun h => ?_) <;> (try simp only [go_sem, reduceCtorEq] at h) <;> (try (exfalso; omega)))))
    | (refine go_callGd 5 rfl [] [(6, 5)] [5] [] (by simp only [go_sem, Nat.reduceBEq, Nat.reduceBneDiff, Nat.reduceLT, Nat.reduceLeDiff, Nat.reduceAdd, Nat.reduceMul, Nat.reduceSub, Nat.reduceEqDiff, reduceCtorEq, obm, mkV, mkn, vT, hn, he, gX, ze, encEs_len, List.set_cons_zero, List.set_cons_succ, List.cons_append, List.nil_append, Int.reduceToNat, Int.cast_ofNat_Int, Int.reduceToNat, Int.reduceEq, Int.reduceLT, Int.reduceLE, Int.reduceNe]; exact rfl) ?_ rfl rfl (by first | exact .inl rfl | exact .inr rfl) (by simp only [go_sem, Nat.reduceBEq, Nat.reduceBneDiff, Nat.reduceLT, Nat.reduceLeDiff, Nat.reduceAdd, Nat.reduceMul, Nat.reduceSub, Nat.reduceEqDiff, reduceCtorEq, obm, mkV, mkn, vT, hn, he, gX, ze, encEs_len, List.set_cons_zero, List.set_cons_succ, List.cons_append, List.nil_append, Int.reduceToNat, Int.cast_ofNat_Int, Int.reduceToNat, Int.reduceEq, Int.reduceLT, Int.reduceLE, Int.reduceNe] <;> exact rfl) (hm) (.inr ⟨rfl, ?_⟩) ?_)
    | (refine go_callGE [(10000, 10000), (15000, 15000), (15001, 15001)] [(10000, 10000), (15000, 15000), (15001, 15001)] [15000, 15001] [10000] ?_; intro r hr; simp only [go_sem, Nat.reduceBEq, Nat.reduceBneDiff, Nat.reduceLT, Nat.reduceLeDiff, Nat.reduceAdd, Nat.reduceMul, Nat.reduceSub, Nat.reduceEqDiff, reduceCtorEq, obm, mkV, mkn, vT, hn, he, gX, ze, encEs_len, List.set_cons_zero, List.set_cons_succ, List.cons_append, List.nil_append, Int.reduceToNat, Int.cast_ofNat_Int, Int.reduceToNat, Int.reduceEq, Int.reduceLT, Int.reduceLE, Int.reduceNe] at hr; subst hr; refine callGK (l0) rfl rfl (by first | exact .inl rfl | exact .inr rfl) ?_ (.inl rfl) ?_)
    | (refine go_callGE [(10000, 10000), (15000, 15000), (15001, 15001), (5, 10001)] [(10000, 10000), (15000, 15000), (15001, 15001), (10001, 5)] [15000, 15001] [10000, 5] ?_; intro r hr; simp only [go_sem, Nat.reduceBEq, Nat.reduceBneDiff, Nat.reduceLT, Nat.reduceLeDiff, Nat.reduceAdd, Nat.reduceMul, Nat.reduceSub, Nat.reduceEqDiff, reduceCtorEq, obm, mkV, mkn, vT, hn, he, gX, ze, encEs_len, List.set_cons_zero, List.set_cons_succ, List.cons_append, List.nil_append, Int.reduceToNat, Int.cast_ofNat_Int, Int.reduceToNat, Int.reduceEq, Int.reduceLT, Int.reduceLE, Int.reduceNe] at hr; subst hr; refine callGK (h0) rfl rfl (by first | exact .inl rfl | exact .inr rfl) ?_ (.inl rfl) ?_)
    | (refine go_callGE [(10000, 10000), (15000, 15000), (15001, 15001), (5, 10001)] [(10000, 10000), (15000, 15000), (15001, 15001), (10001, 5)] [15000, 15001] [10000, 5] ?_; intro r hr; simp only [go_sem, Nat.reduceBEq, Nat.reduceBneDiff, Nat.reduceLT, Nat.reduceLeDiff, Nat.reduceAdd, Nat.reduceMul, Nat.reduceSub, Nat.reduceEqDiff, reduceCtorEq, obm, mkV, mkn, vT, hn, he, gX, ze, encEs_len, List.set_cons_zero, List.set_cons_succ, List.cons_append, List.nil_append, Int.reduceToNat, Int.cast_ofNat_Int, Int.reduceToNat, Int.reduceEq, Int.reduceLT, Int.reduceLE, Int.reduceNe] at hr; subst hr; refine callGK (t0) rfl rfl (by first | exact .inl rfl | exact .inr rfl) ?_ (.inl rfl) ?_)
    | (refine go_callGE [(10000, 10000), (15000, 15000), (15001, 15001)] [(10000, 10000), (15000, 15000), (15001, 15001)] [15000, 15001] [10000] ?_; intro r hr; simp only [go_sem, Nat.reduceBEq, Nat.reduceBneDiff, Nat.reduceLT, Nat.reduceLeDiff, Nat.reduceAdd, Nat.reduceMul, Nat.reduceSub, Nat.reduceEqDiff, reduceCtorEq, obm, mkV, mkn, vT, hn, he, gX, ze, encEs_len, List.set_cons_zero, List.set_cons_succ, List.cons_append, List.nil_append, Int.reduceToNat, Int.cast_ofNat_Int, Int.reduceToNat, Int.reduceEq, Int.reduceLT, Int.reduceLE, Int.reduceNe] at hr; subst hr; refine callGK (rd) rfl rfl (by first | exact .inl rfl | exact .inr rfl) ?_ (.inl rfl) ?_)
    | (refine go_callGE [(10000, 10000), (15000, 15000), (15001, 15001), (5, 10001)] [(10000, 10000), (15000, 15000), (15001, 15001), (10001, 5)] [15000, 15001] [10000, 5] ?_; intro r hr; simp only [go_sem, Nat.reduceBEq, Nat.reduceBneDiff, Nat.reduceLT, Nat.reduceLeDiff, Nat.reduceAdd, Nat.reduceMul, Nat.reduceSub, Nat.reduceEqDiff, reduceCtorEq, obm, mkV, mkn, vT, hn, he, gX, ze, encEs_len, List.set_cons_zero, List.set_cons_succ, List.cons_append, List.nil_append, Int.reduceToNat, Int.cast_ofNat_Int, Int.reduceToNat, Int.reduceEq, Int.reduceLT, Int.reduceLE, Int.reduceNe] at hr; subst hr; refine callGK (t1) rfl rfl (by first | exact .inl rfl | exact .inr rfl) ?_ (.inl rfl) ?_)
    | (refine go_callGE [(10000, 10000), (15000, 15000), (15001, 15001), (5, 10001)] [(10000, 10000), (15000, 15000), (15001, 15001), (10001, 5)] [15000, 15001] [10000, 5] ?_; intro r hr; simp only [go_sem, Nat.reduceBEq, Nat.reduceBneDiff, Nat.reduceLT, Nat.reduceLeDiff, Nat.reduceAdd, Nat.reduceMul, Nat.reduceSub, Nat.reduceEqDiff, reduceCtorEq, obm, mkV, mkn, vT, hn, he, gX, ze, encEs_len, List.set_cons_zero, List.set_cons_succ, List.cons_append, List.nil_append, Int.reduceToNat, Int.cast_ofNat_Int, Int.reduceToNat, Int.reduceEq, Int.reduceLT, Int.reduceLE, Int.reduceNe] at hr; subst hr; refine callGK (h1) rfl rfl (by first | exact .inl rfl | exact .inr rfl) ?_ (.inl rfl) ?_) | fail)) <;> (try omega)
    all_goals first | exact ⟨mkn_nm _, trivial⟩ | (first | exact AV.up_rfl _ | (repeat first | exact obUp_nil | refine obUp_cons rfl ?_))
  | false =>
    rw [hf] at gX
    have t0 := to_wait (ts := ts) (rs := rs) (X := X) (Y := Y) (N := N) C1 (by omega) [mkn, mkn, mkn] 1 (-1) rfl (by decide) 11 n
    obtain ⟨C2, hC2⟩ : ∃ D, (C1 ++ [⟨11, n, -1, 0⟩] : List InsM) = D := ⟨_, rfl⟩
    have z2 : C2.length = C.length + 2 := by rw [← hC2]; simp [z1]
    rw [hC2] at t0
    have t1 := to_wait (ts := ts) (rs := rs) (X := X) (Y := Y) (N := N) C2 (by omega) [mkn, [vI (-1), .lsx 1 [[vI (C1.length : Int)]] []], mkn] 2 (-1) rfl (by decide) 19 0
    obtain ⟨C3, hC3⟩ : ∃ D, (C2 ++ [⟨19, 0, -1, 0⟩] : List InsM) = D := ⟨_, rfl⟩
    have z3 : C3.length = C.length + 3 := by rw [← hC3]; simp [z2]
    rw [hC3] at t1
    have r0 := rounds_s (ts := ts) (rs := rs) (X := X) (Y := Y) (N := N) C3 (by omega) 4 e [mkn, [vI (-1), .lsx 1 [[vI (C1.length : Int)]] []], [vI (-1), .lsx 1 [[vI (C2.length : Int)]] []]] (-1) [(C2.length : Int)] rfl (fun w hw => by rw [List.mem_singleton] at hw; omega) (by simp)
    obtain ⟨C4, hC4⟩ : ∃ D, rnd C3 e (patch (C3 ++ [⟨10, 4, 0, 0⟩]) [(C2.length : Int)] ((C3.length + 1 : Nat) : Int)) = D := ⟨_, rfl⟩
    have z4 : C4.length = C.length + 9 := by rw [← hC4, rnd_len, patch_len]; simp [z3]
    rw [hC4] at r0
    have h1 := here_ws (ts := ts) (rs := rs) (X := X) (Y := Y) (N := N) C4 (by omega) [mkn, [vI (-1), .lsx 1 [[vI (C1.length : Int)]] []], [vI ((C3.length + 1 : Nat) : Int), nilW]] 1 (-1) [(C1.length : Int)] rfl (fun w hw => by rw [List.mem_singleton] at hw; omega) (by simp)
    have hR : lisC ts X n e C = patch C4 [(C1.length : Int)] C4.length := by rw [lisC, hf, if_neg (by simp), z4, z1, ← hC4, z3, z2, ← hC3, ← hC2, ← hC1]; simp [Int.add_assoc]
    rw [hR]
    have z5 := patch_len [(C1.length : Int)] C4.length C4
    generalize patch C4 [(C1.length : Int)] C4.length = C5 at *
    clear hR hC1 hC2 hC3 hC4
    simp only [obm, mkV, mkn, List.set_cons_zero, List.set_cons_succ, List.cons_append, List.nil_append] at *
    (repeat' (first
    | exact trivial
    | (with_reducible first | refine awA ?_ | refine awB ?_ | refine awC ?_ | refine awD ?_ | refine awE ?_ | refine awF ?_ | refine awG ?_ | refine awH ?_ | refine awI ?_ | refine awJ ?_ | refine awK ?_ | refine awL ?_ | refine awM (by decide) ?_)
    | (refine aw_draw (id := 3) (t := (.node [0, 1, 2, 3, 4, 5, 6, 7, 8] [])) (drR [10000, 3] [16] []) mixed (by kernel_rfl) (by kernel_rfl) (fun _ _ h => h) ?_)
    | (refine aw_draw (id := 5) (t := (.node [0, 1, 2, 3, 4, 5] [])) (drR [3] [] [26]) mixed (by kernel_rfl) (by kernel_rfl) (fun _ _ h => h) ?_)
    | (refine aw_draw (id := 9) (t := (.node [0, 1, 2, 3, 4, 5] [])) (drR [3] [] [44]) mixed (by kernel_rfl) (by kernel_rfl) (fun _ _ h => h) ?_)
    | (refine aw_draw (id := 11) (t := (.node [0, 1, 2, 3, 4, 5] [])) (drR [3] [] [54]) mixed (by kernel_rfl) (by kernel_rfl) (fun _ _ h => h) ?_)
    | (refine at_done (by simp only [List.filterMap_cons, List.filterMap_nil, List.getElem?_toArray, List.getElem?_cons_zero, List.getElem?_cons_succ]; exact rfl) ?_) | (refine at_alt (by simp only [List.filterMap_cons, List.filterMap_nil, List.getElem?_toArray, List.getElem?_cons_zero, List.getElem?_cons_succ]; exact rfl) ?_) | refine qalt_normal ?_ | refine ats_cons ?_ ?_ | exact ats_nil
    | ((with_reducible first | refine awN (tyOf_ok _) [] ?_ | refine awO (tyOf_ok _) [] ?_ | refine awP (tyOf_ok _) [] ?_ | refine awQ ?_ | refine awR ?_ | refine awS ?_ | refine awT ?_ | refine awU ?_); intro r hr; simp only [go_sem, Nat.reduceBEq, Nat.reduceBneDiff, Nat.reduceLT, Nat.reduceLeDiff, Nat.reduceAdd, Nat.reduceMul, Nat.reduceSub, Nat.reduceEqDiff, reduceCtorEq, obm, mkV, mkn, vT, hn, he, gX, ze, encEs_len, List.set_cons_zero, List.set_cons_succ, List.cons_append, List.nil_append, Int.reduceToNat, Int.cast_ofNat_Int, Int.reduceToNat, Int.reduceEq, Int.reduceLT, Int.reduceLE, Int.reduceNe] at hr; subst hr; (first | refine awV ?_ ?_ | refine awW ?_ ?_ | refine endK ?_ ?_ | refine endGK ?_ ?_ ?_ | (refine condK (fun h => ?_) (fun h => ?_) <;> (try simp only [go_sem, reduceCtorEq] at h) <;> (try (exfalso; omega)))))
    | (refine go_callGd 5 rfl [] [(6, 5)] [5] [] (by simp only [go_sem, Nat.reduceBEq, Nat.reduceBneDiff, Nat.reduceLT, Nat.reduceLeDiff, Nat.reduceAdd, Nat.reduceMul, Nat.reduceSub, Nat.reduceEqDiff, reduceCtorEq, obm, mkV, mkn, vT, hn, he, gX, ze, encEs_len, List.set_cons_zero, List.set_cons_succ, List.cons_append, List.nil_append, Int.reduceToNat, Int.cast_ofNat_Int, Int.reduceToNat, Int.reduceEq, Int.reduceLT, Int.reduceLE, Int.reduceNe]; exact rfl) ?_ rfl rfl (by first | exact .inl rfl | exact .inr rfl) (by simp only [go_sem, Nat.reduceBEq, Nat.reduceBneDiff, Nat.reduceLT, Nat.reduceLeDiff, Nat.reduceAdd, Nat.reduceMul, Nat.reduceSub, Nat.reduceEqDiff, reduceCtorEq, obm, mkV, mkn, vT, hn, he, gX, ze, encEs_len, List.set_cons_zero, List.set_cons_succ, List.cons_append, List.nil_append, Int.reduceToNat, Int.cast_ofNat_Int, Int.reduceToNat, Int.reduceEq, Int.reduceLT, Int.reduceLE, Int.reduceNe] <;> exact rfl) (hm) (.inr ⟨rfl, ?_⟩) ?_)
    | (refine go_callGE [(10000, 10000), (15000, 15000), (15001, 15001)] [(10000, 10000), (15000, 15000), (15001, 15001)] [15000, 15001] [10000] ?_; intro r hr; simp only [go_sem, Nat.reduceBEq, Nat.reduceBneDiff, Nat.reduceLT, Nat.reduceLeDiff, Nat.reduceAdd, Nat.reduceMul, Nat.reduceSub, Nat.reduceEqDiff, reduceCtorEq, obm, mkV, mkn, vT, hn, he, gX, ze, encEs_len, List.set_cons_zero, List.set_cons_succ, List.cons_append, List.nil_append, Int.reduceToNat, Int.cast_ofNat_Int, Int.reduceToNat, Int.reduceEq, Int.reduceLT, Int.reduceLE, Int.reduceNe] at hr; subst hr; refine callGK (l0) rfl rfl (by first | exact .inl rfl | exact .inr rfl) ?_ (.inl rfl) ?_)
    | (refine go_callGE [(10000, 10000), (15000, 15000), (15001, 15001), (5, 10001)] [(10000, 10000), (15000, 15000), (15001, 15001), (10001, 5)] [15000, 15001] [10000, 5] ?_; intro r hr; simp only [go_sem, Nat.reduceBEq, Nat.reduceBneDiff, Nat.reduceLT, Nat.reduceLeDiff, Nat.reduceAdd, Nat.reduceMul, Nat.reduceSub, Nat.reduceEqDiff, reduceCtorEq, obm, mkV, mkn, vT, hn, he, gX, ze, encEs_len, List.set_cons_zero, List.set_cons_succ, List.cons_append, List.nil_append, Int.reduceToNat, Int.cast_ofNat_Int, Int.reduceToNat, Int.reduceEq, Int.reduceLT, Int.reduceLE, Int.reduceNe] at hr; subst hr; refine callGK (t0) rfl rfl (by first | exact .inl rfl | exact .inr rfl) ?_ (.inl rfl) ?_)
    | (refine go_callGE [(10000, 10000), (15000, 15000), (15001, 15001), (5, 10001)] [(10000, 10000), (15000, 15000), (15001, 15001), (10001, 5)] [15000, 15001] [10000, 5] ?_; intro r hr; simp only [go_sem, Nat.reduceBEq, Nat.reduceBneDiff, Nat.reduceLT, Nat.reduceLeDiff, Nat.reduceAdd, Nat.reduceMul, Nat.reduceSub, Nat.reduceEqDiff, reduceCtorEq, obm, mkV, mkn, vT, hn, he, gX, ze, encEs_len, List.set_cons_zero, List.set_cons_succ, List.cons_append, List.nil_append, Int.reduceToNat, Int.cast_ofNat_Int, Int.reduceToNat, Int.reduceEq, Int.reduceLT, Int.reduceLE, Int.reduceNe] at hr; subst hr; refine callGK (t1) rfl rfl (by first | exact .inl rfl | exact .inr rfl) ?_ (.inl rfl) ?_)
    | (refine go_callGE [(10000, 10000), (15000, 15000), (15001, 15001), (5, 10001)] [(10000, 10000), (15000, 15000), (15001, 15001), (10001, 5)] [15000, 15001] [10000, 5] ?_; intro r hr; simp only [go_sem, Nat.reduceBEq, Nat.reduceBneDiff, Nat.reduceLT, Nat.reduceLeDiff, Nat.reduceAdd, Nat.reduceMul, Nat.reduceSub, Nat.reduceEqDiff, reduceCtorEq, obm, mkV, mkn, vT, hn, he, gX, ze, encEs_len, List.set_cons_zero, List.set_cons_succ, List.cons_append, List.nil_append, Int.reduceToNat, Int.cast_ofNat_Int, Int.reduceToNat, Int.reduceEq, Int.reduceLT, Int.reduceLE, Int.reduceNe] at hr; subst hr; refine callGK (r0) rfl rfl (by first | exact .inl rfl | exact .inr rfl) ?_ (.inl rfl) ?_)
    | (refine go_callGE [(10000, 10000), (15000, 15000), (15001, 15001), (5, 10001)] [(10000, 10000), (15000, 15000), (15001, 15001), (10001, 5)] [15000, 15001] [10000, 5] ?_; intro r hr; simp only [go_sem, Nat.reduceBEq, Nat.reduceBneDiff, Nat.reduceLT, Nat.reduceLeDiff, Nat.reduceAdd, Nat.reduceMul, Nat.reduceSub, Nat.reduceEqDiff, reduceCtorEq, obm, mkV, mkn, vT, hn, he, gX, ze, encEs_len, List.set_cons_zero, List.set_cons_succ, List.cons_append, List.nil_append, Int.reduceToNat, Int.cast_ofNat_Int, Int.reduceToNat, Int.reduceEq, Int.reduceLT, Int.reduceLE, Int.reduceNe] at hr; subst hr; refine callGK (h1) rfl rfl (by first | exact .inl rfl | exact .inr rfl) ?_ (.inl rfl) ?_) | fail)) <;> (try omega)
    all_goals first | exact ⟨mkn_nm _, trivial⟩ | (first | exact AV.up_rfl _ | (repeat first | exact obUp_nil | refine obUp_cons rfl ?_))
end
end Go.Proofs.Ytljfgohecmhchaa
end
section
namespace Go.Proofs.Ytljfgohecmhchaa
open Go.RowKit
set_option maxRecDepth 100000
set_option maxHeartbeats 16000000
/-! Routines of package lower: structs. -/
def tyZ (ts : List TypeM) (t : Int) : TypeM := (ts[t.toNat]?).getD ⟨0, 0, 0, []⟩
theorem tyZ_lt {ts : List TypeM} {t : Nat} (h : t < ts.length) : tyZ ts t = ts[t] := by rw [tyZ, Int.toNat_natCast, List.getElem?_eq_getElem h]; rfl
def fldF (ts : List TypeM) (X : List ExtM) (size : Int) (i : Nat) (p : PartM) : InsM := if fixE X p.ty = true then readF (tyZ ts p.ty) i p.ty else ⟨10, size, 0, 0⟩
def flds (ts : List TypeM) (X : List ExtM) (size : Int) : List PartM → Nat → List InsM
  | [], _ => []
  | p :: l, i => fldF ts X size i p :: flds ts X size l (i + 1)
theorem flds_app (ts : List TypeM) (X : List ExtM) (size : Int) (p : PartM) : ∀ (l : List PartM) (i : Nat), flds ts X size (l ++ [p]) i = flds ts X size l i ++ [fldF ts X size (i + l.length) p]
  | [], i => rfl
  | q :: l, i => by rw [List.cons_append, flds, flds_app ts X size p l, flds, List.cons_append, List.length_cons, show i + 1 + l.length = i + (l.length + 1) by omega]
theorem flds_len (ts : List TypeM) (X : List ExtM) (size : Int) : ∀ (l : List PartM) (i : Nat), (flds ts X size l i).length = l.length
  | [], _ => rfl
  | p :: l, i => by rw [flds, List.length_cons, flds_len ts X size l, List.length_cons]
/-- how many are not fixed -/
def nvar (X : List ExtM) (l : List PartM) : Nat := (l.filter fun p => !fixE X p.ty).length
def tls (X : List ExtM) : List PartM → Nat → Nat → List InsM
  | [], _, _ => []
  | p :: l, i, j => if fixE X p.ty = true then tls X l (i + 1) j else ⟨17, i, j, p.ty⟩ :: ⟨18, j, 0, 0⟩ :: tls X l (i + 1) (j + 1)
theorem tls_app (X : List ExtM) (p : PartM) : ∀ (l : List PartM) (i j : Nat), tls X (l ++ [p]) i j = tls X l i j ++ (if fixE X p.ty = true then [] else [⟨17, ((i + l.length : Nat) : Int), ((j + nvar X l : Nat) : Int), p.ty⟩, ⟨18, ((j + nvar X l : Nat) : Int), 0, 0⟩])
  | [], i, j => by simp [tls, nvar]
  | q :: l, i, j => by
    rw [List.cons_append, tls, tls]
    by_cases hq : fixE X q.ty = true
    · rw [if_pos hq, if_pos hq, tls_app X p l (i + 1) j]
      have : nvar X (q :: l) = nvar X l := by simp [nvar, hq]
      rw [this, List.length_cons, show i + 1 + l.length = i + (l.length + 1) by omega]
    · rw [if_neg hq, if_neg hq, tls_app X p l (i + 1) (j + 1)]
      have : nvar X (q :: l) = nvar X l + 1 := by simp [nvar, hq]
      rw [this, List.length_cons, show i + 1 + l.length = i + (l.length + 1) by omega, show j + 1 + nvar X l = j + (nvar X l + 1) by omega]
      rfl
theorem nvar_app (X : List ExtM) (p : PartM) (l : List PartM) : nvar X (l ++ [p]) = nvar X l + (if fixE X p.ty = true then 0 else 1) := by
  unfold nvar
  rw [List.filter_append, List.length_append]
  by_cases hp : fixE X p.ty = true <;> simp [hp]
theorem nvar_le (X : List ExtM) (l : List PartM) : nvar X l ≤ l.length := List.length_filter_le _ _
theorem tls_len (X : List ExtM) : ∀ (l : List PartM) (i j : Nat), (tls X l i j).length = 2 * nvar X l
  | [], _, _ => rfl
  | p :: l, i, j => by
    rw [tls]
    by_cases hp : fixE X p.ty = true
    · rw [if_pos hp, tls_len X l]; simp [nvar, hp]
    · rw [if_neg hp, List.length_cons, List.length_cons, tls_len X l]; simp [nvar, hp]; omega
def fieC (ts : List TypeM) (X : List ExtM) (size : Int) (l : List PartM) (C : List InsM) : List InsM := (C ++ [⟨6, 0, 0, 0⟩]) ++ flds ts X size l 0 ++ tls X l 0 0
section
variable {ts : List TypeM} {rs : List RootM} {X : List ExtM} {Y : List LayM} {N : List Int}
theorem fields_G (C : List InsM) (hC : C.length ≤ 10000000) (T : TypeM) (L : LayM) (hl : T.parts.length ≤ 10000000) (hin : ∀ i (h : i < T.parts.length), ∃ pn : Nat, T.parts[i].ty = pn ∧ pn < ts.length ∧ pn < X.length) :
    GCall Try.prog 39 [.ptr 1 10000 0 0, vT T, vLay L] (obm ts rs X Y N C) (.tup []) (obm ts rs X Y N (fieC ts X L.size T.parts C)) := by
  refine go_fnG (tyOf_ok _) Try.func39 rfl rfl (by rw [Try.results39]) Try.ntmps39 rfl fun E => ?_
  have l0 := lay_G (ts := ts) (rs := rs) (X := X) (Y := Y) (N := N) C (by omega) 6 0 0 0
  obtain ⟨C1, hC1⟩ : ∃ D, (C ++ [⟨6, 0, 0, 0⟩] : List InsM) = D := ⟨_, rfl⟩
  have z1 : C1.length = C.length + 1 := by rw [← hC1]; simp
  have hR : fieC ts X L.size T.parts C = C1 ++ flds ts X L.size T.parts 0 ++ tls X T.parts 0 0 := by rw [fieC, hC1]
  rw [hR]
  rw [hC1] at l0
  clear hC1 hR
  unfold obm mkV at l0
  (repeat' (first
    | exact trivial
    | (with_reducible first | refine awA ?_ | refine awB ?_ | refine awC ?_ | refine awD ?_ | refine awE ?_ | refine awF ?_ | refine awG ?_ | refine awH ?_ | refine awI ?_ | refine awJ ?_ | refine awK ?_ | refine awL ?_ | refine awM (by decide) ?_)
    | (refine aw_draw (id := 5) (t := (.node [0, 1, 2, 3, 4, 5, 6, 7, 8] [])) (drR [10000, 7] [29] []) mixed (by kernel_rfl) (by kernel_rfl) (fun _ _ h => h) ?_)
    | (refine aw_draw (id := 13) (t := (.node [0, 1, 2, 3, 4, 5, 6, 7, 8, 9] [])) (drR [10000, 10] [56] []) mixed (by kernel_rfl) (by kernel_rfl) (fun _ _ h => h) ?_)
    | (refine at_done (by simp only [List.filterMap_cons, List.filterMap_nil, List.getElem?_toArray, List.getElem?_cons_zero, List.getElem?_cons_succ]; exact rfl) ?_) | (refine at_alt (by simp only [List.filterMap_cons, List.filterMap_nil, List.getElem?_toArray, List.getElem?_cons_zero, List.getElem?_cons_succ]; exact rfl) ?_) | refine qalt_normal ?_ | refine ats_cons ?_ ?_ | exact ats_nil
    | ((with_reducible first | refine awN (tyOf_ok _) [] ?_ | refine awO (tyOf_ok _) [] ?_ | refine awP (tyOf_ok _) [] ?_ | refine awQ ?_ | refine awR ?_ | refine awS ?_ | refine awT ?_ | refine awU ?_); intro r hr; simp only [go_sem, Nat.reduceBEq, Nat.reduceBneDiff, Nat.reduceLT, Nat.reduceLeDiff, Nat.reduceAdd, Nat.reduceMul, Nat.reduceSub, Nat.reduceEqDiff, reduceCtorEq, obm, mkV, vT, vLay, encPs_len] at hr; subst hr; (first | refine awV ?_ ?_ | refine awW ?_ ?_ | refine endK ?_ ?_ | refine endGK ?_ ?_ ?_ | (refine condK (fun h => ?_) (fun h => ?_) <;> (try simp only [go_sem, reduceCtorEq] at h) <;> (try (exfalso; omega)))))
    | (refine go_callGE [(10000, 10000), (15000, 15000), (15001, 15001)] [(10000, 10000), (15000, 15000), (15001, 15001)] [15000, 15001] [10000] ?_; intro r hr; simp only [go_sem, Nat.reduceBEq, Nat.reduceBneDiff, Nat.reduceLT, Nat.reduceLeDiff, Nat.reduceAdd, Nat.reduceMul, Nat.reduceSub, Nat.reduceEqDiff, reduceCtorEq, obm, mkV, vT, vLay, encPs_len] at hr; subst hr; refine callGK (l0) rfl rfl (by first | exact .inl rfl | exact .inr rfl) ?_ (.inl rfl) ?_) | fail)) <;> (try omega)
  refine go_loop [0, 4, 5, 14, 15, 16] [4, 5, 10000, 15000, 15001] (fun k : Nat => ⟨[(0, true, .ptr 1 10000 0 0), (4, true, .ptr 1 4 0 0), (5, true, .ptr 1 5 0 0), (14, true, .lst 3 (encPs T.parts)), (15, true, vI T.parts.length), (16, true, vI k)],
      [(4, .var [vI T.kind, vI T.n, vI T.elem, .lst 3 (encPs T.parts)]), (5, .var [vI L.size, .lst 3 (encSs L.slots)])] ++ obm ts rs X Y N (C1 ++ flds ts X L.size (T.parts.take k) 0)⟩)
    (fun k => k ≤ T.parts.length) (fun k => T.parts.length - k) 0 (by simp only [obm, mkV, List.take_zero, flds, List.append_nil, List.cons_append, List.nil_append, go_sem, Nat.reduceBEq, Nat.reduceBneDiff, Nat.reduceLT, Nat.reduceLeDiff, Nat.reduceAdd, Nat.reduceMul, Nat.reduceSub, Nat.reduceEqDiff, reduceCtorEq] <;> exact rfl) (Nat.zero_le _) ?_
  clear l0
  · intro k hk
    have hwk := wrap_i64 (n := (k : Int) + 1) (by omega)
    have hDl : (C1 ++ flds ts X L.size (T.parts.take k) 0).length = C1.length + k := by rw [List.length_append, flds_len, List.length_take]; omega
    by_cases hlt : k < T.parts.length
    · have f1 : ((k : Int) < T.parts.length) = True := eq_true (by omega)
      have g1 := encPs_get hlt
      obtain ⟨pn, hpn, hp1, hp2⟩ := hin k hlt
      have gX := fixE_get hp2
      have zk : ((k : Int)).toNat = k := by omega
      have zp : ((pn : Int)).toNat = pn := by omega
      have hnext : (C1 ++ flds ts X L.size (T.parts.take k) 0) ++ [fldF ts X L.size k T.parts[k]] = C1 ++ flds ts X L.size (T.parts.take (k + 1)) 0 := by
        rw [List.take_succ_eq_append_getElem hlt, flds_app, List.length_take, Nat.min_eq_left hk, Nat.zero_add, List.append_assoc]
      unfold fldF at hnext
      rw [hpn] at g1 hnext
      generalize hC' : C1 ++ flds ts X L.size (T.parts.take k) 0 = D at *
      generalize T.parts[k] = pp at *
      cases hf : fixE X pn with
      | true =>
        rw [hf] at gX
        have rd := read_G (ts := ts) (rs := rs) (X := X) (Y := Y) (N := N) D (by omega) k pn hp1
        rw [if_pos hf, tyZ_lt hp1] at hnext
        rw [hnext] at rd
        generalize hC2 : C1 ++ flds ts X L.size (T.parts.take (k + 1)) 0 = D2 at *
        simp only [obm, mkV] at rd
        (repeat' (first
    | exact trivial
    | (with_reducible first | refine awA ?_ | refine awB ?_ | refine awC ?_ | refine awD ?_ | refine awE ?_ | refine awF ?_ | refine awG ?_ | refine awH ?_ | refine awI ?_ | refine awJ ?_ | refine awK ?_ | refine awL ?_ | refine awM (by decide) ?_)
    | (refine aw_draw (id := 5) (t := (.node [0, 1, 2, 3, 4, 5, 6, 7, 8] [])) (drR [10000, 7] [29] []) mixed (by kernel_rfl) (by kernel_rfl) (fun _ _ h => h) ?_)
    | (refine aw_draw (id := 13) (t := (.node [0, 1, 2, 3, 4, 5, 6, 7, 8, 9] [])) (drR [10000, 10] [56] []) mixed (by kernel_rfl) (by kernel_rfl) (fun _ _ h => h) ?_)
    | (refine at_done (by simp only [List.filterMap_cons, List.filterMap_nil, List.getElem?_toArray, List.getElem?_cons_zero, List.getElem?_cons_succ]; exact rfl) ?_) | (refine at_alt (by simp only [List.filterMap_cons, List.filterMap_nil, List.getElem?_toArray, List.getElem?_cons_zero, List.getElem?_cons_succ]; exact rfl) ?_) | refine qalt_normal ?_ | refine ats_cons ?_ ?_ | exact ats_nil
    | ((with_reducible first | refine awN (tyOf_ok _) [] ?_ | refine awO (tyOf_ok _) [] ?_ | refine awP (tyOf_ok _) [] ?_ | refine awQ ?_ | refine awR ?_ | refine awS ?_ | refine awT ?_ | refine awU ?_); intro r hr; simp only [go_sem, Nat.reduceBEq, Nat.reduceBneDiff, Nat.reduceLT, Nat.reduceLeDiff, Nat.reduceAdd, Nat.reduceMul, Nat.reduceSub, Nat.reduceEqDiff, reduceCtorEq, obm, mkV, List.cons_append, List.nil_append, f1, g1, gX, zk, zp, hwk, encEs_len] at hr; subst hr; (first | refine awV ?_ ?_ | refine awW ?_ ?_ | refine endK ?_ ?_ | refine endGK ?_ ?_ ?_ | (refine condK (fun h => ?_) (fun h => ?_) <;> (try simp only [go_sem, reduceCtorEq] at h) <;> (try (exfalso; omega)))))
    | (refine go_callGE [(10000, 10000), (15000, 15000), (15001, 15001)] [(10000, 10000), (15000, 15000), (15001, 15001)] [15000, 15001] [10000] ?_; intro r hr; simp only [go_sem, Nat.reduceBEq, Nat.reduceBneDiff, Nat.reduceLT, Nat.reduceLeDiff, Nat.reduceAdd, Nat.reduceMul, Nat.reduceSub, Nat.reduceEqDiff, reduceCtorEq, obm, mkV, List.cons_append, List.nil_append, f1, g1, gX, zk, zp, hwk, encEs_len] at hr; subst hr; refine callGK (rd) rfl rfl (by first | exact .inl rfl | exact .inr rfl) ?_ (.inl rfl) ?_) | fail)) <;> (try omega)
        all_goals exact ⟨k + 1, by simp only [obm, mkV, hC2, List.cons_append, List.nil_append, go_sem, Nat.reduceBEq, Nat.reduceBneDiff, Nat.reduceLT, Nat.reduceLeDiff, Nat.reduceAdd, Nat.reduceMul, Nat.reduceSub, Nat.reduceEqDiff, reduceCtorEq] <;> exact rfl, hlt, by omega⟩
      | false =>
        rw [hf] at gX
        have rd := lay_G (ts := ts) (rs := rs) (X := X) (Y := Y) (N := N) D (by omega) 10 L.size 0 0
        rw [hf, if_neg (by simp)] at hnext
        rw [hnext] at rd
        generalize hC2 : C1 ++ flds ts X L.size (T.parts.take (k + 1)) 0 = D2 at *
        simp only [obm, mkV] at rd
        (repeat' (first
    | exact trivial
    | (with_reducible first | refine awA ?_ | refine awB ?_ | refine awC ?_ | refine awD ?_ | refine awE ?_ | refine awF ?_ | refine awG ?_ | refine awH ?_ | refine awI ?_ | refine awJ ?_ | refine awK ?_ | refine awL ?_ | refine awM (by decide) ?_)
    | (refine aw_draw (id := 5) (t := (.node [0, 1, 2, 3, 4, 5, 6, 7, 8] [])) (drR [10000, 7] [29] []) mixed (by kernel_rfl) (by kernel_rfl) (fun _ _ h => h) ?_)
    | (refine aw_draw (id := 13) (t := (.node [0, 1, 2, 3, 4, 5, 6, 7, 8, 9] [])) (drR [10000, 10] [56] []) mixed (by kernel_rfl) (by kernel_rfl) (fun _ _ h => h) ?_)
    | (refine at_done (by simp only [List.filterMap_cons, List.filterMap_nil, List.getElem?_toArray, List.getElem?_cons_zero, List.getElem?_cons_succ]; exact rfl) ?_) | (refine at_alt (by simp only [List.filterMap_cons, List.filterMap_nil, List.getElem?_toArray, List.getElem?_cons_zero, List.getElem?_cons_succ]; exact rfl) ?_) | refine qalt_normal ?_ | refine ats_cons ?_ ?_ | exact ats_nil
    | ((with_reducible first | refine awN (tyOf_ok _) [] ?_ | refine awO (tyOf_ok _) [] ?_ | refine awP (tyOf_ok _) [] ?_ | refine awQ ?_ | refine awR ?_ | refine awS ?_ | refine awT ?_ | refine awU ?_); intro r hr; simp only [go_sem, Nat.reduceBEq, Nat.reduceBneDiff, Nat.reduceLT, Nat.reduceLeDiff, Nat.reduceAdd, Nat.reduceMul, Nat.reduceSub, Nat.reduceEqDiff, reduceCtorEq, obm, mkV, List.cons_append, List.nil_append, f1, g1, gX, zk, zp, hwk, encEs_len] at hr; subst hr; (first | refine awV ?_ ?_ | refine awW ?_ ?_ | refine endK ?_ ?_ | refine endGK ?_ ?_ ?_ | (refine condK (fun h => ?_) (fun h => ?_) <;> (try simp only [go_sem, reduceCtorEq] at h) <;> (try (exfalso; omega)))))
    | (refine go_callGE [(10000, 10000), (15000, 15000), (15001, 15001)] [(10000, 10000), (15000, 15000), (15001, 15001)] [15000, 15001] [10000] ?_; intro r hr; simp only [go_sem, Nat.reduceBEq, Nat.reduceBneDiff, Nat.reduceLT, Nat.reduceLeDiff, Nat.reduceAdd, Nat.reduceMul, Nat.reduceSub, Nat.reduceEqDiff, reduceCtorEq, obm, mkV, List.cons_append, List.nil_append, f1, g1, gX, zk, zp, hwk, encEs_len] at hr; subst hr; refine callGK (rd) rfl rfl (by first | exact .inl rfl | exact .inr rfl) ?_ (.inl rfl) ?_) | fail)) <;> (try omega)
        all_goals exact ⟨k + 1, by simp only [obm, mkV, hC2, List.cons_append, List.nil_append, go_sem, Nat.reduceBEq, Nat.reduceBneDiff, Nat.reduceLT, Nat.reduceLeDiff, Nat.reduceAdd, Nat.reduceMul, Nat.reduceSub, Nat.reduceEqDiff, reduceCtorEq] <;> exact rfl, hlt, by omega⟩
    have f1 : ((k : Int) < T.parts.length) = False := eq_false (by omega)
    have hke : T.parts.take k = T.parts := take_len (by omega)
    rw [hke] at hDl ⊢
    obtain ⟨C2, hC2⟩ : ∃ D, C1 ++ flds ts X L.size T.parts 0 = D := ⟨_, rfl⟩
    rw [hC2] at hDl ⊢
    (repeat' (first
    | exact trivial
    | (with_reducible first | refine awA ?_ | refine awB ?_ | refine awC ?_ | refine awD ?_ | refine awE ?_ | refine awF ?_ | refine awG ?_ | refine awH ?_ | refine awI ?_ | refine awJ ?_ | refine awK ?_ | refine awL ?_ | refine awM (by decide) ?_)
    | (refine aw_draw (id := 5) (t := (.node [0, 1, 2, 3, 4, 5, 6, 7, 8] [])) (drR [10000, 7] [29] []) mixed (by kernel_rfl) (by kernel_rfl) (fun _ _ h => h) ?_)
    | (refine aw_draw (id := 13) (t := (.node [0, 1, 2, 3, 4, 5, 6, 7, 8, 9] [])) (drR [10000, 10] [56] []) mixed (by kernel_rfl) (by kernel_rfl) (fun _ _ h => h) ?_)
    | (refine at_done (by simp only [List.filterMap_cons, List.filterMap_nil, List.getElem?_toArray, List.getElem?_cons_zero, List.getElem?_cons_succ]; exact rfl) ?_) | (refine at_alt (by simp only [List.filterMap_cons, List.filterMap_nil, List.getElem?_toArray, List.getElem?_cons_zero, List.getElem?_cons_succ]; exact rfl) ?_) | refine qalt_normal ?_ | refine ats_cons ?_ ?_ | exact ats_nil
    | ((with_reducible first | refine awN (tyOf_ok _) [] ?_ | refine awO (tyOf_ok _) [] ?_ | refine awP (tyOf_ok _) [] ?_ | refine awQ ?_ | refine awR ?_ | refine awS ?_ | refine awT ?_ | refine awU ?_); intro r hr; simp only [go_sem, Nat.reduceBEq, Nat.reduceBneDiff, Nat.reduceLT, Nat.reduceLeDiff, Nat.reduceAdd, Nat.reduceMul, Nat.reduceSub, Nat.reduceEqDiff, reduceCtorEq, obm, mkV, List.cons_append, List.nil_append, f1, encPs_len] at hr; subst hr; (first | refine awV ?_ ?_ | refine awW ?_ ?_ | refine endK ?_ ?_ | refine endGK ?_ ?_ ?_ | (refine condK (fun h => ?_) (fun h => ?_) <;> (try simp only [go_sem, reduceCtorEq] at h) <;> (try (exfalso; omega))))) | fail)) <;> (try omega)
    refine go_loop [0, 4, 8, 41, 42, 43] [4, 10000, 15000, 15001] (fun k : Nat => ⟨[(0, true, .ptr 1 10000 0 0), (4, true, .ptr 1 4 0 0), (8, true, vI (nvar X (T.parts.take k))), (41, true, .lst 3 (encPs T.parts)), (42, true, vI T.parts.length), (43, true, vI k)],
        [(4, .var [vI T.kind, vI T.n, vI T.elem, .lst 3 (encPs T.parts)])] ++ obm ts rs X Y N (C2 ++ tls X (T.parts.take k) 0 0)⟩)
      (fun k => k ≤ T.parts.length) (fun k => T.parts.length - k) 0 (by simp only [obm, mkV, List.take_zero, tls, nvar, List.filter_nil, List.length_nil, List.append_nil, List.cons_append, List.nil_append, go_sem, Nat.reduceBEq, Nat.reduceBneDiff, Nat.reduceLT, Nat.reduceLeDiff, Nat.reduceAdd, Nat.reduceMul, Nat.reduceSub, Nat.reduceEqDiff, reduceCtorEq] <;> exact rfl) (Nat.zero_le _) ?_
    have hC2l : C2.length ≤ 30000000 := by omega
    clear hk hwk hke f1
    intro k hk
    have hwk := wrap_i64 (n := (k : Int) + 1) (by omega)
    have hnl := nvar_le X (T.parts.take k)
    rw [List.length_take] at hnl
    have hDl2 : (C2 ++ tls X (T.parts.take k) 0 0).length = C2.length + 2 * nvar X (T.parts.take k) := by rw [List.length_append, tls_len]
    have hwj := wrap_i64 (n := (nvar X (T.parts.take k) : Int) + 1) (by omega)
    by_cases hlt : k < T.parts.length
    · have f1 : ((k : Int) < T.parts.length) = True := eq_true (by omega)
      have g1 := encPs_get hlt
      obtain ⟨pn, hpn, hp1, hp2⟩ := hin k hlt
      have gX := fixE_get hp2
      have zk : ((k : Int)).toNat = k := by omega
      have zp : ((pn : Int)).toNat = pn := by omega
      have hnext := tls_app X T.parts[k] (T.parts.take k) 0 0
      have hnv := nvar_app X T.parts[k] (T.parts.take k)
      rw [← List.take_succ_eq_append_getElem hlt, List.length_take, Nat.min_eq_left hk, Nat.zero_add, Nat.zero_add] at hnext
      rw [← List.take_succ_eq_append_getElem hlt] at hnv
      rw [hpn] at g1 hnext hnv
      generalize hC' : C2 ++ tls X (T.parts.take k) 0 0 = D at *
      generalize hJ : nvar X (T.parts.take k) = J at *
      generalize T.parts[k] = pp at *
      cases hf : fixE X pn with
      | true =>
        rw [hf] at gX
        rw [if_pos hf, List.append_nil] at hnext
        rw [if_pos hf, Nat.add_zero] at hnv
        (repeat' (first
    | exact trivial
    | (with_reducible first | refine awA ?_ | refine awB ?_ | refine awC ?_ | refine awD ?_ | refine awE ?_ | refine awF ?_ | refine awG ?_ | refine awH ?_ | refine awI ?_ | refine awJ ?_ | refine awK ?_ | refine awL ?_ | refine awM (by decide) ?_)
    | (refine aw_draw (id := 5) (t := (.node [0, 1, 2, 3, 4, 5, 6, 7, 8] [])) (drR [10000, 7] [29] []) mixed (by kernel_rfl) (by kernel_rfl) (fun _ _ h => h) ?_)
    | (refine aw_draw (id := 13) (t := (.node [0, 1, 2, 3, 4, 5, 6, 7, 8, 9] [])) (drR [10000, 10] [56] []) mixed (by kernel_rfl) (by kernel_rfl) (fun _ _ h => h) ?_)
    | (refine at_done (by simp only [List.filterMap_cons, List.filterMap_nil, List.getElem?_toArray, List.getElem?_cons_zero, List.getElem?_cons_succ]; exact rfl) ?_) | (refine at_alt (by simp only [List.filterMap_cons, List.filterMap_nil, List.getElem?_toArray, List.getElem?_cons_zero, List.getElem?_cons_succ]; exact rfl) ?_) | refine qalt_normal ?_ | refine ats_cons ?_ ?_ | exact ats_nil
    | ((with_reducible first | refine awN (tyOf_ok _) [] ?_ | refine awO (tyOf_ok _) [] ?_ | refine awP (tyOf_ok _) [] ?_ | refine awQ ?_ | refine awR ?_ | refine awS ?_ | refine awT ?_ | refine awU ?_); intro r hr; simp only [go_sem, Nat.reduceBEq, Nat.reduceBneDiff, Nat.reduceLT, Nat.reduceLeDiff, Nat.reduceAdd, Nat.reduceMul, Nat.reduceSub, Nat.reduceEqDiff, reduceCtorEq, obm, mkV, List.cons_append, List.nil_append, f1, g1, gX, zk, zp, hwk, encEs_len] at hr; subst hr; (first | refine awV ?_ ?_ | refine awW ?_ ?_ | refine endK ?_ ?_ | refine endGK ?_ ?_ ?_ | (refine condK (fun h => ?_) (fun h => ?_) <;> (try simp only [go_sem, reduceCtorEq] at h) <;> (try (exfalso; omega))))) | fail)) <;> (try omega)
        all_goals exact ⟨k + 1, by simp only [obm, mkV, hnext, hC', hnv, List.cons_append, List.nil_append, go_sem, Nat.reduceBEq, Nat.reduceBneDiff, Nat.reduceLT, Nat.reduceLeDiff, Nat.reduceAdd, Nat.reduceMul, Nat.reduceSub, Nat.reduceEqDiff, reduceCtorEq] <;> exact rfl, hlt, by omega⟩
      | false =>
        rw [hf] at gX
        have rd := lay_G (ts := ts) (rs := rs) (X := X) (Y := Y) (N := N) D (by omega) 17 k J pn
        obtain ⟨D1, hD1⟩ : ∃ E, (D ++ [⟨17, k, J, pn⟩] : List InsM) = E := ⟨_, rfl⟩
        have zD1 : D1.length = D.length + 1 := by rw [← hD1]; simp
        rw [hD1] at rd
        have re := lay_G (ts := ts) (rs := rs) (X := X) (Y := Y) (N := N) D1 (by omega) 18 J 0 0
        rw [hf, if_neg (by simp)] at hnext hnv
        have hD2 : (D1 ++ [⟨18, J, 0, 0⟩] : List InsM) = C2 ++ tls X (T.parts.take (k + 1)) 0 0 := by rw [hnext, ← hD1, ← hC']; simp
        rw [hD2] at re
        generalize hC3 : C2 ++ tls X (T.parts.take (k + 1)) 0 0 = D2 at *
        clear hD1 hD2 hnext hC'
        simp only [obm, mkV] at rd re
        (repeat' (first
    | exact trivial
    | (with_reducible first | refine awA ?_ | refine awB ?_ | refine awC ?_ | refine awD ?_ | refine awE ?_ | refine awF ?_ | refine awG ?_ | refine awH ?_ | refine awI ?_ | refine awJ ?_ | refine awK ?_ | refine awL ?_ | refine awM (by decide) ?_)
    | (refine aw_draw (id := 5) (t := (.node [0, 1, 2, 3, 4, 5, 6, 7, 8] [])) (drR [10000, 7] [29] []) mixed (by kernel_rfl) (by kernel_rfl) (fun _ _ h => h) ?_)
    | (refine aw_draw (id := 13) (t := (.node [0, 1, 2, 3, 4, 5, 6, 7, 8, 9] [])) (drR [10000, 10] [56] []) mixed (by kernel_rfl) (by kernel_rfl) (fun _ _ h => h) ?_)
    | (refine at_done (by simp only [List.filterMap_cons, List.filterMap_nil, List.getElem?_toArray, List.getElem?_cons_zero, List.getElem?_cons_succ]; exact rfl) ?_) | (refine at_alt (by simp only [List.filterMap_cons, List.filterMap_nil, List.getElem?_toArray, List.getElem?_cons_zero, List.getElem?_cons_succ]; exact rfl) ?_) | refine qalt_normal ?_ | refine ats_cons ?_ ?_ | exact ats_nil
    | ((with_reducible first | refine awN (tyOf_ok _) [] ?_ | refine awO (tyOf_ok _) [] ?_ | refine awP (tyOf_ok _) [] ?_ | refine awQ ?_ | refine awR ?_ | refine awS ?_ | refine awT ?_ | refine awU ?_); intro r hr; simp only [go_sem, Nat.reduceBEq, Nat.reduceBneDiff, Nat.reduceLT, Nat.reduceLeDiff, Nat.reduceAdd, Nat.reduceMul, Nat.reduceSub, Nat.reduceEqDiff, reduceCtorEq, obm, mkV, List.cons_append, List.nil_append, f1, g1, gX, zk, zp, hwk, hwj, encEs_len] at hr; subst hr; (first | refine awV ?_ ?_ | refine awW ?_ ?_ | refine endK ?_ ?_ | refine endGK ?_ ?_ ?_ | (refine condK (fun h => ?_) (fun h => ?_) <;> (try simp only [go_sem, reduceCtorEq] at h) <;> (try (exfalso; omega)))))
    | (refine go_callGE [(10000, 10000), (15000, 15000), (15001, 15001)] [(10000, 10000), (15000, 15000), (15001, 15001)] [15000, 15001] [10000] ?_; intro r hr; simp only [go_sem, Nat.reduceBEq, Nat.reduceBneDiff, Nat.reduceLT, Nat.reduceLeDiff, Nat.reduceAdd, Nat.reduceMul, Nat.reduceSub, Nat.reduceEqDiff, reduceCtorEq, obm, mkV, List.cons_append, List.nil_append, f1, g1, gX, zk, zp, hwk, hwj, encEs_len] at hr; subst hr; refine callGK (rd) rfl rfl (by first | exact .inl rfl | exact .inr rfl) ?_ (.inl rfl) ?_)
    | (refine go_callGE [(10000, 10000), (15000, 15000), (15001, 15001)] [(10000, 10000), (15000, 15000), (15001, 15001)] [15000, 15001] [10000] ?_; intro r hr; simp only [go_sem, Nat.reduceBEq, Nat.reduceBneDiff, Nat.reduceLT, Nat.reduceLeDiff, Nat.reduceAdd, Nat.reduceMul, Nat.reduceSub, Nat.reduceEqDiff, reduceCtorEq, obm, mkV, List.cons_append, List.nil_append, f1, g1, gX, zk, zp, hwk, hwj, encEs_len] at hr; subst hr; refine callGK (re) rfl rfl (by first | exact .inl rfl | exact .inr rfl) ?_ (.inl rfl) ?_) | fail)) <;> (try omega)
        all_goals exact ⟨k + 1, by simp only [obm, mkV, hC3, hnv, List.cons_append, List.nil_append, Int.natCast_add, Int.cast_ofNat_Int, go_sem, Nat.reduceBEq, Nat.reduceBneDiff, Nat.reduceLT, Nat.reduceLeDiff, Nat.reduceAdd, Nat.reduceMul, Nat.reduceSub, Nat.reduceEqDiff, reduceCtorEq] <;> exact rfl, hlt, by omega⟩
    have f1 : ((k : Int) < T.parts.length) = False := eq_false (by omega)
    have hke : T.parts.take k = T.parts := take_len (by omega)
    rw [hke] at hDl2 ⊢
    rw [← hC2] at *
    generalize C1 ++ flds ts X L.size T.parts 0 ++ tls X T.parts 0 0 = D at *
    (repeat' (first
    | exact trivial
    | (with_reducible first | refine awA ?_ | refine awB ?_ | refine awC ?_ | refine awD ?_ | refine awE ?_ | refine awF ?_ | refine awG ?_ | refine awH ?_ | refine awI ?_ | refine awJ ?_ | refine awK ?_ | refine awL ?_ | refine awM (by decide) ?_)
    | (refine aw_draw (id := 5) (t := (.node [0, 1, 2, 3, 4, 5, 6, 7, 8] [])) (drR [10000, 7] [29] []) mixed (by kernel_rfl) (by kernel_rfl) (fun _ _ h => h) ?_)
    | (refine aw_draw (id := 13) (t := (.node [0, 1, 2, 3, 4, 5, 6, 7, 8, 9] [])) (drR [10000, 10] [56] []) mixed (by kernel_rfl) (by kernel_rfl) (fun _ _ h => h) ?_)
    | (refine at_done (by simp only [List.filterMap_cons, List.filterMap_nil, List.getElem?_toArray, List.getElem?_cons_zero, List.getElem?_cons_succ]; exact rfl) ?_) | (refine at_alt (by simp only [List.filterMap_cons, List.filterMap_nil, List.getElem?_toArray, List.getElem?_cons_zero, List.getElem?_cons_succ]; exact rfl) ?_) | refine qalt_normal ?_ | refine ats_cons ?_ ?_ | exact ats_nil
    | ((with_reducible first | refine awN (tyOf_ok _) [] ?_ | refine awO (tyOf_ok _) [] ?_ | refine awP (tyOf_ok _) [] ?_ | refine awQ ?_ | refine awR ?_ | refine awS ?_ | refine awT ?_ | refine awU ?_); intro r hr; simp only [go_sem, Nat.reduceBEq, Nat.reduceBneDiff, Nat.reduceLT, Nat.reduceLeDiff, Nat.reduceAdd, Nat.reduceMul, Nat.reduceSub, Nat.reduceEqDiff, reduceCtorEq, obm, mkV, List.cons_append, List.nil_append, f1] at hr; subst hr; (first | refine awV ?_ ?_ | refine awW ?_ ?_ | refine endK ?_ ?_ | refine endGK ?_ ?_ ?_ | (refine condK (fun h => ?_) (fun h => ?_) <;> (try simp only [go_sem, reduceCtorEq] at h) <;> (try (exfalso; omega))))) | fail)) <;> (try omega)
    all_goals (first | exact AV.up_rfl _ | (repeat first | exact obUp_nil | refine obUp_cons rfl ?_))
end
end Go.Proofs.Ytljfgohecmhchaa
end

import Derived.Test.YtljfgohecmhchaaP9
set_option linter.all false
section
namespace Go.Proofs.Ytljfgohecmhchaa
open Go.RowKit
set_option maxRecDepth 100000
set_option maxHeartbeats 8000000
/-! LayoutExact: the lists. -/
/-- a slot that is a mark; slots that are -/
def mkM (n : Nat) : List (List AV) := List.replicate n [vI (-1), vB false, vI 0]
theorem mkM_len (n : Nat) : (mkM n).length = n := by simp [mkM]
theorem mkM_get {n k : Nat} (h : k < n) : (mkM n)[k]? = some [vI (-1), vB false, vI 0] := by simp [mkM, h]
def wrK (ys : List (List AV)) (k : Nat) : List (List AV) := mkM k ++ ys.drop k
theorem wrK_len {ys : List (List AV)} {k : Nat} (h : k ≤ ys.length) : (wrK ys k).length = ys.length := by simp [wrK, mkM_len]; omega
theorem wrK_zero (ys : List (List AV)) : wrK ys 0 = ys := by simp [wrK, mkM]
theorem wrK_full (ys : List (List AV)) : wrK ys ys.length = mkM ys.length := by simp [wrK]
theorem wrK_get {ys : List (List AV)} {k : Nat} : (wrK ys k)[k]? = ys[k]? := by
  rw [wrK, List.getElem?_append_right (by rw [mkM_len]; exact Nat.le_refl _), mkM_len, Nat.sub_self, List.getElem?_drop, Nat.add_zero]
theorem wrK_set {ys : List (List AV)} {k : Nat} (h : k < ys.length) : (wrK ys k).set k [vI (-1), vB false, vI 0] = wrK ys (k + 1) := by
  rw [wrK, wrK, List.set_append_right _ _ (by rw [mkM_len]; exact Nat.le_refl _), mkM_len, Nat.sub_self, List.drop_eq_getElem_cons h, List.set_cons_zero, mkM, mkM, List.replicate_succ', List.append_assoc]
  rfl
abbrev KidL := List (Int × List (List AV))
/-- slots written over: of the first i all, of the next the first k -/
def mkS (S : KidL) (i k : Nat) : KidL := S.mapIdx fun j p => (p.1, if j < i then wrK p.2 p.2.length else if j = i then wrK p.2 k else p.2)
theorem mkS_get (S : KidL) (i k j : Nat) : (mkS S i k)[j]? = (S[j]?).map fun p => (p.1, if j < i then wrK p.2 p.2.length else if j = i then wrK p.2 k else p.2) := by rw [mkS, List.getElem?_mapIdx]
theorem mkS_len (S : KidL) (i k : Nat) : (mkS S i k).length = S.length := by simp [mkS]
theorem mkS_at {S : KidL} {i k : Nat} {p : Int × List (List AV)} (h : S[i]? = some p) : (mkS S i k)[i]? = some (p.1, wrK p.2 k) := by
  rw [mkS_get, h]; simp
theorem mkS_zero (S : KidL) : mkS S 0 0 = S := by
  refine List.ext_getElem? fun j => ?_
  rw [mkS_get]
  cases S[j]? with
  | none => rfl
  | some p =>
    by_cases hj : j = 0
    · simp [hj, wrK_zero]
    · simp [hj]
theorem mkS_next {S : KidL} {i : Nat} {p : Int × List (List AV)} (h : S[i]? = some p) : mkS S i p.2.length = mkS S (i + 1) 0 := by
  refine List.ext_getElem? fun j => ?_
  rw [mkS_get, mkS_get]
  by_cases hj : j = i
  · subst hj; rw [h]; simp
  · cases S[j]? with
    | none => rfl
    | some q =>
      by_cases h1 : j < i
      · simp [h1, show j < i + 1 by omega]
      · by_cases h2 : j = i + 1
        · simp [h2, wrK_zero]
          intro g; omega
        · simp [h1, hj, h2, show ¬ j < i + 1 by omega]
theorem mkS_all {S : KidL} {j : Nat} {p : Int × List (List AV)} (h : S[j]? = some p) : (mkS S S.length 0)[j]? = some (p.1, mkM p.2.length) := by
  have hj : j < S.length := lt_of_get h
  rw [mkS_get, h]
  simp [hj, wrK_full]
theorem kcells_same {ty kk d : Nat} : ∀ (S S' : KidL) (i : Nat), S.map (fun p => (p.1, p.2.length)) = S'.map (fun p => (p.1, p.2.length)) → kcells ty kk d 0 i S = kcells ty kk d 0 i S'
  | [], [], _, _ => rfl
  | [], _ :: _, _, h => by simp at h
  | _ :: _, [], _, h => by simp at h
  | p :: S, q :: S', i, h => by
    simp only [List.map_cons, List.cons.injEq, Prod.mk.injEq] at h
    rw [kcells, kcells, kc_f (Nat.zero_le _), kc_f (Nat.zero_le _), h.1.1, h.1.2, kcells_same S S' (i + 1) h.2]
theorem kcells_mkS {ty kk d : Nat} (S : KidL) : kcells ty kk d 0 0 S = kcells ty kk d 0 0 (mkS S S.length 0) := by
  refine kcells_same _ _ 0 (List.ext_getElem? fun j => ?_)
  rw [List.getElem?_map, List.getElem?_map, mkS_get]
  cases hj : S[j]? with
  | none => rfl
  | some p =>
    have : j < S.length := lt_of_get hj
    simp [this, wrK_len]
theorem lk_kids_wr {ty kk d i k : Nat} {S : KidL} {p : Int × List (List AV)} (h : S[i]? = some p) (j : Nat) :
    (bif i == j then some (AObj.row ty kk (wrK p.2 (k + 1))) else lk (rm (kn d i) (kids ty kk d 0 0 (mkS S i k))) (kn d j)) = ((mkS S i (k + 1))[j]?).map (fun p => .row ty kk p.2) := by
  by_cases he : i = j
  · subst he
    rw [bif_eq rfl, mkS_at h]; rfl
  · rw [bif_ne he, lk_rm, bif_ne (fun g => he (kn_inj g).symm), lk_kids _ 0 j (Nat.zero_le _), if_pos (Nat.zero_le _), Nat.sub_zero, mkS_get, mkS_get]
    cases S[j]? with
    | none => rfl
    | some q =>
      have h2 : ¬ j = i := fun g => he g.symm
      by_cases h1 : j < i
      · simp [h1]
      · simp [h1, h2]
theorem kids_full {ty kk d m : Nat} : ∀ (S : KidL) (i : Nat), i + S.length ≤ m → kids ty kk d m i S = []
  | [], _, _ => rfl
  | p :: S, i, h => by
    rw [List.length_cons] at h
    rw [kids, blt_t (by omega), cond_true, kids_full S (i + 1) (by omega)]
/-- the lists made longer -/
def grow (S : KidL) (i : Nat) : List (List AV) := (S.take i).mapIdx fun j p => [.lst 3 (p.2 ++ [[vI (-2), vB false, vI (j : Int)]])]
theorem grow_len {S : KidL} {i : Nat} (h : i ≤ S.length) : (grow S i).length = i := by simp [grow]; omega
theorem grow_get {S : KidL} {i j : Nat} {p : Int × List (List AV)} (hj : j < i) (h : S[j]? = some p) : (grow S i)[j]? = some [.lst 3 (p.2 ++ [[vI (-2), vB false, vI (j : Int)]])] := by
  rw [grow, List.getElem?_mapIdx, List.getElem?_take_of_lt hj, h]; rfl
theorem grow_succ {S : KidL} {i : Nat} {p : Int × List (List AV)} (h : S[i]? = some p) : grow S i ++ [[.lst 3 (p.2 ++ [[vI (-2), vB false, vI (i : Int)]])]] = grow S (i + 1) := by
  have hlt := lt_of_get h
  have hl := grow_len (S := S) (i := i) (by omega)
  refine List.ext_getElem? fun j => ?_
  by_cases hj : j < i
  · rw [List.getElem?_append_left (by omega), grow, grow, List.getElem?_mapIdx, List.getElem?_mapIdx, List.getElem?_take_of_lt hj, List.getElem?_take_of_lt (by omega)]
  · by_cases he : j = i
    · subst he
      rw [List.getElem?_append_right (by omega), hl, Nat.sub_self, grow_get (by omega) h]; rfl
    · rw [List.getElem?_eq_none (by simp; omega), List.getElem?_eq_none (by rw [grow_len (by omega)]; omega)]
/-- the layouts, the first i written over -/
def c3 (S : KidL) (i : Nat) : List AV := (List.replicate i [vI (-3), .v (.slice none 0 0)]).flatten ++ kcells 55 3 32 S.length i (S.drop i)
theorem c3_head (i : Nat) : ((List.replicate i [vI (-3), AV.v (.slice none 0 0)]).flatten).length = i * 2 := by simp
theorem c3_len {S : KidL} {i : Nat} (h : i ≤ S.length) : (c3 S i).length = S.length * 2 := by
  rw [c3, List.length_append, c3_head, kcells_len, List.length_drop]; omega
theorem c3_zero (S : KidL) : c3 S 0 = kcells 55 3 32 S.length 0 S := by simp [c3]
theorem c3_get {S : KidL} {i : Nat} {p : Int × List (List AV)} (h : S[i]? = some p) : (c3 S i)[i * 2 + 1]? = some (.lst 3 p.2) := by
  have hlt := lt_of_get h
  have hd : (S.drop i)[0]? = some p := by rw [List.getElem?_drop, Nat.add_zero, h]
  rw [c3, List.getElem?_append_right (by rw [c3_head]; omega), c3_head, show i * 2 + 1 - i * 2 = 0 * 2 + 1 by omega, kcells_get1 i 0 hd, Nat.add_zero, kc_t hlt]
theorem putL_at (A : List AV) (x y a b : AV) (B : List AV) : putL (A ++ x :: y :: B) A.length [a, b] = A ++ a :: b :: B := by
  induction A with
  | nil => cases B <;> rfl
  | cons c A ih => rw [List.cons_append, List.length_cons, putL, ih]; rfl
theorem c3_put {S : KidL} {i : Nat} (h : i < S.length) : putL (c3 S i) (i * 2) [vI (-3), .v (.slice none 0 0)] = c3 S (i + 1) := by
  rw [c3, c3, List.drop_eq_getElem_cons h, kcells]
  have := putL_at ((List.replicate i [vI (-3), AV.v (.slice none 0 0)]).flatten) (.v (.int .i64 S[i].1)) (kc 55 3 32 S.length i S[i].2) (vI (-3)) (.v (.slice none 0 0)) (kcells 55 3 32 S.length (i + 1) (S.drop (i + 1)))
  rw [c3_head] at this
  rw [this, List.replicate_succ', List.flatten_append, List.append_assoc]
  rfl
theorem c3_kill {S : KidL} {i e : Nat} (he : e < 20000) : AV.kill.killL e (c3 S i) = c3 S i := by
  rw [c3, killL_app, kill_kcells he]
  congr 1
  rw [AV.killL_eq]
  conv => rhs; rw [← List.map_id ((List.replicate i [vI (-3), AV.v (.slice none 0 0)]).flatten)]
  refine List.map_congr_left fun u hu => ?_
  obtain ⟨l, hl, hu⟩ := List.mem_flatten.1 hu
  rw [List.eq_of_mem_replicate hl] at hu
  simp only [List.mem_cons, List.not_mem_nil, or_false] at hu
  rcases hu with rfl | rfl <;> rfl
theorem c3_more {S : KidL} (a b : AV) : (c3 S S.length ++ [a, b])[S.length * 2]? = some a := by
  rw [List.getElem?_append_right (by rw [c3_len (Nat.le_refl _)]; exact Nat.le_refl _), c3_len (Nat.le_refl _), Nat.sub_self]; rfl
/-! the same layouts -/
theorem alike_refl (l : List LayM) (hl : l.length ≤ 1000000000) (hs : ∀ x ∈ l, x.slots.length ≤ 1000000000) : PCall Try.prog 15 [.lst 2 (encLs l), .lst 2 (encLs l)] (fun r => r = vB true) := by
  refine go_fn (tyOf_ok _) Try.func15 rfl rfl (by rw [Try.results15]) Try.ntmps15 rfl fun E => ?_
  (repeat' (first
    | exact trivial
    | (with_reducible first | refine awA ?_ | refine awB ?_ | refine awC ?_ | refine awD ?_ | refine awE ?_ | refine awF ?_ | refine awG ?_ | refine awH ?_ | refine awI ?_ | refine awJ ?_ | refine awK ?_ | refine awL ?_ | refine awM (by decide) ?_)
    | (refine aw_draw (id := 6) (t := (.node [0, 1, 2, 3, 4, 5, 6, 7, 8, 9, 10, 11, 12, 13, 14, 15, 16, 17, 18, 19, 20, 21, 22, 23, 24, 25] [])) (drR [] [22, 27, 34, 40] []) mixed (by kernel_rfl) (by kernel_rfl) (fun _ _ h => h) ?_)
    | (refine aw_draw (id := 11) (t := (.node [0, 1, 2, 3, 4, 5, 6, 7, 8, 9, 10, 11, 12, 13, 14, 15, 16] [])) (drR [] [58, 61, 66, 69] []) mixed (by kernel_rfl) (by kernel_rfl) (fun _ _ h => h) ?_)
    | (refine at_done (by simp only [List.filterMap_cons, List.filterMap_nil, List.getElem?_toArray, List.getElem?_cons_zero, List.getElem?_cons_succ]; exact rfl) ?_) | (refine at_alt (by simp only [List.filterMap_cons, List.filterMap_nil, List.getElem?_toArray, List.getElem?_cons_zero, List.getElem?_cons_succ]; exact rfl) ?_) | refine qalt_normal ?_ | refine ats_cons ?_ ?_ | exact ats_nil
    | ((with_reducible first | refine awN (tyOf_ok _) [] ?_ | refine awO (tyOf_ok _) [] ?_ | refine awP (tyOf_ok _) [] ?_ | refine awQ ?_ | refine awR ?_ | refine awS ?_); intro r hr; simp only [go_sem, Nat.reduceBEq, Nat.reduceBneDiff, Nat.reduceLT, Nat.reduceLeDiff, Nat.reduceAdd, Nat.reduceMul, Nat.reduceSub, Nat.reduceEqDiff, reduceCtorEq, encLs_len, ne_eq, not_true_eq_false, decide_false] at hr; subst hr; (first | refine awV ?_ ?_ | refine awW ?_ ?_ | refine endK ?_ ?_ | (refine condK (fun h => ?_) (fun h => ?_) <;> (try simp only [go_sem, reduceCtorEq] at h) <;> (try (exfalso; omega))))) | fail)) <;> (try omega)
  refine go_loop [0, 1, 5] [] (fun k : Nat => ⟨[(0, true, .lst 2 (encLs l)), (1, true, .lst 2 (encLs l)), (5, true, vI k)], []⟩) (fun k => k ≤ l.length) (fun k => l.length - k) 0 (by simp only [go_sem, Nat.reduceBEq, Nat.reduceBneDiff, Nat.reduceLT, Nat.reduceLeDiff, Nat.reduceAdd, Nat.reduceMul, Nat.reduceSub, Nat.reduceEqDiff, reduceCtorEq] <;> exact rfl) (Nat.zero_le _) ?_
  intro i hi
  have hw := wrap_i64 (n := (i : Int) + 1) (by omega)
  have zi : ((i : Int)).toNat = i := by omega
  by_cases hlt : i < l.length
  case neg =>
    have e1 : ((i : Int) < l.length) = False := eq_false (by omega)
    (repeat' (first
    | exact trivial
    | (with_reducible first | refine awA ?_ | refine awB ?_ | refine awC ?_ | refine awD ?_ | refine awE ?_ | refine awF ?_ | refine awG ?_ | refine awH ?_ | refine awI ?_ | refine awJ ?_ | refine awK ?_ | refine awL ?_ | refine awM (by decide) ?_)
    | (refine aw_draw (id := 6) (t := (.node [0, 1, 2, 3, 4, 5, 6, 7, 8, 9, 10, 11, 12, 13, 14, 15, 16, 17, 18, 19, 20, 21, 22, 23, 24, 25] [])) (drR [] [22, 27, 34, 40] []) mixed (by kernel_rfl) (by kernel_rfl) (fun _ _ h => h) ?_)
    | (refine aw_draw (id := 11) (t := (.node [0, 1, 2, 3, 4, 5, 6, 7, 8, 9, 10, 11, 12, 13, 14, 15, 16] [])) (drR [] [58, 61, 66, 69] []) mixed (by kernel_rfl) (by kernel_rfl) (fun _ _ h => h) ?_)
    | (refine at_done (by simp only [List.filterMap_cons, List.filterMap_nil, List.getElem?_toArray, List.getElem?_cons_zero, List.getElem?_cons_succ]; exact rfl) ?_) | (refine at_alt (by simp only [List.filterMap_cons, List.filterMap_nil, List.getElem?_toArray, List.getElem?_cons_zero, List.getElem?_cons_succ]; exact rfl) ?_) | refine qalt_normal ?_ | refine ats_cons ?_ ?_ | exact ats_nil
    | ((with_reducible first | refine awN (tyOf_ok _) [] ?_ | refine awO (tyOf_ok _) [] ?_ | refine awP (tyOf_ok _) [] ?_ | refine awQ ?_ | refine awR ?_ | refine awS ?_); intro r hr; simp only [go_sem, Nat.reduceBEq, Nat.reduceBneDiff, Nat.reduceLT, Nat.reduceLeDiff, Nat.reduceAdd, Nat.reduceMul, Nat.reduceSub, Nat.reduceEqDiff, reduceCtorEq, encLs_len, e1] at hr; subst hr; (first | refine awV ?_ ?_ | refine awW ?_ ?_ | refine endK ?_ ?_ | (refine condK (fun h => ?_) (fun h => ?_) <;> (try simp only [go_sem, reduceCtorEq] at h) <;> (try (exfalso; omega))))) | fail)) <;> (try omega)
    all_goals exact rfl
  have e1 : ((i : Int) < l.length) = True := eq_true (by omega)
  have g1 := encLs_get hlt
  have hsl := hs _ (List.getElem_mem hlt)
  generalize l[i] = x at g1 hsl
  (repeat' (first
    | exact trivial
    | (with_reducible first | refine awA ?_ | refine awB ?_ | refine awC ?_ | refine awD ?_ | refine awE ?_ | refine awF ?_ | refine awG ?_ | refine awH ?_ | refine awI ?_ | refine awJ ?_ | refine awK ?_ | refine awL ?_ | refine awM (by decide) ?_)
    | (refine aw_draw (id := 6) (t := (.node [0, 1, 2, 3, 4, 5, 6, 7, 8, 9, 10, 11, 12, 13, 14, 15, 16, 17, 18, 19, 20, 21, 22, 23, 24, 25] [])) (drR [] [22, 27, 34, 40] []) mixed (by kernel_rfl) (by kernel_rfl) (fun _ _ h => h) ?_)
    | (refine aw_draw (id := 11) (t := (.node [0, 1, 2, 3, 4, 5, 6, 7, 8, 9, 10, 11, 12, 13, 14, 15, 16] [])) (drR [] [58, 61, 66, 69] []) mixed (by kernel_rfl) (by kernel_rfl) (fun _ _ h => h) ?_)
    | (refine at_done (by simp only [List.filterMap_cons, List.filterMap_nil, List.getElem?_toArray, List.getElem?_cons_zero, List.getElem?_cons_succ]; exact rfl) ?_) | (refine at_alt (by simp only [List.filterMap_cons, List.filterMap_nil, List.getElem?_toArray, List.getElem?_cons_zero, List.getElem?_cons_succ]; exact rfl) ?_) | refine qalt_normal ?_ | refine ats_cons ?_ ?_ | exact ats_nil
    | ((with_reducible first | refine awN (tyOf_ok _) [] ?_ | refine awO (tyOf_ok _) [] ?_ | refine awP (tyOf_ok _) [] ?_ | refine awQ ?_ | refine awR ?_ | refine awS ?_); intro r hr; simp only [go_sem, Nat.reduceBEq, Nat.reduceBneDiff, Nat.reduceLT, Nat.reduceLeDiff, Nat.reduceAdd, Nat.reduceMul, Nat.reduceSub, Nat.reduceEqDiff, reduceCtorEq, encLs_len, encSs_len, e1, g1, zi, ne_eq, not_true_eq_false, decide_false] at hr; subst hr; (first | refine awV ?_ ?_ | refine awW ?_ ?_ | refine endK ?_ ?_ | (refine condK (fun h => ?_) (fun h => ?_) <;> (try simp only [go_sem, reduceCtorEq] at h) <;> (try (exfalso; omega))))) | fail)) <;> (try omega)
  refine go_loop [0, 1, 5, 6] [] (fun k : Nat => ⟨[(0, true, .lst 2 (encLs l)), (1, true, .lst 2 (encLs l)), (5, true, vI i), (6, true, vI k)], []⟩) (fun k => k ≤ x.slots.length) (fun k => x.slots.length - k) 0 (by simp only [go_sem, Nat.reduceBEq, Nat.reduceBneDiff, Nat.reduceLT, Nat.reduceLeDiff, Nat.reduceAdd, Nat.reduceMul, Nat.reduceSub, Nat.reduceEqDiff, reduceCtorEq] <;> exact rfl) (Nat.zero_le _) ?_
  intro k hk
  have hwk := wrap_i64 (n := (k : Int) + 1) (by omega)
  have zk : ((k : Int)).toNat = k := by omega
  by_cases hk2 : k < x.slots.length
  · have e2 : ((k : Int) < x.slots.length) = True := eq_true (by omega)
    have g2 := encSs_get hk2
    (repeat' (first
    | exact trivial
    | (with_reducible first | refine awA ?_ | refine awB ?_ | refine awC ?_ | refine awD ?_ | refine awE ?_ | refine awF ?_ | refine awG ?_ | refine awH ?_ | refine awI ?_ | refine awJ ?_ | refine awK ?_ | refine awL ?_ | refine awM (by decide) ?_)
    | (refine aw_draw (id := 6) (t := (.node [0, 1, 2, 3, 4, 5, 6, 7, 8, 9, 10, 11, 12, 13, 14, 15, 16, 17, 18, 19, 20, 21, 22, 23, 24, 25] [])) (drR [] [22, 27, 34, 40] []) mixed (by kernel_rfl) (by kernel_rfl) (fun _ _ h => h) ?_)
    | (refine aw_draw (id := 11) (t := (.node [0, 1, 2, 3, 4, 5, 6, 7, 8, 9, 10, 11, 12, 13, 14, 15, 16] [])) (drR [] [58, 61, 66, 69] []) mixed (by kernel_rfl) (by kernel_rfl) (fun _ _ h => h) ?_)
    | (refine at_done (by simp only [List.filterMap_cons, List.filterMap_nil, List.getElem?_toArray, List.getElem?_cons_zero, List.getElem?_cons_succ]; exact rfl) ?_) | (refine at_alt (by simp only [List.filterMap_cons, List.filterMap_nil, List.getElem?_toArray, List.getElem?_cons_zero, List.getElem?_cons_succ]; exact rfl) ?_) | refine qalt_normal ?_ | refine ats_cons ?_ ?_ | exact ats_nil
    | ((with_reducible first | refine awN (tyOf_ok _) [] ?_ | refine awO (tyOf_ok _) [] ?_ | refine awP (tyOf_ok _) [] ?_ | refine awQ ?_ | refine awR ?_ | refine awS ?_); intro r hr; simp only [go_sem, Nat.reduceBEq, Nat.reduceBneDiff, Nat.reduceLT, Nat.reduceLeDiff, Nat.reduceAdd, Nat.reduceMul, Nat.reduceSub, Nat.reduceEqDiff, reduceCtorEq, encLs_len, encSs_len, g1, g2, e2, hwk, zi, zk, decide_true, Bool.not_true] at hr; subst hr; (first | refine awV ?_ ?_ | refine awW ?_ ?_ | refine endK ?_ ?_ | (refine condK (fun h => ?_) (fun h => ?_) <;> (try simp only [go_sem, reduceCtorEq] at h) <;> (try (exfalso; omega))))) | fail)) <;> (try omega)
    all_goals first | omega | exact ⟨k + 1, by simp only [go_sem, Nat.reduceBEq, Nat.reduceBneDiff, Nat.reduceLT, Nat.reduceLeDiff, Nat.reduceAdd, Nat.reduceMul, Nat.reduceSub, Nat.reduceEqDiff, reduceCtorEq] <;> exact rfl, hk2, by omega⟩
  · have e2 : ((k : Int) < x.slots.length) = False := eq_false (by omega)
    (repeat' (first
    | exact trivial
    | (with_reducible first | refine awA ?_ | refine awB ?_ | refine awC ?_ | refine awD ?_ | refine awE ?_ | refine awF ?_ | refine awG ?_ | refine awH ?_ | refine awI ?_ | refine awJ ?_ | refine awK ?_ | refine awL ?_ | refine awM (by decide) ?_)
    | (refine aw_draw (id := 6) (t := (.node [0, 1, 2, 3, 4, 5, 6, 7, 8, 9, 10, 11, 12, 13, 14, 15, 16, 17, 18, 19, 20, 21, 22, 23, 24, 25] [])) (drR [] [22, 27, 34, 40] []) mixed (by kernel_rfl) (by kernel_rfl) (fun _ _ h => h) ?_)
    | (refine aw_draw (id := 11) (t := (.node [0, 1, 2, 3, 4, 5, 6, 7, 8, 9, 10, 11, 12, 13, 14, 15, 16] [])) (drR [] [58, 61, 66, 69] []) mixed (by kernel_rfl) (by kernel_rfl) (fun _ _ h => h) ?_)
    | (refine at_done (by simp only [List.filterMap_cons, List.filterMap_nil, List.getElem?_toArray, List.getElem?_cons_zero, List.getElem?_cons_succ]; exact rfl) ?_) | (refine at_alt (by simp only [List.filterMap_cons, List.filterMap_nil, List.getElem?_toArray, List.getElem?_cons_zero, List.getElem?_cons_succ]; exact rfl) ?_) | refine qalt_normal ?_ | refine ats_cons ?_ ?_ | exact ats_nil
    | ((with_reducible first | refine awN (tyOf_ok _) [] ?_ | refine awO (tyOf_ok _) [] ?_ | refine awP (tyOf_ok _) [] ?_ | refine awQ ?_ | refine awR ?_ | refine awS ?_); intro r hr; simp only [go_sem, Nat.reduceBEq, Nat.reduceBneDiff, Nat.reduceLT, Nat.reduceLeDiff, Nat.reduceAdd, Nat.reduceMul, Nat.reduceSub, Nat.reduceEqDiff, reduceCtorEq, encLs_len, encSs_len, g1, e2, hw, zi] at hr; subst hr; (first | refine awV ?_ ?_ | refine awW ?_ ?_ | refine endK ?_ ?_ | (refine condK (fun h => ?_) (fun h => ?_) <;> (try simp only [go_sem, reduceCtorEq] at h) <;> (try (exfalso; omega))))) | fail)) <;> (try omega)
    all_goals first | omega | exact ⟨i + 1, by simp only [go_sem, Nat.reduceBEq, Nat.reduceBneDiff, Nat.reduceLT, Nat.reduceLeDiff, Nat.reduceAdd, Nat.reduceMul, Nat.reduceSub, Nat.reduceEqDiff, reduceCtorEq] <;> exact rfl, hlt, by omega⟩
/-! nothing handed out -/
theorem layOf_none (ts : List TypeM) (rs : List RootM) (hts : ts.length ≤ 1000000000) (hrs : rs.length ≤ 1000000000) (hp : ∀ t ∈ ts, t.parts.length ≤ 1000000000) (h : (checkF ts rs).1 ≠ 0 ∨ ts = []) :
    PCall Try.prog 13 [vSch ts rs] (fun r => r = .tup [.v (.slice none 0 0), vI (laysF ts rs).2]) := by
  by_cases hc : (checkF ts rs).1 = 0
  case neg =>
    have ec : ((checkF ts rs).1 = 0) = False := eq_false hc
    rw [laysF, if_pos hc]
    refine go_fn (tyOf_ok _) Try.func13 rfl rfl (by rw [Try.results13]) Try.ntmps13 rfl fun E => ?_
    (repeat' (first
    | exact trivial
    | (with_reducible first | refine awA ?_ | refine awB ?_ | refine awC ?_ | refine awD ?_ | refine awE ?_ | refine awF ?_ | refine awG ?_ | refine awH ?_ | refine awI ?_ | refine awJ ?_ | refine awK ?_ | refine awL ?_ | refine awM (by decide) ?_)
    | ((with_reducible first | refine awN (tyOf_ok _) [] ?_ | refine awO (tyOf_ok _) [] ?_ | refine awP (tyOf_ok _) [] ?_ | refine awQ ?_ | refine awR ?_ | refine awS ?_); intro r hr; simp only [go_sem, Nat.reduceBEq, Nat.reduceBneDiff, Nat.reduceLT, Nat.reduceLeDiff, Nat.reduceAdd, Nat.reduceMul, Nat.reduceSub, Nat.reduceEqDiff, reduceCtorEq, vSch, vF, ec] at hr; subst hr; (first | refine caA (fun _ => check_any ts rs hts hrs hp) rfl ?_ ?_ ?_ | refine awV ?_ ?_ | refine awW ?_ ?_ | refine endK ?_ ?_ | (refine condK (fun h => ?_) (fun h => ?_) <;> (try simp only [go_sem, reduceCtorEq] at h) <;> (try (exfalso; omega))))) | fail)) <;> (try omega)
    all_goals exact rfl
  have ht : ts = [] := h.resolve_left fun g => g hc
  rw [laysF, if_neg (fun g => g hc)]
  have ec : ((checkF ts rs).1 = 0) = True := eq_true hc
  have hsz : sizesF ts rs = (exts ts, 0) := by rw [sizesF, if_neg (fun g => g hc)]
  have hsz1 : (sizesF ts rs).1 = exts ts := by rw [hsz]
  have hsz2 : (sizesF ts rs).2 = 0 := by rw [hsz]
  have hl0 : ts.length = 0 := by rw [ht]; rfl
  refine go_fn (tyOf_ok _) Try.func13 rfl rfl (by rw [Try.results13]) Try.ntmps13 rfl fun E => ?_
  (repeat' (first
    | exact trivial
    | (with_reducible first | refine awA ?_ | refine awB ?_ | refine awC ?_ | refine awD ?_ | refine awE ?_ | refine awF ?_ | refine awG ?_ | refine awH ?_ | refine awI ?_ | refine awJ ?_ | refine awK ?_ | refine awL ?_ | refine awM (by decide) ?_)
    | ((with_reducible first | refine awN (tyOf_ok _) [] ?_ | refine awO (tyOf_ok _) [] ?_ | refine awP (tyOf_ok _) [] ?_ | refine awQ ?_ | refine awR ?_ | refine awS ?_); intro r hr; simp only [go_sem, Nat.reduceBEq, Nat.reduceBneDiff, Nat.reduceLT, Nat.reduceLeDiff, Nat.reduceAdd, Nat.reduceMul, Nat.reduceSub, Nat.reduceEqDiff, reduceCtorEq, vSch, vF, ec, hsz1, hsz2, encTs_len, hl0] at hr; subst hr; (first | refine caA (fun _ => check_any ts rs hts hrs hp) rfl ?_ ?_ ?_ | refine caC (sizeOf_any ts rs hts hrs hp) rfl ?_ ?_ ?_ | refine awV ?_ ?_ | refine awW ?_ ?_ | refine endK ?_ ?_ | (refine condK (fun h => ?_) (fun h => ?_) <;> (try simp only [go_sem, reduceCtorEq] at h) <;> (try (exfalso; omega))))) | fail)) <;> (try omega)
  refine go_loop [6, 22, 23] [] (fun _ : Unit => ⟨[(6, true, .v (.slice none 0 0)), (22, true, vI ((0 : Nat) : Int)), (23, true, vI 0)], []⟩) (fun _ => True) (fun _ => 0) () (by simp only [go_sem, Nat.reduceBEq, Nat.reduceBneDiff, Nat.reduceLT, Nat.reduceLeDiff, Nat.reduceAdd, Nat.reduceMul, Nat.reduceSub, Nat.reduceEqDiff, reduceCtorEq] <;> exact rfl) trivial ?_
  intro _ _
  have e0 : ((0 : Int) < ((0 : Nat) : Int)) = False := eq_false (by decide)
  (repeat' (first
    | exact trivial
    | (with_reducible first | refine awA ?_ | refine awB ?_ | refine awC ?_ | refine awD ?_ | refine awE ?_ | refine awF ?_ | refine awG ?_ | refine awH ?_ | refine awI ?_ | refine awJ ?_ | refine awK ?_ | refine awL ?_ | refine awM (by decide) ?_)
    | ((with_reducible first | refine awN (tyOf_ok _) [] ?_ | refine awO (tyOf_ok _) [] ?_ | refine awP (tyOf_ok _) [] ?_ | refine awQ ?_ | refine awR ?_ | refine awS ?_); intro r hr; simp only [go_sem, Nat.reduceBEq, Nat.reduceBneDiff, Nat.reduceLT, Nat.reduceLeDiff, Nat.reduceAdd, Nat.reduceMul, Nat.reduceSub, Nat.reduceEqDiff, reduceCtorEq, e0] at hr; subst hr; (first | refine awV ?_ ?_ | refine awW ?_ ?_ | refine endK ?_ ?_ | (refine condK (fun h => ?_) (fun h => ?_) <;> (try simp only [go_sem, reduceCtorEq] at h) <;> (try (exfalso; omega))))) | fail)) <;> (try omega)
  all_goals exact rfl
end Go.Proofs.Ytljfgohecmhchaa
end
section
namespace Go.Proofs.Ytljfgohecmhchaa
open Go.RowKit
attribute [go_sem] v8_len encPs_len encTs_len encRs_len encEs_len encSs_len encLs_len
set_option maxRecDepth 100000
set_option maxHeartbeats 4000000
def ts0 : List TypeM := [⟨3, 0, 0, []⟩, ⟨4, 3, 0, []⟩]
theorem laysF0 : laysF ts0 [] = ([⟨0, []⟩, ⟨12, [⟨0, true, 4⟩]⟩], 0) := by kernel_rfl
theorem sch0_any : PCall Try.prog 13 [.agg [.lst 4 [[vI 3, vI 0, vI 0, .v (.slice none 0 0)], [vI 4, vI 3, vI 0, .v (.slice none 0 0)]], .v (.slice none 0 0)]] (fun r => r = .tup [.lst 2 [[vI 0, .lst 3 []], [vI 12, .lst 3 [[vI 0, vB true, vI 4]]]], vI 0]) := by
  have h := layOf_any ts0 [] (by decide) (by decide) (by decide)
  rw [laysF0] at h
  exact PCall.args (.cons (.agg (.cons (.lst (.cons (.cons (.rfl _) (.cons (.rfl _) (.cons (.rfl _) (.cons (.nil _) .nil)))) (.cons (.cons (.rfl _) (.cons (.rfl _) (.cons (.rfl _) (.cons (.nil _) .nil)))) .nil))) (.cons (.nil _) .nil))) .nil) h
theorem offs0 : offsets 9 [3, 0, 2] = ([9, 12, 12], 0) := by decide
theorem lens0 : lengths 9 [9, 12, 12] 14 = ([3, 0, 2], 0, 0) := by decide
theorem offs0_any : PCall Try.prog 22 [vI 9, .lst 1 [[vI 3], [vI 0], [vI 2]]] (fun r => r = .tup [.lst 1 [[vI 9], [vI 12], [vI 12]], vI 0]) := by
  have h := offsets_any 9 (by decide) [3, 0, 2] (by decide) (by decide)
  rw [offs0] at h; exact h
theorem lens0_any : PCall Try.prog 24 [vI 9, .lst 1 [[vI 9], [vI 12], [vI 12]], vI 14] (fun r => r = .tup [.lst 1 [[vI 3], [vI 0], [vI 2]], vI 0, vI 0]) := by
  have h := lengths_any 9 (by decide) [9, 12, 12] (by decide) (by decide) 14 (by decide)
  rw [lens0] at h; exact h
theorem same3 (a b c x y z : Int) : PCall Try.prog 23 [.lst 1 [[vI a], [vI b], [vI c]], .lst 1 [[vI x], [vI y], [vI z]]] (fun r => r = vB (decide ([a, b, c] = [x, y, z]))) := same_any [a, b, c] [x, y, z] (show 3 ≤ 4611686018427387904 by decide)
theorem awake13 : PCall Try.prog 12 [] (fun r => r = vB true) := by
  refine go_fn (tyOf_ok _) Try.func12 rfl rfl (by rw [Try.results12]) Try.ntmps12 rfl fun E => ?_
  (repeat' (first
    | exact trivial
    | (with_reducible first | refine awA ?_ | refine awB ?_ | refine awC ?_ | refine awD ?_ | refine awE ?_ | refine awF ?_ | refine awG ?_ | refine awH ?_ | refine awI ?_ | refine awJ ?_ | refine awK ?_ | refine awL ?_ | refine awM (by decide) ?_)
    | ((with_reducible first | refine awN (tyOf_ok _) [] ?_ | refine awO (tyOf_ok _) [] ?_ | refine awP (tyOf_ok _) [] ?_ | refine awQ ?_ | refine awR ?_ | refine awS ?_); intro r hr; simp only [go_sem, Nat.reduceBEq, Nat.reduceBneDiff, Nat.reduceLT, Nat.reduceLeDiff, Nat.reduceAdd, Nat.reduceMul, Nat.reduceSub, Nat.reduceEqDiff, reduceCtorEq, Int.cast_ofNat_Int, Int.reduceToNat, Int.reduceEq, Int.reduceLT, Int.reduceLE, Int.reduceNe] at hr; subst hr; (first | refine caC (offs0_any) rfl ?_ ?_ ?_ | refine caA (fun _ => same3 _ _ _ _ _ _) rfl ?_ ?_ ?_ | refine caC (lens0_any) rfl ?_ ?_ ?_ | refine caC (sch0_any) rfl ?_ ?_ ?_ | refine awV ?_ ?_ | refine awW ?_ ?_ | refine endK ?_ ?_ | (refine condK (fun h => ?_) (fun h => ?_) <;> (try simp only [go_sem, reduceCtorEq] at h) <;> (try (exfalso; omega))))) | fail)) <;> (try omega)
  exact rfl
end Go.Proofs.Ytljfgohecmhchaa
end
section
namespace Go.Proofs.Ytljfgohecmhchaa
open Go.RowKit
/-! Cuts; goals that wait. -/
section
variable {P : Program} {E : Env} {s : AState} {n : Nat} {Q : Exit → AState → Prop}
/-- a cut behind a block -/
theorem go_cutK {α : Type} {c d : Code} (id : Nat) (ts os : List Nat) (sh : α → AState) (inv : α → Prop)
    (h1 : AWp P E n (.block id c) (ASeq (fun s' => ∃ y, s'.keep ts os = sh y ∧ inv y) Q) s) (h2 : ∀ y, inv y → AWp P E n d Q (sh y)) : AWp P E n (.block id c) (ASeq (AWp P E n d Q) Q) s := fun a w hw => wp_mono (h1 a w hw) fun e a' w' hl => by
  cases e with
  | normal =>
    obtain ⟨s', ⟨y, g1, g2⟩, g3⟩ := hl
    refine ⟨s'.keep ts os, ?_, g3.weaken (fun t p => lk_keep s'.fr t p ts) (fun d o => lk_keep s'.ob d o os)⟩
    rw [g1]
    exact h2 y g2
  | _ => exact hl
end
section
variable {P : Program} {E : Env} {s : AState} {n : Nat} {Q : Exit → AState → Prop}
/-- a cut behind a branching -/
theorem go_cutC {α : Type} {c e d : Code} (o : Operand) (ts os : List Nat) (sh : α → AState) (inv : α → Prop)
    (h1 : AWp P E n (.cond o c e) (ASeq (fun s' => ∃ y, s'.keep ts os = sh y ∧ inv y) Q) s) (h2 : ∀ y, inv y → AWp P E n d Q (sh y)) : AWp P E n (.cond o c e) (ASeq (AWp P E n d Q) Q) s := fun a w hw => wp_mono (h1 a w hw) fun e a' w' hl => by
  cases e with
  | normal =>
    obtain ⟨s', ⟨y, g1, g2⟩, g3⟩ := hl
    refine ⟨s'.keep ts os, ?_, g3.weaken (fun t p => lk_keep s'.fr t p ts) (fun d o => lk_keep s'.ob d o os)⟩
    rw [g1]
    exact h2 y g2
  | _ => exact hl
/-- a goal that waits -/
structure Hold (p : Prop) : Prop where
  out : p
theorem hold {p : Prop} (h : Hold p) : p := h.out
end
end Go.Proofs.Ytljfgohecmhchaa
end
section
namespace Go.Proofs.Ytljfgohecmhchaa
open Go.RowKit
set_option maxRecDepth 100000
set_option maxHeartbeats 8000000
/-! LayoutExact. -/
theorem lk_kidsA {ty kk d : Nat} (S : KidL) (j : Nat) : lk (kids ty kk d 0 0 S) (kn d j) = (S[j]?).map (fun p => .row ty kk p.2) := by rw [lk_kids S 0 j (Nat.zero_le _), if_pos (Nat.zero_le _), Nat.sub_zero]
theorem lk_kidsB {ty kk d : Nat} (m : Nat) (S : KidL) (j : Nat) : lk (kids ty kk d m 0 S) (kn d j) = if m ≤ j then (S[j]?).map (fun p => .row ty kk p.2) else none := by rw [lk_kids S 0 j (Nat.zero_le _), Nat.sub_zero]
/-- no layouts -/
theorem lx_none (ts : List TypeM) (rs : List RootM) (e : Int) (hA : PCall Try.prog 13 [vSch ts rs] (fun r => r = .tup [.v (.slice none 0 0), vI e])) (hW : PCall Try.prog 14 [vSch ts rs] (fun r => r = .tup [.lst 2 (encLs []), vI e])) :
    PCall Try.prog 5 [vSch ts rs] (fun r => r = vB true) := by
  have haw := awake13
  have hal := (alike_refl [] (by decide) (fun _ h => by cases h)).args (as' := [.v (.slice none 0 0), .lst 2 (encLs [])]) (.cons (.nil 2) (.cons (.rfl _) .nil))
  generalize encLs [] = W at *
  unfold vSch at *
  refine go_fn (tyOf_ok _) Try.func5 rfl rfl (by rw [Try.results5]) Try.ntmps5 rfl fun E => ?_
  have e0 : ((0 : Int) < 0) = False := eq_false (by decide)
  (repeat' (first
    | exact trivial
    | (with_reducible first | refine awA ?_ | refine awB ?_ | refine awC ?_ | refine awD ?_ | refine awE ?_ | refine awF ?_ | refine awG ?_ | refine awH ?_ | refine awI ?_ | refine awJ ?_ | refine awK ?_ | refine awL ?_ | refine awM (by decide) ?_)
    | ((with_reducible first | refine awN (tyOf_ok _) [] ?_ | refine awO (tyOf_ok _) [] ?_ | refine awP (tyOf_ok _) [] ?_ | refine awQ ?_ | refine awR ?_ | refine awS ?_); intro r hr; simp only [go_sem, Nat.reduceBEq, Nat.reduceBneDiff, Nat.reduceLT, Nat.reduceLeDiff, Nat.reduceAdd, Nat.reduceMul, Nat.reduceSub, Nat.reduceEqDiff, reduceCtorEq, vSch, ne_eq, not_true_eq_false, decide_false, decide_true, Bool.not_true, Int.cast_ofNat_Int, Int.reduceToNat, Int.reduceEq, Int.reduceLT, Int.reduceLE, Int.reduceNe] at hr; subst hr; (first | refine caA (fun _ => haw) rfl ?_ ?_ ?_ | refine caC (hA) rfl ?_ ?_ ?_ | refine caC (hW) rfl ?_ ?_ ?_ | refine caA (fun _ => hal) rfl ?_ ?_ ?_ | refine awV ?_ ?_ | refine awW ?_ ?_ | refine endK ?_ ?_ | (refine condK (fun h => ?_) (fun h => ?_) <;> (try simp only [go_sem, reduceCtorEq] at h) <;> (try (exfalso; omega))))) | fail)) <;> (try omega)
  refine go_loop [1, 3, 5, 7, 8, 9] [1] (fun _ : Unit => ⟨[(1, true, .ptr 1 1 0 0), (3, true, .v (.slice none 0 0)), (5, true, .v (.slice none 0 0)), (7, true, .lst 2 W), (8, true, vI e), (9, true, vI 0)], [(1, .var [.lst 4 (encTs ts), .lst 2 (encRs rs)])]⟩) (fun _ => True) (fun _ => 0) () (by simp only [go_sem, Nat.reduceBEq, Nat.reduceBneDiff, Nat.reduceLT, Nat.reduceLeDiff, Nat.reduceAdd, Nat.reduceMul, Nat.reduceSub, Nat.reduceEqDiff, reduceCtorEq] <;> exact rfl) trivial ?_
  intro _ _
  (repeat' (first
    | exact trivial
    | (with_reducible first | refine awA ?_ | refine awB ?_ | refine awC ?_ | refine awD ?_ | refine awE ?_ | refine awF ?_ | refine awG ?_ | refine awH ?_ | refine awI ?_ | refine awJ ?_ | refine awK ?_ | refine awL ?_ | refine awM (by decide) ?_)
    | ((with_reducible first | refine awN (tyOf_ok _) [] ?_ | refine awO (tyOf_ok _) [] ?_ | refine awP (tyOf_ok _) [] ?_ | refine awQ ?_ | refine awR ?_ | refine awS ?_); intro r hr; simp only [go_sem, Nat.reduceBEq, Nat.reduceBneDiff, Nat.reduceLT, Nat.reduceLeDiff, Nat.reduceAdd, Nat.reduceMul, Nat.reduceSub, Nat.reduceEqDiff, reduceCtorEq, vSch, e0, ne_eq, not_true_eq_false, decide_false, decide_true, Bool.not_true, Int.toNat_zero, Nat.zero_add, Int.cast_ofNat_Int, Int.reduceToNat, Int.reduceEq, Int.reduceLT, Int.reduceLE, Int.reduceNe] at hr; subst hr; (first | refine caC (hA) rfl ?_ ?_ ?_ | refine caC (hW) rfl ?_ ?_ ?_ | refine caA (fun _ => hal) rfl ?_ ?_ ?_ | refine awV ?_ ?_ | refine awW ?_ ?_ | refine endK ?_ ?_ | (refine condK (fun h => ?_) (fun h => ?_) <;> (try simp only [go_sem, reduceCtorEq] at h) <;> (try (exfalso; omega))))) | fail)) <;> (try omega)
  refine go_loop [1, 3, 5, 7, 8, 12] [1] (fun _ : Unit => ⟨[(1, true, .ptr 1 1 0 0), (3, true, .v (.slice none 0 0)), (5, true, .v (.slice none 0 0)), (7, true, .lst 2 W), (8, true, vI e), (12, true, vI 0)], [(1, .var [.lst 4 (encTs ts), .lst 2 (encRs rs)])]⟩) (fun _ => True) (fun _ => 0) () (by simp only [go_sem, Nat.reduceBEq, Nat.reduceBneDiff, Nat.reduceLT, Nat.reduceLeDiff, Nat.reduceAdd, Nat.reduceMul, Nat.reduceSub, Nat.reduceEqDiff, reduceCtorEq] <;> exact rfl) trivial ?_
  intro _ _
  (repeat' (first
    | exact trivial
    | (with_reducible first | refine awA ?_ | refine awB ?_ | refine awC ?_ | refine awD ?_ | refine awE ?_ | refine awF ?_ | refine awG ?_ | refine awH ?_ | refine awI ?_ | refine awJ ?_ | refine awK ?_ | refine awL ?_ | refine awM (by decide) ?_)
    | ((with_reducible first | refine awN (tyOf_ok _) [] ?_ | refine awO (tyOf_ok _) [] ?_ | refine awP (tyOf_ok _) [] ?_ | refine awQ ?_ | refine awR ?_ | refine awS ?_); intro r hr; simp only [go_sem, Nat.reduceBEq, Nat.reduceBneDiff, Nat.reduceLT, Nat.reduceLeDiff, Nat.reduceAdd, Nat.reduceMul, Nat.reduceSub, Nat.reduceEqDiff, reduceCtorEq, vSch, e0, ne_eq, not_true_eq_false, decide_false, decide_true, Bool.not_true, Int.toNat_zero, Nat.zero_add, Int.cast_ofNat_Int, Int.reduceToNat, Int.reduceEq, Int.reduceLT, Int.reduceLE, Int.reduceNe] at hr; subst hr; (first | refine caC (hA) rfl ?_ ?_ ?_ | refine caC (hW) rfl ?_ ?_ ?_ | refine caA (fun _ => hal) rfl ?_ ?_ ?_ | refine awV ?_ ?_ | refine awW ?_ ?_ | refine endK ?_ ?_ | (refine condK (fun h => ?_) (fun h => ?_) <;> (try simp only [go_sem, reduceCtorEq] at h) <;> (try (exfalso; omega))))) | fail)) <;> (try omega)
  refine go_loop [1, 3, 5, 7, 8, 13] [1] (fun _ : Unit => ⟨[(1, true, .ptr 1 1 0 0), (3, true, .v (.slice none 0 0)), (5, true, .v (.slice none 0 0)), (7, true, .lst 2 W), (8, true, vI e), (13, true, vI 0)], [(1, .var [.lst 4 (encTs ts), .lst 2 (encRs rs)])]⟩) (fun _ => True) (fun _ => 0) () (by simp only [go_sem, Nat.reduceBEq, Nat.reduceBneDiff, Nat.reduceLT, Nat.reduceLeDiff, Nat.reduceAdd, Nat.reduceMul, Nat.reduceSub, Nat.reduceEqDiff, reduceCtorEq] <;> exact rfl) trivial ?_
  intro _ _
  (repeat' (first
    | exact trivial
    | (with_reducible first | refine awA ?_ | refine awB ?_ | refine awC ?_ | refine awD ?_ | refine awE ?_ | refine awF ?_ | refine awG ?_ | refine awH ?_ | refine awI ?_ | refine awJ ?_ | refine awK ?_ | refine awL ?_ | refine awM (by decide) ?_)
    | ((with_reducible first | refine awN (tyOf_ok _) [] ?_ | refine awO (tyOf_ok _) [] ?_ | refine awP (tyOf_ok _) [] ?_ | refine awQ ?_ | refine awR ?_ | refine awS ?_); intro r hr; simp only [go_sem, Nat.reduceBEq, Nat.reduceBneDiff, Nat.reduceLT, Nat.reduceLeDiff, Nat.reduceAdd, Nat.reduceMul, Nat.reduceSub, Nat.reduceEqDiff, reduceCtorEq, vSch, e0, ne_eq, not_true_eq_false, decide_false, decide_true, Bool.not_true, Int.toNat_zero, Nat.zero_add, Int.cast_ofNat_Int, Int.reduceToNat, Int.reduceEq, Int.reduceLT, Int.reduceLE, Int.reduceNe] at hr; subst hr; (first | refine caC (hA) rfl ?_ ?_ ?_ | refine caC (hW) rfl ?_ ?_ ?_ | refine caA (fun _ => hal) rfl ?_ ?_ ?_ | refine awV ?_ ?_ | refine awW ?_ ?_ | refine endK ?_ ?_ | (refine condK (fun h => ?_) (fun h => ?_) <;> (try simp only [go_sem, reduceCtorEq] at h) <;> (try (exfalso; omega))))) | fail)) <;> (try omega)
  all_goals exact rfl
theorem lx_some (ts : List TypeM) (rs : List RootM) (hts : ts.length ≤ 1000000000) (L : List LayM) (hL : L.length = ts.length) (hn : 0 < ts.length) (S : KidL) (hS : S = L.map fun l => (l.size, encSs l.slots)) (hsl : ∀ x ∈ L, x.slots.length ≤ 1000)
    (hN : GCall Try.prog 13 [vSch ts rs] [] (.tup [.ref 53 2 32 0 ts.length, vI 0]) ((32, .var (kcells 55 3 32 0 0 S)) :: kids 55 3 32 0 0 S))
    (hB : PCall Try.prog 13 [vSch ts rs] (fun r => r = .tup [.lst 2 (encLs L), vI 0])) (hW : PCall Try.prog 14 [vSch ts rs] (fun r => r = .tup [.lst 2 (encLs L), vI 0])) :
    PCall Try.prog 5 [vSch ts rs] (fun r => r = vB true) := by
  have haw := awake13
  have hal := alike_refl L (by omega) (fun x h => Nat.le_trans (hsl x h) (by decide))
  have hSl : S.length = ts.length := by rw [hS]; simp [hL]
  have hen : encK 3 S = encLs L := by rw [hS]; simp [encK, encLs, encL]
  have hkk := fun (m e : Nat) (S : KidL) => kids_kill (ty := 55) (kk := 3) (d := 32) (m := m) e 0 S
  have hkf := fun (m e t k : Nat) (xs : List (List AV)) (S : KidL) => kids_frz (ty := 55) (kk := 3) (d := 32) (m := m) e t k xs 0 S
  simp only [AObj.kill] at hkk
  simp only [AObj.frz] at hkf
  unfold vSch at *
  refine go_fn (tyOf_ok _) Try.func5 rfl rfl (by rw [Try.results5]) Try.ntmps5 rfl fun E => ?_
  (repeat' (first
    | exact trivial
    | (with_reducible first | refine awA ?_ | refine awB ?_ | refine awC ?_ | refine awD ?_ | refine awE ?_ | refine awF ?_ | refine awG ?_ | refine awH ?_ | refine awI ?_ | refine awJ ?_ | refine awK ?_ | refine awL ?_ | refine awM (by decide) ?_)
    | ((with_reducible first | refine awN (tyOf_ok _) [] ?_ | refine awO (tyOf_ok _) [] ?_ | refine awP (tyOf_ok _) [] ?_ | refine awQ ?_ | refine awR ?_ | refine awS ?_); intro r hr; simp only [go_sem, Nat.reduceBEq, Nat.reduceBneDiff, Nat.reduceLT, Nat.reduceLeDiff, Nat.reduceAdd, Nat.reduceMul, Nat.reduceSub, Nat.reduceEqDiff, reduceCtorEq, vSch, Bool.not_true, Int.cast_ofNat_Int, Int.reduceToNat, Int.reduceEq, Int.reduceLT, Int.reduceLE, Int.reduceNe] at hr; subst hr; (first | refine caA (fun _ => haw) rfl ?_ ?_ ?_ | refine awV ?_ ?_ | refine awW ?_ ?_ | refine endK ?_ ?_ | (refine condK (fun h => ?_) (fun h => ?_) <;> (try simp only [go_sem, reduceCtorEq] at h) <;> (try (exfalso; omega)))))
    | (refine go_callN 32 55 3 (by simp only [vSch, go_sem, Nat.reduceBEq, Nat.reduceBneDiff, Nat.reduceLT, Nat.reduceLeDiff, Nat.reduceAdd, Nat.reduceMul, Nat.reduceSub, Nat.reduceEqDiff, reduceCtorEq]; exact rfl) hN ?_ (by decide) rfl (fun ρ h => by simp only [AV.ren, AV.ren.renL, h]) (fun K hK => ?_) (fun K hK => ?_) (fun e o h => ?_) (hold ?_)) | fail)) <;> (try omega)
  · have nc : K.contains 1 = false := by
      rw [List.contains_eq_mem, decide_eq_false_iff_not]
      exact fun h => by rcases hK 1 h with h | h <;> omega
    simp only [List.map_cons, List.map_nil, AV.cut, AV.cut.cutL, nc, cond_false]
  · simp only [List.map_cons, List.map_nil, AObj.cut, AV.cut, AV.cut.cutL]
  · rw [lk_cons] at h
    by_cases he : 1 = e
    · omega
    · rw [bif_ne he] at h; cases h
  refine ⟨?_⟩
  (repeat' (first
    | exact trivial
    | (with_reducible first | refine awA ?_ | refine awB ?_ | refine awC ?_ | refine awD ?_ | refine awE ?_ | refine awF ?_ | refine awG ?_ | refine awH ?_ | refine awI ?_ | refine awJ ?_ | refine awK ?_ | refine awL ?_ | refine awM (by decide) ?_)
    | ((with_reducible first | refine awN (tyOf_ok _) [] ?_ | refine awO (tyOf_ok _) [] ?_ | refine awP (tyOf_ok _) [] ?_ | refine awQ ?_ | refine awR ?_ | refine awS ?_); intro r hr; simp only [go_sem, Nat.reduceBEq, Nat.reduceBneDiff, Nat.reduceLT, Nat.reduceLeDiff, Nat.reduceAdd, Nat.reduceMul, Nat.reduceSub, Nat.reduceEqDiff, reduceCtorEq, vSch, List.cons_append, List.nil_append, ne_eq, not_true_eq_false, decide_false, decide_true, Bool.not_true, Int.cast_ofNat_Int, Int.reduceToNat, Int.reduceEq, Int.reduceLT, Int.reduceLE, Int.reduceNe] at hr; subst hr; (first | refine caC (hB) rfl ?_ ?_ ?_ | refine caC (hW) rfl ?_ ?_ ?_ | refine caA (fun _ => hal) rfl ?_ ?_ ?_ | refine awV ?_ ?_ | refine awW ?_ ?_ | refine endK ?_ ?_ | (refine condK (fun h => ?_) (fun h => ?_) <;> (try simp only [go_sem, reduceCtorEq] at h) <;> (try (exfalso; omega)))))
    | (refine go_callX rfl rfl ⟨by decide, by decide⟩ rfl rfl (as' := [.lst 2 (encLs L), .lst 2 (encLs L)]) rfl rfl hal (fun β a w hs i y z hy hz => ?_) ?_) | fail)) <;> (try omega)
  · match i, hy, hz with
    | 0, hy, hz =>
      simp only [List.getElem?_cons_zero, Option.some.injEq] at hy
      simp at hz
      subst hy
      subst hz
      rw [← hen]
      refine nest_view (d := 32) (m := 0) (te := 53) (ty := 55) hs (by simp only [go_sem, Nat.reduceBEq, Nat.reduceBneDiff, Nat.reduceLT, Nat.reduceLeDiff, Nat.reduceAdd, Nat.reduceMul, Nat.reduceSub, Nat.reduceEqDiff, reduceCtorEq, kn_ne'] <;> exact rfl) (fun j p _ hj => ?_) ?_
      · simp only [lk_cons, kn_ne', cond_false, go_sem, Nat.reduceBEq, Nat.reduceBneDiff, Nat.reduceLT, Nat.reduceLeDiff, Nat.reduceAdd, Nat.reduceMul, Nat.reduceSub, Nat.reduceEqDiff, reduceCtorEq]
        rw [lk_kidsA, hj]; rfl
      · rw [hSl]
        exact hs.ev (.tmp 45) rfl rfl
    | 1, hy, hz =>
      simp at hy hz
      subst hy
      subst hz
      have := hs.ev (.tmp 46) rfl (a := a) rfl
      exact clean_ok (this.mono (fun b hb => hb.1) (fun _ _ => rfl) (fun _ _ h => h) (fun _ _ _ _ _ h => h)) rfl
    | i + 2, hy, hz => simp at hy
  refine go_loop [1, 3, 5, 7, 8, 9] ([1, 32] ++ kidNames 32 ts.length) (fun i : Nat => ⟨[(1, true, .ptr 1 1 0 0), (3, true, .ref 53 2 32 0 ts.length), (5, true, .lst 2 (encLs L)), (7, true, .lst 2 (encLs L)), (8, true, vI 0), (9, true, vI i)], (1, .var [.lst 4 (encTs ts), .lst 2 (encRs rs)]) :: (32, .var (kcells 55 3 32 0 0 S)) :: kids 55 3 32 0 0 (mkS S i 0)⟩) (fun i => i ≤ ts.length) (fun i => ts.length - i) 0 ?_ (Nat.zero_le _) ?_
  · rw [keep_nest (ty := 55) (kk := 3) (m := 0) (S := mkS S 0 0) _ [1, 32] (by rw [mkS_len, hSl]; exact Nat.le_refl _) (fun j => ?_)]
    · rw [mkS_zero]
      simp only [List.cons_append, List.nil_append, go_sem, Nat.reduceBEq, Nat.reduceBneDiff, Nat.reduceLT, Nat.reduceLeDiff, Nat.reduceAdd, Nat.reduceMul, Nat.reduceSub, Nat.reduceEqDiff, reduceCtorEq] <;> exact rfl
    · rw [mkS_zero, if_pos (Nat.zero_le _), ← lk_kidsA (d := 32)]
      simp only [lk_cons, kn_ne', cond_false, go_sem, Nat.reduceBEq, Nat.reduceBneDiff, Nat.reduceLT, Nat.reduceLeDiff, Nat.reduceAdd, Nat.reduceMul, Nat.reduceSub, Nat.reduceEqDiff, reduceCtorEq]
  intro i hi
  have hwi := wrap_i64 (n := (i : Int) + 1) (by omega)
  have zi : ((i : Int)).toNat = i := by omega
  by_cases hlt : i < ts.length
  · have e1 : ((i : Int) < ts.length) = True := eq_true (by omega)
    have hiL : i < L.length := by rw [hL]; exact hlt
    have hSi : S[i]? = some (L[i].size, encSs L[i].slots) := by subst hS; rw [List.getElem?_map, List.getElem?_eq_getElem hiL]; rfl
    have hxl := hsl L[i] (List.getElem_mem _)
    generalize L[i] = x at hSi hxl
    (repeat' (first
    | exact trivial
    | (with_reducible first | refine awA ?_ | refine awB ?_ | refine awC ?_ | refine awD ?_ | refine awE ?_ | refine awF ?_ | refine awG ?_ | refine awH ?_ | refine awI ?_ | refine awJ ?_ | refine awK ?_ | refine awL ?_ | refine awM (by decide) ?_)
    | ((with_reducible first | refine awN (tyOf_ok _) [] ?_ | refine awO (tyOf_ok _) [] ?_ | refine awP (tyOf_ok _) [] ?_ | refine awQ ?_ | refine awR ?_ | refine awS ?_); intro r hr; simp only [go_sem, Nat.reduceBEq, Nat.reduceBneDiff, Nat.reduceLT, Nat.reduceLeDiff, Nat.reduceAdd, Nat.reduceMul, Nat.reduceSub, Nat.reduceEqDiff, reduceCtorEq, vSch, e1, kn_ne, kn_ne', kn_lo, kn_hi, beq_self_eq_true, cond_true, cond_false, Nat.zero_add, List.cons_append, List.nil_append, kcells_len, hSl, hkk, hkf, rm_kids, kill_kcells, frz_kcells, killL_app] at hr; subst hr; (first | refine awV ?_ ?_ | refine awW ?_ ?_ | refine endK ?_ ?_ | (refine condK (fun h => ?_) (fun h => ?_) <;> (try simp only [go_sem, reduceCtorEq] at h) <;> (try (exfalso; omega))))) | fail)) <;> (try omega)
    refine go_loop [1, 3, 5, 7, 8, 9, 10] ([1, 32] ++ kidNames 32 ts.length) (fun k : Nat => ⟨[(1, true, .ptr 1 1 0 0), (3, true, .ref 53 2 32 0 ts.length), (5, true, .lst 2 (encLs L)), (7, true, .lst 2 (encLs L)), (8, true, vI 0), (9, true, vI i), (10, true, vI k)], (1, .var [.lst 4 (encTs ts), .lst 2 (encRs rs)]) :: (32, .var (kcells 55 3 32 0 0 S)) :: kids 55 3 32 0 0 (mkS S i k)⟩) (fun k => k ≤ x.slots.length) (fun k => x.slots.length - k) 0 ?_ (Nat.zero_le _) ?_
    · rw [keep_nest (ty := 55) (kk := 3) (m := 0) (S := mkS S i 0) _ [1, 32] (by rw [mkS_len, hSl]; exact Nat.le_refl _) (fun j => ?_)]
      · simp only [List.cons_append, List.nil_append, go_sem, Nat.reduceBEq, Nat.reduceBneDiff, Nat.reduceLT, Nat.reduceLeDiff, Nat.reduceAdd, Nat.reduceMul, Nat.reduceSub, Nat.reduceEqDiff, reduceCtorEq] <;> exact rfl
      · rw [if_pos (Nat.zero_le _), ← lk_kidsA (d := 32)]
        simp only [lk_cons, kn_ne', cond_false, go_sem, Nat.reduceBEq, Nat.reduceBneDiff, Nat.reduceLT, Nat.reduceLeDiff, Nat.reduceAdd, Nat.reduceMul, Nat.reduceSub, Nat.reduceEqDiff, reduceCtorEq]
    intro k hk
    have hwk := wrap_i64 (n := (k : Int) + 1) (by omega)
    have zk : ((k : Int)).toNat = k := by omega
    have gg := kcells_get1 (ty := 55) (kk := 3) (d := 32) (m := 0) 0 i hSi
    rw [Nat.zero_add, kc_f (Nat.zero_le _), encSs_len] at gg
    have lkf := lk_kids0 (ty := 55) (kk := 3) (d := 32) (m := 0) _ (Nat.zero_le i) (mkS_at (k := k) hSi)
    have hwl : (wrK (encSs x.slots) k).length = x.slots.length := by rw [wrK_len (by rw [encSs_len]; exact hk), encSs_len]
    have hnx := mkS_next hSi
    rw [encSs_len] at hnx
    rcases Nat.eq_zero_or_pos i with h0 | h0
    · have hb : (i == 0) = true := by simp; omega
      rw [show i * 2 + 1 = 1 by omega] at gg
      by_cases hk2 : k < x.slots.length
      · have e2 : ((k : Int) < x.slots.length) = True := eq_true (by omega)
        have gk : (wrK (encSs x.slots) k)[k]? = some [vI x.slots[k].at_, vB x.slots[k].var, vI x.slots[k].size] := by rw [wrK_get, encSs_get hk2]
        have hset := wrK_set (ys := encSs x.slots) (k := k) (by rw [encSs_len]; exact hk2)
        (repeat' (first
    | exact trivial
    | (with_reducible first | refine awA ?_ | refine awB ?_ | refine awC ?_ | refine awD ?_ | refine awE ?_ | refine awF ?_ | refine awG ?_ | refine awH ?_ | refine awI ?_ | refine awJ ?_ | refine awK ?_ | refine awL ?_ | refine awM (by decide) ?_)
    | ((with_reducible first | refine awN (tyOf_ok _) [] ?_ | refine awO (tyOf_ok _) [] ?_ | refine awP (tyOf_ok _) [] ?_ | refine awQ ?_ | refine awR ?_ | refine awS ?_); intro r hr; simp only [go_sem, Nat.reduceBEq, Nat.reduceBneDiff, Nat.reduceLT, Nat.reduceLeDiff, Nat.reduceAdd, Nat.reduceMul, Nat.reduceSub, Nat.reduceEqDiff, reduceCtorEq, hb, gg, e2, hwk, zi, zk, lkf, gk, hset, hwl, setXs, kn_ne, kn_ne', kn_lo, kn_hi, beq_self_eq_true, cond_true, cond_false, Nat.zero_add, List.cons_append, List.nil_append, kcells_len, hSl, hkk, hkf, rm_kids, kill_kcells, frz_kcells, killL_app] at hr; subst hr; (first | refine awV ?_ ?_ | refine awW ?_ ?_ | refine endK ?_ ?_ | (refine condK (fun h => ?_) (fun h => ?_) <;> (try simp only [go_sem, reduceCtorEq] at h) <;> (try (exfalso; omega))))) | fail)) <;> (try omega)
        refine ⟨k + 1, ?_, hk2, by omega⟩
        rw [keep_nest (ty := 55) (kk := 3) (m := 0) (S := mkS S i (k + 1)) _ [1, 32] (by rw [mkS_len, hSl]; exact Nat.le_refl _) (fun j => ?_)]
        · simp only [List.cons_append, List.nil_append, go_sem, Nat.reduceBEq, Nat.reduceBneDiff, Nat.reduceLT, Nat.reduceLeDiff, Nat.reduceAdd, Nat.reduceMul, Nat.reduceSub, Nat.reduceEqDiff, reduceCtorEq] <;> exact rfl
        · rw [if_pos (Nat.zero_le _), ← lk_kids_wr (d := 32) (k := k) hSi j]
          simp only [lk_cons, kn_ne', kn_eq, cond_false, go_sem, Nat.reduceBEq, Nat.reduceBneDiff, Nat.reduceLT, Nat.reduceLeDiff, Nat.reduceAdd, Nat.reduceMul, Nat.reduceSub, Nat.reduceEqDiff, reduceCtorEq]
      · have e2 : ((k : Int) < x.slots.length) = False := eq_false (by omega)
        obtain rfl : k = x.slots.length := by omega
        (repeat' (first
    | exact trivial
    | (with_reducible first | refine awA ?_ | refine awB ?_ | refine awC ?_ | refine awD ?_ | refine awE ?_ | refine awF ?_ | refine awG ?_ | refine awH ?_ | refine awI ?_ | refine awJ ?_ | refine awK ?_ | refine awL ?_ | refine awM (by decide) ?_)
    | ((with_reducible first | refine awN (tyOf_ok _) [] ?_ | refine awO (tyOf_ok _) [] ?_ | refine awP (tyOf_ok _) [] ?_ | refine awQ ?_ | refine awR ?_ | refine awS ?_); intro r hr; simp only [go_sem, Nat.reduceBEq, Nat.reduceBneDiff, Nat.reduceLT, Nat.reduceLeDiff, Nat.reduceAdd, Nat.reduceMul, Nat.reduceSub, Nat.reduceEqDiff, reduceCtorEq, hb, gg, e2, hwi, zi, kn_ne, kn_ne', kn_lo, kn_hi, beq_self_eq_true, cond_true, cond_false, Nat.zero_add, List.cons_append, List.nil_append, kcells_len, hSl, hkk, hkf, rm_kids, kill_kcells, frz_kcells, killL_app] at hr; subst hr; (first | refine awV ?_ ?_ | refine awW ?_ ?_ | refine endK ?_ ?_ | (refine condK (fun h => ?_) (fun h => ?_) <;> (try simp only [go_sem, reduceCtorEq] at h) <;> (try (exfalso; omega))))) | fail)) <;> (try omega)
        refine ⟨i + 1, ?_, hlt, by omega⟩
        rw [← hnx]
        rw [keep_nest (ty := 55) (kk := 3) (m := 0) (S := mkS S i x.slots.length) _ [1, 32] (by rw [mkS_len, hSl]; exact Nat.le_refl _) (fun j => ?_)]
        · simp only [List.cons_append, List.nil_append, go_sem, Nat.reduceBEq, Nat.reduceBneDiff, Nat.reduceLT, Nat.reduceLeDiff, Nat.reduceAdd, Nat.reduceMul, Nat.reduceSub, Nat.reduceEqDiff, reduceCtorEq] <;> exact rfl
        · rw [if_pos (Nat.zero_le _), ← lk_kidsA (d := 32)]
          simp only [lk_cons, kn_ne', kn_eq, cond_false, go_sem, Nat.reduceBEq, Nat.reduceBneDiff, Nat.reduceLT, Nat.reduceLeDiff, Nat.reduceAdd, Nat.reduceMul, Nat.reduceSub, Nat.reduceEqDiff, reduceCtorEq]
    · have hb : (i == 0) = false := by simp; omega
      have hz := hb
      by_cases hk2 : k < x.slots.length
      · have e2 : ((k : Int) < x.slots.length) = True := eq_true (by omega)
        have gk : (wrK (encSs x.slots) k)[k]? = some [vI x.slots[k].at_, vB x.slots[k].var, vI x.slots[k].size] := by rw [wrK_get, encSs_get hk2]
        have hset := wrK_set (ys := encSs x.slots) (k := k) (by rw [encSs_len]; exact hk2)
        (repeat' (first
    | exact trivial
    | (with_reducible first | refine awA ?_ | refine awB ?_ | refine awC ?_ | refine awD ?_ | refine awE ?_ | refine awF ?_ | refine awG ?_ | refine awH ?_ | refine awI ?_ | refine awJ ?_ | refine awK ?_ | refine awL ?_ | refine awM (by decide) ?_)
    | ((with_reducible first | refine awN (tyOf_ok _) [] ?_ | refine awO (tyOf_ok _) [] ?_ | refine awP (tyOf_ok _) [] ?_ | refine awQ ?_ | refine awR ?_ | refine awS ?_); intro r hr; simp only [go_sem, Nat.reduceBEq, Nat.reduceBneDiff, Nat.reduceLT, Nat.reduceLeDiff, Nat.reduceAdd, Nat.reduceMul, Nat.reduceSub, Nat.reduceEqDiff, reduceCtorEq, hb, gg, e2, hwk, zi, zk, lkf, gk, hset, hwl, setXs, kn_ne, kn_ne', kn_lo, kn_hi, beq_self_eq_true, cond_true, cond_false, Nat.zero_add, List.cons_append, List.nil_append, kcells_len, hSl, hkk, hkf, rm_kids, kill_kcells, frz_kcells, killL_app] at hr; subst hr; (first | refine awV ?_ ?_ | refine awW ?_ ?_ | refine endK ?_ ?_ | (refine condK (fun h => ?_) (fun h => ?_) <;> (try simp only [go_sem, reduceCtorEq] at h) <;> (try (exfalso; omega))))) | fail)) <;> (try omega)
        refine ⟨k + 1, ?_, hk2, by omega⟩
        rw [keep_nest (ty := 55) (kk := 3) (m := 0) (S := mkS S i (k + 1)) _ [1, 32] (by rw [mkS_len, hSl]; exact Nat.le_refl _) (fun j => ?_)]
        · simp only [List.cons_append, List.nil_append, go_sem, Nat.reduceBEq, Nat.reduceBneDiff, Nat.reduceLT, Nat.reduceLeDiff, Nat.reduceAdd, Nat.reduceMul, Nat.reduceSub, Nat.reduceEqDiff, reduceCtorEq] <;> exact rfl
        · rw [if_pos (Nat.zero_le _), ← lk_kids_wr (d := 32) (k := k) hSi j]
          simp only [lk_cons, kn_ne', kn_eq, cond_false, go_sem, Nat.reduceBEq, Nat.reduceBneDiff, Nat.reduceLT, Nat.reduceLeDiff, Nat.reduceAdd, Nat.reduceMul, Nat.reduceSub, Nat.reduceEqDiff, reduceCtorEq]
      · have e2 : ((k : Int) < x.slots.length) = False := eq_false (by omega)
        obtain rfl : k = x.slots.length := by omega
        (repeat' (first
    | exact trivial
    | (with_reducible first | refine awA ?_ | refine awB ?_ | refine awC ?_ | refine awD ?_ | refine awE ?_ | refine awF ?_ | refine awG ?_ | refine awH ?_ | refine awI ?_ | refine awJ ?_ | refine awK ?_ | refine awL ?_ | refine awM (by decide) ?_)
    | ((with_reducible first | refine awN (tyOf_ok _) [] ?_ | refine awO (tyOf_ok _) [] ?_ | refine awP (tyOf_ok _) [] ?_ | refine awQ ?_ | refine awR ?_ | refine awS ?_); intro r hr; simp only [go_sem, Nat.reduceBEq, Nat.reduceBneDiff, Nat.reduceLT, Nat.reduceLeDiff, Nat.reduceAdd, Nat.reduceMul, Nat.reduceSub, Nat.reduceEqDiff, reduceCtorEq, hb, gg, e2, hwi, zi, kn_ne, kn_ne', kn_lo, kn_hi, beq_self_eq_true, cond_true, cond_false, Nat.zero_add, List.cons_append, List.nil_append, kcells_len, hSl, hkk, hkf, rm_kids, kill_kcells, frz_kcells, killL_app] at hr; subst hr; (first | refine awV ?_ ?_ | refine awW ?_ ?_ | refine endK ?_ ?_ | (refine condK (fun h => ?_) (fun h => ?_) <;> (try simp only [go_sem, reduceCtorEq] at h) <;> (try (exfalso; omega))))) | fail)) <;> (try omega)
        refine ⟨i + 1, ?_, hlt, by omega⟩
        rw [← hnx]
        rw [keep_nest (ty := 55) (kk := 3) (m := 0) (S := mkS S i x.slots.length) _ [1, 32] (by rw [mkS_len, hSl]; exact Nat.le_refl _) (fun j => ?_)]
        · simp only [List.cons_append, List.nil_append, go_sem, Nat.reduceBEq, Nat.reduceBneDiff, Nat.reduceLT, Nat.reduceLeDiff, Nat.reduceAdd, Nat.reduceMul, Nat.reduceSub, Nat.reduceEqDiff, reduceCtorEq] <;> exact rfl
        · rw [if_pos (Nat.zero_le _), ← lk_kidsA (d := 32)]
          simp only [lk_cons, kn_ne', kn_eq, cond_false, go_sem, Nat.reduceBEq, Nat.reduceBneDiff, Nat.reduceLT, Nat.reduceLeDiff, Nat.reduceAdd, Nat.reduceMul, Nat.reduceSub, Nat.reduceEqDiff, reduceCtorEq]
  have e1 : ((i : Int) < ts.length) = False := eq_false (by omega)
  obtain rfl : i = ts.length := by omega
  clear hlt hi
  have hkS := kcells_mkS (ty := 55) (kk := 3) (d := 32) S
  have hMl := mkS_len S ts.length 0
  have hMat : ∀ (j : Nat) (h : j < L.length), (mkS S ts.length 0)[j]? = some (L[j].size, mkM L[j].slots.length) := fun j h => by
    have hSj : S[j]? = some (L[j].size, encSs L[j].slots) := by rw [hS, List.getElem?_map, List.getElem?_eq_getElem h]; rfl
    have := mkS_all hSj
    rw [hSl, encSs_len] at this
    exact this
  rw [hSl] at hkS hMl
  rw [hkS]
  clear hkS
  generalize mkS S ts.length 0 = SM at hMl hMat ⊢
  (repeat' (first
    | exact trivial
    | (with_reducible first | refine awA ?_ | refine awB ?_ | refine awC ?_ | refine awD ?_ | refine awE ?_ | refine awF ?_ | refine awG ?_ | refine awH ?_ | refine awI ?_ | refine awJ ?_ | refine awK ?_ | refine awL ?_ | refine awM (by decide) ?_)
    | ((with_reducible first | refine awN (tyOf_ok _) [] ?_ | refine awO (tyOf_ok _) [] ?_ | refine awP (tyOf_ok _) [] ?_ | refine awQ ?_ | refine awR ?_ | refine awS ?_); intro r hr; simp only [go_sem, Nat.reduceBEq, Nat.reduceBneDiff, Nat.reduceLT, Nat.reduceLeDiff, Nat.reduceAdd, Nat.reduceMul, Nat.reduceSub, Nat.reduceEqDiff, reduceCtorEq, vSch, e1, kn_ne, kn_ne', kn_lo, kn_hi, beq_self_eq_true, cond_true, cond_false, Nat.zero_add, List.cons_append, List.nil_append, kcells_len, hSl, hkk, hkf, rm_kids, kill_kcells, frz_kcells, killL_app] at hr; subst hr; (first | refine awV ?_ ?_ | refine awW ?_ ?_ | refine endK ?_ ?_ | (refine condK (fun h => ?_) (fun h => ?_) <;> (try simp only [go_sem, reduceCtorEq] at h) <;> (try (exfalso; omega))))) | fail)) <;> (try omega)
  refine aw_nilrow 11 51 1 8001 (.inl (by decide)) (by simp only [go_sem, Nat.reduceBEq, Nat.reduceBneDiff, Nat.reduceLT, Nat.reduceLeDiff, Nat.reduceAdd, Nat.reduceMul, Nat.reduceSub, Nat.reduceEqDiff, reduceCtorEq]) ?_
  refine go_loop [1, 3, 5, 7, 8, 11, 12] ([1, 32, 8001] ++ kidNames 32 ts.length) (fun i : Nat => ⟨[(1, true, .ptr 1 1 0 0), (3, true, .ref 53 2 32 0 ts.length), (5, true, .lst 2 (encLs L)), (7, true, .lst 2 (encLs L)), (8, true, vI 0), (11, true, .ref 51 1 8001 0 i), (12, true, vI i)], (1, .var [.lst 4 (encTs ts), .lst 2 (encRs rs)]) :: (32, .var (kcells 55 3 32 i 0 SM)) :: (8001, .row 51 1 (grow SM i)) :: kids 55 3 32 i 0 SM⟩) (fun i => i ≤ ts.length) (fun i => ts.length - i) 0 ?_ (Nat.zero_le _) ?_
  · rw [keep_nest (ty := 55) (kk := 3) (m := 0) (S := SM) _ [1, 32, 8001] (by rw [hMl]; exact Nat.le_refl _) (fun j => ?_)]
    · simp only [AState.nilrow, List.cons_append, List.nil_append, hkk, rm_kids, kill_kcells, go_sem, Nat.reduceBEq, Nat.reduceBneDiff, Nat.reduceLT, Nat.reduceLeDiff, Nat.reduceAdd, Nat.reduceMul, Nat.reduceSub, Nat.reduceEqDiff, reduceCtorEq] <;> exact rfl
    · rw [if_pos (Nat.zero_le _), ← lk_kidsA (d := 32)]
      simp only [AState.nilrow, lk_cons, kn_ne', cond_false, hkk, rm_kids, kill_kcells, go_sem, Nat.reduceBEq, Nat.reduceBneDiff, Nat.reduceLT, Nat.reduceLeDiff, Nat.reduceAdd, Nat.reduceMul, Nat.reduceSub, Nat.reduceEqDiff, reduceCtorEq]
  intro i hi
  have hwi := wrap_i64 (n := (i : Int) + 1) (by omega)
  have zi : ((i : Int)).toNat = i := by omega
  by_cases hlt : i < ts.length
  · have e1 : ((i : Int) < ts.length) = True := eq_true (by omega)
    have hiL : i < L.length := by rw [hL]; exact hlt
    have hSi := hMat i hiL
    have hxl := hsl L[i] (List.getElem_mem _)
    have hyl := mkM_len L[i].slots.length
    generalize mkM L[i].slots.length = ys at hSi hyl
    generalize L[i].slots.length = yl at hyl hxl
    generalize L[i].size = ya at hSi
    have gg := kcells_get1 (ty := 55) (kk := 3) (d := 32) (m := i) 0 i hSi
    rw [Nat.zero_add, kc_f (Nat.le_refl _)] at gg
    have lkf := lk_kids0 (ty := 55) (kk := 3) (d := 32) (m := i) _ (Nat.le_refl i) hSi
    have hfz := frz_kcells_at (ty := 55) (kk := 3) (d := 32) (m := i) SM 0 (Nat.zero_le _) (by rw [Nat.sub_zero]; exact hSi)
    have hrk := rm_kids_at (ty := 55) (kk := 3) (d := 32) (m := i) SM 0 (Nat.zero_le _)
    have hgs := grow_succ hSi
    have hgl := grow_len (S := SM) (i := i) (by omega)
    have hgl1 := grow_len (S := SM) (i := i + 1) (by omega)
    have htk : (grow SM i).take i = grow SM i := take_len (by omega)
    rcases Nat.eq_zero_or_pos i with h0 | h0
    · have hb : (i == 0) = true := by simp; omega
      rw [show i * 2 + 1 = 1 by omega] at gg
      (repeat' (first
    | exact trivial
    | (with_reducible first | refine awA ?_ | refine awB ?_ | refine awC ?_ | refine awD ?_ | refine awE ?_ | refine awF ?_ | refine awG ?_ | refine awH ?_ | refine awI ?_ | refine awJ ?_ | refine awK ?_ | refine awL ?_ | refine awM (by decide) ?_)
    | ((with_reducible first | refine awN (tyOf_ok _) [2000095] ?_ | refine awO (tyOf_ok _) [2000095] ?_ | refine awP (tyOf_ok _) [2000095] ?_ | refine awQ ?_ | refine awR ?_ | refine awS ?_); intro r hr; simp only [go_sem, Nat.reduceBEq, Nat.reduceBneDiff, Nat.reduceLT, Nat.reduceLeDiff, Nat.reduceAdd, Nat.reduceMul, Nat.reduceSub, Nat.reduceEqDiff, reduceCtorEq, hb, gg, e1, hwi, zi, lkf, hfz, hrk, hgs, hgl, hgl1, htk, hyl, List.drop_zero, if_true, and_self, true_and, or_true, Nat.le_refl, kn_ne, kn_ne', kn_lo, kn_hi, beq_self_eq_true, cond_true, cond_false, Nat.zero_add, List.cons_append, List.nil_append, kcells_len, hSl, hkk, hkf, rm_kids, kill_kcells, frz_kcells, killL_app] at hr; subst hr; (first | refine awV ?_ ?_ | refine awW ?_ ?_ | refine endK ?_ ?_ | (refine condK (fun h => ?_) (fun h => ?_) <;> (try simp only [go_sem, reduceCtorEq] at h) <;> (try (exfalso; omega))))) | fail)) <;> (try omega)
      refine ⟨i + 1, ?_, hlt, by omega⟩
      rw [keep_nest (ty := 55) (kk := 3) (m := (i + 1)) (S := SM) _ [1, 32, 8001] (by rw [hMl]; exact Nat.le_refl _) (fun j => ?_)]
      · simp only [List.cons_append, List.nil_append, go_sem, Nat.reduceBEq, Nat.reduceBneDiff, Nat.reduceLT, Nat.reduceLeDiff, Nat.reduceAdd, Nat.reduceMul, Nat.reduceSub, Nat.reduceEqDiff, reduceCtorEq] <;> exact rfl
      · simp only [lk_cons, kn_ne', kn_eq, cond_false, go_sem, Nat.reduceBEq, Nat.reduceBneDiff, Nat.reduceLT, Nat.reduceLeDiff, Nat.reduceAdd, Nat.reduceMul, Nat.reduceSub, Nat.reduceEqDiff, reduceCtorEq]
        exact lk_kidsB _ _ _
    · have hb : (i == 0) = false := by simp; omega
      have hz := hb
      (repeat' (first
    | exact trivial
    | (with_reducible first | refine awA ?_ | refine awB ?_ | refine awC ?_ | refine awD ?_ | refine awE ?_ | refine awF ?_ | refine awG ?_ | refine awH ?_ | refine awI ?_ | refine awJ ?_ | refine awK ?_ | refine awL ?_ | refine awM (by decide) ?_)
    | ((with_reducible first | refine awN (tyOf_ok _) [2000095] ?_ | refine awO (tyOf_ok _) [2000095] ?_ | refine awP (tyOf_ok _) [2000095] ?_ | refine awQ ?_ | refine awR ?_ | refine awS ?_); intro r hr; simp only [go_sem, Nat.reduceBEq, Nat.reduceBneDiff, Nat.reduceLT, Nat.reduceLeDiff, Nat.reduceAdd, Nat.reduceMul, Nat.reduceSub, Nat.reduceEqDiff, reduceCtorEq, hb, gg, e1, hwi, zi, lkf, hfz, hrk, hgs, hgl, hgl1, htk, hyl, List.drop_zero, if_true, and_self, true_and, or_true, Nat.le_refl, kn_ne, kn_ne', kn_lo, kn_hi, beq_self_eq_true, cond_true, cond_false, Nat.zero_add, List.cons_append, List.nil_append, kcells_len, hSl, hkk, hkf, rm_kids, kill_kcells, frz_kcells, killL_app] at hr; subst hr; (first | refine awV ?_ ?_ | refine awW ?_ ?_ | refine endK ?_ ?_ | (refine condK (fun h => ?_) (fun h => ?_) <;> (try simp only [go_sem, reduceCtorEq] at h) <;> (try (exfalso; omega))))) | fail)) <;> (try omega)
      refine ⟨i + 1, ?_, hlt, by omega⟩
      rw [keep_nest (ty := 55) (kk := 3) (m := (i + 1)) (S := SM) _ [1, 32, 8001] (by rw [hMl]; exact Nat.le_refl _) (fun j => ?_)]
      · simp only [List.cons_append, List.nil_append, go_sem, Nat.reduceBEq, Nat.reduceBneDiff, Nat.reduceLT, Nat.reduceLeDiff, Nat.reduceAdd, Nat.reduceMul, Nat.reduceSub, Nat.reduceEqDiff, reduceCtorEq] <;> exact rfl
      · simp only [lk_cons, kn_ne', kn_eq, cond_false, go_sem, Nat.reduceBEq, Nat.reduceBneDiff, Nat.reduceLT, Nat.reduceLeDiff, Nat.reduceAdd, Nat.reduceMul, Nat.reduceSub, Nat.reduceEqDiff, reduceCtorEq]
        exact lk_kidsB _ _ _
  have e1 : ((i : Int) < ts.length) = False := eq_false (by omega)
  obtain rfl : i = ts.length := by omega
  clear hlt hi hwi zi
  rw [kids_full SM 0 (by omega), show kcells 55 3 32 ts.length 0 SM = c3 SM 0 by rw [c3_zero, hMl]]
  (repeat' (first
    | exact trivial
    | (with_reducible first | refine awA ?_ | refine awB ?_ | refine awC ?_ | refine awD ?_ | refine awE ?_ | refine awF ?_ | refine awG ?_ | refine awH ?_ | refine awI ?_ | refine awJ ?_ | refine awK ?_ | refine awL ?_ | refine awM (by decide) ?_)
    | ((with_reducible first | refine awN (tyOf_ok _) [] ?_ | refine awO (tyOf_ok _) [] ?_ | refine awP (tyOf_ok _) [] ?_ | refine awQ ?_ | refine awR ?_ | refine awS ?_); intro r hr; simp only [go_sem, Nat.reduceBEq, Nat.reduceBneDiff, Nat.reduceLT, Nat.reduceLeDiff, Nat.reduceAdd, Nat.reduceMul, Nat.reduceSub, Nat.reduceEqDiff, reduceCtorEq, vSch, e1, kn_ne, kn_ne', kn_lo, kn_hi, beq_self_eq_true, cond_true, cond_false, Nat.zero_add, List.cons_append, List.nil_append, kcells_len, hSl, hkk, hkf, rm_kids, kill_kcells, frz_kcells, killL_app] at hr; subst hr; (first | refine awV ?_ ?_ | refine awW ?_ ?_ | refine endK ?_ ?_ | (refine condK (fun h => ?_) (fun h => ?_) <;> (try simp only [go_sem, reduceCtorEq] at h) <;> (try (exfalso; omega))))) | fail)) <;> (try omega)
  refine go_loop [1, 3, 5, 7, 8, 11, 13] [1, 32, 8001] (fun i : Nat => ⟨[(1, true, .ptr 1 1 0 0), (3, true, .ref 53 2 32 0 ts.length), (5, true, .lst 2 (encLs L)), (7, true, .lst 2 (encLs L)), (8, true, vI 0), (11, true, .ref 51 1 8001 0 ts.length), (13, true, vI i)], [(1, .var [.lst 4 (encTs ts), .lst 2 (encRs rs)]), (32, .var (c3 SM i)), (8001, .row 51 1 (grow SM ts.length))]⟩) (fun i => i ≤ ts.length) (fun i => ts.length - i) 0 (by simp only [go_sem, Nat.reduceBEq, Nat.reduceBneDiff, Nat.reduceLT, Nat.reduceLeDiff, Nat.reduceAdd, Nat.reduceMul, Nat.reduceSub, Nat.reduceEqDiff, reduceCtorEq] <;> exact rfl) (Nat.zero_le _) ?_
  clear e1
  intro i hi
  have hwi := wrap_i64 (n := (i : Int) + 1) (by omega)
  have zi : ((i : Int)).toNat = i := by omega
  have hcl := c3_len (S := SM) (i := i) (by omega)
  have hgl := grow_len (S := SM) (i := ts.length) (by omega)
  rw [hMl] at hcl
  by_cases hlt : i < ts.length
  · have e1 : ((i : Int) < ts.length) = True := eq_true (by omega)
    have hiL : i < L.length := by rw [hL]; exact hlt
    have hSi := hMat i hiL
    have hxl := hsl L[i] (List.getElem_mem _)
    generalize L[i].slots.length = m at hSi hxl
    generalize L[i].size = ya at hSi
    have gg := c3_get hSi
    have ggr := grow_get hlt hSi
    have hput := c3_put (S := SM) (i := i) (by omega)
    have gm3 : (mkM m ++ [[vI (-2), vB false, vI (i : Int)]])[m]? = some [vI (-2), vB false, vI (i : Int)] := by
      rw [List.getElem?_append_right (by rw [mkM_len]; exact Nat.le_refl _), mkM_len, Nat.sub_self]; rfl
    have hml := mkM_len m
    have zm : ((m : Int)).toNat = m := by omega
    rcases Nat.eq_zero_or_pos i with h0 | h0
    · have hb : (i == 0) = true := by simp; omega
      rw [show i * 2 + 1 = 1 by omega] at gg
      rw [show i * 2 = 0 by omega] at hput
      (repeat' (first
    | exact trivial
    | (with_reducible first | refine awA ?_ | refine awB ?_ | refine awC ?_ | refine awD ?_ | refine awE ?_ | refine awF ?_ | refine awG ?_ | refine awH ?_ | refine awI ?_ | refine awJ ?_ | refine awK ?_ | refine awL ?_ | refine awM (by decide) ?_)
    | ((with_reducible first | refine awN (tyOf_ok _) [] ?_ | refine awO (tyOf_ok _) [] ?_ | refine awP (tyOf_ok _) [] ?_ | refine awQ ?_ | refine awR ?_ | refine awS ?_); intro r hr; simp only [go_sem, Nat.reduceBEq, Nat.reduceBneDiff, Nat.reduceLT, Nat.reduceLeDiff, Nat.reduceAdd, Nat.reduceMul, Nat.reduceSub, Nat.reduceEqDiff, reduceCtorEq, hb, gg, e1, zi, hml, hcl, kn_ne, kn_ne', kn_lo, kn_hi, beq_self_eq_true, cond_true, cond_false, Nat.zero_add, List.cons_append, List.nil_append, kcells_len, hSl, hkk, hkf, rm_kids, kill_kcells, frz_kcells, killL_app] at hr; subst hr; (first | refine awV ?_ ?_ | refine awW ?_ ?_ | refine endK ?_ ?_ | (refine condK (fun h => ?_) (fun h => ?_) <;> (try simp only [go_sem, reduceCtorEq] at h) <;> (try (exfalso; omega))))) | fail)) <;> (try omega)
      refine go_loop [1, 3, 5, 7, 8, 11, 13, 14, 15] [1, 32, 8001] (fun k : Nat => ⟨[(1, true, .ptr 1 1 0 0), (3, true, .ref 53 2 32 0 ts.length), (5, true, .lst 2 (encLs L)), (7, true, .lst 2 (encLs L)), (8, true, vI 0), (11, true, .ref 51 1 8001 0 ts.length), (13, true, vI i), (14, true, vI m), (15, true, vI k)], [(1, .var [.lst 4 (encTs ts), .lst 2 (encRs rs)]), (32, .var (c3 SM i)), (8001, .row 51 1 (grow SM ts.length))]⟩) (fun k => k ≤ m) (fun k => m - k) 0 (by simp only [go_sem, Nat.reduceBEq, Nat.reduceBneDiff, Nat.reduceLT, Nat.reduceLeDiff, Nat.reduceAdd, Nat.reduceMul, Nat.reduceSub, Nat.reduceEqDiff, reduceCtorEq] <;> exact rfl) (Nat.zero_le _) ?_
      intro k hk
      have hwk := wrap_i64 (n := (k : Int) + 1) (by omega)
      have zk : ((k : Int)).toNat = k := by omega
      by_cases hk2 : k < m
      · have e2 : ((k : Int) < m) = True := eq_true (by omega)
        have gm := mkM_get hk2
        have gm2 : (mkM m ++ [[vI (-2), vB false, vI (i : Int)]])[k]? = some [vI (-1), vB false, vI 0] := by rw [List.getElem?_append_left (by rw [mkM_len]; exact hk2), gm]
        (repeat' (first
    | exact trivial
    | (with_reducible first | refine awA ?_ | refine awB ?_ | refine awC ?_ | refine awD ?_ | refine awE ?_ | refine awF ?_ | refine awG ?_ | refine awH ?_ | refine awI ?_ | refine awJ ?_ | refine awK ?_ | refine awL ?_ | refine awM (by decide) ?_)
    | ((with_reducible first | refine awN (tyOf_ok _) [] ?_ | refine awO (tyOf_ok _) [] ?_ | refine awP (tyOf_ok _) [] ?_ | refine awQ ?_ | refine awR ?_ | refine awS ?_); intro r hr; simp only [go_sem, Nat.reduceBEq, Nat.reduceBneDiff, Nat.reduceLT, Nat.reduceLeDiff, Nat.reduceAdd, Nat.reduceMul, Nat.reduceSub, Nat.reduceEqDiff, reduceCtorEq, hb, gg, ggr, e2, hwk, zi, zk, gm, gm2, hml, hcl, hgl, List.length_append, List.length_cons, List.length_nil, decide_true, Bool.not_true, Int.cast_ofNat_Int, Int.reduceToNat, Int.reduceEq, Int.reduceLT, Int.reduceLE, Int.reduceNe, kn_ne, kn_ne', kn_lo, kn_hi, beq_self_eq_true, cond_true, cond_false, Nat.zero_add, List.cons_append, List.nil_append, kcells_len, hSl, hkk, hkf, rm_kids, kill_kcells, frz_kcells, killL_app] at hr; subst hr; (first | refine awV ?_ ?_ | refine awW ?_ ?_ | refine endK ?_ ?_ | (refine condK (fun h => ?_) (fun h => ?_) <;> (try simp only [go_sem, reduceCtorEq] at h) <;> (try (exfalso; omega))))) | fail)) <;> (try omega)
        all_goals first | omega | exact ⟨k + 1, by simp only [go_sem, Nat.reduceBEq, Nat.reduceBneDiff, Nat.reduceLT, Nat.reduceLeDiff, Nat.reduceAdd, Nat.reduceMul, Nat.reduceSub, Nat.reduceEqDiff, reduceCtorEq] <;> exact rfl, hk2, by omega⟩
      · have e2 : ((k : Int) < m) = False := eq_false (by omega)
        (repeat' (first
    | exact trivial
    | (with_reducible first | refine awA ?_ | refine awB ?_ | refine awC ?_ | refine awD ?_ | refine awE ?_ | refine awF ?_ | refine awG ?_ | refine awH ?_ | refine awI ?_ | refine awJ ?_ | refine awK ?_ | refine awL ?_ | refine awM (by decide) ?_)
    | ((with_reducible first | refine awN (tyOf_ok _) [] ?_ | refine awO (tyOf_ok _) [] ?_ | refine awP (tyOf_ok _) [] ?_ | refine awQ ?_ | refine awR ?_ | refine awS ?_); intro r hr; simp only [go_sem, Nat.reduceBEq, Nat.reduceBneDiff, Nat.reduceLT, Nat.reduceLeDiff, Nat.reduceAdd, Nat.reduceMul, Nat.reduceSub, Nat.reduceEqDiff, reduceCtorEq, hb, gg, ggr, e2, hwi, zi, zm, gm3, hml, hcl, hgl, hput, List.length_append, List.length_cons, List.length_nil, decide_true, Bool.not_true, Int.cast_ofNat_Int, Int.reduceToNat, Int.reduceEq, Int.reduceLT, Int.reduceLE, Int.reduceNe, kn_ne, kn_ne', kn_lo, kn_hi, beq_self_eq_true, cond_true, cond_false, Nat.zero_add, List.cons_append, List.nil_append, kcells_len, hSl, hkk, hkf, rm_kids, kill_kcells, frz_kcells, killL_app] at hr; subst hr; (first | refine awV ?_ ?_ | refine awW ?_ ?_ | refine endK ?_ ?_ | (refine condK (fun h => ?_) (fun h => ?_) <;> (try simp only [go_sem, reduceCtorEq] at h) <;> (try (exfalso; omega))))) | fail)) <;> (try omega)
        all_goals first | omega | exact ⟨i + 1, by simp only [go_sem, Nat.reduceBEq, Nat.reduceBneDiff, Nat.reduceLT, Nat.reduceLeDiff, Nat.reduceAdd, Nat.reduceMul, Nat.reduceSub, Nat.reduceEqDiff, reduceCtorEq] <;> exact rfl, hlt, by omega⟩
    · have hb : (i == 0) = false := by simp; omega
      have hz := hb
      (repeat' (first
    | exact trivial
    | (with_reducible first | refine awA ?_ | refine awB ?_ | refine awC ?_ | refine awD ?_ | refine awE ?_ | refine awF ?_ | refine awG ?_ | refine awH ?_ | refine awI ?_ | refine awJ ?_ | refine awK ?_ | refine awL ?_ | refine awM (by decide) ?_)
    | ((with_reducible first | refine awN (tyOf_ok _) [] ?_ | refine awO (tyOf_ok _) [] ?_ | refine awP (tyOf_ok _) [] ?_ | refine awQ ?_ | refine awR ?_ | refine awS ?_); intro r hr; simp only [go_sem, Nat.reduceBEq, Nat.reduceBneDiff, Nat.reduceLT, Nat.reduceLeDiff, Nat.reduceAdd, Nat.reduceMul, Nat.reduceSub, Nat.reduceEqDiff, reduceCtorEq, hb, gg, e1, zi, hml, hcl, kn_ne, kn_ne', kn_lo, kn_hi, beq_self_eq_true, cond_true, cond_false, Nat.zero_add, List.cons_append, List.nil_append, kcells_len, hSl, hkk, hkf, rm_kids, kill_kcells, frz_kcells, killL_app] at hr; subst hr; (first | refine awV ?_ ?_ | refine awW ?_ ?_ | refine endK ?_ ?_ | (refine condK (fun h => ?_) (fun h => ?_) <;> (try simp only [go_sem, reduceCtorEq] at h) <;> (try (exfalso; omega))))) | fail)) <;> (try omega)
      refine go_loop [1, 3, 5, 7, 8, 11, 13, 14, 15] [1, 32, 8001] (fun k : Nat => ⟨[(1, true, .ptr 1 1 0 0), (3, true, .ref 53 2 32 0 ts.length), (5, true, .lst 2 (encLs L)), (7, true, .lst 2 (encLs L)), (8, true, vI 0), (11, true, .ref 51 1 8001 0 ts.length), (13, true, vI i), (14, true, vI m), (15, true, vI k)], [(1, .var [.lst 4 (encTs ts), .lst 2 (encRs rs)]), (32, .var (c3 SM i)), (8001, .row 51 1 (grow SM ts.length))]⟩) (fun k => k ≤ m) (fun k => m - k) 0 (by simp only [go_sem, Nat.reduceBEq, Nat.reduceBneDiff, Nat.reduceLT, Nat.reduceLeDiff, Nat.reduceAdd, Nat.reduceMul, Nat.reduceSub, Nat.reduceEqDiff, reduceCtorEq] <;> exact rfl) (Nat.zero_le _) ?_
      intro k hk
      have hwk := wrap_i64 (n := (k : Int) + 1) (by omega)
      have zk : ((k : Int)).toNat = k := by omega
      by_cases hk2 : k < m
      · have e2 : ((k : Int) < m) = True := eq_true (by omega)
        have gm := mkM_get hk2
        have gm2 : (mkM m ++ [[vI (-2), vB false, vI (i : Int)]])[k]? = some [vI (-1), vB false, vI 0] := by rw [List.getElem?_append_left (by rw [mkM_len]; exact hk2), gm]
        (repeat' (first
    | exact trivial
    | (with_reducible first | refine awA ?_ | refine awB ?_ | refine awC ?_ | refine awD ?_ | refine awE ?_ | refine awF ?_ | refine awG ?_ | refine awH ?_ | refine awI ?_ | refine awJ ?_ | refine awK ?_ | refine awL ?_ | refine awM (by decide) ?_)
    | ((with_reducible first | refine awN (tyOf_ok _) [] ?_ | refine awO (tyOf_ok _) [] ?_ | refine awP (tyOf_ok _) [] ?_ | refine awQ ?_ | refine awR ?_ | refine awS ?_); intro r hr; simp only [go_sem, Nat.reduceBEq, Nat.reduceBneDiff, Nat.reduceLT, Nat.reduceLeDiff, Nat.reduceAdd, Nat.reduceMul, Nat.reduceSub, Nat.reduceEqDiff, reduceCtorEq, hb, gg, ggr, e2, hwk, zi, zk, gm, gm2, hml, hcl, hgl, List.length_append, List.length_cons, List.length_nil, decide_true, Bool.not_true, Int.cast_ofNat_Int, Int.reduceToNat, Int.reduceEq, Int.reduceLT, Int.reduceLE, Int.reduceNe, kn_ne, kn_ne', kn_lo, kn_hi, beq_self_eq_true, cond_true, cond_false, Nat.zero_add, List.cons_append, List.nil_append, kcells_len, hSl, hkk, hkf, rm_kids, kill_kcells, frz_kcells, killL_app] at hr; subst hr; (first | refine awV ?_ ?_ | refine awW ?_ ?_ | refine endK ?_ ?_ | (refine condK (fun h => ?_) (fun h => ?_) <;> (try simp only [go_sem, reduceCtorEq] at h) <;> (try (exfalso; omega))))) | fail)) <;> (try omega)
        all_goals first | omega | exact ⟨k + 1, by simp only [go_sem, Nat.reduceBEq, Nat.reduceBneDiff, Nat.reduceLT, Nat.reduceLeDiff, Nat.reduceAdd, Nat.reduceMul, Nat.reduceSub, Nat.reduceEqDiff, reduceCtorEq] <;> exact rfl, hk2, by omega⟩
      · have e2 : ((k : Int) < m) = False := eq_false (by omega)
        (repeat' (first
    | exact trivial
    | (with_reducible first | refine awA ?_ | refine awB ?_ | refine awC ?_ | refine awD ?_ | refine awE ?_ | refine awF ?_ | refine awG ?_ | refine awH ?_ | refine awI ?_ | refine awJ ?_ | refine awK ?_ | refine awL ?_ | refine awM (by decide) ?_)
    | ((with_reducible first | refine awN (tyOf_ok _) [] ?_ | refine awO (tyOf_ok _) [] ?_ | refine awP (tyOf_ok _) [] ?_ | refine awQ ?_ | refine awR ?_ | refine awS ?_); intro r hr; simp only [go_sem, Nat.reduceBEq, Nat.reduceBneDiff, Nat.reduceLT, Nat.reduceLeDiff, Nat.reduceAdd, Nat.reduceMul, Nat.reduceSub, Nat.reduceEqDiff, reduceCtorEq, hb, gg, ggr, e2, hwi, zi, zm, gm3, hml, hcl, hgl, hput, List.length_append, List.length_cons, List.length_nil, decide_true, Bool.not_true, Int.cast_ofNat_Int, Int.reduceToNat, Int.reduceEq, Int.reduceLT, Int.reduceLE, Int.reduceNe, kn_ne, kn_ne', kn_lo, kn_hi, beq_self_eq_true, cond_true, cond_false, Nat.zero_add, List.cons_append, List.nil_append, kcells_len, hSl, hkk, hkf, rm_kids, kill_kcells, frz_kcells, killL_app] at hr; subst hr; (first | refine awV ?_ ?_ | refine awW ?_ ?_ | refine endK ?_ ?_ | (refine condK (fun h => ?_) (fun h => ?_) <;> (try simp only [go_sem, reduceCtorEq] at h) <;> (try (exfalso; omega))))) | fail)) <;> (try omega)
        all_goals first | omega | exact ⟨i + 1, by simp only [go_sem, Nat.reduceBEq, Nat.reduceBneDiff, Nat.reduceLT, Nat.reduceLeDiff, Nat.reduceAdd, Nat.reduceMul, Nat.reduceSub, Nat.reduceEqDiff, reduceCtorEq] <;> exact rfl, hlt, by omega⟩
  have e1 : ((i : Int) < ts.length) = False := eq_false (by omega)
  obtain rfl : i = ts.length := by omega
  have hb : (ts.length == 0) = false := beq_false_of_ne (by omega)
  have gmo := c3_more (S := SM) (vI (-4)) (.v (.slice none 0 0))
  rw [hMl] at gmo
  (repeat' (first
    | exact trivial
    | (with_reducible first | refine awA ?_ | refine awB ?_ | refine awC ?_ | refine awD ?_ | refine awE ?_ | refine awF ?_ | refine awG ?_ | refine awH ?_ | refine awI ?_ | refine awJ ?_ | refine awK ?_ | refine awL ?_ | refine awM (by decide) ?_)
    | ((with_reducible first | refine awN (tyOf_ok _) [3000152, 3000153] ?_ | refine awO (tyOf_ok _) [3000152, 3000153] ?_ | refine awP (tyOf_ok _) [3000152, 3000153] ?_ | refine awQ ?_ | refine awR ?_ | refine awS ?_); intro r hr; simp only [go_sem, Nat.reduceBEq, Nat.reduceBneDiff, Nat.reduceLT, Nat.reduceLeDiff, Nat.reduceAdd, Nat.reduceMul, Nat.reduceSub, Nat.reduceEqDiff, reduceCtorEq, vSch, hb, e1, zi, hcl, gmo, c3_kill, List.length_append, List.length_cons, List.length_nil, Nat.add_zero, ne_eq, not_true_eq_false, decide_false, decide_true, Bool.not_true, Int.cast_ofNat_Int, Int.reduceToNat, Int.reduceEq, Int.reduceLT, Int.reduceLE, Int.reduceNe, kn_ne, kn_ne', kn_lo, kn_hi, beq_self_eq_true, cond_true, cond_false, Nat.zero_add, List.cons_append, List.nil_append, kcells_len, hSl, hkk, hkf, rm_kids, kill_kcells, frz_kcells, killL_app] at hr; subst hr; (first | refine caC (hB) rfl ?_ ?_ ?_ | refine caA (fun _ => hal) rfl ?_ ?_ ?_ | refine awV ?_ ?_ | refine awW ?_ ?_ | refine endK ?_ ?_ | (refine condK (fun h => ?_) (fun h => ?_) <;> (try simp only [go_sem, reduceCtorEq] at h) <;> (try (exfalso; omega))))) | fail)) <;> (try omega)
  all_goals first | omega | exact rfl
end Go.Proofs.Ytljfgohecmhchaa
end
section
namespace Go.Proofs.Ytljfgohecmhchaa
open Go.RowKit
/-! LayoutExact, of every schema. -/
theorem foldAdd_len (L : List ExtM) : ∀ (l : List PartM) (x : LayM), (l.foldl (layAdd L) x).slots.length = x.slots.length + l.length
  | [], x => by simp
  | p :: l, x => by rw [List.foldl_cons, foldAdd_len L l, layAdd]; simp; omega
theorem layM_slots {t : TypeM} {L : List ExtM} {k : Int} (hr : rightOK t k = true) : (layM t L).slots.length ≤ 1000 := by
  unfold layM
  split
  · rename_i h
    rw [foldAdd_len]
    have := (rightOK_parts hr (.inr h)).2
    simp; omega
  · split
    · simp
    · split <;> simp
theorem layoutExact_any (ts : List TypeM) (rs : List RootM) (hts : ts.length ≤ 1000000000) (hrs : rs.length ≤ 1000000000) (hp : ∀ t ∈ ts, t.parts.length ≤ 1000000000) :
    PCall Try.prog 5 [vSch ts rs] (fun r => r = vB true) := by
  have hW := rlay_any ts rs hts hrs hp
  have hB := layOf_any ts rs hts hrs hp
  by_cases h : (checkF ts rs).1 ≠ 0 ∨ ts = []
  · have h1 : (laysF ts rs).1 = [] := by
      rw [laysF]
      split
      · rfl
      · rename_i g
        rw [h.resolve_left g]; rfl
    rw [h1] at hW
    exact lx_none ts rs _ (layOf_none ts rs hts hrs hp h) hW
  · have hc : (checkF ts rs).1 = 0 := Decidable.byContradiction fun g => h (.inl g)
    have hne : ts ≠ [] := fun g => h (.inr g)
    have hn : 0 < ts.length := List.length_pos_iff.2 hne
    have hl : laysF ts rs = (lays ts, 0) := by rw [laysF, if_neg (fun g => g hc)]
    rw [hl] at hW hB
    have hk : laysK ts ts.length = lays ts := by rw [laysK, take_len (Nat.le_refl _), lays]
    refine lx_some ts rs hts (lays ts) (by simp [lays]) hn (SSk ts ts.length) (by rw [SSk, hk]) (fun x hx => ?_) (layOf_G ts rs hts hrs hp hc hn) hB hW
    obtain ⟨t, ht, rfl⟩ := List.mem_map.1 hx
    obtain ⟨k, hlt, rfl⟩ := List.getElem_of_mem ht
    exact layM_slots (check_right hc k hlt)
end Go.Proofs.Ytljfgohecmhchaa
end

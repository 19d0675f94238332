import Derived.Test.YtljfgohecmhchaaP8
set_option linter.all false
section
namespace Go.Proofs.Ytljfgohecmhchaa
open Go.RowKit
set_option maxRecDepth 100000
set_option maxHeartbeats 16000000
/-! Routines of package lower: a mark that many wait for. -/
section
variable {ts : List TypeM} {rs : List RootM} {X : List ExtM} {Y : List LayM} {N : List Int}
theorem to_var (C : List InsM) (hC : C.length ≤ 1000000000) (ws : List Int) (hws : ws.length ≤ 1000000000) (op a : Int) :
    GCall Try.prog 36 [.ptr 1 10000 0 0, .ptr 2 10001 0 0, vI op, vI a] (obm ts rs X Y N C ++ [(10001, .var [vI (-1), .ref 3 1 15002 0 ws.length]), (15002, .row 3 1 (v8 ws))]) (.tup [])
      (obm ts rs X Y N (C ++ [⟨op, a, -1, 0⟩]) ++ [(10001, .var [vI (-1), .ref 3 1 15002 0 (ws ++ [(C.length : Int)]).length]), (15002, .row 3 1 (v8 (ws ++ [(C.length : Int)])))]) := by
  refine go_fnG (tyOf_ok _) Try.func36 rfl rfl (by rw [Try.results36]) Try.ntmps36 rfl fun E => ?_
  have hl := lay_G (ts := ts) (rs := rs) (X := X) (Y := Y) (N := N) C hC op a (-1) 0
  generalize hC' : (C ++ [⟨op, a, -1, 0⟩] : List InsM) = C' at *
  simp only [obm, mkV] at hl
  have htk : (v8 ws).take ws.length = v8 ws := take_len (by rw [v8_len]; exact Nat.le_refl _)
  have hl1 : (ws ++ [(C.length : Int)]).length = ws.length + 1 := by simp
  rw [hl1]
  (repeat' (first
    | exact trivial
    | (with_reducible first | refine awA ?_ | refine awB ?_ | refine awC ?_ | refine awD ?_ | refine awE ?_ | refine awF ?_ | refine awG ?_ | refine awH ?_ | refine awI ?_ | refine awJ ?_ | refine awK ?_ | refine awL ?_ | refine awM (by decide) ?_)
    | (refine aw_draw (id := 1) (t := (.node [0, 1, 2, 3, 4, 5, 6, 7, 8, 9, 10, 11, 12, 13, 14, 15] [])) (drR [10000] [17] []) mixed (by kernel_rfl) (by kernel_rfl) (fun _ _ h => h) ?_)
    | (refine at_done (by simp only [List.filterMap_cons, List.filterMap_nil, List.getElem?_toArray, List.getElem?_cons_zero, List.getElem?_cons_succ]; exact rfl) ?_) | (refine at_alt (by simp only [List.filterMap_cons, List.filterMap_nil, List.getElem?_toArray, List.getElem?_cons_zero, List.getElem?_cons_succ]; exact rfl) ?_) | refine qalt_normal ?_ | refine ats_cons ?_ ?_ | exact ats_nil
    | ((with_reducible first | refine awN (tyOf_ok _) [] ?_ | refine awO (tyOf_ok _) [] ?_ | refine awP (tyOf_ok _) [] ?_ | refine awQ ?_ | refine awR ?_ | refine awS ?_ | refine awT ?_ | refine awU ?_); intro r hr; simp only [go_sem, Nat.reduceBEq, Nat.reduceBneDiff, Nat.reduceLT, Nat.reduceLeDiff, Nat.reduceAdd, Nat.reduceMul, Nat.reduceSub, Nat.reduceEqDiff, reduceCtorEq, obm, mkV, encIs_len, v8_len, htk, hl1, v8_app, List.cons_append, List.nil_append, Int.cast_ofNat_Int, Int.reduceToNat, Int.reduceEq, Int.reduceLT, Int.reduceLE, Int.reduceNe] at hr; subst hr; (first | refine awV ?_ ?_ | refine awW ?_ ?_ | refine endK ?_ ?_ | refine endGK ?_ ?_ ?_ | (refine condK (fun h => ?_) (fun h => ?_) <;> (try simp only [go_sem, reduceCtorEq] at h) <;> (try (exfalso; omega)))))
    | (refine go_callGE [(10000, 10000), (15000, 15000), (15001, 15001)] [(10000, 10000), (15000, 15000), (15001, 15001)] [15000, 15001] [10000] ?_; intro r hr; simp only [go_sem, Nat.reduceBEq, Nat.reduceBneDiff, Nat.reduceLT, Nat.reduceLeDiff, Nat.reduceAdd, Nat.reduceMul, Nat.reduceSub, Nat.reduceEqDiff, reduceCtorEq, obm, mkV, encIs_len, v8_len, htk, hl1, v8_app, List.cons_append, List.nil_append, Int.cast_ofNat_Int, Int.reduceToNat, Int.reduceEq, Int.reduceLT, Int.reduceLE, Int.reduceNe] at hr; subst hr; refine callGK (hl) rfl rfl (by first | exact .inl rfl | exact .inr rfl) ?_ (.inl rfl) ?_) | fail)) <;> (try omega)
  all_goals (first | exact AV.up_rfl _ | (repeat first | exact obUp_nil | refine obUp_cons rfl ?_))
theorem here_var (C : List InsM) (hC : C.length ≤ 1000000000) (ws : List Int) (hws : ∀ w ∈ ws, 0 ≤ w ∧ w < C.length) (hwl : ws.length ≤ 1000000000) :
    GCall Try.prog 37 [.ptr 1 10000 0 0, .ptr 2 10001 0 0] (obm ts rs X Y N C ++ [(10001, .var [vI (-1), .lst 1 (v8 ws)])]) (.tup []) (obm ts rs X Y N (patch C ws C.length) ++ [(10001, .var [vI C.length, nilW])]) := by
  refine go_fnG (tyOf_ok _) Try.func37 rfl rfl (by rw [Try.results37]) Try.ntmps37 rfl fun E => ?_
  (repeat' (first
    | exact trivial
    | (with_reducible first | refine awA ?_ | refine awB ?_ | refine awC ?_ | refine awD ?_ | refine awE ?_ | refine awF ?_ | refine awG ?_ | refine awH ?_ | refine awI ?_ | refine awJ ?_ | refine awK ?_ | refine awL ?_ | refine awM (by decide) ?_)
    | (refine aw_draw (id := 4) (t := (.node [0, 1, 2, 3, 4, 5, 6, 7, 8, 9, 10, 11, 12] [])) (drR [10000] [33] []) mixed (by kernel_rfl) (by kernel_rfl) (fun _ _ h => h) ?_)
    | (refine at_done (by simp only [List.filterMap_cons, List.filterMap_nil, List.getElem?_toArray, List.getElem?_cons_zero, List.getElem?_cons_succ]; exact rfl) ?_) | (refine at_alt (by simp only [List.filterMap_cons, List.filterMap_nil, List.getElem?_toArray, List.getElem?_cons_zero, List.getElem?_cons_succ]; exact rfl) ?_) | refine qalt_normal ?_ | refine ats_cons ?_ ?_ | exact ats_nil
    | ((with_reducible first | refine awN (tyOf_ok _) [] ?_ | refine awO (tyOf_ok _) [] ?_ | refine awP (tyOf_ok _) [] ?_ | refine awQ ?_ | refine awR ?_ | refine awS ?_ | refine awT ?_ | refine awU ?_); intro r hr; simp only [go_sem, Nat.reduceBEq, Nat.reduceBneDiff, Nat.reduceLT, Nat.reduceLeDiff, Nat.reduceAdd, Nat.reduceMul, Nat.reduceSub, Nat.reduceEqDiff, reduceCtorEq, obm, mkV, encIs_len, List.cons_append, List.nil_append] at hr; subst hr; (first | refine awV ?_ ?_ | refine awW ?_ ?_ | refine endK ?_ ?_ | refine endGK ?_ ?_ ?_ | (refine condK (fun h => ?_) (fun h => ?_) <;> (try simp only [go_sem, reduceCtorEq] at h) <;> (try (exfalso; omega))))) | fail)) <;> (try omega)
  refine go_loop [0, 1, 18, 19, 20] [10000, 10001, 15000, 15001] (fun k : Nat => ⟨[(0, true, .ptr 1 10000 0 0), (1, true, .ptr 2 10001 0 0), (18, true, .lst 1 (v8 ws)), (19, true, vI ws.length), (20, true, vI k)], [(10000, .var (mkV ts rs X Y C.length N.length)), (10001, .var [vI (C.length : Int), .lst 1 (v8 ws)]), (15000, .row 40 4 (encIs (patch C (ws.take k) C.length))), (15001, .row 3 1 (v8 N))]⟩)
    (fun k => k ≤ ws.length) (fun k => ws.length - k) 0 (by simp only [mkV, v8_len, go_sem, Nat.reduceBEq, Nat.reduceBneDiff, Nat.reduceLT, Nat.reduceLeDiff, Nat.reduceAdd, Nat.reduceMul, Nat.reduceSub, Nat.reduceEqDiff, reduceCtorEq] <;> exact rfl) (Nat.zero_le _) ?_
  intro k hk
  have hwk := wrap_i64 (n := (k : Int) + 1) (by omega)
  have hDl := patch_len (ws.take k) C.length C
  by_cases hlt : k < ws.length
  · have f1 : ((k : Int) < ws.length) = True := eq_true (by omega)
    have gk := v8_get hlt
    have zk : ((k : Int)).toNat = k := by omega
    have hb := hws _ (List.getElem_mem hlt)
    have hps := patch_succ C ws C.length hlt
    obtain ⟨w, hw⟩ : ∃ w : Nat, ws[k] = w := ⟨ws[k].toNat, by omega⟩
    rw [hw] at gk hps hb
    have hlt2 : w < (patch C (ws.take k) C.length).length := by omega
    have gD := encIs_get hlt2
    have gS := encIs_setB _ w hlt2 C.length
    rw [← hps] at gS
    generalize patch C (ws.take k) C.length = D at *
    generalize D[w] = x at *
    have zw : ((w : Int)).toNat = w := by omega
    (repeat' (first
    | exact trivial
    | (with_reducible first | refine awA ?_ | refine awB ?_ | refine awC ?_ | refine awD ?_ | refine awE ?_ | refine awF ?_ | refine awG ?_ | refine awH ?_ | refine awI ?_ | refine awJ ?_ | refine awK ?_ | refine awL ?_ | refine awM (by decide) ?_)
    | (refine aw_draw (id := 4) (t := (.node [0, 1, 2, 3, 4, 5, 6, 7, 8, 9, 10, 11, 12] [])) (drR [10000] [33] []) mixed (by kernel_rfl) (by kernel_rfl) (fun _ _ h => h) ?_)
    | (refine at_done (by simp only [List.filterMap_cons, List.filterMap_nil, List.getElem?_toArray, List.getElem?_cons_zero, List.getElem?_cons_succ]; exact rfl) ?_) | (refine at_alt (by simp only [List.filterMap_cons, List.filterMap_nil, List.getElem?_toArray, List.getElem?_cons_zero, List.getElem?_cons_succ]; exact rfl) ?_) | refine qalt_normal ?_ | refine ats_cons ?_ ?_ | exact ats_nil
    | ((with_reducible first | refine awN (tyOf_ok _) [] ?_ | refine awO (tyOf_ok _) [] ?_ | refine awP (tyOf_ok _) [] ?_ | refine awQ ?_ | refine awR ?_ | refine awS ?_ | refine awT ?_ | refine awU ?_); intro r hr; simp only [go_sem, Nat.reduceBEq, Nat.reduceBneDiff, Nat.reduceLT, Nat.reduceLeDiff, Nat.reduceAdd, Nat.reduceMul, Nat.reduceSub, Nat.reduceEqDiff, reduceCtorEq, mkV, f1, gk, zk, gD, gS, zw, hwk, v8_len, encIs_len] at hr; subst hr; (first | refine awV ?_ ?_ | refine awW ?_ ?_ | refine endK ?_ ?_ | refine endGK ?_ ?_ ?_ | (refine condK (fun h => ?_) (fun h => ?_) <;> (try simp only [go_sem, reduceCtorEq] at h) <;> (try (exfalso; omega))))) | fail)) <;> (try omega)
    all_goals exact ⟨k + 1, by simp only [mkV, go_sem, Nat.reduceBEq, Nat.reduceBneDiff, Nat.reduceLT, Nat.reduceLeDiff, Nat.reduceAdd, Nat.reduceMul, Nat.reduceSub, Nat.reduceEqDiff, reduceCtorEq] <;> exact rfl, hlt, by omega⟩
  · have f1 : ((k : Int) < ws.length) = False := eq_false (by omega)
    have hke : ws.take k = ws := take_len (by omega)
    rw [hke] at hDl ⊢
    (repeat' (first
    | exact trivial
    | (with_reducible first | refine awA ?_ | refine awB ?_ | refine awC ?_ | refine awD ?_ | refine awE ?_ | refine awF ?_ | refine awG ?_ | refine awH ?_ | refine awI ?_ | refine awJ ?_ | refine awK ?_ | refine awL ?_ | refine awM (by decide) ?_)
    | (refine aw_draw (id := 4) (t := (.node [0, 1, 2, 3, 4, 5, 6, 7, 8, 9, 10, 11, 12] [])) (drR [10000] [33] []) mixed (by kernel_rfl) (by kernel_rfl) (fun _ _ h => h) ?_)
    | (refine at_done (by simp only [List.filterMap_cons, List.filterMap_nil, List.getElem?_toArray, List.getElem?_cons_zero, List.getElem?_cons_succ]; exact rfl) ?_) | (refine at_alt (by simp only [List.filterMap_cons, List.filterMap_nil, List.getElem?_toArray, List.getElem?_cons_zero, List.getElem?_cons_succ]; exact rfl) ?_) | refine qalt_normal ?_ | refine ats_cons ?_ ?_ | exact ats_nil
    | ((with_reducible first | refine awN (tyOf_ok _) [] ?_ | refine awO (tyOf_ok _) [] ?_ | refine awP (tyOf_ok _) [] ?_ | refine awQ ?_ | refine awR ?_ | refine awS ?_ | refine awT ?_ | refine awU ?_); intro r hr; simp only [go_sem, Nat.reduceBEq, Nat.reduceBneDiff, Nat.reduceLT, Nat.reduceLeDiff, Nat.reduceAdd, Nat.reduceMul, Nat.reduceSub, Nat.reduceEqDiff, reduceCtorEq, mkV, f1] at hr; subst hr; (first | refine awV ?_ ?_ | refine awW ?_ ?_ | refine endK ?_ ?_ | refine endGK ?_ ?_ ?_ | (refine condK (fun h => ?_) (fun h => ?_) <;> (try simp only [go_sem, reduceCtorEq] at h) <;> (try (exfalso; omega))))) | fail)) <;> (try omega)
    · exact AV.up_rfl _
    · unfold obm mkV
      rw [hDl]
      (first | exact AV.up_rfl _ | (repeat first | exact obUp_nil | refine obUp_cons rfl ?_))
end
end Go.Proofs.Ytljfgohecmhchaa
end
section
namespace Go.Proofs.Ytljfgohecmhchaa
open Go.RowKit
set_option maxRecDepth 100000
set_option maxHeartbeats 16000000
/-! Routines of package lower: unions. -/
/-- an arm's code, behind what was laid, and the places that wait for the end -/
def uniS (ts : List TypeM) (c n k : Nat) (p : PartM) (s : List InsM × List Int) : List InsM × List Int :=
  if k + 1 < n then (patch s.1 [((c + k : Nat) : Int)] s.1.length ++ [readF (tyZ ts p.ty) 0 p.ty, ⟨19, 0, -1, 0⟩], s.2 ++ [((s.1.length + 1 : Nat) : Int)])
  else (patch s.1 [((c + k : Nat) : Int)] s.1.length ++ [readF (tyZ ts p.ty) 0 p.ty], s.2)
def uniR (ts : List TypeM) (c n : Nat) : List PartM → Nat → List InsM × List Int → List InsM × List Int
  | [], _, s => s
  | p :: l, k, s => uniR ts c n l (k + 1) (uniS ts c n k p s)
theorem uniR_app (ts : List TypeM) (c n : Nat) (p : PartM) : ∀ (l : List PartM) (k : Nat) (s : List InsM × List Int), uniR ts c n (l ++ [p]) k s = uniS ts c n (k + l.length) p (uniR ts c n l k s)
  | [], k, s => rfl
  | q :: l, k, s => by rw [List.cons_append, uniR, uniR_app ts c n p l, uniR, List.length_cons, show k + 1 + l.length = k + (l.length + 1) by omega]
def uniC (ts : List TypeM) (l : List PartM) (C : List InsM) : List InsM :=
  patch (uniR ts (C.length + 1) l.length l 0 ((C ++ [⟨8, l.length, 0, 0⟩]) ++ l.map fun p => ⟨9, p.tag, -1, 0⟩, [])).1 (uniR ts (C.length + 1) l.length l 0 ((C ++ [⟨8, l.length, 0, 0⟩]) ++ l.map fun p => ⟨9, p.tag, -1, 0⟩, [])).2 (uniR ts (C.length + 1) l.length l 0 ((C ++ [⟨8, l.length, 0, 0⟩]) ++ l.map fun p => ⟨9, p.tag, -1, 0⟩, [])).1.length
section
variable {ts : List TypeM} {rs : List RootM} {X : List ExtM} {Y : List LayM} {N : List Int}
theorem union_G (C : List InsM) (hC : C.length ≤ 10000000) (T : TypeM) (hl : T.parts.length ≤ 1000000) (hin : ∀ i (h : i < T.parts.length), ∃ pn : Nat, T.parts[i].ty = pn ∧ pn < ts.length ∧ pn < X.length) :
    GCall Try.prog 38 [.ptr 1 10000 0 0, vT T] (obm ts rs X Y N C) (.tup []) (obm ts rs X Y N (uniC ts T.parts C)) := by
  refine go_fnG (tyOf_ok _) Try.func38 rfl rfl (by rw [Try.results38]) Try.ntmps38 rfl fun E => ?_
  have hm := marks_G T.parts.length hl
  have hm1 := marks_G 1 (by decide)
  have l0 := lay_G (ts := ts) (rs := rs) (X := X) (Y := Y) (N := N) C (by omega) 8 T.parts.length 0 0
  obtain ⟨C1, hC1⟩ : ∃ D, (C ++ [⟨8, T.parts.length, 0, 0⟩] : List InsM) = D := ⟨_, rfl⟩
  have z1 : C1.length = C.length + 1 := by rw [← hC1]; simp
  have hR : ∀ E w, uniR ts C1.length T.parts.length T.parts 0 (C1 ++ T.parts.map fun p => ⟨9, p.tag, -1, 0⟩, []) = (E, w) → uniC ts T.parts C = patch E w E.length := fun E w h => by rw [uniC, ← z1, hC1, h]
  generalize uniC ts T.parts C = R at *
  rw [hC1] at l0
  clear hC1
  unfold obm mkV at l0
  unfold mkn at hm hm1
  have hzn : ((T.parts.length : Int)).toNat = T.parts.length := by omega
  obtain ⟨K0, hK0⟩ : ∃ K, List.replicate T.parts.length [vI (-1), nilW] = K := ⟨_, rfl⟩
  have hnm := mkn_nm T.parts.length
  have hK0l : K0.length = T.parts.length := by rw [← hK0]; simp
  have hK0g : ∀ j, j < T.parts.length → K0[j]? = some [vI (-1), nilW] := fun j hj => by rw [← hK0, List.getElem?_replicate, if_pos hj]
  rw [hK0] at hm hnm
  clear hK0
  (repeat' (first
    | exact trivial
    | (refine aw_rowvar 15 [vI (-1), nilW] rfl (by simp) rfl ?_)
    | (refine aw_nilvar 15 1 3 1 8005 (cs := [_, _]) (.inl (by decide)) (by decide) rfl rfl ?_)
    | (with_reducible first | refine awA ?_ | refine awB ?_ | refine awC ?_ | refine awD ?_ | refine awE ?_ | refine awF ?_ | refine awG ?_ | refine awH ?_ | refine awI ?_ | refine awJ ?_ | refine awK ?_ | refine awL ?_ | refine awM (by decide) ?_)
    | (refine aw_draw (id := 8) (t := (.node [0, 1, 2, 3, 4, 5, 6, 7, 8, 9, 10] [])) (drR [3] [32] [33]) mixed (by kernel_rfl) (by kernel_rfl) (fun _ _ h => h) ?_)
    | (refine at_done (by simp only [List.filterMap_cons, List.filterMap_nil, List.getElem?_toArray, List.getElem?_cons_zero, List.getElem?_cons_succ]; exact rfl) ?_) | (refine at_alt (by simp only [List.filterMap_cons, List.filterMap_nil, List.getElem?_toArray, List.getElem?_cons_zero, List.getElem?_cons_succ]; exact rfl) ?_) | refine qalt_normal ?_ | refine ats_cons ?_ ?_ | exact ats_nil
    | ((with_reducible first | refine awN (tyOf_ok _) [] ?_ | refine awO (tyOf_ok _) [] ?_ | refine awP (tyOf_ok _) [] ?_ | refine awQ ?_ | refine awR ?_ | refine awS ?_ | refine awT ?_ | refine awU ?_); intro r hr; simp only [go_sem, Nat.reduceBEq, Nat.reduceBneDiff, Nat.reduceLT, Nat.reduceLeDiff, Nat.reduceAdd, Nat.reduceMul, Nat.reduceSub, Nat.reduceEqDiff, reduceCtorEq, AState.nilvar, obm, mkV, vT, encPs_len, List.set_cons_zero, List.set_cons_succ, Int.reduceToNat, Int.cast_ofNat_Int, Int.reduceToNat, Int.reduceEq, Int.reduceLT, Int.reduceLE, Int.reduceNe] at hr; subst hr; (first | refine awV ?_ ?_ | refine awW ?_ ?_ | refine endK ?_ ?_ | refine endGK ?_ ?_ ?_ | (refine condK (fun h => ?_) (fun h => ?_) <;> (try simp only [go_sem, reduceCtorEq] at h) <;> (try (exfalso; omega)))))
    | (refine go_callGd 14 rfl [] [(6, 14)] [14] [] (by simp only [go_sem, Nat.reduceBEq, Nat.reduceBneDiff, Nat.reduceLT, Nat.reduceLeDiff, Nat.reduceAdd, Nat.reduceMul, Nat.reduceSub, Nat.reduceEqDiff, reduceCtorEq, AState.nilvar, obm, mkV, vT, encPs_len, List.set_cons_zero, List.set_cons_succ, Int.reduceToNat, Int.cast_ofNat_Int, Int.reduceToNat, Int.reduceEq, Int.reduceLT, Int.reduceLE, Int.reduceNe]; exact rfl) ?_ rfl rfl (by first | exact .inl rfl | exact .inr rfl) (by simp only [go_sem, Nat.reduceBEq, Nat.reduceBneDiff, Nat.reduceLT, Nat.reduceLeDiff, Nat.reduceAdd, Nat.reduceMul, Nat.reduceSub, Nat.reduceEqDiff, reduceCtorEq, AState.nilvar, obm, mkV, vT, encPs_len, List.set_cons_zero, List.set_cons_succ, Int.reduceToNat, Int.cast_ofNat_Int, Int.reduceToNat, Int.reduceEq, Int.reduceLT, Int.reduceLE, Int.reduceNe] <;> exact rfl) (hm) (.inr ⟨rfl, ?_⟩) ?_)
    | (refine go_callGd 15 rfl [] [(6, 15)] [15] [] (by simp only [go_sem, Nat.reduceBEq, Nat.reduceBneDiff, Nat.reduceLT, Nat.reduceLeDiff, Nat.reduceAdd, Nat.reduceMul, Nat.reduceSub, Nat.reduceEqDiff, reduceCtorEq, AState.nilvar, obm, mkV, vT, encPs_len, List.set_cons_zero, List.set_cons_succ, Int.reduceToNat, Int.cast_ofNat_Int, Int.reduceToNat, Int.reduceEq, Int.reduceLT, Int.reduceLE, Int.reduceNe]; exact rfl) ?_ rfl rfl (by first | exact .inl rfl | exact .inr rfl) (by simp only [go_sem, Nat.reduceBEq, Nat.reduceBneDiff, Nat.reduceLT, Nat.reduceLeDiff, Nat.reduceAdd, Nat.reduceMul, Nat.reduceSub, Nat.reduceEqDiff, reduceCtorEq, AState.nilvar, obm, mkV, vT, encPs_len, List.set_cons_zero, List.set_cons_succ, Int.reduceToNat, Int.cast_ofNat_Int, Int.reduceToNat, Int.reduceEq, Int.reduceLT, Int.reduceLE, Int.reduceNe] <;> exact rfl) (hm1) (.inr ⟨rfl, ?_⟩) ?_)
    | (refine go_callGE [(10000, 10000), (15000, 15000), (15001, 15001)] [(10000, 10000), (15000, 15000), (15001, 15001)] [15000, 15001] [10000] ?_; intro r hr; simp only [go_sem, Nat.reduceBEq, Nat.reduceBneDiff, Nat.reduceLT, Nat.reduceLeDiff, Nat.reduceAdd, Nat.reduceMul, Nat.reduceSub, Nat.reduceEqDiff, reduceCtorEq, AState.nilvar, obm, mkV, vT, encPs_len, List.set_cons_zero, List.set_cons_succ, Int.reduceToNat, Int.cast_ofNat_Int, Int.reduceToNat, Int.reduceEq, Int.reduceLT, Int.reduceLE, Int.reduceNe] at hr; subst hr; refine callGK (l0) rfl rfl (by first | exact .inl rfl | exact .inr rfl) ?_ (.inl rfl) ?_)
    | (exact ⟨hnm, trivial⟩)
    | (exact ⟨mkn_nm _, trivial⟩) | fail)) <;> (try omega)
  have hwn := wrap_i64 (n := (T.parts.length : Int) - 1) (by omega)
  refine go_loop [0, 3, 4, 5, 6, 19, 20] [3, 14, 15, 8005, 10000, 15000, 15001] (fun q : Nat × List (List AV) => ⟨[(0, true, .ptr 1 10000 0 0), (3, true, .ptr 1 3 0 0), (4, true, vI T.parts.length), (5, true, .ref 94 2 14 0 T.parts.length), (6, true, .ref 94 2 15 0 1), (19, true, vI T.parts.length), (20, true, vI q.1)],
      [(3, .var [vI T.kind, vI T.n, vI T.elem, .lst 3 (encPs T.parts)]), (14, .row 94 2 q.2), (15, .var [vI (-1), .ref 3 1 8005 0 0]), (8005, .row 3 1 [])] ++ obm ts rs X Y N (C1 ++ (T.parts.take q.1).map fun p => ⟨9, p.tag, -1, 0⟩)⟩)
    (fun q => q.1 ≤ T.parts.length ∧ q.2.length = T.parts.length ∧ (∀ j, j < q.1 → q.2[j]? = some [vI (-1), .lsx 1 [[vI ((C1.length + j : Nat) : Int)]] []]) ∧ (∀ j, q.1 ≤ j → j < T.parts.length → q.2[j]? = some [vI (-1), nilW])) (fun q => T.parts.length - q.1) (0, K0)
    (by simp only [obm, mkV, List.take_zero, List.map_nil, List.append_nil, List.cons_append, List.nil_append, go_sem, Nat.reduceBEq, Nat.reduceBneDiff, Nat.reduceLT, Nat.reduceLeDiff, Nat.reduceAdd, Nat.reduceMul, Nat.reduceSub, Nat.reduceEqDiff, reduceCtorEq] <;> exact rfl) ⟨Nat.zero_le _, hK0l, fun j hj => absurd hj (Nat.not_lt_zero _), fun j _ hj => hK0g j hj⟩ ?_
  clear hm hm1 l0 hnm hK0l hK0g
  intro ⟨k, K⟩ ⟨hk, hKl, hKa, hKb⟩
  simp only at hk hKl hKa hKb
  have hwk := wrap_i64 (n := (k : Int) + 1) (by omega)
  have hDl : (C1 ++ (T.parts.take k).map fun p => (⟨9, p.tag, -1, 0⟩ : InsM)).length = C1.length + k := by rw [List.length_append, List.length_map, List.length_take]; omega
  by_cases hlt : k < T.parts.length
  · have f1 : ((k : Int) < T.parts.length) = True := eq_true (by omega)
    have g1 := encPs_get hlt
    have zk : ((k : Int)).toNat = k := by omega
    have hnext : (C1 ++ (T.parts.take k).map fun p => (⟨9, p.tag, -1, 0⟩ : InsM)) ++ [⟨9, T.parts[k].tag, -1, 0⟩] = C1 ++ (T.parts.take (k + 1)).map fun p => (⟨9, p.tag, -1, 0⟩ : InsM) := by
      rw [List.take_succ_eq_append_getElem hlt, List.map_append, List.append_assoc]; rfl
    have tw := to_wait (ts := ts) (rs := rs) (X := X) (Y := Y) (N := N) (C1 ++ (T.parts.take k).map fun p => (⟨9, p.tag, -1, 0⟩ : InsM)) (by omega) K k (-1) (hKb k (Nat.le_refl _) hlt) (by decide) 9 T.parts[k].tag
    rw [hnext, hDl] at tw
    have hKl2 : (K.set k [vI (-1), .lsx 1 [[vI ((C1.length + k : Nat) : Int)]] []]).length = T.parts.length := by rw [List.length_set, hKl]
    have hKa2 : ∀ j, j < k + 1 → (K.set k [vI (-1), .lsx 1 [[vI ((C1.length + k : Nat) : Int)]] []])[j]? = some [vI (-1), .lsx 1 [[vI ((C1.length + j : Nat) : Int)]] []] := fun j hj => by
      by_cases hjk : k = j
      · subst hjk; rw [List.getElem?_set_self (by omega)]
      · rw [List.getElem?_set_ne hjk]; exact hKa j (by omega)
    have hKb2 : ∀ j, k + 1 ≤ j → j < T.parts.length → (K.set k [vI (-1), .lsx 1 [[vI ((C1.length + k : Nat) : Int)]] []])[j]? = some [vI (-1), nilW] := fun j hj hjn => by
      rw [List.getElem?_set_ne (by omega)]; exact hKb j (by omega) hjn
    generalize hK2 : K.set k [vI (-1), .lsx 1 [[vI ((C1.length + k : Nat) : Int)]] []] = K2 at *
    generalize hC2 : (C1 ++ (T.parts.take (k + 1)).map fun p => (⟨9, p.tag, -1, 0⟩ : InsM)) = D2 at *
    generalize (C1 ++ (T.parts.take k).map fun p => (⟨9, p.tag, -1, 0⟩ : InsM)) = D at *
    clear hnext hK2 hKa hKb
    simp only [obm, mkV, hDl, List.cons_append, List.nil_append] at tw
    (repeat' (first
    | exact trivial
    | (with_reducible first | refine awA ?_ | refine awB ?_ | refine awC ?_ | refine awD ?_ | refine awE ?_ | refine awF ?_ | refine awG ?_ | refine awH ?_ | refine awI ?_ | refine awJ ?_ | refine awK ?_ | refine awL ?_ | refine awM (by decide) ?_)
    | (refine aw_draw (id := 8) (t := (.node [0, 1, 2, 3, 4, 5, 6, 7, 8, 9, 10] [])) (drR [3] [32] [33]) mixed (by kernel_rfl) (by kernel_rfl) (fun _ _ h => h) ?_)
    | (refine at_done (by simp only [List.filterMap_cons, List.filterMap_nil, List.getElem?_toArray, List.getElem?_cons_zero, List.getElem?_cons_succ]; exact rfl) ?_) | (refine at_alt (by simp only [List.filterMap_cons, List.filterMap_nil, List.getElem?_toArray, List.getElem?_cons_zero, List.getElem?_cons_succ]; exact rfl) ?_) | refine qalt_normal ?_ | refine ats_cons ?_ ?_ | exact ats_nil
    | ((with_reducible first | refine awN (tyOf_ok _) [] ?_ | refine awO (tyOf_ok _) [] ?_ | refine awP (tyOf_ok _) [] ?_ | refine awQ ?_ | refine awR ?_ | refine awS ?_ | refine awT ?_ | refine awU ?_); intro r hr; simp only [go_sem, Nat.reduceBEq, Nat.reduceBneDiff, Nat.reduceLT, Nat.reduceLeDiff, Nat.reduceAdd, Nat.reduceMul, Nat.reduceSub, Nat.reduceEqDiff, reduceCtorEq, obm, mkV, List.cons_append, List.nil_append, f1, g1, zk, hwk, hDl, encPs_len] at hr; subst hr; (first | refine awV ?_ ?_ | refine awW ?_ ?_ | refine endK ?_ ?_ | refine endGK ?_ ?_ ?_ | (refine condK (fun h => ?_) (fun h => ?_) <;> (try simp only [go_sem, reduceCtorEq] at h) <;> (try (exfalso; omega)))))
    | (refine go_callGE [(10000, 10000), (15000, 15000), (15001, 15001), (14, 10001)] [(10000, 10000), (15000, 15000), (15001, 15001), (10001, 14)] [15000, 15001] [10000, 14] ?_; intro r hr; simp only [go_sem, Nat.reduceBEq, Nat.reduceBneDiff, Nat.reduceLT, Nat.reduceLeDiff, Nat.reduceAdd, Nat.reduceMul, Nat.reduceSub, Nat.reduceEqDiff, reduceCtorEq, obm, mkV, List.cons_append, List.nil_append, f1, g1, zk, hwk, hDl, encPs_len] at hr; subst hr; refine callGK (tw) rfl rfl (by first | exact .inl rfl | exact .inr rfl) ?_ (.inl rfl) ?_) | fail)) <;> (try omega)
    all_goals exact ⟨(k + 1, K2), by simp only [obm, mkV, hC2, List.cons_append, List.nil_append, go_sem, Nat.reduceBEq, Nat.reduceBneDiff, Nat.reduceLT, Nat.reduceLeDiff, Nat.reduceAdd, Nat.reduceMul, Nat.reduceSub, Nat.reduceEqDiff, reduceCtorEq] <;> exact rfl, ⟨hlt, hKl2, hKa2, hKb2⟩, by simp only; omega⟩
  have f1 : ((k : Int) < T.parts.length) = False := eq_false (by omega)
  have hke : T.parts.take k = T.parts := take_len (by omega)
  rw [hke] at hDl ⊢
  have hkn : k = T.parts.length := by omega
  obtain ⟨A, hA⟩ : ∃ A, (C1 ++ T.parts.map fun p => (⟨9, p.tag, -1, 0⟩ : InsM)) = A := ⟨_, rfl⟩
  rw [hA] at hDl hR ⊢
  rw [hkn] at hKa hDl
  clear hKb hA
  (repeat' (first
    | exact trivial
    | (with_reducible first | refine awA ?_ | refine awB ?_ | refine awC ?_ | refine awD ?_ | refine awE ?_ | refine awF ?_ | refine awG ?_ | refine awH ?_ | refine awI ?_ | refine awJ ?_ | refine awK ?_ | refine awL ?_ | refine awM (by decide) ?_)
    | (refine aw_draw (id := 8) (t := (.node [0, 1, 2, 3, 4, 5, 6, 7, 8, 9, 10] [])) (drR [3] [32] [33]) mixed (by kernel_rfl) (by kernel_rfl) (fun _ _ h => h) ?_)
    | (refine at_done (by simp only [List.filterMap_cons, List.filterMap_nil, List.getElem?_toArray, List.getElem?_cons_zero, List.getElem?_cons_succ]; exact rfl) ?_) | (refine at_alt (by simp only [List.filterMap_cons, List.filterMap_nil, List.getElem?_toArray, List.getElem?_cons_zero, List.getElem?_cons_succ]; exact rfl) ?_) | refine qalt_normal ?_ | refine ats_cons ?_ ?_ | exact ats_nil
    | ((with_reducible first | refine awN (tyOf_ok _) [] ?_ | refine awO (tyOf_ok _) [] ?_ | refine awP (tyOf_ok _) [] ?_ | refine awQ ?_ | refine awR ?_ | refine awS ?_ | refine awT ?_ | refine awU ?_); intro r hr; simp only [go_sem, Nat.reduceBEq, Nat.reduceBneDiff, Nat.reduceLT, Nat.reduceLeDiff, Nat.reduceAdd, Nat.reduceMul, Nat.reduceSub, Nat.reduceEqDiff, reduceCtorEq, obm, mkV, List.cons_append, List.nil_append, f1, encPs_len] at hr; subst hr; (first | refine awV ?_ ?_ | refine awW ?_ ?_ | refine endK ?_ ?_ | refine endGK ?_ ?_ ?_ | (refine condK (fun h => ?_) (fun h => ?_) <;> (try simp only [go_sem, reduceCtorEq] at h) <;> (try (exfalso; omega))))) | fail)) <;> (try omega)
  refine go_loop [0, 4, 5, 6, 36, 37, 38] [14, 15, 8005, 10000, 15000, 15001] (fun q : Nat × List (List AV) × List InsM × List Int => ⟨[(0, true, .ptr 1 10000 0 0), (4, true, vI T.parts.length), (5, true, .ref 94 2 14 0 T.parts.length), (6, true, .ref 94 2 15 0 1), (36, true, .lst 3 (encPs T.parts)), (37, true, vI T.parts.length), (38, true, vI q.1)],
      [(14, .row 94 2 q.2.1), (15, .var [vI (-1), .ref 3 1 8005 0 q.2.2.2.length]), (8005, .row 3 1 (v8 q.2.2.2))] ++ obm ts rs X Y N q.2.2.1⟩)
    (fun q => q.1 ≤ T.parts.length ∧ q.2.1.length = T.parts.length ∧ (∀ j, q.1 ≤ j → j < T.parts.length → q.2.1[j]? = some [vI (-1), .lsx 1 [[vI ((C1.length + j : Nat) : Int)]] []]) ∧ uniR ts C1.length T.parts.length (T.parts.take q.1) 0 (A, []) = q.2.2 ∧ C1.length + T.parts.length ≤ q.2.2.1.length ∧ q.2.2.1.length ≤ C1.length + T.parts.length + 2 * q.1 ∧ (∀ z ∈ q.2.2.2, 0 ≤ z ∧ z < q.2.2.1.length) ∧ q.2.2.2.length ≤ q.1) (fun q => T.parts.length - q.1) (0, K, A, [])
    (by simp only [obm, mkV, v8_nil, List.length_nil, List.cons_append, List.nil_append, go_sem, Nat.reduceBEq, Nat.reduceBneDiff, Nat.reduceLT, Nat.reduceLeDiff, Nat.reduceAdd, Nat.reduceMul, Nat.reduceSub, Nat.reduceEqDiff, reduceCtorEq] <;> exact rfl) ⟨Nat.zero_le _, hKl, fun j _ hj => hKa j hj, rfl, by simp only; omega, by simp only; omega, fun z hz => (by cases hz), Nat.le_refl _⟩ ?_
  clear hKa hKl hk hlt hwk f1 hke hkn hDl
  intro ⟨k, K, E, w⟩ ⟨hk, hKl, hKa, hE, hE1, hE2, hw, hwl⟩
  simp only at hk hKl hKa hE hE1 hE2 hw hwl
  have hwk := wrap_i64 (n := (k : Int) + 1) (by omega)
  by_cases hlt : k < T.parts.length
  · have f1 : ((k : Int) < T.parts.length) = True := eq_true (by omega)
    have g1 := encPs_get hlt
    have zk : ((k : Int)).toNat = k := by omega
    obtain ⟨pn, hpn, hp1, hp2⟩ := hin k hlt
    have zp : ((pn : Int)).toNat = pn := by omega
    have hnext := uniR_app ts C1.length T.parts.length T.parts[k] (T.parts.take k) 0 (A, [])
    rw [← List.take_succ_eq_append_getElem hlt, hE, List.length_take, Nat.min_eq_left hk, Nat.zero_add, uniS] at hnext
    rw [hpn, tyZ_lt hp1] at hnext
    rw [hpn] at g1
    have h1 := here_ws (ts := ts) (rs := rs) (X := X) (Y := Y) (N := N) E (by omega) K k (-1) [((C1.length + k : Nat) : Int)] (hKa k (Nat.le_refl _) hlt) (fun z hz => by rw [List.mem_singleton] at hz; omega) (by simp)
    obtain ⟨E1, hE1'⟩ : ∃ D, patch E [((C1.length + k : Nat) : Int)] E.length = D := ⟨_, rfl⟩
    have z1' : E1.length = E.length := by rw [← hE1', patch_len]
    rw [hE1'] at h1 hnext
    have rd := read_G (ts := ts) (rs := rs) (X := X) (Y := Y) (N := N) E1 (by omega) 0 pn hp1
    obtain ⟨E2, hE2'⟩ : ∃ D, (E1 ++ [readF ts[pn] 0 pn] : List InsM) = D := ⟨_, rfl⟩
    have z2' : E2.length = E.length + 1 := by rw [← hE2']; simp [z1']
    rw [hE2'] at rd
    have hKl2 : (K.set k [vI (E.length : Int), nilW]).length = T.parts.length := by rw [List.length_set, hKl]
    have hKa2 : ∀ j, k + 1 ≤ j → j < T.parts.length → (K.set k [vI (E.length : Int), nilW])[j]? = some [vI (-1), .lsx 1 [[vI ((C1.length + j : Nat) : Int)]] []] := fun j hj hjn => by
      rw [List.getElem?_set_ne (by omega)]; exact hKa j (by omega) hjn
    generalize hK2 : K.set k [vI (E.length : Int), nilW] = K2 at *
    generalize T.parts[k] = pp at *
    by_cases hkn : k + 1 < T.parts.length
    · have f2 : ((k : Int) < T.parts.length - 1) = True := eq_true (by omega)
      rw [if_pos hkn] at hnext
      have tv := to_var (ts := ts) (rs := rs) (X := X) (Y := Y) (N := N) E2 (by omega) w (by omega) 19 0
      obtain ⟨E3, hE3'⟩ : ∃ D, (E2 ++ [⟨19, 0, -1, 0⟩] : List InsM) = D := ⟨_, rfl⟩
      have z3' : E3.length = E.length + 2 := by rw [← hE3']; simp [z2']
      rw [hE3'] at tv
      obtain ⟨w2, hw2⟩ : ∃ w2, w ++ [(E2.length : Int)] = w2 := ⟨_, rfl⟩
      have hw2l : w2.length = w.length + 1 := by rw [← hw2]; simp
      have hw2m : ∀ z ∈ w2, 0 ≤ z ∧ z < E3.length := fun z hz => by
        rw [← hw2] at hz
        rcases List.mem_append.1 hz with h | h
        · have := hw z h; omega
        · rw [List.mem_singleton] at h; omega
      have hE3n : uniR ts C1.length T.parts.length (T.parts.take (k + 1)) 0 (A, []) = (E3, w2) := by rw [hnext, ← hE3', ← hE2', ← hw2, z2']; simp
      rw [hw2] at tv
      clear hnext hE3' hE2' hE1' hw2 hE
      simp only [obm, mkV, z1', z2', z3', List.cons_append, List.nil_append] at h1 rd tv
      (repeat' (first
    | exact trivial
    | (with_reducible first | refine awA ?_ | refine awB ?_ | refine awC ?_ | refine awD ?_ | refine awE ?_ | refine awF ?_ | refine awG ?_ | refine awH ?_ | refine awI ?_ | refine awJ ?_ | refine awK ?_ | refine awL ?_ | refine awM (by decide) ?_)
    | (refine aw_draw (id := 8) (t := (.node [0, 1, 2, 3, 4, 5, 6, 7, 8, 9, 10] [])) (drR [3] [32] [33]) mixed (by kernel_rfl) (by kernel_rfl) (fun _ _ h => h) ?_)
    | (refine at_done (by simp only [List.filterMap_cons, List.filterMap_nil, List.getElem?_toArray, List.getElem?_cons_zero, List.getElem?_cons_succ]; exact rfl) ?_) | (refine at_alt (by simp only [List.filterMap_cons, List.filterMap_nil, List.getElem?_toArray, List.getElem?_cons_zero, List.getElem?_cons_succ]; exact rfl) ?_) | refine qalt_normal ?_ | refine ats_cons ?_ ?_ | exact ats_nil
    | ((with_reducible first | refine awN (tyOf_ok _) [] ?_ | refine awO (tyOf_ok _) [] ?_ | refine awP (tyOf_ok _) [] ?_ | refine awQ ?_ | refine awR ?_ | refine awS ?_ | refine awT ?_ | refine awU ?_); intro r hr; simp only [go_sem, Nat.reduceBEq, Nat.reduceBneDiff, Nat.reduceLT, Nat.reduceLeDiff, Nat.reduceAdd, Nat.reduceMul, Nat.reduceSub, Nat.reduceEqDiff, reduceCtorEq, obm, mkV, List.cons_append, List.nil_append, f1, f2, g1, zk, zp, hwk, hwn, z1', z2', z3', encPs_len] at hr; subst hr; (first | refine awV ?_ ?_ | refine awW ?_ ?_ | refine endK ?_ ?_ | refine endGK ?_ ?_ ?_ | (refine condK (fun h => ?_) (fun h => ?_) <;> (try simp only [go_sem, reduceCtorEq] at h) <;> (try (exfalso; omega)))))
    | (refine go_callGE [(10000, 10000), (15000, 15000), (15001, 15001), (14, 10001)] [(10000, 10000), (15000, 15000), (15001, 15001), (10001, 14)] [15000, 15001] [10000, 14] ?_; intro r hr; simp only [go_sem, Nat.reduceBEq, Nat.reduceBneDiff, Nat.reduceLT, Nat.reduceLeDiff, Nat.reduceAdd, Nat.reduceMul, Nat.reduceSub, Nat.reduceEqDiff, reduceCtorEq, obm, mkV, List.cons_append, List.nil_append, f1, f2, g1, zk, zp, hwk, hwn, z1', z2', z3', encPs_len] at hr; subst hr; refine callGK (h1) rfl rfl (by first | exact .inl rfl | exact .inr rfl) ?_ (.inl rfl) ?_)
    | (refine go_callGE [(10000, 10000), (15000, 15000), (15001, 15001)] [(10000, 10000), (15000, 15000), (15001, 15001)] [15000, 15001] [10000] ?_; intro r hr; simp only [go_sem, Nat.reduceBEq, Nat.reduceBneDiff, Nat.reduceLT, Nat.reduceLeDiff, Nat.reduceAdd, Nat.reduceMul, Nat.reduceSub, Nat.reduceEqDiff, reduceCtorEq, obm, mkV, List.cons_append, List.nil_append, f1, f2, g1, zk, zp, hwk, hwn, z1', z2', z3', encPs_len] at hr; subst hr; refine callGK (rd) rfl rfl (by first | exact .inl rfl | exact .inr rfl) ?_ (.inl rfl) ?_)
    | (refine go_callGE [(10000, 10000), (15000, 15000), (15001, 15001), (15, 10001), (8005, 15002)] [(10000, 10000), (15000, 15000), (15001, 15001), (10001, 15), (15002, 8005)] [15000, 15001, 8005] [10000, 15] ?_; intro r hr; simp only [go_sem, Nat.reduceBEq, Nat.reduceBneDiff, Nat.reduceLT, Nat.reduceLeDiff, Nat.reduceAdd, Nat.reduceMul, Nat.reduceSub, Nat.reduceEqDiff, reduceCtorEq, obm, mkV, List.cons_append, List.nil_append, f1, f2, g1, zk, zp, hwk, hwn, z1', z2', z3', encPs_len] at hr; subst hr; refine callGK (tv) rfl rfl (by first | exact .inl rfl | exact .inr rfl) ?_ (.inl rfl) ?_) | fail)) <;> (try omega)
      all_goals exact ⟨(k + 1, K2, E3, w2), by simp only [obm, mkV, z1', z2', z3', List.cons_append, List.nil_append, go_sem, Nat.reduceBEq, Nat.reduceBneDiff, Nat.reduceLT, Nat.reduceLeDiff, Nat.reduceAdd, Nat.reduceMul, Nat.reduceSub, Nat.reduceEqDiff, reduceCtorEq] <;> exact rfl, ⟨hlt, hKl2, hKa2, hE3n, by simp only; omega, by simp only; omega, hw2m, by simp only; omega⟩, by simp only; omega⟩
    · have f2 : ((k : Int) < T.parts.length - 1) = False := eq_false (by omega)
      rw [if_neg hkn, hE2'] at hnext
      have hw2m : ∀ z ∈ w, 0 ≤ z ∧ z < E2.length := fun z hz => by have := hw z hz; omega
      clear hE2' hE1' hE
      simp only [obm, mkV, z1', z2', List.cons_append, List.nil_append] at h1 rd
      (repeat' (first
    | exact trivial
    | (with_reducible first | refine awA ?_ | refine awB ?_ | refine awC ?_ | refine awD ?_ | refine awE ?_ | refine awF ?_ | refine awG ?_ | refine awH ?_ | refine awI ?_ | refine awJ ?_ | refine awK ?_ | refine awL ?_ | refine awM (by decide) ?_)
    | (refine aw_draw (id := 8) (t := (.node [0, 1, 2, 3, 4, 5, 6, 7, 8, 9, 10] [])) (drR [3] [32] [33]) mixed (by kernel_rfl) (by kernel_rfl) (fun _ _ h => h) ?_)
    | (refine at_done (by simp only [List.filterMap_cons, List.filterMap_nil, List.getElem?_toArray, List.getElem?_cons_zero, List.getElem?_cons_succ]; exact rfl) ?_) | (refine at_alt (by simp only [List.filterMap_cons, List.filterMap_nil, List.getElem?_toArray, List.getElem?_cons_zero, List.getElem?_cons_succ]; exact rfl) ?_) | refine qalt_normal ?_ | refine ats_cons ?_ ?_ | exact ats_nil
    | ((with_reducible first | refine awN (tyOf_ok _) [] ?_ | refine awO (tyOf_ok _) [] ?_ | refine awP (tyOf_ok _) [] ?_ | refine awQ ?_ | refine awR ?_ | refine awS ?_ | refine awT ?_ | refine awU ?_); intro r hr; simp only [go_sem, Nat.reduceBEq, Nat.reduceBneDiff, Nat.reduceLT, Nat.reduceLeDiff, Nat.reduceAdd, Nat.reduceMul, Nat.reduceSub, Nat.reduceEqDiff, reduceCtorEq, obm, mkV, List.cons_append, List.nil_append, f1, f2, g1, zk, zp, hwk, hwn, z1', z2', encPs_len] at hr; subst hr; (first | refine awV ?_ ?_ | refine awW ?_ ?_ | refine endK ?_ ?_ | refine endGK ?_ ?_ ?_ | (refine condK (fun h => ?_) (fun h => ?_) <;> (try simp only [go_sem, reduceCtorEq] at h) <;> (try (exfalso; omega)))))
    | (refine go_callGE [(10000, 10000), (15000, 15000), (15001, 15001), (14, 10001)] [(10000, 10000), (15000, 15000), (15001, 15001), (10001, 14)] [15000, 15001] [10000, 14] ?_; intro r hr; simp only [go_sem, Nat.reduceBEq, Nat.reduceBneDiff, Nat.reduceLT, Nat.reduceLeDiff, Nat.reduceAdd, Nat.reduceMul, Nat.reduceSub, Nat.reduceEqDiff, reduceCtorEq, obm, mkV, List.cons_append, List.nil_append, f1, f2, g1, zk, zp, hwk, hwn, z1', z2', encPs_len] at hr; subst hr; refine callGK (h1) rfl rfl (by first | exact .inl rfl | exact .inr rfl) ?_ (.inl rfl) ?_)
    | (refine go_callGE [(10000, 10000), (15000, 15000), (15001, 15001)] [(10000, 10000), (15000, 15000), (15001, 15001)] [15000, 15001] [10000] ?_; intro r hr; simp only [go_sem, Nat.reduceBEq, Nat.reduceBneDiff, Nat.reduceLT, Nat.reduceLeDiff, Nat.reduceAdd, Nat.reduceMul, Nat.reduceSub, Nat.reduceEqDiff, reduceCtorEq, obm, mkV, List.cons_append, List.nil_append, f1, f2, g1, zk, zp, hwk, hwn, z1', z2', encPs_len] at hr; subst hr; refine callGK (rd) rfl rfl (by first | exact .inl rfl | exact .inr rfl) ?_ (.inl rfl) ?_) | fail)) <;> (try omega)
      all_goals exact ⟨(k + 1, K2, E2, w), by simp only [obm, mkV, z1', z2', List.cons_append, List.nil_append, go_sem, Nat.reduceBEq, Nat.reduceBneDiff, Nat.reduceLT, Nat.reduceLeDiff, Nat.reduceAdd, Nat.reduceMul, Nat.reduceSub, Nat.reduceEqDiff, reduceCtorEq] <;> exact rfl, ⟨hlt, hKl2, hKa2, hnext, by simp only; omega, by simp only; omega, hw2m, by simp only; omega⟩, by simp only; omega⟩
  have f1 : ((k : Int) < T.parts.length) = False := eq_false (by omega)
  have hke : T.parts.take k = T.parts := take_len (by omega)
  rw [hke] at hE
  have hv := here_var (ts := ts) (rs := rs) (X := X) (Y := Y) (N := N) E (by omega) w hw (by omega)
  rw [← hR _ _ hE] at hv
  have hRl : R.length = E.length := by rw [hR _ _ hE, patch_len]
  have htw : (v8 w).take w.length = v8 w := take_len (by rw [v8_len]; exact Nat.le_refl _)
  clear hR hE hKa
  simp only [obm, mkV, hRl, List.cons_append, List.nil_append] at hv
  (repeat' (first
    | exact trivial
    | (refine aw_frz 8005 rfl (by decide) ?_)
    | (with_reducible first | refine awA ?_ | refine awB ?_ | refine awC ?_ | refine awD ?_ | refine awE ?_ | refine awF ?_ | refine awG ?_ | refine awH ?_ | refine awI ?_ | refine awJ ?_ | refine awK ?_ | refine awL ?_ | refine awM (by decide) ?_)
    | (refine aw_draw (id := 8) (t := (.node [0, 1, 2, 3, 4, 5, 6, 7, 8, 9, 10] [])) (drR [3] [32] [33]) mixed (by kernel_rfl) (by kernel_rfl) (fun _ _ h => h) ?_)
    | (refine at_done (by simp only [List.filterMap_cons, List.filterMap_nil, List.getElem?_toArray, List.getElem?_cons_zero, List.getElem?_cons_succ]; exact rfl) ?_) | (refine at_alt (by simp only [List.filterMap_cons, List.filterMap_nil, List.getElem?_toArray, List.getElem?_cons_zero, List.getElem?_cons_succ]; exact rfl) ?_) | refine qalt_normal ?_ | refine ats_cons ?_ ?_ | exact ats_nil
    | ((with_reducible first | refine awN (tyOf_ok _) [] ?_ | refine awO (tyOf_ok _) [] ?_ | refine awP (tyOf_ok _) [] ?_ | refine awQ ?_ | refine awR ?_ | refine awS ?_ | refine awT ?_ | refine awU ?_); intro r hr; simp only [go_sem, Nat.reduceBEq, Nat.reduceBneDiff, Nat.reduceLT, Nat.reduceLeDiff, Nat.reduceAdd, Nat.reduceMul, Nat.reduceSub, Nat.reduceEqDiff, reduceCtorEq, obm, mkV, List.cons_append, List.nil_append, f1, htw, hRl, List.drop_zero, Nat.zero_add, v8_len, Int.toNat_zero, Nat.le_refl, if_true] at hr; subst hr; (first | refine awV ?_ ?_ | refine awW ?_ ?_ | refine endK ?_ ?_ | refine endGK ?_ ?_ ?_ | (refine condK (fun h => ?_) (fun h => ?_) <;> (try simp only [go_sem, reduceCtorEq] at h) <;> (try (exfalso; omega)))))
    | (refine go_callGE [(10000, 10000), (15000, 15000), (15001, 15001), (15, 10001)] [(10000, 10000), (15000, 15000), (15001, 15001), (10001, 15)] [15000, 15001] [10000, 15] ?_; intro r hr; simp only [go_sem, Nat.reduceBEq, Nat.reduceBneDiff, Nat.reduceLT, Nat.reduceLeDiff, Nat.reduceAdd, Nat.reduceMul, Nat.reduceSub, Nat.reduceEqDiff, reduceCtorEq, obm, mkV, List.cons_append, List.nil_append, f1, htw, hRl, List.drop_zero, Nat.zero_add, v8_len, Int.toNat_zero, Nat.le_refl, if_true] at hr; subst hr; refine callGK (hv) rfl rfl (by first | exact .inl rfl | exact .inr rfl) ?_ (.inl rfl) ?_) | fail)) <;> (try omega)
  all_goals first | exact AV.up_rfl _ | (unfold obm mkV; rw [hRl]; (first | exact AV.up_rfl _ | (repeat first | exact obUp_nil | refine obUp_cons rfl ?_)))
end
end Go.Proofs.Ytljfgohecmhchaa
end
section
namespace Go.Proofs.Ytljfgohecmhchaa
open Go.RowKit
set_option maxRecDepth 100000
set_option maxHeartbeats 16000000
/-! Routines of package lower. -/
theorem right_nL {T : TypeM} {k : Int} (h : rightOK T k = true) : 0 ≤ T.n ∧ T.n ≤ 1048576 := by
  rw [rightOK, Bool.and_eq_true] at h
  have h := h.1
  unfold numberOK at h
  split at h
  · simp only [Bool.or_eq_true, decide_eq_true_eq] at h; omega
  · split at h
    · simp only [Bool.and_eq_true, decide_eq_true_eq] at h; omega
    · simp only [decide_eq_true_eq] at h; omega
/-- an option's -/
def optC (ts : List TypeM) (e : Nat) (C : List InsM) : List InsM := patch (C ++ [⟨7, 0, -1, 0⟩, readF ((ts[e]?).getD ⟨0, 0, 0, []⟩) 0 e]) [(C.length : Int)] ((C.length + 2 : Nat) : Int)
/-- a type's, but for the ret -/
def bodC (ts : List TypeM) (X : List ExtM) (sz : Int) (T : TypeM) (i : Nat) (C : List InsM) : List InsM :=
  if T.kind = 4 then vecC ts X T.n.toNat T.elem.toNat C else if T.kind = 5 then lisC ts X T.n.toNat T.elem.toNat C else if T.kind = 6 then optC ts T.elem.toNat C
  else if T.kind = 7 then uniC ts T.parts C else if T.kind = 8 then fieC ts X sz T.parts C else C ++ [readF T (-1) i]
theorem uniR_len (ts : List TypeM) (c n : Nat) : ∀ (l : List PartM) (k : Nat) (s : List InsM × List Int), s.1.length ≤ (uniR ts c n l k s).1.length ∧ (uniR ts c n l k s).1.length ≤ s.1.length + 2 * l.length
  | [], _, _ => ⟨Nat.le_refl _, Nat.le_refl _⟩
  | p :: l, k, s => by
    have h := uniR_len ts c n l (k + 1) (uniS ts c n k p s)
    have h2 : s.1.length ≤ (uniS ts c n k p s).1.length ∧ (uniS ts c n k p s).1.length ≤ s.1.length + 2 := by
      unfold uniS; split <;> simp [patch_len]
    rw [uniR, List.length_cons]
    omega
theorem bodC_len (ts : List TypeM) (X : List ExtM) (sz : Int) (T : TypeM) (i : Nat) (C : List InsM) : C.length ≤ (bodC ts X sz T i C).length ∧ (bodC ts X sz T i C).length ≤ C.length + 3 * T.parts.length + 12 := by
  unfold bodC
  split
  · unfold vecC; split
    · simp; omega
    · rw [rnd_len]; simp; omega
  · split
    · unfold lisC; split
      · rw [patch_len]; simp; omega
      · rw [patch_len, rnd_len, patch_len]; simp; omega
    · split
      · unfold optC; rw [patch_len]; simp; omega
      · split
        · unfold uniC; rw [patch_len]
          have h := uniR_len ts (C.length + 1) T.parts.length T.parts 0 ((C ++ [⟨8, T.parts.length, 0, 0⟩]) ++ T.parts.map fun p => ⟨9, p.tag, -1, 0⟩, [])
          simp only [List.length_append, List.length_map, List.length_cons, List.length_nil] at h
          omega
        · split
          · unfold fieC
            have := nvar_le X T.parts
            rw [List.length_append, List.length_append, flds_len, tls_len]; simp; omega
          · simp; omega
section
variable {ts : List TypeM} {rs : List RootM} {X : List ExtM} {Y : List LayM} {N : List Int}
theorem encLs_get {l : List LayM} {k : Nat} (h : k < l.length) : (encLs l)[k]? = some [vI l[k].size, .lst 3 (encSs l[k].slots)] := by simp [encLs, encL, h]
theorem routine_G (C : List InsM) (hC : C.length ≤ 2000000) (i : Nat) (hi : i < ts.length) (hr : rightOK ts[i] i = true) (hX : X.length = ts.length) (hY : i < Y.length) :
    GCall Try.prog 18 [.ptr 1 10000 0 0, vI i] (obm ts rs X Y N C) (.tup []) (obm ts rs X Y N (bodC ts X Y[i].size ts[i] i C ++ [⟨20, 0, 0, 0⟩])) := by
  refine go_fnG (tyOf_ok _) Try.func18 rfl rfl (by rw [Try.results18]) Try.ntmps18 rfl fun E => ?_
  have g1 := encTs_get hi
  have gY := encLs_get hY
  have zi : ((i : Int)).toNat = i := by omega
  have hty := rightOK_ty hr
  have hbl := bodC_len ts X Y[i].size ts[i] i C
  have hin : ∀ j (h : j < ts[i].parts.length), ∃ pn : Nat, ts[i].parts[j].ty = pn ∧ pn < ts.length ∧ pn < X.length := fun j h => by
    have := hty.2 _ (List.getElem_mem h)
    exact ⟨ts[i].parts[j].ty.toNat, by omega, by omega, by omega⟩
  have hpl : ts[i].parts.length ≤ 64 := by
    rcases rightOK_kind hr with h | h | h
    · rw [rightOK, Bool.and_eq_true, if_pos h] at hr
      simp only [Bool.and_eq_true, decide_eq_true_eq] at hr
      omega
    · rw [rightOK, Bool.and_eq_true, if_neg (by omega), if_pos h] at hr
      simp only [Bool.and_eq_true, decide_eq_true_eq] at hr
      omega
    · exact (right_parts hr h).1
  have hnn := right_nL hr
  have rd0 := read_G (ts := ts) (rs := rs) (X := X) (Y := Y) (N := N) C (by omega) (-1) i hi
  generalize Y[i] = L at *
  generalize hT : ts[i] = T at *
  obtain ⟨B, hB⟩ : ∃ B, bodC ts X L.size T i C = B := ⟨_, rfl⟩
  rw [hB] at hbl ⊢
  have lr := lay_G (ts := ts) (rs := rs) (X := X) (Y := Y) (N := N) B (by omega) 20 0 0 0
  obtain ⟨D, hD⟩ : ∃ D, (B ++ [⟨20, 0, 0, 0⟩] : List InsM) = D := ⟨_, rfl⟩
  rw [hD] at lr ⊢
  clear hD
  simp only [obm, mkV] at lr
  unfold bodC at hB
  by_cases h4 : T.kind = 4
  · have e4 : (T.kind = 4) = True := eq_true h4
    rw [if_pos h4] at hB
    have hel := hty.1 (.inl h4)
    have c := vector_G (ts := ts) (rs := rs) (X := X) (Y := Y) (N := N) C (by omega) T T.n.toNat T.elem.toNat (by omega) (by omega) (by omega) (by omega) (by omega)
    rw [hB] at c
    simp only [obm, mkV, vT, h4] at c
    (repeat' (first
    | exact trivial
    | (with_reducible first | refine awA ?_ | refine awB ?_ | refine awC ?_ | refine awD ?_ | refine awE ?_ | refine awF ?_ | refine awG ?_ | refine awH ?_ | refine awI ?_ | refine awJ ?_ | refine awK ?_ | refine awL ?_ | refine awM (by decide) ?_)
    | (refine aw_draw (id := 18) (t := (.node [0, 1, 2, 3, 4, 5, 6, 7, 8, 9] [])) (drR [4] [62, 65] [66]) mixed (by kernel_rfl) (by kernel_rfl) (fun _ _ h => h) ?_)
    | (refine at_done (by simp only [List.filterMap_cons, List.filterMap_nil, List.getElem?_toArray, List.getElem?_cons_zero, List.getElem?_cons_succ]; exact rfl) ?_) | (refine at_alt (by simp only [List.filterMap_cons, List.filterMap_nil, List.getElem?_toArray, List.getElem?_cons_zero, List.getElem?_cons_succ]; exact rfl) ?_) | refine qalt_normal ?_ | refine ats_cons ?_ ?_ | exact ats_nil
    | ((with_reducible first | refine awN (tyOf_ok _) [] ?_ | refine awO (tyOf_ok _) [] ?_ | refine awP (tyOf_ok _) [] ?_ | refine awQ ?_ | refine awR ?_ | refine awS ?_ | refine awT ?_ | refine awU ?_); intro r hr; simp only [go_sem, Nat.reduceBEq, Nat.reduceBneDiff, Nat.reduceLT, Nat.reduceLeDiff, Nat.reduceAdd, Nat.reduceMul, Nat.reduceSub, Nat.reduceEqDiff, reduceCtorEq, obm, mkV, vT, g1, zi, e4, h4, encTs_len] at hr; subst hr; (first | refine awV ?_ ?_ | refine awW ?_ ?_ | refine endK ?_ ?_ | refine endGK ?_ ?_ ?_ | (refine condK (fun h => ?_) (fun h => ?_) <;> (try simp only [go_sem, reduceCtorEq] at h) <;> (try (exfalso; omega)))))
    | (refine go_callGE [(10000, 10000), (15000, 15000), (15001, 15001)] [(10000, 10000), (15000, 15000), (15001, 15001)] [15000, 15001] [10000] ?_; intro r hr; simp only [go_sem, Nat.reduceBEq, Nat.reduceBneDiff, Nat.reduceLT, Nat.reduceLeDiff, Nat.reduceAdd, Nat.reduceMul, Nat.reduceSub, Nat.reduceEqDiff, reduceCtorEq, obm, mkV, vT, g1, zi, e4, h4, encTs_len] at hr; subst hr; refine callGK (c) rfl rfl (by first | exact .inl rfl | exact .inr rfl) ?_ (.inl rfl) ?_)
    | (refine go_callGE [(10000, 10000), (15000, 15000), (15001, 15001)] [(10000, 10000), (15000, 15000), (15001, 15001)] [15000, 15001] [10000] ?_; intro r hr; simp only [go_sem, Nat.reduceBEq, Nat.reduceBneDiff, Nat.reduceLT, Nat.reduceLeDiff, Nat.reduceAdd, Nat.reduceMul, Nat.reduceSub, Nat.reduceEqDiff, reduceCtorEq, obm, mkV, vT, g1, zi, e4, h4, encTs_len] at hr; subst hr; refine callGK (lr) rfl rfl (by first | exact .inl rfl | exact .inr rfl) ?_ (.inl rfl) ?_) | fail)) <;> (try omega)
    all_goals (first | exact AV.up_rfl _ | (repeat first | exact obUp_nil | refine obUp_cons rfl ?_))
  rw [if_neg h4] at hB
  have e4 : (T.kind = 4) = False := eq_false h4
  by_cases h5 : T.kind = 5
  · have e5 : (T.kind = 5) = True := eq_true h5
    rw [if_pos h5] at hB
    have hel := hty.1 (.inr (.inl h5))
    have c := list_G (ts := ts) (rs := rs) (X := X) (Y := Y) (N := N) C (by omega) T T.n.toNat T.elem.toNat (by omega) (by omega) (by omega) (by omega)
    rw [hB] at c
    simp only [obm, mkV, vT, h5] at c
    (repeat' (first
    | exact trivial
    | (with_reducible first | refine awA ?_ | refine awB ?_ | refine awC ?_ | refine awD ?_ | refine awE ?_ | refine awF ?_ | refine awG ?_ | refine awH ?_ | refine awI ?_ | refine awJ ?_ | refine awK ?_ | refine awL ?_ | refine awM (by decide) ?_)
    | (refine aw_draw (id := 18) (t := (.node [0, 1, 2, 3, 4, 5, 6, 7, 8, 9] [])) (drR [4] [62, 65] [66]) mixed (by kernel_rfl) (by kernel_rfl) (fun _ _ h => h) ?_)
    | (refine at_done (by simp only [List.filterMap_cons, List.filterMap_nil, List.getElem?_toArray, List.getElem?_cons_zero, List.getElem?_cons_succ]; exact rfl) ?_) | (refine at_alt (by simp only [List.filterMap_cons, List.filterMap_nil, List.getElem?_toArray, List.getElem?_cons_zero, List.getElem?_cons_succ]; exact rfl) ?_) | refine qalt_normal ?_ | refine ats_cons ?_ ?_ | exact ats_nil
    | ((with_reducible first | refine awN (tyOf_ok _) [] ?_ | refine awO (tyOf_ok _) [] ?_ | refine awP (tyOf_ok _) [] ?_ | refine awQ ?_ | refine awR ?_ | refine awS ?_ | refine awT ?_ | refine awU ?_); intro r hr; simp only [go_sem, Nat.reduceBEq, Nat.reduceBneDiff, Nat.reduceLT, Nat.reduceLeDiff, Nat.reduceAdd, Nat.reduceMul, Nat.reduceSub, Nat.reduceEqDiff, reduceCtorEq, obm, mkV, vT, g1, zi, e4, e5, h5, encTs_len] at hr; subst hr; (first | refine awV ?_ ?_ | refine awW ?_ ?_ | refine endK ?_ ?_ | refine endGK ?_ ?_ ?_ | (refine condK (fun h => ?_) (fun h => ?_) <;> (try simp only [go_sem, reduceCtorEq] at h) <;> (try (exfalso; omega)))))
    | (refine go_callGE [(10000, 10000), (15000, 15000), (15001, 15001)] [(10000, 10000), (15000, 15000), (15001, 15001)] [15000, 15001] [10000] ?_; intro r hr; simp only [go_sem, Nat.reduceBEq, Nat.reduceBneDiff, Nat.reduceLT, Nat.reduceLeDiff, Nat.reduceAdd, Nat.reduceMul, Nat.reduceSub, Nat.reduceEqDiff, reduceCtorEq, obm, mkV, vT, g1, zi, e4, e5, h5, encTs_len] at hr; subst hr; refine callGK (c) rfl rfl (by first | exact .inl rfl | exact .inr rfl) ?_ (.inl rfl) ?_)
    | (refine go_callGE [(10000, 10000), (15000, 15000), (15001, 15001)] [(10000, 10000), (15000, 15000), (15001, 15001)] [15000, 15001] [10000] ?_; intro r hr; simp only [go_sem, Nat.reduceBEq, Nat.reduceBneDiff, Nat.reduceLT, Nat.reduceLeDiff, Nat.reduceAdd, Nat.reduceMul, Nat.reduceSub, Nat.reduceEqDiff, reduceCtorEq, obm, mkV, vT, g1, zi, e4, e5, h5, encTs_len] at hr; subst hr; refine callGK (lr) rfl rfl (by first | exact .inl rfl | exact .inr rfl) ?_ (.inl rfl) ?_) | fail)) <;> (try omega)
    all_goals (first | exact AV.up_rfl _ | (repeat first | exact obUp_nil | refine obUp_cons rfl ?_))
  rw [if_neg h5] at hB
  have e5 : (T.kind = 5) = False := eq_false h5
  by_cases h6 : T.kind = 6
  · have e6 : (T.kind = 6) = True := eq_true h6
    rw [if_pos h6] at hB
    have hel := hty.1 (.inr (.inr h6))
    obtain ⟨e, he⟩ : ∃ e : Nat, T.elem = e := ⟨T.elem.toNat, by omega⟩
    rw [he, Int.toNat_natCast] at hB
    have het : e < ts.length := by omega
    have hm := marks_G 1 (by decide)
    have tw := to_wait (ts := ts) (rs := rs) (X := X) (Y := Y) (N := N) C (by omega) [mkn] 0 (-1) rfl (by decide) 7 0
    obtain ⟨C1, hC1⟩ : ∃ D, (C ++ [⟨7, 0, -1, 0⟩] : List InsM) = D := ⟨_, rfl⟩
    have z1 : C1.length = C.length + 1 := by rw [← hC1]; simp
    rw [hC1] at tw
    have rd := read_G (ts := ts) (rs := rs) (X := X) (Y := Y) (N := N) C1 (by omega) 0 e het
    obtain ⟨C2, hC2⟩ : ∃ D, (C1 ++ [readF ts[e] 0 e] : List InsM) = D := ⟨_, rfl⟩
    have z2 : C2.length = C.length + 2 := by rw [← hC2]; simp [z1]
    rw [hC2] at rd
    have h1 := here_ws (ts := ts) (rs := rs) (X := X) (Y := Y) (N := N) C2 (by omega) [[vI (-1), .lsx 1 [[vI (C.length : Int)]] []]] 0 (-1) [(C.length : Int)] rfl (fun w hw => by rw [List.mem_singleton] at hw; omega) (by simp)
    have hR : patch C2 [(C.length : Int)] C2.length = B := by rw [← hB, optC, z2, ← hC2, ← hC1, List.getElem?_eq_getElem het]; simp
    rw [hR] at h1
    clear hR hC1 hC2 hB rd0
    simp only [obm, mkV, mkn, List.set_cons_zero, List.cons_append, List.nil_append] at tw rd h1 hm
    (repeat' (first
    | exact trivial
    | (with_reducible first | refine awA ?_ | refine awB ?_ | refine awC ?_ | refine awD ?_ | refine awE ?_ | refine awF ?_ | refine awG ?_ | refine awH ?_ | refine awI ?_ | refine awJ ?_ | refine awK ?_ | refine awL ?_ | refine awM (by decide) ?_)
    | (refine aw_draw (id := 18) (t := (.node [0, 1, 2, 3, 4, 5, 6, 7, 8, 9] [])) (drR [4] [62, 65] [66]) mixed (by kernel_rfl) (by kernel_rfl) (fun _ _ h => h) ?_)
    | (refine at_done (by simp only [List.filterMap_cons, List.filterMap_nil, List.getElem?_toArray, List.getElem?_cons_zero, List.getElem?_cons_succ]; exact rfl) ?_) | (refine at_alt (by simp only [List.filterMap_cons, List.filterMap_nil, List.getElem?_toArray, List.getElem?_cons_zero, List.getElem?_cons_succ]; exact rfl) ?_) | refine qalt_normal ?_ | refine ats_cons ?_ ?_ | exact ats_nil
    | ((with_reducible first | refine awN (tyOf_ok _) [] ?_ | refine awO (tyOf_ok _) [] ?_ | refine awP (tyOf_ok _) [] ?_ | refine awQ ?_ | refine awR ?_ | refine awS ?_ | refine awT ?_ | refine awU ?_); intro r hr; simp only [go_sem, Nat.reduceBEq, Nat.reduceBneDiff, Nat.reduceLT, Nat.reduceLeDiff, Nat.reduceAdd, Nat.reduceMul, Nat.reduceSub, Nat.reduceEqDiff, reduceCtorEq, obm, mkV, mkn, vT, g1, zi, e4, e5, e6, h6, he, encTs_len, List.set_cons_zero, List.cons_append, List.nil_append, Int.reduceToNat, Int.cast_ofNat_Int, Int.reduceToNat, Int.reduceEq, Int.reduceLT, Int.reduceLE, Int.reduceNe] at hr; subst hr; (first | refine awV ?_ ?_ | refine awW ?_ ?_ | refine endK ?_ ?_ | refine endGK ?_ ?_ ?_ | (refine condK (fun h => ?_) (fun h => ?_) <;> (try simp only [go_sem, reduceCtorEq] at h) <;> (try (exfalso; omega)))))
    | (refine go_callGd 41 rfl [] [(6, 41)] [41] [] (by simp only [go_sem, Nat.reduceBEq, Nat.reduceBneDiff, Nat.reduceLT, Nat.reduceLeDiff, Nat.reduceAdd, Nat.reduceMul, Nat.reduceSub, Nat.reduceEqDiff, reduceCtorEq, obm, mkV, mkn, vT, g1, zi, e4, e5, e6, h6, he, encTs_len, List.set_cons_zero, List.cons_append, List.nil_append, Int.reduceToNat, Int.cast_ofNat_Int, Int.reduceToNat, Int.reduceEq, Int.reduceLT, Int.reduceLE, Int.reduceNe]; exact rfl) ?_ rfl rfl (by first | exact .inl rfl | exact .inr rfl) (by simp only [go_sem, Nat.reduceBEq, Nat.reduceBneDiff, Nat.reduceLT, Nat.reduceLeDiff, Nat.reduceAdd, Nat.reduceMul, Nat.reduceSub, Nat.reduceEqDiff, reduceCtorEq, obm, mkV, mkn, vT, g1, zi, e4, e5, e6, h6, he, encTs_len, List.set_cons_zero, List.cons_append, List.nil_append, Int.reduceToNat, Int.cast_ofNat_Int, Int.reduceToNat, Int.reduceEq, Int.reduceLT, Int.reduceLE, Int.reduceNe] <;> exact rfl) (hm) (.inr ⟨rfl, ?_⟩) ?_)
    | (refine go_callGE [(10000, 10000), (15000, 15000), (15001, 15001), (41, 10001)] [(10000, 10000), (15000, 15000), (15001, 15001), (10001, 41)] [15000, 15001] [10000, 41] ?_; intro r hr; simp only [go_sem, Nat.reduceBEq, Nat.reduceBneDiff, Nat.reduceLT, Nat.reduceLeDiff, Nat.reduceAdd, Nat.reduceMul, Nat.reduceSub, Nat.reduceEqDiff, reduceCtorEq, obm, mkV, mkn, vT, g1, zi, e4, e5, e6, h6, he, encTs_len, List.set_cons_zero, List.cons_append, List.nil_append, Int.reduceToNat, Int.cast_ofNat_Int, Int.reduceToNat, Int.reduceEq, Int.reduceLT, Int.reduceLE, Int.reduceNe] at hr; subst hr; refine callGK (tw) rfl rfl (by first | exact .inl rfl | exact .inr rfl) ?_ (.inl rfl) ?_)
    | (refine go_callGE [(10000, 10000), (15000, 15000), (15001, 15001)] [(10000, 10000), (15000, 15000), (15001, 15001)] [15000, 15001] [10000] ?_; intro r hr; simp only [go_sem, Nat.reduceBEq, Nat.reduceBneDiff, Nat.reduceLT, Nat.reduceLeDiff, Nat.reduceAdd, Nat.reduceMul, Nat.reduceSub, Nat.reduceEqDiff, reduceCtorEq, obm, mkV, mkn, vT, g1, zi, e4, e5, e6, h6, he, encTs_len, List.set_cons_zero, List.cons_append, List.nil_append, Int.reduceToNat, Int.cast_ofNat_Int, Int.reduceToNat, Int.reduceEq, Int.reduceLT, Int.reduceLE, Int.reduceNe] at hr; subst hr; refine callGK (rd) rfl rfl (by first | exact .inl rfl | exact .inr rfl) ?_ (.inl rfl) ?_)
    | (refine go_callGE [(10000, 10000), (15000, 15000), (15001, 15001), (41, 10001)] [(10000, 10000), (15000, 15000), (15001, 15001), (10001, 41)] [15000, 15001] [10000, 41] ?_; intro r hr; simp only [go_sem, Nat.reduceBEq, Nat.reduceBneDiff, Nat.reduceLT, Nat.reduceLeDiff, Nat.reduceAdd, Nat.reduceMul, Nat.reduceSub, Nat.reduceEqDiff, reduceCtorEq, obm, mkV, mkn, vT, g1, zi, e4, e5, e6, h6, he, encTs_len, List.set_cons_zero, List.cons_append, List.nil_append, Int.reduceToNat, Int.cast_ofNat_Int, Int.reduceToNat, Int.reduceEq, Int.reduceLT, Int.reduceLE, Int.reduceNe] at hr; subst hr; refine callGK (h1) rfl rfl (by first | exact .inl rfl | exact .inr rfl) ?_ (.inl rfl) ?_)
    | (refine go_callGE [(10000, 10000), (15000, 15000), (15001, 15001)] [(10000, 10000), (15000, 15000), (15001, 15001)] [15000, 15001] [10000] ?_; intro r hr; simp only [go_sem, Nat.reduceBEq, Nat.reduceBneDiff, Nat.reduceLT, Nat.reduceLeDiff, Nat.reduceAdd, Nat.reduceMul, Nat.reduceSub, Nat.reduceEqDiff, reduceCtorEq, obm, mkV, mkn, vT, g1, zi, e4, e5, e6, h6, he, encTs_len, List.set_cons_zero, List.cons_append, List.nil_append, Int.reduceToNat, Int.cast_ofNat_Int, Int.reduceToNat, Int.reduceEq, Int.reduceLT, Int.reduceLE, Int.reduceNe] at hr; subst hr; refine callGK (lr) rfl rfl (by first | exact .inl rfl | exact .inr rfl) ?_ (.inl rfl) ?_) | fail)) <;> (try omega)
    all_goals first | exact ⟨mkn_nm _, trivial⟩ | (first | exact AV.up_rfl _ | (repeat first | exact obUp_nil | refine obUp_cons rfl ?_))
  rw [if_neg h6] at hB
  have e6 : (T.kind = 6) = False := eq_false h6
  by_cases h7 : T.kind = 7
  · have e7 : (T.kind = 7) = True := eq_true h7
    rw [if_pos h7] at hB
    have c := union_G (ts := ts) (rs := rs) (X := X) (Y := Y) (N := N) C (by omega) T (by omega) hin
    rw [hB] at c
    simp only [obm, mkV, vT, h7] at c
    (repeat' (first
    | exact trivial
    | (with_reducible first | refine awA ?_ | refine awB ?_ | refine awC ?_ | refine awD ?_ | refine awE ?_ | refine awF ?_ | refine awG ?_ | refine awH ?_ | refine awI ?_ | refine awJ ?_ | refine awK ?_ | refine awL ?_ | refine awM (by decide) ?_)
    | (refine aw_draw (id := 18) (t := (.node [0, 1, 2, 3, 4, 5, 6, 7, 8, 9] [])) (drR [4] [62, 65] [66]) mixed (by kernel_rfl) (by kernel_rfl) (fun _ _ h => h) ?_)
    | (refine at_done (by simp only [List.filterMap_cons, List.filterMap_nil, List.getElem?_toArray, List.getElem?_cons_zero, List.getElem?_cons_succ]; exact rfl) ?_) | (refine at_alt (by simp only [List.filterMap_cons, List.filterMap_nil, List.getElem?_toArray, List.getElem?_cons_zero, List.getElem?_cons_succ]; exact rfl) ?_) | refine qalt_normal ?_ | refine ats_cons ?_ ?_ | exact ats_nil
    | ((with_reducible first | refine awN (tyOf_ok _) [] ?_ | refine awO (tyOf_ok _) [] ?_ | refine awP (tyOf_ok _) [] ?_ | refine awQ ?_ | refine awR ?_ | refine awS ?_ | refine awT ?_ | refine awU ?_); intro r hr; simp only [go_sem, Nat.reduceBEq, Nat.reduceBneDiff, Nat.reduceLT, Nat.reduceLeDiff, Nat.reduceAdd, Nat.reduceMul, Nat.reduceSub, Nat.reduceEqDiff, reduceCtorEq, obm, mkV, vT, g1, zi, e4, e5, e6, e7, h7, encTs_len] at hr; subst hr; (first | refine awV ?_ ?_ | refine awW ?_ ?_ | refine endK ?_ ?_ | refine endGK ?_ ?_ ?_ | (refine condK (fun h => ?_) (fun h => ?_) <;> (try simp only [go_sem, reduceCtorEq] at h) <;> (try (exfalso; omega)))))
    | (refine go_callGE [(10000, 10000), (15000, 15000), (15001, 15001)] [(10000, 10000), (15000, 15000), (15001, 15001)] [15000, 15001] [10000] ?_; intro r hr; simp only [go_sem, Nat.reduceBEq, Nat.reduceBneDiff, Nat.reduceLT, Nat.reduceLeDiff, Nat.reduceAdd, Nat.reduceMul, Nat.reduceSub, Nat.reduceEqDiff, reduceCtorEq, obm, mkV, vT, g1, zi, e4, e5, e6, e7, h7, encTs_len] at hr; subst hr; refine callGK (c) rfl rfl (by first | exact .inl rfl | exact .inr rfl) ?_ (.inl rfl) ?_)
    | (refine go_callGE [(10000, 10000), (15000, 15000), (15001, 15001)] [(10000, 10000), (15000, 15000), (15001, 15001)] [15000, 15001] [10000] ?_; intro r hr; simp only [go_sem, Nat.reduceBEq, Nat.reduceBneDiff, Nat.reduceLT, Nat.reduceLeDiff, Nat.reduceAdd, Nat.reduceMul, Nat.reduceSub, Nat.reduceEqDiff, reduceCtorEq, obm, mkV, vT, g1, zi, e4, e5, e6, e7, h7, encTs_len] at hr; subst hr; refine callGK (lr) rfl rfl (by first | exact .inl rfl | exact .inr rfl) ?_ (.inl rfl) ?_) | fail)) <;> (try omega)
    all_goals (first | exact AV.up_rfl _ | (repeat first | exact obUp_nil | refine obUp_cons rfl ?_))
  rw [if_neg h7] at hB
  have e7 : (T.kind = 7) = False := eq_false h7
  by_cases h8 : T.kind = 8
  · have e8 : (T.kind = 8) = True := eq_true h8
    rw [if_pos h8] at hB
    have c := fields_G (ts := ts) (rs := rs) (X := X) (Y := Y) (N := N) C (by omega) T L (by omega) hin
    rw [hB] at c
    simp only [obm, mkV, vT, vLay, h8] at c
    (repeat' (first
    | exact trivial
    | (with_reducible first | refine awA ?_ | refine awB ?_ | refine awC ?_ | refine awD ?_ | refine awE ?_ | refine awF ?_ | refine awG ?_ | refine awH ?_ | refine awI ?_ | refine awJ ?_ | refine awK ?_ | refine awL ?_ | refine awM (by decide) ?_)
    | (refine aw_draw (id := 18) (t := (.node [0, 1, 2, 3, 4, 5, 6, 7, 8, 9] [])) (drR [4] [62, 65] [66]) mixed (by kernel_rfl) (by kernel_rfl) (fun _ _ h => h) ?_)
    | (refine at_done (by simp only [List.filterMap_cons, List.filterMap_nil, List.getElem?_toArray, List.getElem?_cons_zero, List.getElem?_cons_succ]; exact rfl) ?_) | (refine at_alt (by simp only [List.filterMap_cons, List.filterMap_nil, List.getElem?_toArray, List.getElem?_cons_zero, List.getElem?_cons_succ]; exact rfl) ?_) | refine qalt_normal ?_ | refine ats_cons ?_ ?_ | exact ats_nil
    | ((with_reducible first | refine awN (tyOf_ok _) [] ?_ | refine awO (tyOf_ok _) [] ?_ | refine awP (tyOf_ok _) [] ?_ | refine awQ ?_ | refine awR ?_ | refine awS ?_ | refine awT ?_ | refine awU ?_); intro r hr; simp only [go_sem, Nat.reduceBEq, Nat.reduceBneDiff, Nat.reduceLT, Nat.reduceLeDiff, Nat.reduceAdd, Nat.reduceMul, Nat.reduceSub, Nat.reduceEqDiff, reduceCtorEq, obm, mkV, vT, vLay, g1, gY, zi, e4, e5, e6, e7, e8, h8, encTs_len, encLs_len] at hr; subst hr; (first | refine awV ?_ ?_ | refine awW ?_ ?_ | refine endK ?_ ?_ | refine endGK ?_ ?_ ?_ | (refine condK (fun h => ?_) (fun h => ?_) <;> (try simp only [go_sem, reduceCtorEq] at h) <;> (try (exfalso; omega)))))
    | (refine go_callGE [(10000, 10000), (15000, 15000), (15001, 15001)] [(10000, 10000), (15000, 15000), (15001, 15001)] [15000, 15001] [10000] ?_; intro r hr; simp only [go_sem, Nat.reduceBEq, Nat.reduceBneDiff, Nat.reduceLT, Nat.reduceLeDiff, Nat.reduceAdd, Nat.reduceMul, Nat.reduceSub, Nat.reduceEqDiff, reduceCtorEq, obm, mkV, vT, vLay, g1, gY, zi, e4, e5, e6, e7, e8, h8, encTs_len, encLs_len] at hr; subst hr; refine callGK (c) rfl rfl (by first | exact .inl rfl | exact .inr rfl) ?_ (.inl rfl) ?_)
    | (refine go_callGE [(10000, 10000), (15000, 15000), (15001, 15001)] [(10000, 10000), (15000, 15000), (15001, 15001)] [15000, 15001] [10000] ?_; intro r hr; simp only [go_sem, Nat.reduceBEq, Nat.reduceBneDiff, Nat.reduceLT, Nat.reduceLeDiff, Nat.reduceAdd, Nat.reduceMul, Nat.reduceSub, Nat.reduceEqDiff, reduceCtorEq, obm, mkV, vT, vLay, g1, gY, zi, e4, e5, e6, e7, e8, h8, encTs_len, encLs_len] at hr; subst hr; refine callGK (lr) rfl rfl (by first | exact .inl rfl | exact .inr rfl) ?_ (.inl rfl) ?_) | fail)) <;> (try omega)
    all_goals (first | exact AV.up_rfl _ | (repeat first | exact obUp_nil | refine obUp_cons rfl ?_))
  rw [if_neg h8] at hB
  have e8 : (T.kind = 8) = False := eq_false h8
  rw [hB] at rd0
  simp only [obm, mkV] at rd0
  have hk : T.kind = 1 ∨ T.kind = 2 ∨ T.kind = 3 := by rcases rightOK_kind hr with h | h | h <;> omega
  rcases hk with hk | hk | hk
  · (repeat' (first
    | exact trivial
    | (with_reducible first | refine awA ?_ | refine awB ?_ | refine awC ?_ | refine awD ?_ | refine awE ?_ | refine awF ?_ | refine awG ?_ | refine awH ?_ | refine awI ?_ | refine awJ ?_ | refine awK ?_ | refine awL ?_ | refine awM (by decide) ?_)
    | (refine aw_draw (id := 18) (t := (.node [0, 1, 2, 3, 4, 5, 6, 7, 8, 9] [])) (drR [4] [62, 65] [66]) mixed (by kernel_rfl) (by kernel_rfl) (fun _ _ h => h) ?_)
    | (refine at_done (by simp only [List.filterMap_cons, List.filterMap_nil, List.getElem?_toArray, List.getElem?_cons_zero, List.getElem?_cons_succ]; exact rfl) ?_) | (refine at_alt (by simp only [List.filterMap_cons, List.filterMap_nil, List.getElem?_toArray, List.getElem?_cons_zero, List.getElem?_cons_succ]; exact rfl) ?_) | refine qalt_normal ?_ | refine ats_cons ?_ ?_ | exact ats_nil
    | ((with_reducible first | refine awN (tyOf_ok _) [] ?_ | refine awO (tyOf_ok _) [] ?_ | refine awP (tyOf_ok _) [] ?_ | refine awQ ?_ | refine awR ?_ | refine awS ?_ | refine awT ?_ | refine awU ?_); intro r hr; simp only [go_sem, Nat.reduceBEq, Nat.reduceBneDiff, Nat.reduceLT, Nat.reduceLeDiff, Nat.reduceAdd, Nat.reduceMul, Nat.reduceSub, Nat.reduceEqDiff, reduceCtorEq, obm, mkV, vT, g1, zi, hk, encTs_len] at hr; subst hr; (first | refine awV ?_ ?_ | refine awW ?_ ?_ | refine endK ?_ ?_ | refine endGK ?_ ?_ ?_ | (refine condK (fun h => ?_) (fun h => ?_) <;> (try simp only [go_sem, reduceCtorEq] at h) <;> (try (exfalso; omega)))))
    | (refine go_callGE [(10000, 10000), (15000, 15000), (15001, 15001)] [(10000, 10000), (15000, 15000), (15001, 15001)] [15000, 15001] [10000] ?_; intro r hr; simp only [go_sem, Nat.reduceBEq, Nat.reduceBneDiff, Nat.reduceLT, Nat.reduceLeDiff, Nat.reduceAdd, Nat.reduceMul, Nat.reduceSub, Nat.reduceEqDiff, reduceCtorEq, obm, mkV, vT, g1, zi, hk, encTs_len] at hr; subst hr; refine callGK (rd0) rfl rfl (by first | exact .inl rfl | exact .inr rfl) ?_ (.inl rfl) ?_)
    | (refine go_callGE [(10000, 10000), (15000, 15000), (15001, 15001)] [(10000, 10000), (15000, 15000), (15001, 15001)] [15000, 15001] [10000] ?_; intro r hr; simp only [go_sem, Nat.reduceBEq, Nat.reduceBneDiff, Nat.reduceLT, Nat.reduceLeDiff, Nat.reduceAdd, Nat.reduceMul, Nat.reduceSub, Nat.reduceEqDiff, reduceCtorEq, obm, mkV, vT, g1, zi, hk, encTs_len] at hr; subst hr; refine callGK (lr) rfl rfl (by first | exact .inl rfl | exact .inr rfl) ?_ (.inl rfl) ?_) | fail)) <;> (try omega)
    all_goals (first | exact AV.up_rfl _ | (repeat first | exact obUp_nil | refine obUp_cons rfl ?_))
  · (repeat' (first
    | exact trivial
    | (with_reducible first | refine awA ?_ | refine awB ?_ | refine awC ?_ | refine awD ?_ | refine awE ?_ | refine awF ?_ | refine awG ?_ | refine awH ?_ | refine awI ?_ | refine awJ ?_ | refine awK ?_ | refine awL ?_ | refine awM (by decide) ?_)
    | (refine aw_draw (id := 18) (t := (.node [0, 1, 2, 3, 4, 5, 6, 7, 8, 9] [])) (drR [4] [62, 65] [66]) mixed (by kernel_rfl) (by kernel_rfl) (fun _ _ h => h) ?_)
    | (refine at_done (by simp only [List.filterMap_cons, List.filterMap_nil, List.getElem?_toArray, List.getElem?_cons_zero, List.getElem?_cons_succ]; exact rfl) ?_) | (refine at_alt (by simp only [List.filterMap_cons, List.filterMap_nil, List.getElem?_toArray, List.getElem?_cons_zero, List.getElem?_cons_succ]; exact rfl) ?_) | refine qalt_normal ?_ | refine ats_cons ?_ ?_ | exact ats_nil
    | ((with_reducible first | refine awN (tyOf_ok _) [] ?_ | refine awO (tyOf_ok _) [] ?_ | refine awP (tyOf_ok _) [] ?_ | refine awQ ?_ | refine awR ?_ | refine awS ?_ | refine awT ?_ | refine awU ?_); intro r hr; simp only [go_sem, Nat.reduceBEq, Nat.reduceBneDiff, Nat.reduceLT, Nat.reduceLeDiff, Nat.reduceAdd, Nat.reduceMul, Nat.reduceSub, Nat.reduceEqDiff, reduceCtorEq, obm, mkV, vT, g1, zi, hk, encTs_len] at hr; subst hr; (first | refine awV ?_ ?_ | refine awW ?_ ?_ | refine endK ?_ ?_ | refine endGK ?_ ?_ ?_ | (refine condK (fun h => ?_) (fun h => ?_) <;> (try simp only [go_sem, reduceCtorEq] at h) <;> (try (exfalso; omega)))))
    | (refine go_callGE [(10000, 10000), (15000, 15000), (15001, 15001)] [(10000, 10000), (15000, 15000), (15001, 15001)] [15000, 15001] [10000] ?_; intro r hr; simp only [go_sem, Nat.reduceBEq, Nat.reduceBneDiff, Nat.reduceLT, Nat.reduceLeDiff, Nat.reduceAdd, Nat.reduceMul, Nat.reduceSub, Nat.reduceEqDiff, reduceCtorEq, obm, mkV, vT, g1, zi, hk, encTs_len] at hr; subst hr; refine callGK (rd0) rfl rfl (by first | exact .inl rfl | exact .inr rfl) ?_ (.inl rfl) ?_)
    | (refine go_callGE [(10000, 10000), (15000, 15000), (15001, 15001)] [(10000, 10000), (15000, 15000), (15001, 15001)] [15000, 15001] [10000] ?_; intro r hr; simp only [go_sem, Nat.reduceBEq, Nat.reduceBneDiff, Nat.reduceLT, Nat.reduceLeDiff, Nat.reduceAdd, Nat.reduceMul, Nat.reduceSub, Nat.reduceEqDiff, reduceCtorEq, obm, mkV, vT, g1, zi, hk, encTs_len] at hr; subst hr; refine callGK (lr) rfl rfl (by first | exact .inl rfl | exact .inr rfl) ?_ (.inl rfl) ?_) | fail)) <;> (try omega)
    all_goals (first | exact AV.up_rfl _ | (repeat first | exact obUp_nil | refine obUp_cons rfl ?_))
  · (repeat' (first
    | exact trivial
    | (with_reducible first | refine awA ?_ | refine awB ?_ | refine awC ?_ | refine awD ?_ | refine awE ?_ | refine awF ?_ | refine awG ?_ | refine awH ?_ | refine awI ?_ | refine awJ ?_ | refine awK ?_ | refine awL ?_ | refine awM (by decide) ?_)
    | (refine aw_draw (id := 18) (t := (.node [0, 1, 2, 3, 4, 5, 6, 7, 8, 9] [])) (drR [4] [62, 65] [66]) mixed (by kernel_rfl) (by kernel_rfl) (fun _ _ h => h) ?_)
    | (refine at_done (by simp only [List.filterMap_cons, List.filterMap_nil, List.getElem?_toArray, List.getElem?_cons_zero, List.getElem?_cons_succ]; exact rfl) ?_) | (refine at_alt (by simp only [List.filterMap_cons, List.filterMap_nil, List.getElem?_toArray, List.getElem?_cons_zero, List.getElem?_cons_succ]; exact rfl) ?_) | refine qalt_normal ?_ | refine ats_cons ?_ ?_ | exact ats_nil
    | ((with_reducible first | refine awN (tyOf_ok _) [] ?_ | refine awO (tyOf_ok _) [] ?_ | refine awP (tyOf_ok _) [] ?_ | refine awQ ?_ | refine awR ?_ | refine awS ?_ | refine awT ?_ | refine awU ?_); intro r hr; simp only [go_sem, Nat.reduceBEq, Nat.reduceBneDiff, Nat.reduceLT, Nat.reduceLeDiff, Nat.reduceAdd, Nat.reduceMul, Nat.reduceSub, Nat.reduceEqDiff, reduceCtorEq, obm, mkV, vT, g1, zi, hk, encTs_len] at hr; subst hr; (first | refine awV ?_ ?_ | refine awW ?_ ?_ | refine endK ?_ ?_ | refine endGK ?_ ?_ ?_ | (refine condK (fun h => ?_) (fun h => ?_) <;> (try simp only [go_sem, reduceCtorEq] at h) <;> (try (exfalso; omega)))))
    | (refine go_callGE [(10000, 10000), (15000, 15000), (15001, 15001)] [(10000, 10000), (15000, 15000), (15001, 15001)] [15000, 15001] [10000] ?_; intro r hr; simp only [go_sem, Nat.reduceBEq, Nat.reduceBneDiff, Nat.reduceLT, Nat.reduceLeDiff, Nat.reduceAdd, Nat.reduceMul, Nat.reduceSub, Nat.reduceEqDiff, reduceCtorEq, obm, mkV, vT, g1, zi, hk, encTs_len] at hr; subst hr; refine callGK (rd0) rfl rfl (by first | exact .inl rfl | exact .inr rfl) ?_ (.inl rfl) ?_)
    | (refine go_callGE [(10000, 10000), (15000, 15000), (15001, 15001)] [(10000, 10000), (15000, 15000), (15001, 15001)] [15000, 15001] [10000] ?_; intro r hr; simp only [go_sem, Nat.reduceBEq, Nat.reduceBneDiff, Nat.reduceLT, Nat.reduceLeDiff, Nat.reduceAdd, Nat.reduceMul, Nat.reduceSub, Nat.reduceEqDiff, reduceCtorEq, obm, mkV, vT, g1, zi, hk, encTs_len] at hr; subst hr; refine callGK (lr) rfl rfl (by first | exact .inl rfl | exact .inr rfl) ?_ (.inl rfl) ?_) | fail)) <;> (try omega)
    all_goals (first | exact AV.up_rfl _ | (repeat first | exact obUp_nil | refine obUp_cons rfl ?_))
end
end Go.Proofs.Ytljfgohecmhchaa
end
section
namespace Go.Proofs.Ytljfgohecmhchaa
open Go.RowKit
set_option maxRecDepth 100000
set_option maxHeartbeats 16000000
/-! lower.Decoder. -/
def rouR (ts : List TypeM) (X : List ExtM) (Y : List LayM) : Nat → List InsM × List Int
  | 0 => ([], [])
  | k + 1 => (bodC ts X ((Y[k]?).getD ⟨0, []⟩).size (tyZ ts k) k (rouR ts X Y k).1 ++ [⟨20, 0, 0, 0⟩], (rouR ts X Y k).2 ++ [((rouR ts X Y k).1.length : Int)])
theorem rouR_len2 (ts : List TypeM) (X : List ExtM) (Y : List LayM) : ∀ k, (rouR ts X Y k).2.length = k
  | 0 => rfl
  | k + 1 => by rw [rouR, List.length_append, rouR_len2 ts X Y k]; rfl
theorem rouR_step (ts : List TypeM) (X : List ExtM) (Y : List LayM) (k : Nat) : (rouR ts X Y k).1.length < (rouR ts X Y (k + 1)).1.length := by
  have := bodC_len ts X ((Y[k]?).getD ⟨0, []⟩).size (tyZ ts k) k (rouR ts X Y k).1
  rw [rouR]; simp; omega
theorem rouR_mono (ts : List TypeM) (X : List ExtM) (Y : List LayM) {j : Nat} : ∀ {k}, j ≤ k → (rouR ts X Y j).1.length ≤ (rouR ts X Y k).1.length
  | 0, h => by have : j = 0 := by omega
               subst this; exact Nat.le_refl _
  | k + 1, h => by
    by_cases hj : j = k + 1
    · subst hj; exact Nat.le_refl _
    · have h1 := rouR_mono ts X Y (j := j) (k := k) (by omega)
      have h2 := rouR_step ts X Y k
      omega
def bigX (X : List ExtM) : Bool := X.any fun e => decide (16777216 < e.most)
/-- the code of a schema, the entries, the error -/
def decF (ts : List TypeM) (rs : List RootM) : (List InsM × List Int) × Int :=
  if (checkF ts rs).1 ≠ 0 then (([], []), 92) else if bigX (exts ts) = true then (([], []), 91)
  else if 1048576 < (rouR ts (exts ts) (lays ts) ts.length).1.length then (([], []), 4) else (rouR ts (exts ts) (lays ts) ts.length, 0)
theorem up_dec (e : Int) : (AV.tup [.agg [.v (.bool false), .v (.slice none 0 0), .v (.slice none 0 0)], vI e]).up (.tup [.agg [.v (.bool false), .ref 40 4 8000 0 0, .ref 3 1 8001 0 0], vI e]) :=
  AV.up_tup (AV.up_cons (AV.up_agg (AV.up_cons (AV.up_rfl _) (AV.up_cons (AV.up_nilref _ _ _ _) (AV.up_cons (AV.up_nilref _ _ _ _) AV.up_nilL)))) (AV.up_cons (AV.up_rfl _) AV.up_nilL))
theorem dec_G (ts : List TypeM) (rs : List RootM) (hts : ts.length ≤ 1000000) (hrs : rs.length ≤ 1000000000) (hp : ∀ t ∈ ts, t.parts.length ≤ 1000000000) :
    GCall Try.prog 8 [vSch ts rs] [] (.tup [.agg [.v (.bool false), .ref 40 4 8000 0 (decF ts rs).1.1.length, .ref 3 1 8001 0 (decF ts rs).1.2.length], vI (decF ts rs).2]) [(8000, .row 40 4 (encIs (decF ts rs).1.1)), (8001, .row 3 1 (v8 (decF ts rs).1.2))] := by
  refine go_fnG (tyOf_ok _) Try.func8 rfl rfl (by rw [Try.results8]) Try.ntmps8 rfl fun E => ?_
  have hck := check_any ts rs (by omega) hrs hp
  unfold vF vSch at hck
  by_cases h0 : (checkF ts rs).1 = 0
  case neg =>
    have e0 : ((checkF ts rs).1 = 0) = False := eq_false h0
    rw [decF, if_pos h0]
    generalize checkF ts rs = F at *
    (repeat' (first
    | exact trivial
    | (with_reducible first | refine awA ?_ | refine awB ?_ | refine awC ?_ | refine awD ?_ | refine awE ?_ | refine awF ?_ | refine awG ?_ | refine awH ?_ | refine awI ?_ | refine awJ ?_ | refine awK ?_ | refine awL ?_ | refine awM (by decide) ?_)
    | (refine aw_draw (id := 19) (t := (.node [0, 1, 2, 3, 4, 5, 6, 7, 8, 9, 10, 11, 12, 13, 14, 15, 16, 17] [])) (drR [] [60, 65] []) mixed (by kernel_rfl) (by kernel_rfl) (fun _ _ h => h) ?_)
    | (refine at_done (by simp only [List.filterMap_cons, List.filterMap_nil, List.getElem?_toArray, List.getElem?_cons_zero, List.getElem?_cons_succ]; exact rfl) ?_) | (refine at_alt (by simp only [List.filterMap_cons, List.filterMap_nil, List.getElem?_toArray, List.getElem?_cons_zero, List.getElem?_cons_succ]; exact rfl) ?_) | refine qalt_normal ?_ | refine ats_cons ?_ ?_ | exact ats_nil
    | ((with_reducible first | refine awN (tyOf_ok _) [] ?_ | refine awO (tyOf_ok _) [] ?_ | refine awP (tyOf_ok _) [] ?_ | refine awQ ?_ | refine awR ?_ | refine awS ?_ | refine awT ?_ | refine awU ?_); intro r hr; simp only [go_sem, Nat.reduceBEq, Nat.reduceBneDiff, Nat.reduceLT, Nat.reduceLeDiff, Nat.reduceAdd, Nat.reduceMul, Nat.reduceSub, Nat.reduceEqDiff, reduceCtorEq, vSch, e0] at hr; subst hr; (first | refine caA (fun _ => hck) rfl ?_ ?_ ?_ | refine awV ?_ ?_ | refine awW ?_ ?_ | refine endK ?_ ?_ | refine endGK ?_ ?_ ?_ | (refine condK (fun h => ?_) (fun h => ?_) <;> (try simp only [go_sem, reduceCtorEq] at h) <;> (try (exfalso; omega))))) | fail)) <;> (try omega)
    all_goals first | exact up_dec _ | exact obUp_row0 (obUp_row0 obUp_nil)
  have hSz := sizeOf_any ts rs (by omega) hrs hp
  have hLy := layOf_any ts rs (by omega) hrs hp
  rw [sizesF, if_neg (by omega)] at hSz
  rw [laysF, if_neg (by omega)] at hLy
  have hr := check_right h0
  have hXl : (exts ts).length = ts.length := by have := exts_len ts ts.length (Nat.le_refl _); rwa [List.take_length] at this
  have hYl : (lays ts).length = ts.length := by simp [lays]
  rw [decF, if_neg (by omega)]
  rw [h0] at hck
  generalize (checkF ts rs).2 = C2 at *
  generalize exts ts = X at *
  generalize lays ts = Y at *
  unfold vSch at hSz hLy
  simp only at hSz hLy
  (repeat' (first
    | exact trivial
    | (with_reducible first | refine awA ?_ | refine awB ?_ | refine awC ?_ | refine awD ?_ | refine awE ?_ | refine awF ?_ | refine awG ?_ | refine awH ?_ | refine awI ?_ | refine awJ ?_ | refine awK ?_ | refine awL ?_ | refine awM (by decide) ?_)
    | (refine aw_draw (id := 19) (t := (.node [0, 1, 2, 3, 4, 5, 6, 7, 8, 9, 10, 11, 12, 13, 14, 15, 16, 17] [])) (drR [] [60, 65] []) mixed (by kernel_rfl) (by kernel_rfl) (fun _ _ h => h) ?_)
    | (refine at_done (by simp only [List.filterMap_cons, List.filterMap_nil, List.getElem?_toArray, List.getElem?_cons_zero, List.getElem?_cons_succ]; exact rfl) ?_) | (refine at_alt (by simp only [List.filterMap_cons, List.filterMap_nil, List.getElem?_toArray, List.getElem?_cons_zero, List.getElem?_cons_succ]; exact rfl) ?_) | refine qalt_normal ?_ | refine ats_cons ?_ ?_ | exact ats_nil
    | ((with_reducible first | refine awN (tyOf_ok _) [] ?_ | refine awO (tyOf_ok _) [] ?_ | refine awP (tyOf_ok _) [] ?_ | refine awQ ?_ | refine awR ?_ | refine awS ?_ | refine awT ?_ | refine awU ?_); intro r hr; simp only [go_sem, Nat.reduceBEq, Nat.reduceBneDiff, Nat.reduceLT, Nat.reduceLeDiff, Nat.reduceAdd, Nat.reduceMul, Nat.reduceSub, Nat.reduceEqDiff, reduceCtorEq, vSch, encEs_len] at hr; subst hr; (first | refine caA (fun _ => hck) rfl ?_ ?_ ?_ | refine caC (hSz) rfl ?_ ?_ ?_ | refine awV ?_ ?_ | refine awW ?_ ?_ | refine endK ?_ ?_ | refine endGK ?_ ?_ ?_ | (refine condK (fun h => ?_) (fun h => ?_) <;> (try simp only [go_sem, reduceCtorEq] at h) <;> (try (exfalso; omega))))) | fail)) <;> (try omega)
  refine go_loop [1, 2, 4, 24, 25, 26] [1, 2] (fun k : Nat => ⟨[(1, true, .ptr 1 1 0 0), (2, true, .ptr 1 2 0 0), (4, true, .lst 4 (encEs X)), (24, true, .lst 4 (encEs X)), (25, true, vI X.length), (26, true, vI k)], [(1, .var [.lst 4 (encTs ts), .lst 2 (encRs rs)]), (2, .var [.v (.bool false), .v (.slice none 0 0), .v (.slice none 0 0)])]⟩)
    (fun k => k ≤ X.length ∧ ∀ j (h : j < X.length), j < k → X[j].most ≤ 16777216) (fun k => X.length - k) 0 (by simp only [go_sem, Nat.reduceBEq, Nat.reduceBneDiff, Nat.reduceLT, Nat.reduceLeDiff, Nat.reduceAdd, Nat.reduceMul, Nat.reduceSub, Nat.reduceEqDiff, reduceCtorEq] <;> exact rfl) ⟨Nat.zero_le _, fun j _ hj => absurd hj (Nat.not_lt_zero _)⟩ ?_
  intro k ⟨hk, hkm⟩
  have hwk := wrap_i64 (n := (k : Int) + 1) (by omega)
  by_cases hlt : k < X.length
  · have f1 : ((k : Int) < X.length) = True := eq_true (by omega)
    have g1 := encEs_get hlt
    by_cases hb : 16777216 < X[k].most
    · have f2 : (16777216 < X[k].most) = True := eq_true hb
      have hB : bigX X = true := List.any_eq_true.2 ⟨X[k], List.getElem_mem hlt, by simpa using hb⟩
      rw [if_pos hB]
      (repeat' (first
    | exact trivial
    | (with_reducible first | refine awA ?_ | refine awB ?_ | refine awC ?_ | refine awD ?_ | refine awE ?_ | refine awF ?_ | refine awG ?_ | refine awH ?_ | refine awI ?_ | refine awJ ?_ | refine awK ?_ | refine awL ?_ | refine awM (by decide) ?_)
    | (refine aw_draw (id := 19) (t := (.node [0, 1, 2, 3, 4, 5, 6, 7, 8, 9, 10, 11, 12, 13, 14, 15, 16, 17] [])) (drR [] [60, 65] []) mixed (by kernel_rfl) (by kernel_rfl) (fun _ _ h => h) ?_)
    | (refine at_done (by simp only [List.filterMap_cons, List.filterMap_nil, List.getElem?_toArray, List.getElem?_cons_zero, List.getElem?_cons_succ]; exact rfl) ?_) | (refine at_alt (by simp only [List.filterMap_cons, List.filterMap_nil, List.getElem?_toArray, List.getElem?_cons_zero, List.getElem?_cons_succ]; exact rfl) ?_) | refine qalt_normal ?_ | refine ats_cons ?_ ?_ | exact ats_nil
    | ((with_reducible first | refine awN (tyOf_ok _) [] ?_ | refine awO (tyOf_ok _) [] ?_ | refine awP (tyOf_ok _) [] ?_ | refine awQ ?_ | refine awR ?_ | refine awS ?_ | refine awT ?_ | refine awU ?_); intro r hr; simp only [go_sem, Nat.reduceBEq, Nat.reduceBneDiff, Nat.reduceLT, Nat.reduceLeDiff, Nat.reduceAdd, Nat.reduceMul, Nat.reduceSub, Nat.reduceEqDiff, reduceCtorEq, f1, f2, g1, hwk, encEs_len] at hr; subst hr; (first | refine awV ?_ ?_ | refine awW ?_ ?_ | refine endK ?_ ?_ | refine endGK ?_ ?_ ?_ | (refine condK (fun h => ?_) (fun h => ?_) <;> (try simp only [go_sem, reduceCtorEq] at h) <;> (try (exfalso; omega))))) | fail)) <;> (try omega)
      all_goals first | exact up_dec _ | exact obUp_row0 (obUp_row0 obUp_nil)
    · have f2 : (16777216 < X[k].most) = False := eq_false hb
      (repeat' (first
    | exact trivial
    | (with_reducible first | refine awA ?_ | refine awB ?_ | refine awC ?_ | refine awD ?_ | refine awE ?_ | refine awF ?_ | refine awG ?_ | refine awH ?_ | refine awI ?_ | refine awJ ?_ | refine awK ?_ | refine awL ?_ | refine awM (by decide) ?_)
    | (refine aw_draw (id := 19) (t := (.node [0, 1, 2, 3, 4, 5, 6, 7, 8, 9, 10, 11, 12, 13, 14, 15, 16, 17] [])) (drR [] [60, 65] []) mixed (by kernel_rfl) (by kernel_rfl) (fun _ _ h => h) ?_)
    | (refine at_done (by simp only [List.filterMap_cons, List.filterMap_nil, List.getElem?_toArray, List.getElem?_cons_zero, List.getElem?_cons_succ]; exact rfl) ?_) | (refine at_alt (by simp only [List.filterMap_cons, List.filterMap_nil, List.getElem?_toArray, List.getElem?_cons_zero, List.getElem?_cons_succ]; exact rfl) ?_) | refine qalt_normal ?_ | refine ats_cons ?_ ?_ | exact ats_nil
    | ((with_reducible first | refine awN (tyOf_ok _) [] ?_ | refine awO (tyOf_ok _) [] ?_ | refine awP (tyOf_ok _) [] ?_ | refine awQ ?_ | refine awR ?_ | refine awS ?_ | refine awT ?_ | refine awU ?_); intro r hr; simp only [go_sem, Nat.reduceBEq, Nat.reduceBneDiff, Nat.reduceLT, Nat.reduceLeDiff, Nat.reduceAdd, Nat.reduceMul, Nat.reduceSub, Nat.reduceEqDiff, reduceCtorEq, f1, f2, g1, hwk, encEs_len] at hr; subst hr; (first | refine awV ?_ ?_ | refine awW ?_ ?_ | refine endK ?_ ?_ | refine endGK ?_ ?_ ?_ | (refine condK (fun h => ?_) (fun h => ?_) <;> (try simp only [go_sem, reduceCtorEq] at h) <;> (try (exfalso; omega))))) | fail)) <;> (try omega)
      all_goals exact ⟨k + 1, by simp only [go_sem, Nat.reduceBEq, Nat.reduceBneDiff, Nat.reduceLT, Nat.reduceLeDiff, Nat.reduceAdd, Nat.reduceMul, Nat.reduceSub, Nat.reduceEqDiff, reduceCtorEq] <;> exact rfl, ⟨hlt, fun j h hj => by
        by_cases hjk : j = k
        · subst hjk; omega
        · exact hkm j h (by omega)⟩, by omega⟩
  have f1 : ((k : Int) < X.length) = False := eq_false (by omega)
  have hB : bigX X = false := by
    cases hB : bigX X with
    | false => rfl
    | true =>
      obtain ⟨e, he, hd⟩ := List.any_eq_true.1 hB
      obtain ⟨j, hj, rfl⟩ := List.mem_iff_getElem.1 he
      have := hkm j hj (by omega)
      simp at hd; omega
  rw [hB, if_neg (by simp)]
  clear hB hkm hk hwk hlt hSz
  (repeat' (first
    | exact trivial
    | (refine aw_nilvar 48 5 40 4 8000 (cs := [_, _, _, _, _, _, _]) (.inl (by decide)) (by decide) rfl rfl ?_)
    | (refine aw_nilvar 48 6 3 1 8001 (cs := [_, _, _, _, _, _, _]) (.inl (by decide)) (by decide) rfl rfl ?_)
    | (with_reducible first | refine awA ?_ | refine awB ?_ | refine awC ?_ | refine awD ?_ | refine awE ?_ | refine awF ?_ | refine awG ?_ | refine awH ?_ | refine awI ?_ | refine awJ ?_ | refine awK ?_ | refine awL ?_ | refine awM (by decide) ?_)
    | (refine aw_draw (id := 19) (t := (.node [0, 1, 2, 3, 4, 5, 6, 7, 8, 9, 10, 11, 12, 13, 14, 15, 16, 17] [])) (drR [] [60, 65] []) mixed (by kernel_rfl) (by kernel_rfl) (fun _ _ h => h) ?_)
    | (refine at_done (by simp only [List.filterMap_cons, List.filterMap_nil, List.getElem?_toArray, List.getElem?_cons_zero, List.getElem?_cons_succ]; exact rfl) ?_) | (refine at_alt (by simp only [List.filterMap_cons, List.filterMap_nil, List.getElem?_toArray, List.getElem?_cons_zero, List.getElem?_cons_succ]; exact rfl) ?_) | refine qalt_normal ?_ | refine ats_cons ?_ ?_ | exact ats_nil
    | ((with_reducible first | refine awN (tyOf_ok _) [] ?_ | refine awO (tyOf_ok _) [] ?_ | refine awP (tyOf_ok _) [] ?_ | refine awQ ?_ | refine awR ?_ | refine awS ?_ | refine awT ?_ | refine awU ?_); intro r hr; simp only [go_sem, Nat.reduceBEq, Nat.reduceBneDiff, Nat.reduceLT, Nat.reduceLeDiff, Nat.reduceAdd, Nat.reduceMul, Nat.reduceSub, Nat.reduceEqDiff, reduceCtorEq, AState.nilvar, f1, encTs_len, List.set_cons_zero, List.set_cons_succ] at hr; subst hr; (first | refine caC (hLy) rfl ?_ ?_ ?_ | refine awV ?_ ?_ | refine awW ?_ ?_ | refine endK ?_ ?_ | refine endGK ?_ ?_ ?_ | (refine condK (fun h => ?_) (fun h => ?_) <;> (try simp only [go_sem, reduceCtorEq] at h) <;> (try (exfalso; omega))))) | fail)) <;> (try omega)
  clear hLy hck f1
  refine go_loop [2, 9, 51, 52] [2, 48, 8000, 8001] (fun k : Nat => ⟨[(2, true, .ptr 1 2 0 0), (9, true, .ptr 1 48 0 0), (51, true, vI ts.length), (52, true, vI k)],
      [(2, .var [.v (.bool false), .v (.slice none 0 0), .v (.slice none 0 0)]), (48, .var [.lst 4 (encTs ts), .lst 2 (encRs rs), .lst 4 (encEs X), .lst 2 (encLs Y), .v (.bool false), .ref 40 4 8000 0 (rouR ts X Y k).1.length, .ref 3 1 8001 0 k]), (8000, .row 40 4 (encIs (rouR ts X Y k).1)), (8001, .row 3 1 (v8 (rouR ts X Y k).2))]⟩)
    (fun k => k ≤ ts.length ∧ (rouR ts X Y k).1.length ≤ 1048576) (fun k => ts.length - k) 0 (by simp only [rouR, List.length_nil, v8_nil, encIs, List.map_nil, go_sem, Nat.reduceBEq, Nat.reduceBneDiff, Nat.reduceLT, Nat.reduceLeDiff, Nat.reduceAdd, Nat.reduceMul, Nat.reduceSub, Nat.reduceEqDiff, reduceCtorEq] <;> exact rfl) ⟨Nat.zero_le _, by simp [rouR]⟩ ?_
  clear k
  intro k ⟨hk, hCl⟩
  have hwk := wrap_i64 (n := (k : Int) + 1) (by omega)
  have hNl := rouR_len2 ts X Y k
  by_cases hlt : k < ts.length
  · have f1 : ((k : Int) < ts.length) = True := eq_true (by omega)
    have hRS : rouR ts X Y (k + 1) = (bodC ts X Y[k].size ts[k] k (rouR ts X Y k).1 ++ [⟨20, 0, 0, 0⟩], (rouR ts X Y k).2 ++ [((rouR ts X Y k).1.length : Int)]) := by
      rw [rouR, tyZ_lt hlt, List.getElem?_eq_getElem (show k < Y.length by omega), Option.getD_some]
    have hro := routine_G (ts := ts) (rs := rs) (X := X) (Y := Y) (N := (rouR ts X Y k).2 ++ [((rouR ts X Y k).1.length : Int)]) (rouR ts X Y k).1 (by omega) k hlt (hr k hlt) hXl (by omega)
    have hR1 := congrArg Prod.fst hRS
    have hR2 := congrArg Prod.snd hRS
    simp only at hR1 hR2
    rw [← hR1, ← hR2] at hro
    have hNl2 := rouR_len2 ts X Y (k + 1)
    have hmo := rouR_mono ts X Y (j := k + 1) (k := ts.length) hlt
    clear hRS hR1
    generalize hS1 : (rouR ts X Y (k + 1)).1 = D1 at *
    generalize hS2 : (rouR ts X Y (k + 1)).2 = M1 at *
    generalize (rouR ts X Y k).1 = D at *
    generalize (rouR ts X Y k).2 = M at *
    have htm : (v8 M).take k = v8 M := take_len (by rw [v8_len]; omega)
    have happ : v8 M ++ [[vI (D.length : Int)]] = v8 M1 := by rw [v8_app, hR2]
    simp only [obm, mkV, hNl2] at hro
    by_cases hbig : 1048576 < D1.length
    · have f2 : (1048576 < (D1.length : Int)) = True := eq_true (by omega)
      rw [if_pos (by omega)]
      (repeat' (first
    | exact trivial
    | (with_reducible first | refine awA ?_ | refine awB ?_ | refine awC ?_ | refine awD ?_ | refine awE ?_ | refine awF ?_ | refine awG ?_ | refine awH ?_ | refine awI ?_ | refine awJ ?_ | refine awK ?_ | refine awL ?_ | refine awM (by decide) ?_)
    | (refine aw_draw (id := 19) (t := (.node [0, 1, 2, 3, 4, 5, 6, 7, 8, 9, 10, 11, 12, 13, 14, 15, 16, 17] [])) (drR [] [60, 65] []) mixed (by kernel_rfl) (by kernel_rfl) (fun _ _ h => h) ?_)
    | (refine at_done (by simp only [List.filterMap_cons, List.filterMap_nil, List.getElem?_toArray, List.getElem?_cons_zero, List.getElem?_cons_succ]; exact rfl) ?_) | (refine at_alt (by simp only [List.filterMap_cons, List.filterMap_nil, List.getElem?_toArray, List.getElem?_cons_zero, List.getElem?_cons_succ]; exact rfl) ?_) | refine qalt_normal ?_ | refine ats_cons ?_ ?_ | exact ats_nil
    | ((with_reducible first | refine awN (tyOf_ok _) [] ?_ | refine awO (tyOf_ok _) [] ?_ | refine awP (tyOf_ok _) [] ?_ | refine awQ ?_ | refine awR ?_ | refine awS ?_ | refine awT ?_ | refine awU ?_); intro r hr; simp only [go_sem, Nat.reduceBEq, Nat.reduceBneDiff, Nat.reduceLT, Nat.reduceLeDiff, Nat.reduceAdd, Nat.reduceMul, Nat.reduceSub, Nat.reduceEqDiff, reduceCtorEq, f1, f2, hwk, htm, happ, encIs_len, v8_len, hNl2] at hr; subst hr; (first | refine awV ?_ ?_ | refine awW ?_ ?_ | refine endK ?_ ?_ | refine endGK ?_ ?_ ?_ | (refine condK (fun h => ?_) (fun h => ?_) <;> (try simp only [go_sem, reduceCtorEq] at h) <;> (try (exfalso; omega)))))
    | (refine go_callGE [(48, 10000), (8000, 15000), (8001, 15001)] [(10000, 48), (15000, 8000), (15001, 8001)] [8000, 8001] [48] ?_; intro r hr; simp only [go_sem, Nat.reduceBEq, Nat.reduceBneDiff, Nat.reduceLT, Nat.reduceLeDiff, Nat.reduceAdd, Nat.reduceMul, Nat.reduceSub, Nat.reduceEqDiff, reduceCtorEq, f1, f2, hwk, htm, happ, encIs_len, v8_len, hNl2] at hr; subst hr; refine callGK (hro) rfl rfl (by first | exact .inl rfl | exact .inr rfl) ?_ (.inl rfl) ?_) | fail)) <;> (try omega)
      all_goals first | exact up_dec _ | exact obUp_row0 (obUp_row0 obUp_nil)
    · have f2 : (1048576 < (D1.length : Int)) = False := eq_false (by omega)
      have f3 : (1048576 < (((k + 1 : Nat)) : Int)) = False := eq_false (by omega)
      (repeat' (first
    | exact trivial
    | (with_reducible first | refine awA ?_ | refine awB ?_ | refine awC ?_ | refine awD ?_ | refine awE ?_ | refine awF ?_ | refine awG ?_ | refine awH ?_ | refine awI ?_ | refine awJ ?_ | refine awK ?_ | refine awL ?_ | refine awM (by decide) ?_)
    | (refine aw_draw (id := 19) (t := (.node [0, 1, 2, 3, 4, 5, 6, 7, 8, 9, 10, 11, 12, 13, 14, 15, 16, 17] [])) (drR [] [60, 65] []) mixed (by kernel_rfl) (by kernel_rfl) (fun _ _ h => h) ?_)
    | (refine at_done (by simp only [List.filterMap_cons, List.filterMap_nil, List.getElem?_toArray, List.getElem?_cons_zero, List.getElem?_cons_succ]; exact rfl) ?_) | (refine at_alt (by simp only [List.filterMap_cons, List.filterMap_nil, List.getElem?_toArray, List.getElem?_cons_zero, List.getElem?_cons_succ]; exact rfl) ?_) | refine qalt_normal ?_ | refine ats_cons ?_ ?_ | exact ats_nil
    | ((with_reducible first | refine awN (tyOf_ok _) [] ?_ | refine awO (tyOf_ok _) [] ?_ | refine awP (tyOf_ok _) [] ?_ | refine awQ ?_ | refine awR ?_ | refine awS ?_ | refine awT ?_ | refine awU ?_); intro r hr; simp only [go_sem, Nat.reduceBEq, Nat.reduceBneDiff, Nat.reduceLT, Nat.reduceLeDiff, Nat.reduceAdd, Nat.reduceMul, Nat.reduceSub, Nat.reduceEqDiff, reduceCtorEq, f1, f2, f3, hwk, htm, happ, encIs_len, v8_len, hNl2] at hr; subst hr; (first | refine awV ?_ ?_ | refine awW ?_ ?_ | refine endK ?_ ?_ | refine endGK ?_ ?_ ?_ | (refine condK (fun h => ?_) (fun h => ?_) <;> (try simp only [go_sem, reduceCtorEq] at h) <;> (try (exfalso; omega)))))
    | (refine go_callGE [(48, 10000), (8000, 15000), (8001, 15001)] [(10000, 48), (15000, 8000), (15001, 8001)] [8000, 8001] [48] ?_; intro r hr; simp only [go_sem, Nat.reduceBEq, Nat.reduceBneDiff, Nat.reduceLT, Nat.reduceLeDiff, Nat.reduceAdd, Nat.reduceMul, Nat.reduceSub, Nat.reduceEqDiff, reduceCtorEq, f1, f2, f3, hwk, htm, happ, encIs_len, v8_len, hNl2] at hr; subst hr; refine callGK (hro) rfl rfl (by first | exact .inl rfl | exact .inr rfl) ?_ (.inl rfl) ?_) | fail)) <;> (try omega)
      all_goals exact ⟨k + 1, by simp only [hS1, hS2, go_sem, Nat.reduceBEq, Nat.reduceBneDiff, Nat.reduceLT, Nat.reduceLeDiff, Nat.reduceAdd, Nat.reduceMul, Nat.reduceSub, Nat.reduceEqDiff, reduceCtorEq] <;> exact rfl, ⟨hlt, by rw [hS1]; omega⟩, by omega⟩
  · have f1 : ((k : Int) < ts.length) = False := eq_false (by omega)
    obtain rfl : k = ts.length := by omega
    rw [if_neg (by omega)]
    generalize rouR ts X Y ts.length = D at *
    obtain ⟨D1, D2⟩ := D
    simp only at hNl hCl ⊢
    (repeat' (first
    | exact trivial
    | (with_reducible first | refine awA ?_ | refine awB ?_ | refine awC ?_ | refine awD ?_ | refine awE ?_ | refine awF ?_ | refine awG ?_ | refine awH ?_ | refine awI ?_ | refine awJ ?_ | refine awK ?_ | refine awL ?_ | refine awM (by decide) ?_)
    | (refine aw_draw (id := 19) (t := (.node [0, 1, 2, 3, 4, 5, 6, 7, 8, 9, 10, 11, 12, 13, 14, 15, 16, 17] [])) (drR [] [60, 65] []) mixed (by kernel_rfl) (by kernel_rfl) (fun _ _ h => h) ?_)
    | (refine at_done (by simp only [List.filterMap_cons, List.filterMap_nil, List.getElem?_toArray, List.getElem?_cons_zero, List.getElem?_cons_succ]; exact rfl) ?_) | (refine at_alt (by simp only [List.filterMap_cons, List.filterMap_nil, List.getElem?_toArray, List.getElem?_cons_zero, List.getElem?_cons_succ]; exact rfl) ?_) | refine qalt_normal ?_ | refine ats_cons ?_ ?_ | exact ats_nil
    | ((with_reducible first | refine awN (tyOf_ok _) [] ?_ | refine awO (tyOf_ok _) [] ?_ | refine awP (tyOf_ok _) [] ?_ | refine awQ ?_ | refine awR ?_ | refine awS ?_ | refine awT ?_ | refine awU ?_); intro r hr; simp only [go_sem, Nat.reduceBEq, Nat.reduceBneDiff, Nat.reduceLT, Nat.reduceLeDiff, Nat.reduceAdd, Nat.reduceMul, Nat.reduceSub, Nat.reduceEqDiff, reduceCtorEq, f1] at hr; subst hr; (first | refine awV ?_ ?_ | refine awW ?_ ?_ | refine endK ?_ ?_ | refine endGK ?_ ?_ ?_ | (refine condK (fun h => ?_) (fun h => ?_) <;> (try simp only [go_sem, reduceCtorEq] at h) <;> (try (exfalso; omega))))) | fail)) <;> (try omega)
    · rw [hNl]; exact AV.up_rfl _
    · (first | exact AV.up_rfl _ | (repeat first | exact obUp_nil | refine obUp_cons rfl ?_))
end Go.Proofs.Ytljfgohecmhchaa
end
section
namespace Go.Proofs.Ytljfgohecmhchaa
open Go.RowKit
set_option maxRecDepth 100000
set_option maxHeartbeats 8000000
/-! mortiselaw16.cut: a schema of its first types, in memory of its own. -/
theorem UpLL.rfl9 : ∀ l : List (List AV), UpLL l l
  | [] => .nil
  | x :: l => .cons (go x) (UpLL.rfl9 l)
where go : ∀ x : List AV, UpL x x
  | [] => .nil
  | a :: x => .cons (.rfl a) (go x)
abbrev nil9 : AV := .v (.slice none 0 0)
def mP9 : List AV := [.v (.string ByteArray.empty), vI (-9), vI 0]
def mR9 : List AV := [.v (.string ByteArray.empty), vI (-9)]
def mT9 : List AV := [vI (-9), vI 0, vI 0, nil9]
def encTy (t : TypeM) : List AV := [vI t.kind, vI t.n, vI t.elem, .lsx 3 (encPs t.parts) [mP9]]
def encTys (l : List TypeM) : List (List AV) := l.map encTy
theorem encTys_len (l : List TypeM) : (encTys l).length = l.length := by simp [encTys]
theorem up_tys : ∀ l : List TypeM, UpLL (encTys l) (encTs l)
  | [] => .nil
  | t :: l => .cons (.cons (.rfl _) (.cons (.rfl _) (.cons (.rfl _) (.cons (.lsx (UpLL.rfl9 _)) .nil)))) (up_tys l)
theorem take_app9 {α : Type} (l m : List α) {n : Nat} (h : n = l.length) : (l ++ m).take n = l := by subst h; simp
theorem drop_app9 {α : Type} (l m : List α) {n : Nat} (h : n = l.length) : (l ++ m).drop n = m := by subst h; simp
def rootsF (rs : List RootM) (n : Int) : List RootM := rs.filter fun r => decide (r.ty < n)
theorem cut16_any (ts : List TypeM) (rs : List RootM) (hts : ts.length ≤ 1000000000) (hrs : rs.length ≤ 1000000000) (hp : ∀ t ∈ ts, t.parts.length ≤ 1000000000) (n0 : Nat) :
    PCall Try.prog 7 [vSch ts rs, vI n0] (fun r => r = vSch (ts.take n0) (rootsF rs (min n0 ts.length : Nat))) := by
  refine go_fnU (tyOf_ok _) Try.func7 rfl rfl (by rw [Try.results7]) Try.ntmps7 rfl fun E => ?_
  obtain ⟨n, hn⟩ : ∃ n, n = min n0 ts.length := ⟨_, rfl⟩
  have hmin : min (n0 : Int) ts.length = n := by omega
  have hnt : n ≤ ts.length := by omega
  have htn : ts.take n0 = ts.take n := by rw [List.take_eq_take_iff]; omega
  rw [← hn, htn]
  (repeat' (first
    | exact trivial
    | (refine aw_nilvar 5 0 60 4 8000 (cs := [nil9, nil9]) (.inl (by decide)) (by decide) rfl rfl ?_)
    | (with_reducible first | refine awA ?_ | refine awB ?_ | refine awC ?_ | refine awD ?_ | refine awE ?_ | refine awF ?_ | refine awG ?_ | refine awH ?_ | refine awI ?_ | refine awJ ?_ | refine awK ?_ | refine awL ?_ | refine awM (by decide) ?_)
    | (refine aw_draw (id := 15) (t := (.node [0, 1, 2, 3, 4, 5, 6, 7, 8, 9, 10] [])) (drR [2] [67, 72] []) mixed (by kernel_rfl) (by kernel_rfl) (fun _ _ h => h) ?_)
    | (refine aw_draw (id := 16) (t := (.node [0, 1, 2, 5] [(.node [3] [(.node [4, 6, 7, 8, 9, 10] []), (.node [6, 7, 4, 8, 9, 10] [])]), (.node [6, 7, 3, 4, 8, 9, 10] [])])) (drR [] [77, 82] []) mixed (by kernel_rfl) (by kernel_rfl) (fun _ _ h => h) ?_)
    | (refine at_done (by simp only [List.filterMap_cons, List.filterMap_nil, List.getElem?_toArray, List.getElem?_cons_zero, List.getElem?_cons_succ]; exact rfl) ?_) | (refine at_alt (by simp only [List.filterMap_cons, List.filterMap_nil, List.getElem?_toArray, List.getElem?_cons_zero, List.getElem?_cons_succ]; exact rfl) ?_) | refine qalt_normal ?_ | refine ats_cons ?_ ?_ | exact ats_nil
    | ((with_reducible first | refine awN (tyOf_ok _) [] ?_ | refine awO (tyOf_ok _) [] ?_ | refine awP (tyOf_ok _) [] ?_ | refine awQ ?_ | refine awR ?_ | refine awS ?_); intro r hr; simp only [go_sem, Nat.reduceBEq, Nat.reduceBneDiff, Nat.reduceLT, Nat.reduceLeDiff, Nat.reduceAdd, Nat.reduceMul, Nat.reduceSub, Nat.reduceEqDiff, reduceCtorEq, AState.nilvar, vSch, encTs_len, hmin, List.set_cons_zero, List.set_cons_succ] at hr; subst hr; (first | refine awV ?_ ?_ | refine awW ?_ ?_ | refine endK ?_ ?_ | (refine condK (fun h => ?_) (fun h => ?_) <;> (try simp only [go_sem, reduceCtorEq] at h) <;> (try (exfalso; omega))))) | fail)) <;> (try omega)
  refine go_loop [1, 2, 4, 5, 6] [2, 4, 5, 8000] (fun k : Nat => ⟨[(1, true, vI n), (2, true, .ptr 1 2 0 0), (4, true, .ptr 1 4 0 0), (5, true, .ptr 1 5 0 0), (6, true, vI k)],
    [(2, .var [.lst 4 (encTs ts), .lst 2 (encRs rs)]), (4, .var [nil9, nil9]), (5, .var [.ref 60 4 8000 0 k, nil9]), (8000, .row 60 4 (encTys (ts.take k)))]⟩)
    (fun k => k ≤ n) (fun k => n - k) 0 (by simp only [AState.nilvar, go_sem, Nat.reduceBEq, Nat.reduceBneDiff, Nat.reduceLT, Nat.reduceLeDiff, Nat.reduceAdd, Nat.reduceMul, Nat.reduceSub, Nat.reduceEqDiff, reduceCtorEq]; exact rfl) (Nat.zero_le _) ?_
  intro k hk
  have hw1 := wrap_i64 (n := (k : Int) + 1) (by omega)
  have hlk : (encTys (ts.take k)).length = k := by rw [encTys_len, List.length_take]; omega
  have htk : (encTys (ts.take k)).take k = encTys (ts.take k) := take_len (by omega)
  by_cases hkn : k < n
  · have hlt : k < ts.length := by omega
    have e1 : ((k : Int) < n) = True := eq_true (by omega)
    have g1 := encTs_get hlt
    have hpl := hp _ (List.getElem_mem hlt)
    have hnext : encTys (ts.take k) ++ [[vI ts[k].kind, vI ts[k].n, vI ts[k].elem, .lsx 3 (encPs ts[k].parts) [mP9]]] = encTys (ts.take (k + 1)) := by
      rw [List.take_succ_eq_append_getElem hlt, encTys, encTys, List.map_append]; rfl
    have hlk1 : (encTys (ts.take (k + 1))).length = k + 1 := by rw [encTys_len, List.length_take]; omega
    have hm : [[AV.v (.string ByteArray.empty), vI (-9), vI 0]] = [mP9] := rfl
    generalize ts[k] = t at *
    have hz : ((t.parts.length : Int)).toNat = t.parts.length := by omega
    have h1 : (encPs t.parts ++ [mP9]).take t.parts.length = encPs t.parts := take_app9 _ _ (by rw [encPs_len])
    have h2 : (encPs t.parts ++ [mP9]).drop t.parts.length = [mP9] := drop_app9 _ _ (by rw [encPs_len])
    have hpk : (encPs t.parts).take t.parts.length = encPs t.parts := take_len (by rw [encPs_len]; exact Nat.le_refl _)
    have hl5 : (encPs t.parts ++ [mP9]).length = t.parts.length + 1 := by simp [encPs]
    have htl : (encPs t.parts ++ [mP9]).take (t.parts.length + 1) = encPs t.parts ++ [mP9] := take_len (by rw [hl5]; exact Nat.le_refl _)
    (repeat' (first
    | exact trivial
    | (with_reducible first | refine awA ?_ | refine awB ?_ | refine awC ?_ | refine awD ?_ | refine awE ?_ | refine awF ?_ | refine awG ?_ | refine awH ?_ | refine awI ?_ | refine awJ ?_ | refine awK ?_ | refine awL ?_ | refine awM (by decide) ?_)
    | (refine aw_draw (id := 15) (t := (.node [0, 1, 2, 3, 4, 5, 6, 7, 8, 9, 10] [])) (drR [2] [67, 72] []) mixed (by kernel_rfl) (by kernel_rfl) (fun _ _ h => h) ?_)
    | (refine aw_draw (id := 16) (t := (.node [0, 1, 2, 5] [(.node [3] [(.node [4, 6, 7, 8, 9, 10] []), (.node [6, 7, 4, 8, 9, 10] [])]), (.node [6, 7, 3, 4, 8, 9, 10] [])])) (drR [] [77, 82] []) mixed (by kernel_rfl) (by kernel_rfl) (fun _ _ h => h) ?_)
    | (refine at_done (by simp only [List.filterMap_cons, List.filterMap_nil, List.getElem?_toArray, List.getElem?_cons_zero, List.getElem?_cons_succ]; exact rfl) ?_) | (refine at_alt (by simp only [List.filterMap_cons, List.filterMap_nil, List.getElem?_toArray, List.getElem?_cons_zero, List.getElem?_cons_succ]; exact rfl) ?_) | refine qalt_normal ?_ | refine ats_cons ?_ ?_ | exact ats_nil
    | ((with_reducible first | refine awN (tyOf_ok _) [30] ?_ | refine awO (tyOf_ok _) [30] ?_ | refine awP (tyOf_ok _) [30] ?_ | refine awQ ?_ | refine awR ?_ | refine awS ?_); intro r hr; simp only [go_sem, Nat.reduceBEq, Nat.reduceBneDiff, Nat.reduceLT, Nat.reduceLeDiff, Nat.reduceAdd, Nat.reduceMul, Nat.reduceSub, Nat.reduceEqDiff, reduceCtorEq, encTs_len, encPs_len, Nat.zero_add, Int.toNat_natCast, hw1, hlk, htk, e1, g1, hnext, hlk1, hm, hz, h1, h2, hpk, hl5, htl, Int.toNat_zero, Nat.sub_zero, Nat.le_refl, if_true] at hr; subst hr; (first | refine awV ?_ ?_ | refine awW ?_ ?_ | refine endK ?_ ?_ | (refine condK (fun h => ?_) (fun h => ?_) <;> (try simp only [go_sem, reduceCtorEq] at h) <;> (try (exfalso; omega))))) | fail)) <;> (try omega)
    all_goals exact ⟨k + 1, by simp only [go_sem, Nat.reduceBEq, Nat.reduceBneDiff, Nat.reduceLT, Nat.reduceLeDiff, Nat.reduceAdd, Nat.reduceMul, Nat.reduceSub, Nat.reduceEqDiff, reduceCtorEq]; exact rfl, hkn, by omega⟩
  have e1 : ((k : Int) < n) = False := eq_false (by omega)
  obtain rfl : k = n := by omega
  have hz1 : ((k : Int)).toNat = k := by omega
  have hmT : [[vI (-9), vI 0, vI 0, nil9]] = [mT9] := rfl
  have hl1 : (encTys (ts.take k) ++ [mT9]).length = k + 1 := by rw [List.length_append, hlk]; rfl
  (repeat' (first
    | exact trivial
    | (refine aw_nilvar 5 1 64 2 8001 (cs := [.ref 60 4 8000 0 k, nil9]) (.inl (by decide)) (by decide) rfl rfl ?_)
    | (with_reducible first | refine awA ?_ | refine awB ?_ | refine awC ?_ | refine awD ?_ | refine awE ?_ | refine awF ?_ | refine awG ?_ | refine awH ?_ | refine awI ?_ | refine awJ ?_ | refine awK ?_ | refine awL ?_ | refine awM (by decide) ?_)
    | (refine aw_draw (id := 15) (t := (.node [0, 1, 2, 3, 4, 5, 6, 7, 8, 9, 10] [])) (drR [2] [67, 72] []) mixed (by kernel_rfl) (by kernel_rfl) (fun _ _ h => h) ?_)
    | (refine aw_draw (id := 16) (t := (.node [0, 1, 2, 5] [(.node [3] [(.node [4, 6, 7, 8, 9, 10] []), (.node [6, 7, 4, 8, 9, 10] [])]), (.node [6, 7, 3, 4, 8, 9, 10] [])])) (drR [] [77, 82] []) mixed (by kernel_rfl) (by kernel_rfl) (fun _ _ h => h) ?_)
    | (refine at_done (by simp only [List.filterMap_cons, List.filterMap_nil, List.getElem?_toArray, List.getElem?_cons_zero, List.getElem?_cons_succ]; exact rfl) ?_) | (refine at_alt (by simp only [List.filterMap_cons, List.filterMap_nil, List.getElem?_toArray, List.getElem?_cons_zero, List.getElem?_cons_succ]; exact rfl) ?_) | refine qalt_normal ?_ | refine ats_cons ?_ ?_ | exact ats_nil
    | ((with_reducible first | refine awN (tyOf_ok _) [] ?_ | refine awO (tyOf_ok _) [] ?_ | refine awP (tyOf_ok _) [] ?_ | refine awQ ?_ | refine awR ?_ | refine awS ?_); intro r hr; simp only [go_sem, Nat.reduceBEq, Nat.reduceBneDiff, Nat.reduceLT, Nat.reduceLeDiff, Nat.reduceAdd, Nat.reduceMul, Nat.reduceSub, Nat.reduceEqDiff, reduceCtorEq, AState.nilvar, encTs_len, hw1, hlk, htk, e1, hz1, hmT, hl1, Nat.zero_add, List.drop_zero, Nat.le_refl, Nat.add_zero, Int.toNat_zero, Nat.sub_zero, List.set_cons_zero, List.set_cons_succ] at hr; subst hr; (first | refine awV ?_ ?_ | refine awW ?_ ?_ | refine endK ?_ ?_ | (refine condK (fun h => ?_) (fun h => ?_) <;> (try simp only [go_sem, reduceCtorEq] at h) <;> (try (exfalso; omega))))) | fail)) <;> (try omega)
  refine go_loop [1, 2, 4, 5, 9] [2, 4, 5, 8000, 8001] (fun j : Nat => ⟨[(1, true, vI k), (2, true, .ptr 1 2 0 0), (4, true, .ptr 1 4 0 0), (5, true, .ptr 1 5 0 0), (9, true, vI j)],
    [(2, .var [.lst 4 (encTs ts), .lst 2 (encRs rs)]), (4, .var [nil9, nil9]), (5, .var [.ref 60 4 8000 0 k, .ref 64 2 8001 0 (rootsF (rs.take j) k).length]), (8000, .row 60 4 (encTys (ts.take k) ++ [mT9])), (8001, .row 64 2 (encRs (rootsF (rs.take j) k)))]⟩)
    (fun j => j ≤ rs.length) (fun j => rs.length - j) 0 (by simp only [AState.nilvar, List.take_zero, rootsF, List.filter_nil, encRs, List.map_nil, List.length_nil, go_sem, Nat.reduceBEq, Nat.reduceBneDiff, Nat.reduceLT, Nat.reduceLeDiff, Nat.reduceAdd, Nat.reduceMul, Nat.reduceSub, Nat.reduceEqDiff, reduceCtorEq] <;> exact rfl) (Nat.zero_le _) ?_
  clear hw1 e1 hkn
  intro j hj
  have hwj := wrap_i64 (n := (j : Int) + 1) (by omega)
  have hFl : (rootsF (rs.take j) k).length ≤ rs.length := Nat.le_trans (List.length_filter_le _ _) (by rw [List.length_take]; omega)
  have hFt : (encRs (rootsF (rs.take j) k)).take (rootsF (rs.take j) k).length = encRs (rootsF (rs.take j) k) := take_len (by rw [encRs_len]; exact Nat.le_refl _)
  by_cases hlt : j < rs.length
  · have f1 : ((j : Int) < rs.length) = True := eq_true (by omega)
    have g1 := encRs_get hlt
    have hnext : rootsF (rs.take (j + 1)) k = rootsF (rs.take j) k ++ (if rs[j].ty < k then [rs[j]] else []) := by
      rw [rootsF, List.take_succ_eq_append_getElem hlt, List.filter_append, rootsF]
      by_cases h : rs[j].ty < k <;> simp [h]
    have zj : ((j : Int)).toNat = j := by omega
    by_cases hr : rs[j].ty < k
    · have f2 : (rs[j].ty < (k : Int)) = True := eq_true hr
      rw [if_pos hr] at hnext
      have happ : encRs (rootsF (rs.take j) k) ++ [[vS rs[j].name, vI rs[j].ty]] = encRs (rootsF (rs.take (j + 1)) k) := by rw [hnext]; simp [encRs, encR]
      have hl2 : (rootsF (rs.take (j + 1)) k).length = (rootsF (rs.take j) k).length + 1 := by rw [hnext]; simp
      generalize hR2 : rootsF (rs.take (j + 1)) k = R2 at *
      generalize rootsF (rs.take j) k = R1 at *
      generalize rs[j] = r at *
      (repeat' (first
    | exact trivial
    | (with_reducible first | refine awA ?_ | refine awB ?_ | refine awC ?_ | refine awD ?_ | refine awE ?_ | refine awF ?_ | refine awG ?_ | refine awH ?_ | refine awI ?_ | refine awJ ?_ | refine awK ?_ | refine awL ?_ | refine awM (by decide) ?_)
    | (refine aw_draw (id := 15) (t := (.node [0, 1, 2, 3, 4, 5, 6, 7, 8, 9, 10] [])) (drR [2] [67, 72] []) mixed (by kernel_rfl) (by kernel_rfl) (fun _ _ h => h) ?_)
    | (refine aw_draw (id := 16) (t := (.node [0, 1, 2, 5] [(.node [3] [(.node [4, 6, 7, 8, 9, 10] []), (.node [6, 7, 4, 8, 9, 10] [])]), (.node [6, 7, 3, 4, 8, 9, 10] [])])) (drR [] [77, 82] []) mixed (by kernel_rfl) (by kernel_rfl) (fun _ _ h => h) ?_)
    | (refine at_done (by simp only [List.filterMap_cons, List.filterMap_nil, List.getElem?_toArray, List.getElem?_cons_zero, List.getElem?_cons_succ]; exact rfl) ?_) | (refine at_alt (by simp only [List.filterMap_cons, List.filterMap_nil, List.getElem?_toArray, List.getElem?_cons_zero, List.getElem?_cons_succ]; exact rfl) ?_) | refine qalt_normal ?_ | refine ats_cons ?_ ?_ | exact ats_nil
    | ((with_reducible first | refine awN (tyOf_ok _) [] ?_ | refine awO (tyOf_ok _) [] ?_ | refine awP (tyOf_ok _) [] ?_ | refine awQ ?_ | refine awR ?_ | refine awS ?_); intro r hr; simp only [go_sem, Nat.reduceBEq, Nat.reduceBneDiff, Nat.reduceLT, Nat.reduceLeDiff, Nat.reduceAdd, Nat.reduceMul, Nat.reduceSub, Nat.reduceEqDiff, reduceCtorEq, encRs_len, f1, f2, g1, zj, hwj, hFt, happ] at hr; subst hr; (first | refine awV ?_ ?_ | refine awW ?_ ?_ | refine endK ?_ ?_ | (refine condK (fun h => ?_) (fun h => ?_) <;> (try simp only [go_sem, reduceCtorEq] at h) <;> (try (exfalso; omega))))) | fail)) <;> (try omega)
      all_goals exact ⟨j + 1, by simp only [hR2, hl2, go_sem, Nat.reduceBEq, Nat.reduceBneDiff, Nat.reduceLT, Nat.reduceLeDiff, Nat.reduceAdd, Nat.reduceMul, Nat.reduceSub, Nat.reduceEqDiff, reduceCtorEq] <;> exact rfl, hlt, by omega⟩
    · have f2 : (rs[j].ty < (k : Int)) = False := eq_false hr
      rw [if_neg hr, List.append_nil] at hnext
      generalize hR1 : rootsF (rs.take j) k = R1 at *
      generalize rs[j] = r at *
      (repeat' (first
    | exact trivial
    | (with_reducible first | refine awA ?_ | refine awB ?_ | refine awC ?_ | refine awD ?_ | refine awE ?_ | refine awF ?_ | refine awG ?_ | refine awH ?_ | refine awI ?_ | refine awJ ?_ | refine awK ?_ | refine awL ?_ | refine awM (by decide) ?_)
    | (refine aw_draw (id := 15) (t := (.node [0, 1, 2, 3, 4, 5, 6, 7, 8, 9, 10] [])) (drR [2] [67, 72] []) mixed (by kernel_rfl) (by kernel_rfl) (fun _ _ h => h) ?_)
    | (refine aw_draw (id := 16) (t := (.node [0, 1, 2, 5] [(.node [3] [(.node [4, 6, 7, 8, 9, 10] []), (.node [6, 7, 4, 8, 9, 10] [])]), (.node [6, 7, 3, 4, 8, 9, 10] [])])) (drR [] [77, 82] []) mixed (by kernel_rfl) (by kernel_rfl) (fun _ _ h => h) ?_)
    | (refine at_done (by simp only [List.filterMap_cons, List.filterMap_nil, List.getElem?_toArray, List.getElem?_cons_zero, List.getElem?_cons_succ]; exact rfl) ?_) | (refine at_alt (by simp only [List.filterMap_cons, List.filterMap_nil, List.getElem?_toArray, List.getElem?_cons_zero, List.getElem?_cons_succ]; exact rfl) ?_) | refine qalt_normal ?_ | refine ats_cons ?_ ?_ | exact ats_nil
    | ((with_reducible first | refine awN (tyOf_ok _) [] ?_ | refine awO (tyOf_ok _) [] ?_ | refine awP (tyOf_ok _) [] ?_ | refine awQ ?_ | refine awR ?_ | refine awS ?_); intro r hr; simp only [go_sem, Nat.reduceBEq, Nat.reduceBneDiff, Nat.reduceLT, Nat.reduceLeDiff, Nat.reduceAdd, Nat.reduceMul, Nat.reduceSub, Nat.reduceEqDiff, reduceCtorEq, encRs_len, f1, f2, g1, zj, hwj] at hr; subst hr; (first | refine awV ?_ ?_ | refine awW ?_ ?_ | refine endK ?_ ?_ | (refine condK (fun h => ?_) (fun h => ?_) <;> (try simp only [go_sem, reduceCtorEq] at h) <;> (try (exfalso; omega))))) | fail)) <;> (try omega)
      all_goals exact ⟨j + 1, by simp only [hnext, go_sem, Nat.reduceBEq, Nat.reduceBneDiff, Nat.reduceLT, Nat.reduceLeDiff, Nat.reduceAdd, Nat.reduceMul, Nat.reduceSub, Nat.reduceEqDiff, reduceCtorEq] <;> exact rfl, hlt, by omega⟩
  have f1 : ((j : Int) < rs.length) = False := eq_false (by omega)
  have hje : rs.take j = rs := take_len (by omega)
  rw [hje] at hFl hFt ⊢
  have hmR : [[AV.v (.string ByteArray.empty), vI (-9)]] = [mR9] := rfl
  generalize rootsF rs k = R1 at *
  have hz2 : ((R1.length : Int)).toNat = R1.length := by omega
  have hl2 : (encRs R1 ++ [mR9]).length = R1.length + 1 := by simp [encRs]
  have ht1 : (encTys (ts.take k) ++ [mT9]).take k = encTys (ts.take k) := take_app9 _ _ hlk.symm
  have ht2 : (encRs R1 ++ [mR9]).take R1.length = encRs R1 := take_app9 _ _ (by rw [encRs_len])
  (repeat' (first
    | exact trivial
    | (with_reducible first | refine awA ?_ | refine awB ?_ | refine awC ?_ | refine awD ?_ | refine awE ?_ | refine awF ?_ | refine awG ?_ | refine awH ?_ | refine awI ?_ | refine awJ ?_ | refine awK ?_ | refine awL ?_ | refine awM (by decide) ?_)
    | (refine aw_draw (id := 15) (t := (.node [0, 1, 2, 3, 4, 5, 6, 7, 8, 9, 10] [])) (drR [2] [67, 72] []) mixed (by kernel_rfl) (by kernel_rfl) (fun _ _ h => h) ?_)
    | (refine aw_draw (id := 16) (t := (.node [0, 1, 2, 5] [(.node [3] [(.node [4, 6, 7, 8, 9, 10] []), (.node [6, 7, 4, 8, 9, 10] [])]), (.node [6, 7, 3, 4, 8, 9, 10] [])])) (drR [] [77, 82] []) mixed (by kernel_rfl) (by kernel_rfl) (fun _ _ h => h) ?_)
    | (refine at_done (by simp only [List.filterMap_cons, List.filterMap_nil, List.getElem?_toArray, List.getElem?_cons_zero, List.getElem?_cons_succ]; exact rfl) ?_) | (refine at_alt (by simp only [List.filterMap_cons, List.filterMap_nil, List.getElem?_toArray, List.getElem?_cons_zero, List.getElem?_cons_succ]; exact rfl) ?_) | refine qalt_normal ?_ | refine ats_cons ?_ ?_ | exact ats_nil
    | ((with_reducible first | refine awN (tyOf_ok _) [] ?_ | refine awO (tyOf_ok _) [] ?_ | refine awP (tyOf_ok _) [] ?_ | refine awQ ?_ | refine awR ?_ | refine awS ?_); intro r hr; simp only [go_sem, Nat.reduceBEq, Nat.reduceBneDiff, Nat.reduceLT, Nat.reduceLeDiff, Nat.reduceAdd, Nat.reduceMul, Nat.reduceSub, Nat.reduceEqDiff, reduceCtorEq, encRs_len, f1, hz2, hFt, hmR, hl2, ht1, ht2, List.drop_zero, Nat.zero_add, Int.toNat_zero, Nat.sub_zero] at hr; subst hr; (first | refine awV ?_ ?_ | refine awW ?_ ?_ | refine endK ?_ ?_ | (refine condK (fun h => ?_) (fun h => ?_) <;> (try simp only [go_sem, reduceCtorEq] at h) <;> (try (exfalso; omega))))) | fail)) <;> (try omega)
  all_goals exact Up.up (.agg (.cons (.lst (up_tys _)) (.cons (.rfl _) .nil)))
end Go.Proofs.Ytljfgohecmhchaa
end

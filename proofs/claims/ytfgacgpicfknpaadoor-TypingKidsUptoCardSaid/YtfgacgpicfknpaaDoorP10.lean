import Derived.Test.YtfgacgpicfknpaaDoorP9
set_option linter.all false
section
namespace Go.Proofs.YtfgacgpicfknpaaDoor
open Go.RowKit
set_option maxRecDepth 100000
set_option maxHeartbeats 8000000
/-! typing.Some: what picks lead to, off a stack. -/
def mkS (ts : List TypeM) (ps : List Int) (F : Nat) : List Int → Nat → List Tr
  | [], _ => []
  | t :: L, pos => mkT ts ps F t.toNat pos :: mkS ts ps F L (pos + (mkT ts ps F t.toNat pos).flat.length)
section
variable {ts : List TypeM} {ps : List Int}
theorem mkL_congr {T : TypeM} {x : NodeM} {mk1 mk2 : Nat → Nat → Tr} : ∀ (m k pos : Nat), (∀ i, k ≤ i → i < k + m → ∀ pos, mk1 (elemF T x.n i).toNat pos = mk2 (elemF T x.n i).toNat pos) → mkL T x mk1 m k pos = mkL T x mk2 m k pos
  | 0, _, _, _ => rfl
  | m + 1, k, pos, h => by
    rw [mkL, mkL, h k (Nat.le_refl _) (by omega), mkL_congr m (k + 1) _ fun i h1 h2 => h i (by omega) (by omega)]
theorem mkT_fuel (hr : ∀ (k : Nat) (h : k < ts.length), rightOK ts[k] k = true) : ∀ (f g t : Nat), t < f → t < g → t < ts.length → ∀ pos, mkT ts ps f t pos = mkT ts ps g t pos
  | 0, _, _, h, _, _ => absurd h (Nat.not_lt_zero _)
  | _, 0, _, _, h, _ => absurd h (Nat.not_lt_zero _)
  | f + 1, g + 1, t, hf, hg, ht => fun pos => by
    rw [mkT, mkT]
    congr 1
    have hT := tyA_lt (ts := ts) ht
    obtain ⟨_, h2, h3⟩ := pick_ok (hr t ht) (pickAt_bd ps pos)
    rw [hT]
    have hk := rightN_kids h2
    refine mkL_congr _ _ _ fun i _ hi pos' => ?_
    have := (elem_ok (hr t ht) h2 h3 (i := i) (by omega)).1
    exact mkT_fuel hr f g _ (by omega) (by omega) (by omega) pos'
theorem mkS_app (F : Nat) : ∀ (T : TypeM) (x : NodeM) (m k : Nat) (L : List Int) (pos : Nat), mkS ts ps F (kidsT T x.n k m ++ L) pos = mkL T x (mkT ts ps F) m k pos ++ mkS ts ps F L (pos + (Tr.flat.flatL (mkL T x (mkT ts ps F) m k pos)).length)
  | _, _, 0, _, _, _ => rfl
  | T, x, m + 1, k, L, pos => by
    rw [kidsT_succ, List.cons_append, mkS, mkS_app F T x m (k + 1) L, mkL]
    simp only [List.cons_append, Tr.flat.flatL, List.length_append, Nat.add_assoc]
/-- one node of it -/
theorem mkS_node (hr : ∀ (k : Nat) (h : k < ts.length), rightOK ts[k] k = true) (t : Nat) (ht : t < ts.length) (L : List Int) (pos : Nat) :
    Tr.flat.flatL (mkS ts ps ts.length ((t : Int) :: L) pos) = pickN ts[t] (pickAt ps pos) :: Tr.flat.flatL (mkS ts ps ts.length (kidsT ts[t] (pickN ts[t] (pickAt ps pos)).n 0 (pickN ts[t] (pickAt ps pos)).kids.toNat ++ L) (pos + 1)) := by
  have h1 : mkT ts ps ts.length t pos = .node (pickN ts[t] (pickAt ps pos)) (mkL ts[t] (pickN ts[t] (pickAt ps pos)) (mkT ts ps ts.length) (pickN ts[t] (pickAt ps pos)).kids.toNat 0 (pos + 1)) := by
    rw [mkT_fuel hr ts.length (ts.length + 1) t ht (by omega) ht pos, mkT, tyA_lt ht]
  rw [mkS, Int.toNat_natCast, h1, mkS_app]
  simp only [Tr.flat.flatL, Tr.flat, flatL_app, List.cons_append, List.length_cons]
  rw [Nat.add_assoc pos 1, Nat.add_comm 1]
theorem mkS_len (F : Nat) : ∀ (L : List Int) (pos : Nat), L.length ≤ (Tr.flat.flatL (mkS ts ps F L pos)).length
  | [], _ => Nat.le_refl _
  | t :: L, pos => by
    have := mkS_len F L (pos + (mkT ts ps F t.toNat pos).flat.length)
    have := flat_pos (mkT ts ps F t.toNat pos)
    simp only [mkS, Tr.flat.flatL, List.length_append, List.length_cons]; omega
end
theorem up_nM (e : Int) : (AV.tup [.v (.slice none 0 0), vI e]).up (.tup [.ref 43 3 8000 0 0, vI e]) := AV.up_tup (AV.up_cons (AV.up_nilref _ _ _ _) (AV.up_cons (AV.up_rfl _) AV.up_nilL))
theorem tSome_G (ts : List TypeM) (rs : List RootM) (hts : ts.length ≤ 1000000000) (hrs : rs.length ≤ 1000000000) (hp : ∀ t ∈ ts, t.parts.length ≤ 1000000000) (t : Int) (ps : List Int) (hps : ps.length ≤ 1000000000) :
    GCall Tryd.prog 19 [vSch ts rs, vI t, .lst 1 (v8 ps)] [] (.tup [.ref 43 3 8000 0 (someF ts rs t ps).1.length, vI (someF ts rs t ps).2]) [(8000, .row 43 3 (encNs (someF ts rs t ps).1))] := by
  refine go_fnG (tyOf_ok _) Tryd.func19 rfl rfl (by rw [Tryd.results19]) Tryd.ntmps19 rfl fun E => ?_
  have hA := asked_any ts rs hts hrs hp t
  unfold vSch at hA
  by_cases ha : (askedF ts rs t).1 = 0
  case neg =>
    have e1 : ((askedF ts rs t).1 = 0) = False := eq_false ha
    have hT : someF ts rs t ps = ([], (askedF ts rs t).1) := by
      by_cases g : (checkF ts rs).1 = 0
      · by_cases g2 : t < 0 ∨ (ts.length : Int) ≤ t
        · simp [someF, askedF, g, g2]
        · exact absurd (by simp [askedF, g, g2]) ha
      · simp [someF, askedF, g]
    rw [hT]
    generalize askedF ts rs t = A at *
    (repeat' (first
    | exact trivial
    | (with_reducible first | refine awA ?_ | refine awB ?_ | refine awC ?_ | refine awD ?_ | refine awE ?_ | refine awF ?_ | refine awG ?_ | refine awH ?_ | refine awI ?_ | refine awJ ?_ | refine awK ?_ | refine awL ?_ | refine awM (by decide) ?_)
    | (refine aw_draw (id := 3) (t := (.node [0, 1, 2, 3] [])) (drR [8] [] []) mixed (by kernel_rfl) (by kernel_rfl) (fun _ _ h => h) ?_)
    | (refine aw_draw (id := 17) (t := (.node [0, 1, 2, 3, 4, 5, 6] [])) (drR [3, 13] [69] [71]) mixed (by kernel_rfl) (by kernel_rfl) (fun _ _ h => h) ?_)
    | (refine at_done (by simp only [List.filterMap_cons, List.filterMap_nil, List.getElem?_toArray, List.getElem?_cons_zero, List.getElem?_cons_succ]; exact rfl) ?_) | (refine at_alt (by simp only [List.filterMap_cons, List.filterMap_nil, List.getElem?_toArray, List.getElem?_cons_zero, List.getElem?_cons_succ]; exact rfl) ?_) | refine qalt_normal ?_ | refine ats_cons ?_ ?_ | exact ats_nil
    | ((with_reducible first | refine awN (tyOf_ok _) [] ?_ | refine awO (tyOf_ok _) [] ?_ | refine awP (tyOf_ok _) [] ?_ | refine awQ ?_ | refine awR ?_ | refine awS ?_ | refine awT ?_ | refine awU ?_); intro r hr; simp only [go_sem, Nat.reduceBEq, Nat.reduceBneDiff, Nat.reduceLT, Nat.reduceLeDiff, Nat.reduceAdd, Nat.reduceMul, Nat.reduceSub, Nat.reduceEqDiff, reduceCtorEq, vSch, e1] at hr; subst hr; (first | refine caA (fun _ => hA) rfl ?_ ?_ ?_ | refine awV ?_ ?_ | refine awW ?_ ?_ | refine endK ?_ ?_ | refine endGK ?_ ?_ ?_ | (refine condK (fun h => ?_) (fun h => ?_) <;> (try simp only [go_sem, reduceCtorEq] at h) <;> (try (exfalso; omega))))) | fail)) <;> (try omega)
    all_goals first | exact up_nM _ | exact obUp_row0 obUp_nil
  have h0 : (checkF ts rs).1 = 0 := by
    by_cases g : (checkF ts rs).1 = 0
    · exact g
    · simp [askedF, g] at ha
  have h1 : ¬(t < 0 ∨ (ts.length : Int) ≤ t) := fun h => by simp [askedF, h0, h] at ha
  have hAe : askedF ts rs t = (0, 0) := by simp [askedF, h0, h1]
  rw [hAe] at hA
  simp only at hA
  have hr := check_right h0
  obtain ⟨tn, rfl⟩ : ∃ tn : Nat, t = tn := ⟨t.toNat, by omega⟩
  have hFF : (madeT ts ps tn).flat = Tr.flat.flatL (mkS ts ps ts.length [(tn : Int)] 0) := by simp [mkS, Tr.flat.flatL, madeT]
  unfold someF
  rw [if_neg (by omega), if_neg h1, hFF]
  generalize hF : Tr.flat.flatL (mkS ts ps ts.length [(tn : Int)] 0) = FF
  have hv1 : [[vI (tn : Int)]] = v8 [(tn : Int)] := rfl
  (repeat' (first
    | exact trivial
    | (with_reducible first | refine awA ?_ | refine awB ?_ | refine awC ?_ | refine awD ?_ | refine awE ?_ | refine awF ?_ | refine awG ?_ | refine awH ?_ | refine awI ?_ | refine awJ ?_ | refine awK ?_ | refine awL ?_ | refine awM (by decide) ?_)
    | (refine aw_draw (id := 3) (t := (.node [0, 1, 2, 3] [])) (drR [8] [] []) mixed (by kernel_rfl) (by kernel_rfl) (fun _ _ h => h) ?_)
    | (refine aw_draw (id := 17) (t := (.node [0, 1, 2, 3, 4, 5, 6] [])) (drR [3, 13] [69] [71]) mixed (by kernel_rfl) (by kernel_rfl) (fun _ _ h => h) ?_)
    | (refine at_done (by simp only [List.filterMap_cons, List.filterMap_nil, List.getElem?_toArray, List.getElem?_cons_zero, List.getElem?_cons_succ]; exact rfl) ?_) | (refine at_alt (by simp only [List.filterMap_cons, List.filterMap_nil, List.getElem?_toArray, List.getElem?_cons_zero, List.getElem?_cons_succ]; exact rfl) ?_) | refine qalt_normal ?_ | refine ats_cons ?_ ?_ | exact ats_nil
    | ((with_reducible first | refine awN (tyOf_ok _) [23] ?_ | refine awO (tyOf_ok _) [23] ?_ | refine awP (tyOf_ok _) [23] ?_ | refine awQ ?_ | refine awR ?_ | refine awS ?_ | refine awT ?_ | refine awU ?_); intro r hr; simp only [go_sem, Nat.reduceBEq, Nat.reduceBneDiff, Nat.reduceLT, Nat.reduceLeDiff, Nat.reduceAdd, Nat.reduceMul, Nat.reduceSub, Nat.reduceEqDiff, reduceCtorEq, vSch] at hr; subst hr; (first | refine caA (fun _ => hA) rfl ?_ ?_ ?_ | refine awV ?_ ?_ | refine awW ?_ ?_ | refine endK ?_ ?_ | refine endGK ?_ ?_ ?_ | (refine condK (fun h => ?_) (fun h => ?_) <;> (try simp only [go_sem, reduceCtorEq] at h) <;> (try (exfalso; omega))))) | fail)) <;> (try omega)
  refine aw_nilrow 9 43 3 8000 (.inl (by decide)) (by simp only [go_sem, Nat.reduceBEq, Nat.reduceBneDiff, Nat.reduceLT, Nat.reduceLeDiff, Nat.reduceAdd, Nat.reduceMul, Nat.reduceSub, Nat.reduceEqDiff, reduceCtorEq]) ?_
  have hn0 : ([] : List (List AV)) = encNs [] := rfl
  refine go_loop [2, 3, 6, 7, 9, 10] [3, 10, 23, 8000] (fun q : List NodeM × List Int => ⟨[(2, true, .lst 1 (v8 ps)), (3, true, .ptr 1 3 0 0), (6, true, nilS0), (7, true, vI 0), (9, true, .ref 43 3 8000 0 q.1.length), (10, true, .ptr 1 10 0 0)],
      [(3, .var [.lst 4 (encTs ts), .lst 2 (encRs rs)]), (10, .var [.ref 3 1 23 0 q.2.length]), (23, .row 3 1 (v8 q.2)), (8000, .row 43 3 (encNs q.1))]⟩)
    (fun q => q.1.length ≤ 1048576 ∧ q.2.length ≤ 4000000 ∧ ∃ L : List Int, q.2 = L.reverse ∧ (∀ z ∈ L, 0 ≤ z ∧ z < ts.length) ∧ FF = q.1 ++ Tr.flat.flatL (mkS ts ps ts.length L q.1.length)) (fun q => FF.length - q.1.length) ([], [(tn : Int)])
    (by simp only [AState.nilrow, go_sem, Nat.reduceBEq, Nat.reduceBneDiff, Nat.reduceLT, Nat.reduceLeDiff, Nat.reduceAdd, Nat.reduceMul, Nat.reduceSub, Nat.reduceEqDiff, reduceCtorEq, hv1, nilS0]; exact rfl) ⟨by simp, by simp, [(tn : Int)], rfl, fun z hz => by rw [List.mem_singleton] at hz; subst hz; omega, by simp [hF]⟩ ?_
  clear hF hA
  intro ⟨out, st⟩ ⟨hol, hsl, L, hst, hL, hFe⟩
  simp only at hol hsl hst hL hFe
  have hml := mkS_len (ts := ts) (ps := ps) ts.length L out.length
  have hFl : FF.length = out.length + (Tr.flat.flatL (mkS ts ps ts.length L out.length)).length := by rw [hFe, List.length_append]
  have hstl : st.length = L.length := by rw [hst]; simp
  cases L with
  | nil =>
    have e1 : (0 < (st.length : Int)) = False := eq_false (by rw [hstl]; simp)
    simp only [mkS, Tr.flat.flatL, List.append_nil] at hFe
    subst hFe
    rw [if_neg (by omega)]
    (repeat' (first
    | exact trivial
    | (with_reducible first | refine awA ?_ | refine awB ?_ | refine awC ?_ | refine awD ?_ | refine awE ?_ | refine awF ?_ | refine awG ?_ | refine awH ?_ | refine awI ?_ | refine awJ ?_ | refine awK ?_ | refine awL ?_ | refine awM (by decide) ?_)
    | (refine aw_draw (id := 3) (t := (.node [0, 1, 2, 3] [])) (drR [8] [] []) mixed (by kernel_rfl) (by kernel_rfl) (fun _ _ h => h) ?_)
    | (refine aw_draw (id := 17) (t := (.node [0, 1, 2, 3, 4, 5, 6] [])) (drR [3, 13] [69] [71]) mixed (by kernel_rfl) (by kernel_rfl) (fun _ _ h => h) ?_)
    | (refine at_done (by simp only [List.filterMap_cons, List.filterMap_nil, List.getElem?_toArray, List.getElem?_cons_zero, List.getElem?_cons_succ]; exact rfl) ?_) | (refine at_alt (by simp only [List.filterMap_cons, List.filterMap_nil, List.getElem?_toArray, List.getElem?_cons_zero, List.getElem?_cons_succ]; exact rfl) ?_) | refine qalt_normal ?_ | refine ats_cons ?_ ?_ | exact ats_nil
    | ((with_reducible first | refine awN (tyOf_ok _) [] ?_ | refine awO (tyOf_ok _) [] ?_ | refine awP (tyOf_ok _) [] ?_ | refine awQ ?_ | refine awR ?_ | refine awS ?_ | refine awT ?_ | refine awU ?_); intro r hr; simp only [go_sem, Nat.reduceBEq, Nat.reduceBneDiff, Nat.reduceLT, Nat.reduceLeDiff, Nat.reduceAdd, Nat.reduceMul, Nat.reduceSub, Nat.reduceEqDiff, reduceCtorEq, e1, nilS0] at hr; subst hr; (first | refine awV ?_ ?_ | refine awW ?_ ?_ | refine endK ?_ ?_ | refine endGK ?_ ?_ ?_ | (refine condK (fun h => ?_) (fun h => ?_) <;> (try simp only [go_sem, reduceCtorEq] at h) <;> (try (exfalso; omega))))) | fail)) <;> (try omega)
    all_goals (first | exact AV.up_rfl _ | (repeat first | exact obUp_nil | refine obUp_cons rfl ?_))
  | cons z L =>
  have hz := hL z (.head _)
  obtain ⟨zn, rfl⟩ : ∃ zn : Nat, z = zn := ⟨z.toNat, by omega⟩
  have hzt : zn < ts.length := by omega
  have e1 : (0 < (st.length : Int)) = True := eq_true (by rw [hstl]; simp)
  have hst' : st = L.reverse ++ [(zn : Int)] := by rw [hst]; simp
  simp only [List.length_cons] at hstl hml
  have hsum : (((Tr.flat.flatL (mkS ts ps ts.length ((zn : Int) :: L) out.length)).length : Nat) : Int) = FF.length - out.length := by omega
  have hwb := wrap_i64 (n := (out.length : Int) + st.length) (by omega)
  by_cases hb : 1048576 < out.length + st.length
  · have e2 : (1048576 < (out.length : Int) + st.length) = True := eq_true (by omega)
    rw [if_pos (by omega)]
    (repeat' (first
    | exact trivial
    | (with_reducible first | refine awA ?_ | refine awB ?_ | refine awC ?_ | refine awD ?_ | refine awE ?_ | refine awF ?_ | refine awG ?_ | refine awH ?_ | refine awI ?_ | refine awJ ?_ | refine awK ?_ | refine awL ?_ | refine awM (by decide) ?_)
    | (refine aw_draw (id := 3) (t := (.node [0, 1, 2, 3] [])) (drR [8] [] []) mixed (by kernel_rfl) (by kernel_rfl) (fun _ _ h => h) ?_)
    | (refine aw_draw (id := 17) (t := (.node [0, 1, 2, 3, 4, 5, 6] [])) (drR [3, 13] [69] [71]) mixed (by kernel_rfl) (by kernel_rfl) (fun _ _ h => h) ?_)
    | (refine at_done (by simp only [List.filterMap_cons, List.filterMap_nil, List.getElem?_toArray, List.getElem?_cons_zero, List.getElem?_cons_succ]; exact rfl) ?_) | (refine at_alt (by simp only [List.filterMap_cons, List.filterMap_nil, List.getElem?_toArray, List.getElem?_cons_zero, List.getElem?_cons_succ]; exact rfl) ?_) | refine qalt_normal ?_ | refine ats_cons ?_ ?_ | exact ats_nil
    | ((with_reducible first | refine awN (tyOf_ok _) [] ?_ | refine awO (tyOf_ok _) [] ?_ | refine awP (tyOf_ok _) [] ?_ | refine awQ ?_ | refine awR ?_ | refine awS ?_ | refine awT ?_ | refine awU ?_); intro r hr; simp only [go_sem, Nat.reduceBEq, Nat.reduceBneDiff, Nat.reduceLT, Nat.reduceLeDiff, Nat.reduceAdd, Nat.reduceMul, Nat.reduceSub, Nat.reduceEqDiff, reduceCtorEq, e1, hwb, e2, nilS0] at hr; subst hr; (first | refine awV ?_ ?_ | refine awW ?_ ?_ | refine endK ?_ ?_ | refine endGK ?_ ?_ ?_ | (refine condK (fun h => ?_) (fun h => ?_) <;> (try simp only [go_sem, reduceCtorEq] at h) <;> (try (exfalso; omega))))) | fail)) <;> (try omega)
    all_goals first | exact up_nM _ | exact obUp_row0 obUp_nil
  have e2 : (1048576 < (out.length : Int) + st.length) = False := eq_false (by omega)
  have hLb : L.length ≤ 1048576 := by omega
  have hT := tyA_lt (ts := ts) hzt
  have hrz := hr zn hzt
  have hgt := encTs_get hzt
  have zz : ((zn : Int)).toNat = zn := by omega
  subst hst'
  have hN := next_G L.reverse zn (by simp; omega)
  unfold obT at hN
  rw [mkS_node hr zn hzt] at hFe
  have hpb := pickAt_bd ps out.length
  obtain ⟨hxo, hxr, hxf⟩ := pick_ok hrz hpb
  have hxk := rightN_kids hxr
  have hPK := picked_any ts[zn] zn hrz (pickAt ps out.length) hpb.1 hpb.2
  have hK := kids_G ts[zn] zn hrz _ hxo hxr hxf L.reverse (by simp; omega)
  have hst2 : L.reverse ++ (kidsT ts[zn] (pickN ts[zn] (pickAt ps out.length)).n 0 (pickN ts[zn] (pickAt ps out.length)).kids.toNat).reverse = (kidsT ts[zn] (pickN ts[zn] (pickAt ps out.length)).n 0 (pickN ts[zn] (pickAt ps out.length)).kids.toNat ++ L).reverse := by simp
  rw [hst2] at hK
  have hel : ∀ y ∈ kidsT ts[zn] (pickN ts[zn] (pickAt ps out.length)).n 0 (pickN ts[zn] (pickAt ps out.length)).kids.toNat, 0 ≤ y ∧ y < ts.length := fun y hy => by
    obtain ⟨i, hi, rfl⟩ := List.mem_map.1 hy
    have hi2 : i < (pickN ts[zn] (pickAt ps out.length)).kids.toNat := by simpa using hi
    have := (elem_ok hrz hxr hxf (i := i) (by omega)).1
    omega
  have hkl := kidsT_len ts[zn] (pickN ts[zn] (pickAt ps out.length)).n 0 (pickN ts[zn] (pickAt ps out.length)).kids.toNat
  have hml2 := mkS_len (ts := ts) (ps := ps) ts.length (kidsT ts[zn] (pickN ts[zn] (pickAt ps out.length)).n 0 (pickN ts[zn] (pickAt ps out.length)).kids.toNat ++ L) (out.length + 1)
  generalize hKT : kidsT ts[zn] (pickN ts[zn] (pickAt ps out.length)).n 0 (pickN ts[zn] (pickAt ps out.length)).kids.toNat = KT at *
  generalize hpk : pickAt ps out.length = pk at *
  generalize hxx : pickN ts[zn] pk = x at *
  have hFl2 : FF.length = out.length + 1 + (Tr.flat.flatL (mkS ts ps ts.length (KT ++ L) (out.length + 1))).length := by rw [hFe]; simp; omega
  simp only [List.length_append] at hml2
  clear hFl hml hsum
  unfold obT at hK
  have zo : ((out.length : Int)).toNat = out.length := by omega
  generalize hTz : ts[zn] = Tz at *
  (repeat' (first
    | exact trivial
    | (refine go_cutC (.tmp 41) [2, 3, 6, 7, 9, 10, 11, 12] [3, 10, 23, 8000] (fun y : Int => ⟨[(2, true, .lst 1 (v8 ps)), (3, true, .ptr 1 3 0 0), (6, true, nilS0), (7, true, vI 0), (9, true, .ref 43 3 8000 0 out.length), (10, true, .ptr 1 10 0 0), (11, true, vI zn), (12, true, vI y)], [(3, .var [.lst 4 (encTs ts), .lst 2 (encRs rs)]), (10, .var [.ref 3 1 23 0 L.reverse.length]), (23, .row 3 1 (v8 L.reverse)), (8000, .row 43 3 (encNs out))]⟩) (fun y => u64 y = pk) (hold ?_) ?_)
    | (with_reducible first | refine awA ?_ | refine awB ?_ | refine awC ?_ | refine awD ?_ | refine awE ?_ | refine awF ?_ | refine awG ?_ | refine awH ?_ | refine awI ?_ | refine awJ ?_ | refine awK ?_ | refine awL ?_ | refine awM (by decide) ?_)
    | (refine aw_draw (id := 3) (t := (.node [0, 1, 2, 3] [])) (drR [8] [] []) mixed (by kernel_rfl) (by kernel_rfl) (fun _ _ h => h) ?_)
    | (refine aw_draw (id := 17) (t := (.node [0, 1, 2, 3, 4, 5, 6] [])) (drR [3, 13] [69] [71]) mixed (by kernel_rfl) (by kernel_rfl) (fun _ _ h => h) ?_)
    | (refine at_done (by simp only [List.filterMap_cons, List.filterMap_nil, List.getElem?_toArray, List.getElem?_cons_zero, List.getElem?_cons_succ]; exact rfl) ?_) | (refine at_alt (by simp only [List.filterMap_cons, List.filterMap_nil, List.getElem?_toArray, List.getElem?_cons_zero, List.getElem?_cons_succ]; exact rfl) ?_) | refine qalt_normal ?_ | refine ats_cons ?_ ?_ | exact ats_nil
    | ((with_reducible first | refine awN (tyOf_ok _) [] ?_ | refine awO (tyOf_ok _) [] ?_ | refine awP (tyOf_ok _) [] ?_ | refine awQ ?_ | refine awR ?_ | refine awS ?_ | refine awT ?_ | refine awU ?_); intro r hr; simp only [go_sem, Nat.reduceBEq, Nat.reduceBneDiff, Nat.reduceLT, Nat.reduceLeDiff, Nat.reduceAdd, Nat.reduceMul, Nat.reduceSub, Nat.reduceEqDiff, reduceCtorEq, e1, hwb, e2, encNs_len, nilS0] at hr; subst hr; (first | refine awV ?_ ?_ | refine awW ?_ ?_ | refine endK ?_ ?_ | refine endGK ?_ ?_ ?_ | (refine condK (fun h => ?_) (fun h => ?_) <;> (try simp only [go_sem, reduceCtorEq] at h) <;> (try (exfalso; omega)))))
    | (refine go_callGd 36 rfl [(10, 10000), (23, 15000)] [(10000, 10), (15000, 23)] [23] [10] (by simp only [go_sem, Nat.reduceBEq, Nat.reduceBneDiff, Nat.reduceLT, Nat.reduceLeDiff, Nat.reduceAdd, Nat.reduceMul, Nat.reduceSub, Nat.reduceEqDiff, reduceCtorEq, e1, hwb, e2, encNs_len, nilS0]; exact rfl) ?_ rfl rfl (by first | exact .inl rfl | exact .inr rfl) (by simp only [go_sem, Nat.reduceBEq, Nat.reduceBneDiff, Nat.reduceLT, Nat.reduceLeDiff, Nat.reduceAdd, Nat.reduceMul, Nat.reduceSub, Nat.reduceEqDiff, reduceCtorEq, e1, hwb, e2, encNs_len, nilS0] <;> exact rfl) (hN) (.inl rfl) ?_) | fail)) <;> (try omega)
  · refine ⟨?_⟩
    by_cases hlp : out.length < ps.length
    · have f1 : ((out.length : Int) < ps.length) = True := eq_true (by omega)
      have g1 := v8_get hlp
      have hpp : u64 ps[out.length] = pk := by rw [← hpk, pickAt, List.getElem?_eq_getElem hlp]
      (repeat' (first
    | exact trivial
    | (with_reducible first | refine awA ?_ | refine awB ?_ | refine awC ?_ | refine awD ?_ | refine awE ?_ | refine awF ?_ | refine awG ?_ | refine awH ?_ | refine awI ?_ | refine awJ ?_ | refine awK ?_ | refine awL ?_ | refine awM (by decide) ?_)
    | (refine aw_draw (id := 3) (t := (.node [0, 1, 2, 3] [])) (drR [8] [] []) mixed (by kernel_rfl) (by kernel_rfl) (fun _ _ h => h) ?_)
    | (refine aw_draw (id := 17) (t := (.node [0, 1, 2, 3, 4, 5, 6] [])) (drR [3, 13] [69] [71]) mixed (by kernel_rfl) (by kernel_rfl) (fun _ _ h => h) ?_)
    | (refine at_done (by simp only [List.filterMap_cons, List.filterMap_nil, List.getElem?_toArray, List.getElem?_cons_zero, List.getElem?_cons_succ]; exact rfl) ?_) | (refine at_alt (by simp only [List.filterMap_cons, List.filterMap_nil, List.getElem?_toArray, List.getElem?_cons_zero, List.getElem?_cons_succ]; exact rfl) ?_) | refine qalt_normal ?_ | refine ats_cons ?_ ?_ | exact ats_nil
    | ((with_reducible first | refine awN (tyOf_ok _) [] ?_ | refine awO (tyOf_ok _) [] ?_ | refine awP (tyOf_ok _) [] ?_ | refine awQ ?_ | refine awR ?_ | refine awS ?_ | refine awT ?_ | refine awU ?_); intro r hr; simp only [go_sem, Nat.reduceBEq, Nat.reduceBneDiff, Nat.reduceLT, Nat.reduceLeDiff, Nat.reduceAdd, Nat.reduceMul, Nat.reduceSub, Nat.reduceEqDiff, reduceCtorEq, encNs_len, f1, zo, g1] at hr; subst hr; (first | refine awV ?_ ?_ | refine awW ?_ ?_ | refine endK ?_ ?_ | refine endGK ?_ ?_ ?_ | (refine condK (fun h => ?_) (fun h => ?_) <;> (try simp only [go_sem, reduceCtorEq] at h) <;> (try (exfalso; omega))))) | fail)) <;> (try omega)
      exact ⟨ps[out.length], by simp only [go_sem, Nat.reduceBEq, Nat.reduceBneDiff, Nat.reduceLT, Nat.reduceLeDiff, Nat.reduceAdd, Nat.reduceMul, Nat.reduceSub, Nat.reduceEqDiff, reduceCtorEq] <;> exact rfl, hpp⟩
    · have f1 : ((out.length : Int) < ps.length) = False := eq_false (by omega)
      have hp0 : u64 0 = pk := by rw [← hpk, pickAt, List.getElem?_eq_none (by omega)]; rfl
      (repeat' (first
    | exact trivial
    | (with_reducible first | refine awA ?_ | refine awB ?_ | refine awC ?_ | refine awD ?_ | refine awE ?_ | refine awF ?_ | refine awG ?_ | refine awH ?_ | refine awI ?_ | refine awJ ?_ | refine awK ?_ | refine awL ?_ | refine awM (by decide) ?_)
    | (refine aw_draw (id := 3) (t := (.node [0, 1, 2, 3] [])) (drR [8] [] []) mixed (by kernel_rfl) (by kernel_rfl) (fun _ _ h => h) ?_)
    | (refine aw_draw (id := 17) (t := (.node [0, 1, 2, 3, 4, 5, 6] [])) (drR [3, 13] [69] [71]) mixed (by kernel_rfl) (by kernel_rfl) (fun _ _ h => h) ?_)
    | (refine at_done (by simp only [List.filterMap_cons, List.filterMap_nil, List.getElem?_toArray, List.getElem?_cons_zero, List.getElem?_cons_succ]; exact rfl) ?_) | (refine at_alt (by simp only [List.filterMap_cons, List.filterMap_nil, List.getElem?_toArray, List.getElem?_cons_zero, List.getElem?_cons_succ]; exact rfl) ?_) | refine qalt_normal ?_ | refine ats_cons ?_ ?_ | exact ats_nil
    | ((with_reducible first | refine awN (tyOf_ok _) [] ?_ | refine awO (tyOf_ok _) [] ?_ | refine awP (tyOf_ok _) [] ?_ | refine awQ ?_ | refine awR ?_ | refine awS ?_ | refine awT ?_ | refine awU ?_); intro r hr; simp only [go_sem, Nat.reduceBEq, Nat.reduceBneDiff, Nat.reduceLT, Nat.reduceLeDiff, Nat.reduceAdd, Nat.reduceMul, Nat.reduceSub, Nat.reduceEqDiff, reduceCtorEq, encNs_len, f1] at hr; subst hr; (first | refine awV ?_ ?_ | refine awW ?_ ?_ | refine endK ?_ ?_ | refine endGK ?_ ?_ ?_ | (refine condK (fun h => ?_) (fun h => ?_) <;> (try simp only [go_sem, reduceCtorEq] at h) <;> (try (exfalso; omega))))) | fail)) <;> (try omega)
      exact ⟨0, by simp only [go_sem, Nat.reduceBEq, Nat.reduceBneDiff, Nat.reduceLT, Nat.reduceLeDiff, Nat.reduceAdd, Nat.reduceMul, Nat.reduceSub, Nat.reduceEqDiff, reduceCtorEq] <;> exact rfl, hp0⟩
  intro y hy
  have happ : encNs out ++ [[vI x.kind, .v (.int .u64 x.n), vI x.kids]] = encNs (out ++ [x]) := encNs_app out x
  have hlo : (out ++ [x]).length = out.length + 1 := by simp
  have hto : (encNs out).take out.length = encNs out := take_len (by rw [encNs_len]; exact Nat.le_refl _)
  have hwo := wrap_i64 (n := ((out.length + 1 : Nat) : Int) + x.kids) (by omega)
  by_cases hbk : 1048576 < ((out.length + 1 : Nat) : Int) + x.kids
  · have f3 : (1048576 < ((out.length + 1 : Nat) : Int) + x.kids) = True := eq_true hbk
    rw [if_pos (by omega)]
    (repeat' (first
    | exact trivial
    | (with_reducible first | refine awA ?_ | refine awB ?_ | refine awC ?_ | refine awD ?_ | refine awE ?_ | refine awF ?_ | refine awG ?_ | refine awH ?_ | refine awI ?_ | refine awJ ?_ | refine awK ?_ | refine awL ?_ | refine awM (by decide) ?_)
    | (refine aw_draw (id := 3) (t := (.node [0, 1, 2, 3] [])) (drR [8] [] []) mixed (by kernel_rfl) (by kernel_rfl) (fun _ _ h => h) ?_)
    | (refine aw_draw (id := 17) (t := (.node [0, 1, 2, 3, 4, 5, 6] [])) (drR [3, 13] [69] [71]) mixed (by kernel_rfl) (by kernel_rfl) (fun _ _ h => h) ?_)
    | (refine at_done (by simp only [List.filterMap_cons, List.filterMap_nil, List.getElem?_toArray, List.getElem?_cons_zero, List.getElem?_cons_succ]; exact rfl) ?_) | (refine at_alt (by simp only [List.filterMap_cons, List.filterMap_nil, List.getElem?_toArray, List.getElem?_cons_zero, List.getElem?_cons_succ]; exact rfl) ?_) | refine qalt_normal ?_ | refine ats_cons ?_ ?_ | exact ats_nil
    | ((with_reducible first | refine awN (tyOf_ok _) [] ?_ | refine awO (tyOf_ok _) [] ?_ | refine awP (tyOf_ok _) [] ?_ | refine awQ ?_ | refine awR ?_ | refine awS ?_ | refine awT ?_ | refine awU ?_); intro r hr; simp only [go_sem, Nat.reduceBEq, Nat.reduceBneDiff, Nat.reduceLT, Nat.reduceLeDiff, Nat.reduceAdd, Nat.reduceMul, Nat.reduceSub, Nat.reduceEqDiff, reduceCtorEq, hgt, zz, wrapU, hy, happ, hlo, hto, hwo, f3, encNs_len] at hr; subst hr; (first | refine caA (fun _ => hPK) rfl ?_ ?_ ?_ | refine awV ?_ ?_ | refine awW ?_ ?_ | refine endK ?_ ?_ | refine endGK ?_ ?_ ?_ | (refine condK (fun h => ?_) (fun h => ?_) <;> (try simp only [go_sem, reduceCtorEq] at h) <;> (try (exfalso; omega))))) | fail)) <;> (try omega)
    all_goals first | exact up_nM _ | exact obUp_row0 obUp_nil
  · have f3 : (1048576 < ((out.length + 1 : Nat) : Int) + x.kids) = False := eq_false hbk
    (repeat' (first
    | exact trivial
    | (with_reducible first | refine awA ?_ | refine awB ?_ | refine awC ?_ | refine awD ?_ | refine awE ?_ | refine awF ?_ | refine awG ?_ | refine awH ?_ | refine awI ?_ | refine awJ ?_ | refine awK ?_ | refine awL ?_ | refine awM (by decide) ?_)
    | (refine aw_draw (id := 3) (t := (.node [0, 1, 2, 3] [])) (drR [8] [] []) mixed (by kernel_rfl) (by kernel_rfl) (fun _ _ h => h) ?_)
    | (refine aw_draw (id := 17) (t := (.node [0, 1, 2, 3, 4, 5, 6] [])) (drR [3, 13] [69] [71]) mixed (by kernel_rfl) (by kernel_rfl) (fun _ _ h => h) ?_)
    | (refine at_done (by simp only [List.filterMap_cons, List.filterMap_nil, List.getElem?_toArray, List.getElem?_cons_zero, List.getElem?_cons_succ]; exact rfl) ?_) | (refine at_alt (by simp only [List.filterMap_cons, List.filterMap_nil, List.getElem?_toArray, List.getElem?_cons_zero, List.getElem?_cons_succ]; exact rfl) ?_) | refine qalt_normal ?_ | refine ats_cons ?_ ?_ | exact ats_nil
    | ((with_reducible first | refine awN (tyOf_ok _) [] ?_ | refine awO (tyOf_ok _) [] ?_ | refine awP (tyOf_ok _) [] ?_ | refine awQ ?_ | refine awR ?_ | refine awS ?_ | refine awT ?_ | refine awU ?_); intro r hr; simp only [go_sem, Nat.reduceBEq, Nat.reduceBneDiff, Nat.reduceLT, Nat.reduceLeDiff, Nat.reduceAdd, Nat.reduceMul, Nat.reduceSub, Nat.reduceEqDiff, reduceCtorEq, hgt, zz, wrapU, hy, happ, hlo, hto, hwo, f3, encNs_len] at hr; subst hr; (first | refine caA (fun _ => hPK) rfl ?_ ?_ ?_ | refine awV ?_ ?_ | refine awW ?_ ?_ | refine endK ?_ ?_ | refine endGK ?_ ?_ ?_ | (refine condK (fun h => ?_) (fun h => ?_) <;> (try simp only [go_sem, reduceCtorEq] at h) <;> (try (exfalso; omega)))))
    | (refine go_callGd 71 rfl [(10, 10000), (23, 15000)] [(10000, 10), (15000, 23)] [23] [10] (by simp only [go_sem, Nat.reduceBEq, Nat.reduceBneDiff, Nat.reduceLT, Nat.reduceLeDiff, Nat.reduceAdd, Nat.reduceMul, Nat.reduceSub, Nat.reduceEqDiff, reduceCtorEq, hgt, zz, wrapU, hy, happ, hlo, hto, hwo, f3, encNs_len]; exact rfl) ?_ rfl rfl (by first | exact .inl rfl | exact .inr rfl) (by simp only [go_sem, Nat.reduceBEq, Nat.reduceBneDiff, Nat.reduceLT, Nat.reduceLeDiff, Nat.reduceAdd, Nat.reduceMul, Nat.reduceSub, Nat.reduceEqDiff, reduceCtorEq, hgt, zz, wrapU, hy, happ, hlo, hto, hwo, f3, encNs_len] <;> exact rfl) (hK) (.inl rfl) ?_) | fail)) <;> (try omega)
    all_goals exact ⟨(out ++ [x], (KT ++ L).reverse), by simp only [go_sem, Nat.reduceBEq, Nat.reduceBneDiff, Nat.reduceLT, Nat.reduceLeDiff, Nat.reduceAdd, Nat.reduceMul, Nat.reduceSub, Nat.reduceEqDiff, reduceCtorEq, hlo] <;> exact rfl, ⟨by simp only; omega, by simp only [List.length_reverse, List.length_append]; omega, KT ++ L, rfl, fun y hy => by rcases List.mem_append.1 hy with h | h; (· exact hel y h); exact hL y (.tail _ h), by simp only [hlo, List.append_assoc, List.singleton_append]; exact hFe⟩, by simp only; omega⟩
end Go.Proofs.YtfgacgpicfknpaaDoor
end
section
namespace Go.Proofs.YtfgacgpicfknpaaDoor
open Go.RowKit
set_option maxRecDepth 100000
set_option maxHeartbeats 8000000
/-! Lists of nodes are compared. -/
theorem equal04_refl (l : List NodeM) (hl : l.length ≤ 1000000000) : PCall Tryd.prog 21 [.lst 3 (encNs l), .lst 3 (encNs l)] (fun r => r = vB true) := by
  refine go_fn (tyOf_ok _) Tryd.func21 rfl rfl (by rw [Tryd.results21]) Tryd.ntmps21 rfl fun E => ?_
  (repeat' (first
    | exact trivial
    | (with_reducible first | refine awA ?_ | refine awB ?_ | refine awC ?_ | refine awD ?_ | refine awE ?_ | refine awF ?_ | refine awG ?_ | refine awH ?_ | refine awI ?_ | refine awJ ?_ | refine awK ?_ | refine awL ?_ | refine awM (by decide) ?_)
    | (refine aw_draw (id := 6) (t := (.node [0, 1, 2, 3, 4, 5, 6, 7, 8] [])) (drR [] [20, 24] []) mixed (by kernel_rfl) (by kernel_rfl) (fun _ _ h => h) ?_)
    | (refine at_done (by simp only [List.filterMap_cons, List.filterMap_nil, List.getElem?_toArray, List.getElem?_cons_zero, List.getElem?_cons_succ]; exact rfl) ?_) | (refine at_alt (by simp only [List.filterMap_cons, List.filterMap_nil, List.getElem?_toArray, List.getElem?_cons_zero, List.getElem?_cons_succ]; exact rfl) ?_) | refine qalt_normal ?_ | refine ats_cons ?_ ?_ | exact ats_nil
    | ((with_reducible first | refine awN (tyOf_ok _) [] ?_ | refine awO (tyOf_ok _) [] ?_ | refine awP (tyOf_ok _) [] ?_ | refine awQ ?_ | refine awR ?_ | refine awS ?_); intro r hr; simp only [go_sem, Nat.reduceBEq, Nat.reduceBneDiff, Nat.reduceLT, Nat.reduceLeDiff, Nat.reduceAdd, Nat.reduceMul, Nat.reduceSub, Nat.reduceEqDiff, reduceCtorEq, encNs_len, ne_eq, not_true_eq_false, decide_false] at hr; subst hr; (first | refine awV ?_ ?_ | refine awW ?_ ?_ | refine endK ?_ ?_ | (refine condK (fun h => ?_) (fun h => ?_) <;> (try simp only [go_sem, reduceCtorEq] at h) <;> (try (exfalso; omega))))) | fail)) <;> (try omega)
  refine go_loop [0, 1, 5] [] (fun k : Nat => ⟨[(0, true, .lst 3 (encNs l)), (1, true, .lst 3 (encNs l)), (5, true, vI k)], []⟩) (fun k => k ≤ l.length) (fun k => l.length - k) 0 (by simp only [go_sem, Nat.reduceBEq, Nat.reduceBneDiff, Nat.reduceLT, Nat.reduceLeDiff, Nat.reduceAdd, Nat.reduceMul, Nat.reduceSub, Nat.reduceEqDiff, reduceCtorEq]; exact rfl) (Nat.zero_le _) ?_
  intro k hk
  have hw := wrap_i64 (n := (k : Int) + 1) (by omega)
  by_cases hlt : k < l.length
  · have e1 : ((k : Int) < l.length) = True := eq_true (by omega)
    have g1 := encNs_get hlt
    (repeat' (first
    | exact trivial
    | (with_reducible first | refine awA ?_ | refine awB ?_ | refine awC ?_ | refine awD ?_ | refine awE ?_ | refine awF ?_ | refine awG ?_ | refine awH ?_ | refine awI ?_ | refine awJ ?_ | refine awK ?_ | refine awL ?_ | refine awM (by decide) ?_)
    | (refine aw_draw (id := 6) (t := (.node [0, 1, 2, 3, 4, 5, 6, 7, 8] [])) (drR [] [20, 24] []) mixed (by kernel_rfl) (by kernel_rfl) (fun _ _ h => h) ?_)
    | (refine at_done (by simp only [List.filterMap_cons, List.filterMap_nil, List.getElem?_toArray, List.getElem?_cons_zero, List.getElem?_cons_succ]; exact rfl) ?_) | (refine at_alt (by simp only [List.filterMap_cons, List.filterMap_nil, List.getElem?_toArray, List.getElem?_cons_zero, List.getElem?_cons_succ]; exact rfl) ?_) | refine qalt_normal ?_ | refine ats_cons ?_ ?_ | exact ats_nil
    | ((with_reducible first | refine awN (tyOf_ok _) [] ?_ | refine awO (tyOf_ok _) [] ?_ | refine awP (tyOf_ok _) [] ?_ | refine awQ ?_ | refine awR ?_ | refine awS ?_); intro r hr; simp only [go_sem, Nat.reduceBEq, Nat.reduceBneDiff, Nat.reduceLT, Nat.reduceLeDiff, Nat.reduceAdd, Nat.reduceMul, Nat.reduceSub, Nat.reduceEqDiff, reduceCtorEq, encNs_len, hw, e1, g1, ne_eq, not_true_eq_false, decide_false, decide_true, Bool.and_self, Bool.not_true] at hr; subst hr; (first | refine awV ?_ ?_ | refine awW ?_ ?_ | refine endK ?_ ?_ | (refine condK (fun h => ?_) (fun h => ?_) <;> (try simp only [go_sem, reduceCtorEq] at h) <;> (try (exfalso; omega))))) | fail)) <;> (try omega)
    exact ⟨k + 1, by simp only [go_sem, Nat.reduceBEq, Nat.reduceBneDiff, Nat.reduceLT, Nat.reduceLeDiff, Nat.reduceAdd, Nat.reduceMul, Nat.reduceSub, Nat.reduceEqDiff, reduceCtorEq]; exact rfl, hlt, by omega⟩
  · have e1 : ((k : Int) < l.length) = False := eq_false (by omega)
    (repeat' (first
    | exact trivial
    | (with_reducible first | refine awA ?_ | refine awB ?_ | refine awC ?_ | refine awD ?_ | refine awE ?_ | refine awF ?_ | refine awG ?_ | refine awH ?_ | refine awI ?_ | refine awJ ?_ | refine awK ?_ | refine awL ?_ | refine awM (by decide) ?_)
    | (refine aw_draw (id := 6) (t := (.node [0, 1, 2, 3, 4, 5, 6, 7, 8] [])) (drR [] [20, 24] []) mixed (by kernel_rfl) (by kernel_rfl) (fun _ _ h => h) ?_)
    | (refine at_done (by simp only [List.filterMap_cons, List.filterMap_nil, List.getElem?_toArray, List.getElem?_cons_zero, List.getElem?_cons_succ]; exact rfl) ?_) | (refine at_alt (by simp only [List.filterMap_cons, List.filterMap_nil, List.getElem?_toArray, List.getElem?_cons_zero, List.getElem?_cons_succ]; exact rfl) ?_) | refine qalt_normal ?_ | refine ats_cons ?_ ?_ | exact ats_nil
    | ((with_reducible first | refine awN (tyOf_ok _) [] ?_ | refine awO (tyOf_ok _) [] ?_ | refine awP (tyOf_ok _) [] ?_ | refine awQ ?_ | refine awR ?_ | refine awS ?_); intro r hr; simp only [go_sem, Nat.reduceBEq, Nat.reduceBneDiff, Nat.reduceLT, Nat.reduceLeDiff, Nat.reduceAdd, Nat.reduceMul, Nat.reduceSub, Nat.reduceEqDiff, reduceCtorEq, encNs_len, hw, e1] at hr; subst hr; (first | refine awV ?_ ?_ | refine awW ?_ ?_ | refine endK ?_ ?_ | (refine condK (fun h => ?_) (fun h => ?_) <;> (try simp only [go_sem, reduceCtorEq] at h) <;> (try (exfalso; omega))))) | fail)) <;> (try omega)
    exact rfl
/-- typing.Some, read -/
theorem tSome_any (ts : List TypeM) (rs : List RootM) (hts : ts.length ≤ 1000000000) (hrs : rs.length ≤ 1000000000) (hp : ∀ t ∈ ts, t.parts.length ≤ 1000000000) (t : Int) (ps : List Int) (hps : ps.length ≤ 1000000000) :
    PCall Tryd.prog 19 [vSch ts rs, vI t, .lst 1 (v8 ps)] (fun r => r = .tup [.lst 3 (encNs (someF ts rs t ps).1), vI (someF ts rs t ps).2]) := by
  have h := (tSome_G ts rs hts hrs hp t ps hps).toP (by simp [AV.snapOK, AV.snapOK.snapOKL, lk, encNs_len])
  have hl : (encNs (someF ts rs t ps).1).take (someF ts rs t ps).1.length = encNs (someF ts rs t ps).1 := take_len (by rw [encNs_len]; exact Nat.le_refl _)
  simpa [AV.snap, AV.snap.snapL, lk, hl] using h
theorem tTypes_any (ts : List TypeM) (rs : List RootM) (hts : ts.length ≤ 1000000000) (hrs : rs.length ≤ 1000000000) (hp : ∀ t ∈ ts, t.parts.length ≤ 1000000000) (t : Int) (V : List NodeM) (hV : V.length ≤ 100000000) (hv : ∀ x ∈ V, nodeOK x)
    (c : Tr) (hc : (chkN V).1 = 0 → c.flat = V ∧ c.ok) :
    PCall Tryd.prog 12 [vSch ts rs, vI t, .lst 3 (encNs V)] (fun r => r = .tup [.lst 1 (v8 (typesF ts rs t V c).1), .agg [vI (typesF ts rs t V c).2.1, vI (typesF ts rs t V c).2.2]]) := by
  have h := (tTypes_G ts rs hts hrs hp t V hV hv c hc).toP (by simp [AV.snapOK, AV.snapOK.snapOKL, lk, v8_len])
  have hl : (v8 (typesF ts rs t V c).1).take (typesF ts rs t V c).1.length = v8 (typesF ts rs t V c).1 := take_len (by rw [v8_len]; exact Nat.le_refl _)
  simpa [AV.snap, AV.snap.snapL, lk, hl] using h
end Go.Proofs.YtfgacgpicfknpaaDoor
end
section
namespace Go.Proofs.YtfgacgpicfknpaaDoor
open Go.RowKit
set_option maxRecDepth 100000
set_option maxHeartbeats 8000000
/-! Small functions of the statements of layer 11; a schema of its first types, parts and roots. -/
theorem UpLL.rfl' : ∀ l : List (List AV), UpLL l l
  | [] => .nil
  | x :: l => .cons (go x) (UpLL.rfl' l)
where go : ∀ x : List AV, UpL x x
  | [] => .nil
  | a :: x => .cons (.rfl a) (go x)
abbrev nilS : AV := .v (.slice none 0 0)
theorem num11_any (e : Int) : PCall Tryd.prog 24 [vI e] (fun r => r = vI e) := by
  refine go_fn (tyOf_ok _) Tryd.func24 rfl rfl (by rw [Tryd.results24]) Tryd.ntmps24 rfl fun E => ?_
  (repeat' (first
    | exact trivial
    | (with_reducible first | refine awA ?_ | refine awB ?_ | refine awC ?_ | refine awD ?_ | refine awE ?_ | refine awF ?_ | refine awG ?_ | refine awH ?_ | refine awI ?_ | refine awJ ?_ | refine awK ?_ | refine awL ?_ | refine awM (by decide) ?_)
    | ((with_reducible first | refine awN (tyOf_ok _) [] ?_ | refine awO (tyOf_ok _) [] ?_ | refine awP (tyOf_ok _) [] ?_ | refine awQ ?_ | refine awR ?_ | refine awS ?_); intro r hr; simp only [go_sem, Nat.reduceBEq, Nat.reduceBneDiff, Nat.reduceLT, Nat.reduceLeDiff, Nat.reduceAdd, Nat.reduceMul, Nat.reduceSub, Nat.reduceEqDiff, reduceCtorEq] at hr; subst hr; (first | refine awV ?_ ?_ | refine awW ?_ ?_ | refine endK ?_ ?_ | (refine condK (fun h => ?_) (fun h => ?_) <;> (try simp only [go_sem, reduceCtorEq] at h) <;> (try (exfalso; omega))))) | fail)) <;> (try omega)
  exact rfl
theorem sameInts11_any (xs ys : List Int) (hx : xs.length ≤ 4611686018427387904) : PCall Tryd.prog 14 [.lst 1 (v8 xs), .lst 1 (v8 ys)] (fun r => r = .v (.bool (decide (xs = ys)))) := by
  refine go_fn (tyOf_ok _) Tryd.func14 rfl rfl (by rw [Tryd.results14]) Tryd.ntmps14 rfl fun E => ?_
  (repeat' (first
    | exact trivial
    | (with_reducible first | refine awA ?_ | refine awB ?_ | refine awC ?_ | refine awD ?_ | refine awE ?_ | refine awF ?_ | refine awG ?_ | refine awH ?_ | refine awI ?_ | refine awJ ?_ | refine awK ?_ | refine awL ?_ | refine awM (by decide) ?_)
    | (refine aw_draw (id := 6) (t := (.node [0, 1, 2, 3, 4, 5, 6, 7, 8] [])) (drR [] [20, 24] []) mixed (by kernel_rfl) (by kernel_rfl) (fun _ _ h => h) ?_)
    | (refine at_done (by simp only [List.filterMap_cons, List.filterMap_nil, List.getElem?_toArray, List.getElem?_cons_zero, List.getElem?_cons_succ]; exact rfl) ?_) | (refine at_alt (by simp only [List.filterMap_cons, List.filterMap_nil, List.getElem?_toArray, List.getElem?_cons_zero, List.getElem?_cons_succ]; exact rfl) ?_) | refine qalt_normal ?_ | refine ats_cons ?_ ?_ | exact ats_nil
    | ((with_reducible first | refine awN (tyOf_ok _) [] ?_ | refine awO (tyOf_ok _) [] ?_ | refine awP (tyOf_ok _) [] ?_ | refine awQ ?_ | refine awR ?_ | refine awS ?_); intro r hr; simp only [go_sem, Nat.reduceBEq, Nat.reduceBneDiff, Nat.reduceLT, Nat.reduceLeDiff, Nat.reduceAdd, Nat.reduceMul, Nat.reduceSub, Nat.reduceEqDiff, reduceCtorEq, v8_len] at hr; subst hr; (first | refine awV ?_ ?_ | refine awW ?_ ?_ | refine endK ?_ ?_ | (refine condK (fun h => ?_) (fun h => ?_) <;> (try simp only [go_sem, reduceCtorEq] at h) <;> (try (exfalso; omega))))) | fail)) <;> (try omega)
  · show AV.v _ = AV.v _
    rw [decide_eq_false (fun e => h (by rw [e]))]
  refine go_loop [0, 1, 5] [] (fun k : Nat => ⟨[(0, true, .lst 1 (v8 xs)), (1, true, .lst 1 (v8 ys)), (5, true, .v (.int .i64 k))], []⟩) (fun k => k ≤ xs.length ∧ xs.take k = ys.take k) (fun k => xs.length - k) 0 (by simp only [go_sem, Nat.reduceBEq, Nat.reduceBneDiff, Nat.reduceLT, Nat.reduceLeDiff, Nat.reduceAdd, Nat.reduceMul, Nat.reduceSub, Nat.reduceEqDiff, reduceCtorEq]; exact rfl) ⟨Nat.zero_le _, rfl⟩ ?_
  intro k ⟨hk, heq⟩
  have hl : xs.length = ys.length := by omega
  have hw := wrap_i64 (n := (k : Int) + 1) (by omega)
  by_cases hlt : k < xs.length
  · have g1 := v8_get hlt
    have g2 := v8_get (zs := ys) (k := k) (by omega)
    (repeat' (first
    | exact trivial
    | (with_reducible first | refine awA ?_ | refine awB ?_ | refine awC ?_ | refine awD ?_ | refine awE ?_ | refine awF ?_ | refine awG ?_ | refine awH ?_ | refine awI ?_ | refine awJ ?_ | refine awK ?_ | refine awL ?_ | refine awM (by decide) ?_)
    | (refine aw_draw (id := 6) (t := (.node [0, 1, 2, 3, 4, 5, 6, 7, 8] [])) (drR [] [20, 24] []) mixed (by kernel_rfl) (by kernel_rfl) (fun _ _ h => h) ?_)
    | (refine at_done (by simp only [List.filterMap_cons, List.filterMap_nil, List.getElem?_toArray, List.getElem?_cons_zero, List.getElem?_cons_succ]; exact rfl) ?_) | (refine at_alt (by simp only [List.filterMap_cons, List.filterMap_nil, List.getElem?_toArray, List.getElem?_cons_zero, List.getElem?_cons_succ]; exact rfl) ?_) | refine qalt_normal ?_ | refine ats_cons ?_ ?_ | exact ats_nil
    | ((with_reducible first | refine awN (tyOf_ok _) [] ?_ | refine awO (tyOf_ok _) [] ?_ | refine awP (tyOf_ok _) [] ?_ | refine awQ ?_ | refine awR ?_ | refine awS ?_); intro r hr; simp only [go_sem, Nat.reduceBEq, Nat.reduceBneDiff, Nat.reduceLT, Nat.reduceLeDiff, Nat.reduceAdd, Nat.reduceMul, Nat.reduceSub, Nat.reduceEqDiff, reduceCtorEq, v8_len, g1, g2, hw] at hr; subst hr; (first | refine awV ?_ ?_ | refine awW ?_ ?_ | refine endK ?_ ?_ | (refine condK (fun h => ?_) (fun h => ?_) <;> (try simp only [go_sem, reduceCtorEq] at h) <;> (try (exfalso; omega))))) | fail)) <;> (try omega)
    · show AV.v _ = AV.v _
      rw [decide_eq_false (fun e => by subst e; exact h rfl)]
    · refine ⟨k + 1, by simp only [go_sem, Nat.reduceBEq, Nat.reduceBneDiff, Nat.reduceLT, Nat.reduceLeDiff, Nat.reduceAdd, Nat.reduceMul, Nat.reduceSub, Nat.reduceEqDiff, reduceCtorEq]; exact rfl, ⟨by omega, ?_⟩, by omega⟩
      rw [List.take_succ_eq_append_getElem hlt, List.take_succ_eq_append_getElem (by omega), heq]
      simp_all
  · (repeat' (first
    | exact trivial
    | (with_reducible first | refine awA ?_ | refine awB ?_ | refine awC ?_ | refine awD ?_ | refine awE ?_ | refine awF ?_ | refine awG ?_ | refine awH ?_ | refine awI ?_ | refine awJ ?_ | refine awK ?_ | refine awL ?_ | refine awM (by decide) ?_)
    | (refine aw_draw (id := 6) (t := (.node [0, 1, 2, 3, 4, 5, 6, 7, 8] [])) (drR [] [20, 24] []) mixed (by kernel_rfl) (by kernel_rfl) (fun _ _ h => h) ?_)
    | (refine at_done (by simp only [List.filterMap_cons, List.filterMap_nil, List.getElem?_toArray, List.getElem?_cons_zero, List.getElem?_cons_succ]; exact rfl) ?_) | (refine at_alt (by simp only [List.filterMap_cons, List.filterMap_nil, List.getElem?_toArray, List.getElem?_cons_zero, List.getElem?_cons_succ]; exact rfl) ?_) | refine qalt_normal ?_ | refine ats_cons ?_ ?_ | exact ats_nil
    | ((with_reducible first | refine awN (tyOf_ok _) [] ?_ | refine awO (tyOf_ok _) [] ?_ | refine awP (tyOf_ok _) [] ?_ | refine awQ ?_ | refine awR ?_ | refine awS ?_); intro r hr; simp only [go_sem, Nat.reduceBEq, Nat.reduceBneDiff, Nat.reduceLT, Nat.reduceLeDiff, Nat.reduceAdd, Nat.reduceMul, Nat.reduceSub, Nat.reduceEqDiff, reduceCtorEq, v8_len, hw] at hr; subst hr; (first | refine awV ?_ ?_ | refine awW ?_ ?_ | refine endK ?_ ?_ | (refine condK (fun h => ?_) (fun h => ?_) <;> (try simp only [go_sem, reduceCtorEq] at h) <;> (try (exfalso; omega))))) | fail)) <;> (try omega)
    show AV.v _ = AV.v _
    rw [take_len (by omega), take_len (by omega)] at heq
    rw [decide_eq_true heq]
theorem rest_eq (n m : Int) (hm : 1 ≤ m) : (n.tmod m + m).tmod m = n % m ∧ -m < n.tmod m ∧ n.tmod m < m := by
  have h1 := Int.tmod_lt_of_pos n (show 0 < m by omega)
  have h2 := Int.lt_tmod_of_pos n (show 0 < m by omega)
  refine ⟨?_, h2, h1⟩
  rw [Int.tmod_eq_emod_of_nonneg (by omega), Int.tmod_def]
  rw [Int.add_emod_right, Int.sub_mul_emod_self_left]
theorem rest11_any (n m : Int) (hn : I64 n) (hm : 1 ≤ m ∧ m ≤ 4611686018427387904) : PCall Tryd.prog 26 [vI n, vI m] (fun r => r = vI (n % m)) := by
  refine go_fn (tyOf_ok _) Tryd.func26 rfl rfl (by rw [Tryd.results26]) Tryd.ntmps26 rfl fun E => ?_
  have e1 : (m = 0) = False := eq_false (by omega)
  obtain ⟨h1, h2, h3⟩ := rest_eq n m hm.1
  have hw := wrap_i64 (n := n.tmod m + m) (by omega)
  (repeat' (first
    | exact trivial
    | (with_reducible first | refine awA ?_ | refine awB ?_ | refine awC ?_ | refine awD ?_ | refine awE ?_ | refine awF ?_ | refine awG ?_ | refine awH ?_ | refine awI ?_ | refine awJ ?_ | refine awK ?_ | refine awL ?_ | refine awM (by decide) ?_)
    | ((with_reducible first | refine awN (tyOf_ok _) [] ?_ | refine awO (tyOf_ok _) [] ?_ | refine awP (tyOf_ok _) [] ?_ | refine awQ ?_ | refine awR ?_ | refine awS ?_); intro r hr; simp only [go_sem, Nat.reduceBEq, Nat.reduceBneDiff, Nat.reduceLT, Nat.reduceLeDiff, Nat.reduceAdd, Nat.reduceMul, Nat.reduceSub, Nat.reduceEqDiff, reduceCtorEq, e1, hw, h1] at hr; subst hr; (first | refine awV ?_ ?_ | refine awW ?_ ?_ | refine endK ?_ ?_ | (refine condK (fun h => ?_) (fun h => ?_) <;> (try simp only [go_sem, reduceCtorEq] at h) <;> (try (exfalso; omega))))) | fail)) <;> (try omega)
  exact rfl
def cutP (t : TypeM) : TypeM := ⟨t.kind, t.n, t.elem, t.parts.take 70⟩
def cutT (ts : List TypeM) : List TypeM := (ts.take 120).map cutP
theorem cutT_len (ts : List TypeM) : (cutT ts).length = min 120 ts.length := by simp [cutT]
theorem cutT_mem {ts : List TypeM} {t : TypeM} (h : t ∈ cutT ts) : ∃ u ∈ ts, t = cutP u := by
  obtain ⟨u, hu, rfl⟩ := List.mem_map.1 h
  exact ⟨u, List.mem_of_mem_take hu, rfl⟩
theorem cutT_parts {ts : List TypeM} : ∀ t ∈ cutT ts, t.parts.length ≤ 70 := fun t h => by
  obtain ⟨u, _, rfl⟩ := cutT_mem h
  simp [cutP]; omega
theorem encPs_take (l : List PartM) (n : Nat) : (encPs l).take n = encPs (l.take n) := by simp [encPs]
theorem encRs_take (l : List RootM) (n : Nat) : (encRs l).take n = encRs (l.take n) := by simp [encRs]
theorem encTs_take (l : List TypeM) (n : Nat) : (encTs l).take n = encTs (l.take n) := by simp [encTs]
theorem encTs_app (l : List TypeM) (t : TypeM) : encTs l ++ [[vI t.kind, vI t.n, vI t.elem, .lst 3 (encPs t.parts)]] = encTs (l ++ [t]) := by simp [encTs, encT]
def cutV (d1 d2 : Nat) (ts : List TypeM) (rs : List RootM) : AV := .agg [.ref 66 4 d1 0 (cutT ts).length, .ref 70 2 d2 0 (rs.take 260).length]
def cutO (d1 d2 : Nat) (ts : List TypeM) (rs : List RootM) : List (Nat × AObj) := [(d1, .row 66 4 (encTs (cutT ts))), (d2, .row 70 2 (encRs (rs.take 260)))]
theorem cut11_G (ts : List TypeM) (rs : List RootM) (hts : ts.length ≤ 1000000000) (hrs : rs.length ≤ 1000000000) (hp : ∀ t ∈ ts, t.parts.length ≤ 1000000000) :
    GCall Tryd.prog 9 [vSch ts rs] [] (cutV 8000 8001 ts rs) (cutO 8000 8001 ts rs) := by
  refine go_fnG (tyOf_ok _) Tryd.func9 rfl rfl (by rw [Tryd.results9]) Tryd.ntmps9 rfl fun E => ?_
  (repeat' (first
    | exact trivial
    | (refine aw_nilvar 3 0 66 4 8000 (cs := [nilS, _]) (.inl (by decide)) (by decide) rfl rfl ?_)
    | (refine aw_nilvar 3 1 70 2 8001 (cs := [_, nilS]) (.inl (by decide)) (by decide) rfl rfl ?_)
    | (with_reducible first | refine awA ?_ | refine awB ?_ | refine awC ?_ | refine awD ?_ | refine awE ?_ | refine awF ?_ | refine awG ?_ | refine awH ?_ | refine awI ?_ | refine awJ ?_ | refine awK ?_ | refine awL ?_ | refine awM (by decide) ?_)
    | (refine aw_draw (id := 9) (t := (.node [0, 1, 2, 3, 4, 5, 6, 7, 8, 9, 10, 11] [])) (drR [1] [37] []) mixed (by kernel_rfl) (by kernel_rfl) (fun _ _ h => h) ?_)
    | (refine at_done (by simp only [List.filterMap_cons, List.filterMap_nil, List.getElem?_toArray, List.getElem?_cons_zero, List.getElem?_cons_succ]; exact rfl) ?_) | (refine at_alt (by simp only [List.filterMap_cons, List.filterMap_nil, List.getElem?_toArray, List.getElem?_cons_zero, List.getElem?_cons_succ]; exact rfl) ?_) | refine qalt_normal ?_ | refine ats_cons ?_ ?_ | exact ats_nil
    | ((with_reducible first | refine awN (tyOf_ok _) [] ?_ | refine awO (tyOf_ok _) [] ?_ | refine awP (tyOf_ok _) [] ?_ | refine awQ ?_ | refine awR ?_ | refine awS ?_ | refine awT ?_ | refine awU ?_); intro r hr; simp only [go_sem, Nat.reduceBEq, Nat.reduceBneDiff, Nat.reduceLT, Nat.reduceLeDiff, Nat.reduceAdd, Nat.reduceMul, Nat.reduceSub, Nat.reduceEqDiff, reduceCtorEq, AState.nilvar, List.set_cons_succ, List.set_cons_zero, vSch] at hr; subst hr; (first | refine awV ?_ ?_ | refine awW ?_ ?_ | refine endK ?_ ?_ | refine endGK ?_ ?_ ?_ | (refine condK (fun h => ?_) (fun h => ?_) <;> (try simp only [go_sem, reduceCtorEq] at h) <;> (try (exfalso; omega))))) | fail)) <;> (try omega)
  refine go_loop [1, 2, 3, 4] [1, 2, 3, 8000, 8001] (fun k : Nat => ⟨[(1, true, .ptr 1 1 0 0), (2, true, .ptr 1 2 0 0), (3, true, .ptr 1 3 0 0), (4, true, vI k)],
    [(1, .var [.lst 4 (encTs ts), .lst 2 (encRs rs)]), (2, .var [nilS, nilS]), (3, .var [.ref 66 4 8000 0 k, .ref 70 2 8001 0 0]), (8000, .row 66 4 (encTs ((ts.take k).map cutP))), (8001, .row 70 2 [])]⟩)
    (fun k => k ≤ ts.length ∧ k ≤ 120) (fun k => ts.length - k) 0 (by simp only [AState.nilvar, go_sem, Nat.reduceBEq, Nat.reduceBneDiff, Nat.reduceLT, Nat.reduceLeDiff, Nat.reduceAdd, Nat.reduceMul, Nat.reduceSub, Nat.reduceEqDiff, reduceCtorEq]; exact rfl) ⟨Nat.zero_le _, by decide⟩ ?_
  intro k ⟨hk, hk2⟩
  have hw1 := wrap_i64 (n := (k : Int) + 1) (by omega)
  have hlk : (encTs ((ts.take k).map cutP)).length = k := by rw [encTs_len]; simp; omega
  have htk : (encTs ((ts.take k).map cutP)).take k = encTs ((ts.take k).map cutP) := take_len (by omega)
  by_cases hlt : k < ts.length ∧ k < 120
  · obtain ⟨hlt, h120⟩ := hlt
    have e1 : ((k : Int) < ts.length) = True := eq_true (by omega)
    have e2 : ((k : Int) < 120) = True := eq_true (by omega)
    have g1 := encTs_get hlt
    have hlk1 : (encTs ((ts.take (k + 1)).map cutP)).length = k + 1 := by rw [encTs_len]; simp; omega
    have hnext : encTs ((ts.take k).map cutP) ++ [[vI ts[k].kind, vI ts[k].n, vI ts[k].elem, .lst 3 (encPs (ts[k].parts.take 70))]] = encTs ((ts.take (k + 1)).map cutP) := by
      rw [List.take_succ_eq_append_getElem hlt, List.map_append]
      exact encTs_app _ (cutP ts[k])
    by_cases h70 : 70 < ts[k].parts.length
    · have e3 : (70 < (ts[k].parts.length : Int)) = True := eq_true (by omega)
      (repeat' (first
    | exact trivial
    | (with_reducible first | refine awA ?_ | refine awB ?_ | refine awC ?_ | refine awD ?_ | refine awE ?_ | refine awF ?_ | refine awG ?_ | refine awH ?_ | refine awI ?_ | refine awJ ?_ | refine awK ?_ | refine awL ?_ | refine awM (by decide) ?_)
    | (refine aw_draw (id := 9) (t := (.node [0, 1, 2, 3, 4, 5, 6, 7, 8, 9, 10, 11] [])) (drR [1] [37] []) mixed (by kernel_rfl) (by kernel_rfl) (fun _ _ h => h) ?_)
    | (refine at_done (by simp only [List.filterMap_cons, List.filterMap_nil, List.getElem?_toArray, List.getElem?_cons_zero, List.getElem?_cons_succ]; exact rfl) ?_) | (refine at_alt (by simp only [List.filterMap_cons, List.filterMap_nil, List.getElem?_toArray, List.getElem?_cons_zero, List.getElem?_cons_succ]; exact rfl) ?_) | refine qalt_normal ?_ | refine ats_cons ?_ ?_ | exact ats_nil
    | ((with_reducible first | refine awN (tyOf_ok _) [] ?_ | refine awO (tyOf_ok _) [] ?_ | refine awP (tyOf_ok _) [] ?_ | refine awQ ?_ | refine awR ?_ | refine awS ?_ | refine awT ?_ | refine awU ?_); intro r hr; simp only [go_sem, Nat.reduceBEq, Nat.reduceBneDiff, Nat.reduceLT, Nat.reduceLeDiff, Nat.reduceAdd, Nat.reduceMul, Nat.reduceSub, Nat.reduceEqDiff, reduceCtorEq, encTs_len, hw1, hlk, htk, e1, e2, g1, e3, encPs_take, hnext, hlk1, Int.reduceToNat] at hr; subst hr; (first | refine awV ?_ ?_ | refine awW ?_ ?_ | refine endK ?_ ?_ | refine endGK ?_ ?_ ?_ | (refine condK (fun h => ?_) (fun h => ?_) <;> (try simp only [go_sem, reduceCtorEq] at h) <;> (try (exfalso; omega))))) | fail)) <;> (try omega)
      exact ⟨k + 1, by simp only [go_sem, Nat.reduceBEq, Nat.reduceBneDiff, Nat.reduceLT, Nat.reduceLeDiff, Nat.reduceAdd, Nat.reduceMul, Nat.reduceSub, Nat.reduceEqDiff, reduceCtorEq]; exact rfl, ⟨by omega, by omega⟩, by omega⟩
    · have e3 : (70 < (ts[k].parts.length : Int)) = False := eq_false (by omega)
      rw [take_len (by omega : ts[k].parts.length ≤ 70)] at hnext
      (repeat' (first
    | exact trivial
    | (with_reducible first | refine awA ?_ | refine awB ?_ | refine awC ?_ | refine awD ?_ | refine awE ?_ | refine awF ?_ | refine awG ?_ | refine awH ?_ | refine awI ?_ | refine awJ ?_ | refine awK ?_ | refine awL ?_ | refine awM (by decide) ?_)
    | (refine aw_draw (id := 9) (t := (.node [0, 1, 2, 3, 4, 5, 6, 7, 8, 9, 10, 11] [])) (drR [1] [37] []) mixed (by kernel_rfl) (by kernel_rfl) (fun _ _ h => h) ?_)
    | (refine at_done (by simp only [List.filterMap_cons, List.filterMap_nil, List.getElem?_toArray, List.getElem?_cons_zero, List.getElem?_cons_succ]; exact rfl) ?_) | (refine at_alt (by simp only [List.filterMap_cons, List.filterMap_nil, List.getElem?_toArray, List.getElem?_cons_zero, List.getElem?_cons_succ]; exact rfl) ?_) | refine qalt_normal ?_ | refine ats_cons ?_ ?_ | exact ats_nil
    | ((with_reducible first | refine awN (tyOf_ok _) [] ?_ | refine awO (tyOf_ok _) [] ?_ | refine awP (tyOf_ok _) [] ?_ | refine awQ ?_ | refine awR ?_ | refine awS ?_ | refine awT ?_ | refine awU ?_); intro r hr; simp only [go_sem, Nat.reduceBEq, Nat.reduceBneDiff, Nat.reduceLT, Nat.reduceLeDiff, Nat.reduceAdd, Nat.reduceMul, Nat.reduceSub, Nat.reduceEqDiff, reduceCtorEq, encTs_len, hw1, hlk, htk, e1, e2, g1, e3, encPs_take, hnext, hlk1, Int.reduceToNat] at hr; subst hr; (first | refine awV ?_ ?_ | refine awW ?_ ?_ | refine endK ?_ ?_ | refine endGK ?_ ?_ ?_ | (refine condK (fun h => ?_) (fun h => ?_) <;> (try simp only [go_sem, reduceCtorEq] at h) <;> (try (exfalso; omega))))) | fail)) <;> (try omega)
      exact ⟨k + 1, by simp only [go_sem, Nat.reduceBEq, Nat.reduceBneDiff, Nat.reduceLT, Nat.reduceLeDiff, Nat.reduceAdd, Nat.reduceMul, Nat.reduceSub, Nat.reduceEqDiff, reduceCtorEq]; exact rfl, ⟨by omega, by omega⟩, by omega⟩
  · have hmin : ((min (rs.length : Int) 260)).toNat = min 260 rs.length := by omega
    have hR : rs.take (min 260 rs.length) = rs.take 260 := List.take_eq_take_iff.2 (by omega)
    have hke : k = (cutT ts).length := by rw [cutT_len]; omega
    have hcu : (ts.take k).map cutP = cutT ts := by rw [cutT, List.take_eq_take_iff.2 (show min k ts.length = min 120 ts.length by omega)]
    rw [hcu] at hlk htk
    rw [hcu]
    by_cases h1 : k < ts.length
    · have e1 : ((k : Int) < ts.length) = True := eq_true (by omega)
      have e2 : ((k : Int) < 120) = False := eq_false (by omega)
      (repeat' (first
    | exact trivial
    | (with_reducible first | refine awA ?_ | refine awB ?_ | refine awC ?_ | refine awD ?_ | refine awE ?_ | refine awF ?_ | refine awG ?_ | refine awH ?_ | refine awI ?_ | refine awJ ?_ | refine awK ?_ | refine awL ?_ | refine awM (by decide) ?_)
    | (refine aw_draw (id := 9) (t := (.node [0, 1, 2, 3, 4, 5, 6, 7, 8, 9, 10, 11] [])) (drR [1] [37] []) mixed (by kernel_rfl) (by kernel_rfl) (fun _ _ h => h) ?_)
    | (refine at_done (by simp only [List.filterMap_cons, List.filterMap_nil, List.getElem?_toArray, List.getElem?_cons_zero, List.getElem?_cons_succ]; exact rfl) ?_) | (refine at_alt (by simp only [List.filterMap_cons, List.filterMap_nil, List.getElem?_toArray, List.getElem?_cons_zero, List.getElem?_cons_succ]; exact rfl) ?_) | refine qalt_normal ?_ | refine ats_cons ?_ ?_ | exact ats_nil
    | ((with_reducible first | refine awN (tyOf_ok _) [] ?_ | refine awO (tyOf_ok _) [] ?_ | refine awP (tyOf_ok _) [] ?_ | refine awQ ?_ | refine awR ?_ | refine awS ?_ | refine awT ?_ | refine awU ?_); intro r hr; simp only [go_sem, Nat.reduceBEq, Nat.reduceBneDiff, Nat.reduceLT, Nat.reduceLeDiff, Nat.reduceAdd, Nat.reduceMul, Nat.reduceSub, Nat.reduceEqDiff, reduceCtorEq, encTs_len, encRs_len, hw1, hlk, htk, e1, e2, encRs_take, hmin, hR, Int.toNat_zero, List.drop_zero] at hr; subst hr; (first | refine awV ?_ ?_ | refine awW ?_ ?_ | refine endK ?_ ?_ | refine endGK ?_ ?_ ?_ | (refine condK (fun h => ?_) (fun h => ?_) <;> (try simp only [go_sem, reduceCtorEq] at h) <;> (try (exfalso; omega))))) | fail)) <;> (try omega)
      · simp only [List.length_take]; omega
      · rw [cutV, ← hke]; exact AV.up_rfl _
      · exact obUp_cons rfl (obUp_cons rfl obUp_nil)
    · have e1 : ((k : Int) < ts.length) = False := eq_false (by omega)
      (repeat' (first
    | exact trivial
    | (with_reducible first | refine awA ?_ | refine awB ?_ | refine awC ?_ | refine awD ?_ | refine awE ?_ | refine awF ?_ | refine awG ?_ | refine awH ?_ | refine awI ?_ | refine awJ ?_ | refine awK ?_ | refine awL ?_ | refine awM (by decide) ?_)
    | (refine aw_draw (id := 9) (t := (.node [0, 1, 2, 3, 4, 5, 6, 7, 8, 9, 10, 11] [])) (drR [1] [37] []) mixed (by kernel_rfl) (by kernel_rfl) (fun _ _ h => h) ?_)
    | (refine at_done (by simp only [List.filterMap_cons, List.filterMap_nil, List.getElem?_toArray, List.getElem?_cons_zero, List.getElem?_cons_succ]; exact rfl) ?_) | (refine at_alt (by simp only [List.filterMap_cons, List.filterMap_nil, List.getElem?_toArray, List.getElem?_cons_zero, List.getElem?_cons_succ]; exact rfl) ?_) | refine qalt_normal ?_ | refine ats_cons ?_ ?_ | exact ats_nil
    | ((with_reducible first | refine awN (tyOf_ok _) [] ?_ | refine awO (tyOf_ok _) [] ?_ | refine awP (tyOf_ok _) [] ?_ | refine awQ ?_ | refine awR ?_ | refine awS ?_ | refine awT ?_ | refine awU ?_); intro r hr; simp only [go_sem, Nat.reduceBEq, Nat.reduceBneDiff, Nat.reduceLT, Nat.reduceLeDiff, Nat.reduceAdd, Nat.reduceMul, Nat.reduceSub, Nat.reduceEqDiff, reduceCtorEq, encTs_len, encRs_len, hw1, hlk, htk, e1, encRs_take, hmin, hR, Int.toNat_zero, List.drop_zero] at hr; subst hr; (first | refine awV ?_ ?_ | refine awW ?_ ?_ | refine endK ?_ ?_ | refine endGK ?_ ?_ ?_ | (refine condK (fun h => ?_) (fun h => ?_) <;> (try simp only [go_sem, reduceCtorEq] at h) <;> (try (exfalso; omega))))) | fail)) <;> (try omega)
      · simp only [List.length_take]; omega
      · rw [cutV, ← hke]; exact AV.up_rfl _
      · exact obUp_cons rfl (obUp_cons rfl obUp_nil)
end Go.Proofs.YtfgacgpicfknpaaDoor
end
section
namespace Go.Proofs.YtfgacgpicfknpaaDoor
open Go.RowKit
set_option maxRecDepth 100000
set_option maxHeartbeats 8000000
/-! mortiselaw11.tame: small picks. -/
/-- changed from the front -/
def mpf {α : Type} (f : α → α) (xs : List α) (i : Nat) : List α := (xs.take i).map f ++ xs.drop i
section
variable {α : Type} (f : α → α) {xs : List α}
theorem mpf_0 : mpf f xs 0 = xs := by simp [mpf]
theorem mpf_len (i : Nat) : (mpf f xs i).length = xs.length := by simp [mpf]; omega
theorem mpf_get {i : Nat} (h : i < xs.length) : (mpf f xs i)[i]? = some xs[i] := by
  rw [mpf, List.getElem?_append_right (by simp; omega), List.length_map, List.length_take, Nat.min_eq_left (by omega), Nat.sub_self, List.getElem?_drop]; simp [h]
theorem mpf_set {i : Nat} (h : i < xs.length) : (mpf f xs i).set i (f xs[i]) = mpf f xs (i + 1) := by
  apply List.ext_getElem?
  intro j
  rw [List.getElem?_set, mpf_len]
  by_cases hj : i = j
  · subst hj
    rw [if_pos rfl, if_pos h, mpf, List.getElem?_append_left (by simp; omega)]; simp [h]
  · rw [if_neg hj, mpf, mpf, List.getElem?_append, List.getElem?_append]
    simp only [List.length_map, List.length_take, List.getElem?_map, List.getElem?_take, List.getElem?_drop]
    by_cases h1 : j < i
    · rw [if_pos (by omega), if_pos (by omega), if_pos (by omega), if_pos (by omega)]
    · rw [if_neg (by omega), if_neg (by omega)]
      congr 1
      omega
theorem mpf_end {i : Nat} (h : xs.length ≤ i) : mpf f xs i = xs.map f := by simp [mpf, List.take_of_length_le h, List.drop_of_length_le h]
end
def mostF : List TypeM → Int → Int
  | [], m => m
  | T :: l, m => mostF l (if T.kind = 5 then max m T.n else m)
def tameF (ts : List TypeM) (ps : List Int) : List Int := if mostF ts 0 ≤ 40 then ps else ps.map (· % 40)
theorem tameF_len (ts : List TypeM) (ps : List Int) : (tameF ts ps).length = ps.length := by unfold tameF; split <;> simp
theorem v8_set (l : List Int) (k : Nat) (z : Int) : (v8 l).set k [vI z] = v8 (l.set k z) := by simp [v8, List.map_set]
theorem tame_G (ts : List TypeM) (rs : List RootM) (hts : ts.length ≤ 1000000000) (ps : List Int) (hps : ps.length ≤ 1000000000) :
    GCall Tryd.prog 18 [vSch ts rs, .ref 3 1 10000 0 ps.length] [(10000, .row 3 1 (v8 ps))] (.ref 3 1 10000 0 ps.length) [(10000, .row 3 1 (v8 (tameF ts ps)))] := by
  refine go_fnG (tyOf_ok _) Tryd.func18 rfl rfl (by rw [Tryd.results18]) Tryd.ntmps18 rfl fun E => ?_
  (repeat' (first
    | exact trivial
    | (with_reducible first | refine awA ?_ | refine awB ?_ | refine awC ?_ | refine awD ?_ | refine awE ?_ | refine awF ?_ | refine awG ?_ | refine awH ?_ | refine awI ?_ | refine awJ ?_ | refine awK ?_ | refine awL ?_ | refine awM (by decide) ?_)
    | ((with_reducible first | refine awN (tyOf_ok _) [] ?_ | refine awO (tyOf_ok _) [] ?_ | refine awP (tyOf_ok _) [] ?_ | refine awQ ?_ | refine awR ?_ | refine awS ?_ | refine awT ?_ | refine awU ?_); intro r hr; simp only [go_sem, Nat.reduceBEq, Nat.reduceBneDiff, Nat.reduceLT, Nat.reduceLeDiff, Nat.reduceAdd, Nat.reduceMul, Nat.reduceSub, Nat.reduceEqDiff, reduceCtorEq, vSch] at hr; subst hr; (first | refine awV ?_ ?_ | refine awW ?_ ?_ | refine endK ?_ ?_ | refine endGK ?_ ?_ ?_ | (refine condK (fun h => ?_) (fun h => ?_) <;> (try simp only [go_sem, reduceCtorEq] at h) <;> (try (exfalso; omega))))) | fail)) <;> (try omega)
  refine go_loop [1, 2, 4, 5, 6] [2, 10000] (fun q : Nat × Int => ⟨[(1, true, .ref 3 1 10000 0 ps.length), (2, true, .ptr 1 2 0 0), (4, true, nilS0), (5, true, vI q.2), (6, true, vI q.1)], [(2, .var [.lst 4 (encTs ts), .lst 2 (encRs rs)]), (10000, .row 3 1 (v8 ps))]⟩)
    (fun q => q.1 ≤ ts.length ∧ mostF (ts.drop q.1) q.2 = mostF ts 0) (fun q => ts.length - q.1) (0, 0) (by simp only [go_sem, Nat.reduceBEq, Nat.reduceBneDiff, Nat.reduceLT, Nat.reduceLeDiff, Nat.reduceAdd, Nat.reduceMul, Nat.reduceSub, Nat.reduceEqDiff, reduceCtorEq]; exact rfl) ⟨Nat.zero_le _, rfl⟩ ?_
  intro ⟨k, m⟩ ⟨hk, hm⟩
  simp only at hk hm
  have hw1 := wrap_i64 (n := (k : Int) + 1) (by omega)
  by_cases hlt : k < ts.length
  · have e1 : ((k : Int) < ts.length) = True := eq_true (by omega)
    have g1 := encTs_get hlt
    rw [List.drop_eq_getElem_cons hlt, mostF] at hm
    generalize ts[k] = T at *
    by_cases h5 : T.kind = 5
    · rw [if_pos h5] at hm
      (repeat' (first
    | exact trivial
    | (with_reducible first | refine awA ?_ | refine awB ?_ | refine awC ?_ | refine awD ?_ | refine awE ?_ | refine awF ?_ | refine awG ?_ | refine awH ?_ | refine awI ?_ | refine awJ ?_ | refine awK ?_ | refine awL ?_ | refine awM (by decide) ?_)
    | ((with_reducible first | refine awN (tyOf_ok _) [] ?_ | refine awO (tyOf_ok _) [] ?_ | refine awP (tyOf_ok _) [] ?_ | refine awQ ?_ | refine awR ?_ | refine awS ?_ | refine awT ?_ | refine awU ?_); intro r hr; simp only [go_sem, Nat.reduceBEq, Nat.reduceBneDiff, Nat.reduceLT, Nat.reduceLeDiff, Nat.reduceAdd, Nat.reduceMul, Nat.reduceSub, Nat.reduceEqDiff, reduceCtorEq, encTs_len, hw1, e1, g1, h5] at hr; subst hr; (first | refine awV ?_ ?_ | refine awW ?_ ?_ | refine endK ?_ ?_ | refine endGK ?_ ?_ ?_ | (refine condK (fun h => ?_) (fun h => ?_) <;> (try simp only [go_sem, reduceCtorEq] at h) <;> (try (exfalso; omega))))) | fail)) <;> (try omega)
      exact ⟨(k + 1, max m T.n), by simp only [go_sem, Nat.reduceBEq, Nat.reduceBneDiff, Nat.reduceLT, Nat.reduceLeDiff, Nat.reduceAdd, Nat.reduceMul, Nat.reduceSub, Nat.reduceEqDiff, reduceCtorEq] <;> exact rfl, ⟨hlt, hm⟩, by simp only; omega⟩
    · rw [if_neg h5] at hm
      have e5 : (T.kind = 5) = False := eq_false h5
      (repeat' (first
    | exact trivial
    | (with_reducible first | refine awA ?_ | refine awB ?_ | refine awC ?_ | refine awD ?_ | refine awE ?_ | refine awF ?_ | refine awG ?_ | refine awH ?_ | refine awI ?_ | refine awJ ?_ | refine awK ?_ | refine awL ?_ | refine awM (by decide) ?_)
    | ((with_reducible first | refine awN (tyOf_ok _) [] ?_ | refine awO (tyOf_ok _) [] ?_ | refine awP (tyOf_ok _) [] ?_ | refine awQ ?_ | refine awR ?_ | refine awS ?_ | refine awT ?_ | refine awU ?_); intro r hr; simp only [go_sem, Nat.reduceBEq, Nat.reduceBneDiff, Nat.reduceLT, Nat.reduceLeDiff, Nat.reduceAdd, Nat.reduceMul, Nat.reduceSub, Nat.reduceEqDiff, reduceCtorEq, encTs_len, hw1, e1, g1, e5] at hr; subst hr; (first | refine awV ?_ ?_ | refine awW ?_ ?_ | refine endK ?_ ?_ | refine endGK ?_ ?_ ?_ | (refine condK (fun h => ?_) (fun h => ?_) <;> (try simp only [go_sem, reduceCtorEq] at h) <;> (try (exfalso; omega))))) | fail)) <;> (try omega)
      exact ⟨(k + 1, m), by simp only [go_sem, Nat.reduceBEq, Nat.reduceBneDiff, Nat.reduceLT, Nat.reduceLeDiff, Nat.reduceAdd, Nat.reduceMul, Nat.reduceSub, Nat.reduceEqDiff, reduceCtorEq] <;> exact rfl, ⟨hlt, hm⟩, by simp only; omega⟩
  have e1 : ((k : Int) < ts.length) = False := eq_false (by omega)
  rw [List.drop_of_length_le (by omega), mostF] at hm
  unfold tameF
  rw [← hm]
  by_cases h40 : m ≤ 40
  · have e2 : (m ≤ 40) = True := eq_true h40
    rw [if_pos h40]
    (repeat' (first
    | exact trivial
    | (with_reducible first | refine awA ?_ | refine awB ?_ | refine awC ?_ | refine awD ?_ | refine awE ?_ | refine awF ?_ | refine awG ?_ | refine awH ?_ | refine awI ?_ | refine awJ ?_ | refine awK ?_ | refine awL ?_ | refine awM (by decide) ?_)
    | ((with_reducible first | refine awN (tyOf_ok _) [] ?_ | refine awO (tyOf_ok _) [] ?_ | refine awP (tyOf_ok _) [] ?_ | refine awQ ?_ | refine awR ?_ | refine awS ?_ | refine awT ?_ | refine awU ?_); intro r hr; simp only [go_sem, Nat.reduceBEq, Nat.reduceBneDiff, Nat.reduceLT, Nat.reduceLeDiff, Nat.reduceAdd, Nat.reduceMul, Nat.reduceSub, Nat.reduceEqDiff, reduceCtorEq, encTs_len, e1, e2, nilS0] at hr; subst hr; (first | refine awV ?_ ?_ | refine awW ?_ ?_ | refine endK ?_ ?_ | refine endGK ?_ ?_ ?_ | (refine condK (fun h => ?_) (fun h => ?_) <;> (try simp only [go_sem, reduceCtorEq] at h) <;> (try (exfalso; omega))))) | fail)) <;> (try omega)
    all_goals (first | exact AV.up_rfl _ | (repeat first | exact obUp_nil | refine obUp_cons rfl ?_))
  have e2 : (m ≤ 40) = False := eq_false h40
  rw [if_neg h40]
  (repeat' (first
    | exact trivial
    | (with_reducible first | refine awA ?_ | refine awB ?_ | refine awC ?_ | refine awD ?_ | refine awE ?_ | refine awF ?_ | refine awG ?_ | refine awH ?_ | refine awI ?_ | refine awJ ?_ | refine awK ?_ | refine awL ?_ | refine awM (by decide) ?_)
    | ((with_reducible first | refine awN (tyOf_ok _) [] ?_ | refine awO (tyOf_ok _) [] ?_ | refine awP (tyOf_ok _) [] ?_ | refine awQ ?_ | refine awR ?_ | refine awS ?_ | refine awT ?_ | refine awU ?_); intro r hr; simp only [go_sem, Nat.reduceBEq, Nat.reduceBneDiff, Nat.reduceLT, Nat.reduceLeDiff, Nat.reduceAdd, Nat.reduceMul, Nat.reduceSub, Nat.reduceEqDiff, reduceCtorEq, encTs_len, e1, e2, nilS0] at hr; subst hr; (first | refine awV ?_ ?_ | refine awW ?_ ?_ | refine endK ?_ ?_ | refine endGK ?_ ?_ ?_ | (refine condK (fun h => ?_) (fun h => ?_) <;> (try simp only [go_sem, reduceCtorEq] at h) <;> (try (exfalso; omega))))) | fail)) <;> (try omega)
  refine go_loop [1, 4, 7] [10000] (fun k : Nat => ⟨[(1, true, .ref 3 1 10000 0 ps.length), (4, true, nilS0), (7, true, vI k)], [(10000, .row 3 1 (v8 (mpf (· % 40) ps k)))]⟩)
    (fun k => k ≤ ps.length) (fun k => ps.length - k) 0 (by simp only [go_sem, Nat.reduceBEq, Nat.reduceBneDiff, Nat.reduceLT, Nat.reduceLeDiff, Nat.reduceAdd, Nat.reduceMul, Nat.reduceSub, Nat.reduceEqDiff, reduceCtorEq, mpf_0]; exact rfl) (Nat.zero_le _) ?_
  clear hk hm hw1 hlt
  intro k hk
  have hw1 := wrap_i64 (n := (k : Int) + 1) (by omega)
  by_cases hlt : k < ps.length
  · have e1 : ((k : Int) < ps.length) = True := eq_true (by omega)
    have hml := mpf_len (· % 40) (xs := ps) k
    have g1 : (v8 (mpf (· % 40) ps k))[k]? = some [vI ps[k]] := by
      have := v8_get (zs := mpf (· % 40) ps k) (k := k) (by omega)
      rw [this]
      have h2 := mpf_get (· % 40) hlt
      rw [List.getElem?_eq_getElem (by omega)] at h2
      injection h2 with h2
      rw [h2]
    have g2 : (v8 (mpf (· % 40) ps k)).set k [vI (ps[k] % 40)] = v8 (mpf (· % 40) ps (k + 1)) := by rw [v8_set, mpf_set (· % 40) hlt]
    obtain ⟨h1, h2, h3⟩ := rest_eq ps[k] 40 (by decide)
    have hw := wrap_i64 (n := ps[k].tmod 40 + 40) (by omega)
    have hw2 := wrap_i64 (n := ps[k].tmod 40) (by omega)
    generalize ps[k] = z at *
    (repeat' (first
    | exact trivial
    | (with_reducible first | refine awA ?_ | refine awB ?_ | refine awC ?_ | refine awD ?_ | refine awE ?_ | refine awF ?_ | refine awG ?_ | refine awH ?_ | refine awI ?_ | refine awJ ?_ | refine awK ?_ | refine awL ?_ | refine awM (by decide) ?_)
    | ((with_reducible first | refine awN (tyOf_ok _) [] ?_ | refine awO (tyOf_ok _) [] ?_ | refine awP (tyOf_ok _) [] ?_ | refine awQ ?_ | refine awR ?_ | refine awS ?_ | refine awT ?_ | refine awU ?_); intro r hr; simp only [go_sem, Nat.reduceBEq, Nat.reduceBneDiff, Nat.reduceLT, Nat.reduceLeDiff, Nat.reduceAdd, Nat.reduceMul, Nat.reduceSub, Nat.reduceEqDiff, reduceCtorEq, v8_len, hml, hw1, e1, g1, g2, hw, hw2, h1, nilS0] at hr; subst hr; (first | refine awV ?_ ?_ | refine awW ?_ ?_ | refine endK ?_ ?_ | refine endGK ?_ ?_ ?_ | (refine condK (fun h => ?_) (fun h => ?_) <;> (try simp only [go_sem, reduceCtorEq] at h) <;> (try (exfalso; omega))))) | fail)) <;> (try omega)
    exact ⟨k + 1, by simp only [go_sem, Nat.reduceBEq, Nat.reduceBneDiff, Nat.reduceLT, Nat.reduceLeDiff, Nat.reduceAdd, Nat.reduceMul, Nat.reduceSub, Nat.reduceEqDiff, reduceCtorEq] <;> exact rfl, hlt, by omega⟩
  · have e1 : ((k : Int) < ps.length) = False := eq_false (by omega)
    rw [mpf_end _ (by omega)]
    (repeat' (first
    | exact trivial
    | (with_reducible first | refine awA ?_ | refine awB ?_ | refine awC ?_ | refine awD ?_ | refine awE ?_ | refine awF ?_ | refine awG ?_ | refine awH ?_ | refine awI ?_ | refine awJ ?_ | refine awK ?_ | refine awL ?_ | refine awM (by decide) ?_)
    | ((with_reducible first | refine awN (tyOf_ok _) [] ?_ | refine awO (tyOf_ok _) [] ?_ | refine awP (tyOf_ok _) [] ?_ | refine awQ ?_ | refine awR ?_ | refine awS ?_ | refine awT ?_ | refine awU ?_); intro r hr; simp only [go_sem, Nat.reduceBEq, Nat.reduceBneDiff, Nat.reduceLT, Nat.reduceLeDiff, Nat.reduceAdd, Nat.reduceMul, Nat.reduceSub, Nat.reduceEqDiff, reduceCtorEq, v8_len, hw1, e1, nilS0] at hr; subst hr; (first | refine awV ?_ ?_ | refine awW ?_ ?_ | refine endK ?_ ?_ | refine endGK ?_ ?_ ?_ | (refine condK (fun h => ?_) (fun h => ?_) <;> (try simp only [go_sem, reduceCtorEq] at h) <;> (try (exfalso; omega))))) | fail)) <;> (try omega)
    all_goals (first | exact AV.up_rfl _ | (repeat first | exact obUp_nil | refine obUp_cons rfl ?_))
end Go.Proofs.YtfgacgpicfknpaaDoor
end
section
namespace Go.Proofs.YtfgacgpicfknpaaDoor
open Go.RowKit
set_option maxRecDepth 100000
set_option maxHeartbeats 8000000
/-! mortiselaw11.light: whatever it answers, it answers. -/
theorem light_any (ts : List TypeM) (rs : List RootM) (hts : ts.length ≤ 1000000) (hrs : rs.length ≤ 1000000000) (hp : ∀ t ∈ ts, t.parts.length ≤ 1000000000) (t : Int) :
    PCall Tryd.prog 17 [vSch ts rs, vI t] (fun r => ∃ b, r = vB b) := by
  refine go_fn (tyOf_ok _) Tryd.func17 rfl rfl (by rw [Tryd.results17]) Tryd.ntmps17 rfl fun E => ?_
  have hck := rcheck_any ts rs (by omega) hrs hp
  unfold vF at hck
  by_cases h1 : t < 0
  · have e1 : (t < 0) = True := eq_true h1
    (repeat' (first
    | exact trivial
    | (with_reducible first | refine awA ?_ | refine awB ?_ | refine awC ?_ | refine awD ?_ | refine awE ?_ | refine awF ?_ | refine awG ?_ | refine awH ?_ | refine awI ?_ | refine awJ ?_ | refine awK ?_ | refine awL ?_ | refine awM (by decide) ?_)
    | (refine aw_draw (id := 11) (t := (.node [0, 1, 2, 3, 4, 5, 6, 7, 8, 9] [])) (drR [7] [46] []) mixed (by kernel_rfl) (by kernel_rfl) (fun _ _ h => h) ?_)
    | (refine at_done (by simp only [List.filterMap_cons, List.filterMap_nil, List.getElem?_toArray, List.getElem?_cons_zero, List.getElem?_cons_succ]; exact rfl) ?_) | (refine at_alt (by simp only [List.filterMap_cons, List.filterMap_nil, List.getElem?_toArray, List.getElem?_cons_zero, List.getElem?_cons_succ]; exact rfl) ?_) | refine qalt_normal ?_ | refine ats_cons ?_ ?_ | exact ats_nil
    | ((with_reducible first | refine awN (tyOf_ok _) [] ?_ | refine awO (tyOf_ok _) [] ?_ | refine awP (tyOf_ok _) [] ?_ | refine awQ ?_ | refine awR ?_ | refine awS ?_); intro r hr; simp only [go_sem, Nat.reduceBEq, Nat.reduceBneDiff, Nat.reduceLT, Nat.reduceLeDiff, Nat.reduceAdd, Nat.reduceMul, Nat.reduceSub, Nat.reduceEqDiff, reduceCtorEq, vSch, encTs_len, e1] at hr; subst hr; (first | refine caB 38 (.agg [vI 0, vI 0]) ?_ ?_ ?_ | refine awV ?_ ?_ | refine awW ?_ ?_ | refine endK ?_ ?_ | (refine condK (fun h => ?_) (fun h => ?_) <;> (try simp only [go_sem, reduceCtorEq] at h) <;> (try (exfalso; omega))))) | fail)) <;> (try omega)
    all_goals exact ⟨_, rfl⟩
  have e1 : (t < 0) = False := eq_false h1
  by_cases h2 : (ts.length : Int) ≤ t
  · have e2 : ((ts.length : Int) ≤ t) = True := eq_true h2
    (repeat' (first
    | exact trivial
    | (with_reducible first | refine awA ?_ | refine awB ?_ | refine awC ?_ | refine awD ?_ | refine awE ?_ | refine awF ?_ | refine awG ?_ | refine awH ?_ | refine awI ?_ | refine awJ ?_ | refine awK ?_ | refine awL ?_ | refine awM (by decide) ?_)
    | (refine aw_draw (id := 11) (t := (.node [0, 1, 2, 3, 4, 5, 6, 7, 8, 9] [])) (drR [7] [46] []) mixed (by kernel_rfl) (by kernel_rfl) (fun _ _ h => h) ?_)
    | (refine at_done (by simp only [List.filterMap_cons, List.filterMap_nil, List.getElem?_toArray, List.getElem?_cons_zero, List.getElem?_cons_succ]; exact rfl) ?_) | (refine at_alt (by simp only [List.filterMap_cons, List.filterMap_nil, List.getElem?_toArray, List.getElem?_cons_zero, List.getElem?_cons_succ]; exact rfl) ?_) | refine qalt_normal ?_ | refine ats_cons ?_ ?_ | exact ats_nil
    | ((with_reducible first | refine awN (tyOf_ok _) [] ?_ | refine awO (tyOf_ok _) [] ?_ | refine awP (tyOf_ok _) [] ?_ | refine awQ ?_ | refine awR ?_ | refine awS ?_); intro r hr; simp only [go_sem, Nat.reduceBEq, Nat.reduceBneDiff, Nat.reduceLT, Nat.reduceLeDiff, Nat.reduceAdd, Nat.reduceMul, Nat.reduceSub, Nat.reduceEqDiff, reduceCtorEq, vSch, encTs_len, e1, e2] at hr; subst hr; (first | refine caB 38 (.agg [vI 0, vI 0]) ?_ ?_ ?_ | refine awV ?_ ?_ | refine awW ?_ ?_ | refine endK ?_ ?_ | (refine condK (fun h => ?_) (fun h => ?_) <;> (try simp only [go_sem, reduceCtorEq] at h) <;> (try (exfalso; omega))))) | fail)) <;> (try omega)
    all_goals exact ⟨_, rfl⟩
  have e2 : ((ts.length : Int) ≤ t) = False := eq_false h2
  by_cases h0 : (checkF ts rs).1 = 0
  case neg =>
    have e3 : ((checkF ts rs).1 = 0) = False := eq_false h0
    generalize checkF ts rs = C at *
    (repeat' (first
    | exact trivial
    | (with_reducible first | refine awA ?_ | refine awB ?_ | refine awC ?_ | refine awD ?_ | refine awE ?_ | refine awF ?_ | refine awG ?_ | refine awH ?_ | refine awI ?_ | refine awJ ?_ | refine awK ?_ | refine awL ?_ | refine awM (by decide) ?_)
    | (refine aw_draw (id := 11) (t := (.node [0, 1, 2, 3, 4, 5, 6, 7, 8, 9] [])) (drR [7] [46] []) mixed (by kernel_rfl) (by kernel_rfl) (fun _ _ h => h) ?_)
    | (refine at_done (by simp only [List.filterMap_cons, List.filterMap_nil, List.getElem?_toArray, List.getElem?_cons_zero, List.getElem?_cons_succ]; exact rfl) ?_) | (refine at_alt (by simp only [List.filterMap_cons, List.filterMap_nil, List.getElem?_toArray, List.getElem?_cons_zero, List.getElem?_cons_succ]; exact rfl) ?_) | refine qalt_normal ?_ | refine ats_cons ?_ ?_ | exact ats_nil
    | ((with_reducible first | refine awN (tyOf_ok _) [] ?_ | refine awO (tyOf_ok _) [] ?_ | refine awP (tyOf_ok _) [] ?_ | refine awQ ?_ | refine awR ?_ | refine awS ?_); intro r hr; simp only [go_sem, Nat.reduceBEq, Nat.reduceBneDiff, Nat.reduceLT, Nat.reduceLeDiff, Nat.reduceAdd, Nat.reduceMul, Nat.reduceSub, Nat.reduceEqDiff, reduceCtorEq, vSch, encTs_len, e1, e2, e3] at hr; subst hr; (first | refine caA (fun _ => hck) rfl ?_ ?_ ?_ | refine awV ?_ ?_ | refine awW ?_ ?_ | refine endK ?_ ?_ | (refine condK (fun h => ?_) (fun h => ?_) <;> (try simp only [go_sem, reduceCtorEq] at h) <;> (try (exfalso; omega))))) | fail)) <;> (try omega)
    all_goals exact ⟨_, rfl⟩
  have hr := check_right h0
  rw [h0] at hck
  generalize (checkF ts rs).2 = C2 at *
  (repeat' (first
    | exact trivial
    | (with_reducible first | refine awA ?_ | refine awB ?_ | refine awC ?_ | refine awD ?_ | refine awE ?_ | refine awF ?_ | refine awG ?_ | refine awH ?_ | refine awI ?_ | refine awJ ?_ | refine awK ?_ | refine awL ?_ | refine awM (by decide) ?_)
    | (refine aw_draw (id := 11) (t := (.node [0, 1, 2, 3, 4, 5, 6, 7, 8, 9] [])) (drR [7] [46] []) mixed (by kernel_rfl) (by kernel_rfl) (fun _ _ h => h) ?_)
    | (refine at_done (by simp only [List.filterMap_cons, List.filterMap_nil, List.getElem?_toArray, List.getElem?_cons_zero, List.getElem?_cons_succ]; exact rfl) ?_) | (refine at_alt (by simp only [List.filterMap_cons, List.filterMap_nil, List.getElem?_toArray, List.getElem?_cons_zero, List.getElem?_cons_succ]; exact rfl) ?_) | refine qalt_normal ?_ | refine ats_cons ?_ ?_ | exact ats_nil
    | ((with_reducible first | refine awN (tyOf_ok _) [] ?_ | refine awO (tyOf_ok _) [] ?_ | refine awP (tyOf_ok _) [] ?_ | refine awQ ?_ | refine awR ?_ | refine awS ?_); intro r hr; simp only [go_sem, Nat.reduceBEq, Nat.reduceBneDiff, Nat.reduceLT, Nat.reduceLeDiff, Nat.reduceAdd, Nat.reduceMul, Nat.reduceSub, Nat.reduceEqDiff, reduceCtorEq, vSch, encTs_len, e1, e2] at hr; subst hr; (first | refine caA (fun _ => hck) rfl ?_ ?_ ?_ | refine awV ?_ ?_ | refine awW ?_ ?_ | refine endK ?_ ?_ | (refine condK (fun h => ?_) (fun h => ?_) <;> (try simp only [go_sem, reduceCtorEq] at h) <;> (try (exfalso; omega))))) | fail)) <;> (try omega)
  refine aw_nilrow 5 3 1 8000 (.inl (by decide)) (by simp only [go_sem, Nat.reduceBEq, Nat.reduceBneDiff, Nat.reduceLT, Nat.reduceLeDiff, Nat.reduceAdd, Nat.reduceMul, Nat.reduceSub, Nat.reduceEqDiff, reduceCtorEq]) ?_
  refine go_loop [1, 2, 4, 5, 6] [2, 8000] (fun l : List Int => ⟨[(1, true, vI t), (2, true, .ptr 1 2 0 0), (4, true, vB false), (5, true, .ref 3 1 8000 0 l.length), (6, true, vI l.length)], [(2, .var [.lst 4 (encTs ts), .lst 2 (encRs rs)]), (8000, .row 3 1 (v8 l))]⟩)
    (fun l => (l.length : Int) ≤ t + 1) (fun l => ts.length - l.length) [] (by simp only [AState.nilrow, go_sem, Nat.reduceBEq, Nat.reduceBneDiff, Nat.reduceLT, Nat.reduceLeDiff, Nat.reduceAdd, Nat.reduceMul, Nat.reduceSub, Nat.reduceEqDiff, reduceCtorEq] <;> exact rfl) (by simp only [List.length_nil]; omega) ?_
  intro l hl
  have hw1 := wrap_i64 (n := (l.length : Int) + 1) (by omega)
  by_cases hlt : (l.length : Int) ≤ t
  case neg =>
    have f1 : ((l.length : Int) ≤ t) = False := eq_false hlt
    (repeat' (first
    | exact trivial
    | (with_reducible first | refine awA ?_ | refine awB ?_ | refine awC ?_ | refine awD ?_ | refine awE ?_ | refine awF ?_ | refine awG ?_ | refine awH ?_ | refine awI ?_ | refine awJ ?_ | refine awK ?_ | refine awL ?_ | refine awM (by decide) ?_)
    | (refine aw_draw (id := 11) (t := (.node [0, 1, 2, 3, 4, 5, 6, 7, 8, 9] [])) (drR [7] [46] []) mixed (by kernel_rfl) (by kernel_rfl) (fun _ _ h => h) ?_)
    | (refine at_done (by simp only [List.filterMap_cons, List.filterMap_nil, List.getElem?_toArray, List.getElem?_cons_zero, List.getElem?_cons_succ]; exact rfl) ?_) | (refine at_alt (by simp only [List.filterMap_cons, List.filterMap_nil, List.getElem?_toArray, List.getElem?_cons_zero, List.getElem?_cons_succ]; exact rfl) ?_) | refine qalt_normal ?_ | refine ats_cons ?_ ?_ | exact ats_nil
    | ((with_reducible first | refine awN (tyOf_ok _) [] ?_ | refine awO (tyOf_ok _) [] ?_ | refine awP (tyOf_ok _) [] ?_ | refine awQ ?_ | refine awR ?_ | refine awS ?_); intro r hr; simp only [go_sem, Nat.reduceBEq, Nat.reduceBneDiff, Nat.reduceLT, Nat.reduceLeDiff, Nat.reduceAdd, Nat.reduceMul, Nat.reduceSub, Nat.reduceEqDiff, reduceCtorEq, f1] at hr; subst hr; (first | refine awV ?_ ?_ | refine awW ?_ ?_ | refine endK ?_ ?_ | (refine condK (fun h => ?_) (fun h => ?_) <;> (try simp only [go_sem, reduceCtorEq] at h) <;> (try (exfalso; omega))))) | fail)) <;> (try omega)
    all_goals exact ⟨_, rfl⟩
  have f1 : ((l.length : Int) ≤ t) = True := eq_true hlt
  have g1 := encTs_get (show l.length < ts.length by omega)
  have hrk := hr l.length (show l.length < ts.length by omega)
  have hty := rightOK_ty hrk
  have hpl : ts[l.length].parts.length ≤ 64 ∨ True := .inr trivial
  have hppl := hp _ (List.getElem_mem (show l.length < ts.length by omega))
  generalize ts[l.length] = T at *
  have hv : (v8 l).length = l.length := v8_len l
  (repeat' (first
    | exact trivial
    | (refine go_cutK 2 [1, 2, 4, 5, 6, 8] [2, 8000] (fun y : Int => ⟨[(1, true, vI t), (2, true, .ptr 1 2 0 0), (4, true, vB false), (5, true, .ref 3 1 8000 0 l.length), (6, true, vI l.length), (8, true, vI y)], [(2, .var [.lst 4 (encTs ts), .lst 2 (encRs rs)]), (8000, .row 3 1 (v8 l))]⟩) (fun _ => True) (hold ?_) ?_)
    | (with_reducible first | refine awA ?_ | refine awB ?_ | refine awC ?_ | refine awD ?_ | refine awE ?_ | refine awF ?_ | refine awG ?_ | refine awH ?_ | refine awI ?_ | refine awJ ?_ | refine awK ?_ | refine awL ?_ | refine awM (by decide) ?_)
    | (refine aw_draw (id := 11) (t := (.node [0, 1, 2, 3, 4, 5, 6, 7, 8, 9] [])) (drR [7] [46] []) mixed (by kernel_rfl) (by kernel_rfl) (fun _ _ h => h) ?_)
    | (refine at_done (by simp only [List.filterMap_cons, List.filterMap_nil, List.getElem?_toArray, List.getElem?_cons_zero, List.getElem?_cons_succ]; exact rfl) ?_) | (refine at_alt (by simp only [List.filterMap_cons, List.filterMap_nil, List.getElem?_toArray, List.getElem?_cons_zero, List.getElem?_cons_succ]; exact rfl) ?_) | refine qalt_normal ?_ | refine ats_cons ?_ ?_ | exact ats_nil
    | ((with_reducible first | refine awN (tyOf_ok _) [] ?_ | refine awO (tyOf_ok _) [] ?_ | refine awP (tyOf_ok _) [] ?_ | refine awQ ?_ | refine awR ?_ | refine awS ?_); intro r hr; simp only [go_sem, Nat.reduceBEq, Nat.reduceBneDiff, Nat.reduceLT, Nat.reduceLeDiff, Nat.reduceAdd, Nat.reduceMul, Nat.reduceSub, Nat.reduceEqDiff, reduceCtorEq, encTs_len, f1, g1, hv] at hr; subst hr; (first | refine awV ?_ ?_ | refine awW ?_ ?_ | refine endK ?_ ?_ | (refine condK (fun h => ?_) (fun h => ?_) <;> (try simp only [go_sem, reduceCtorEq] at h) <;> (try (exfalso; omega))))) | fail)) <;> (try omega)
  · refine ⟨?_⟩
    by_cases h4 : T.kind = 4
    · have e4 : (T.kind = 4) = True := eq_true h4
      have hel := hty.1 (.inl h4)
      obtain ⟨en, hen⟩ : ∃ en : Nat, T.elem = en := ⟨T.elem.toNat, by omega⟩
      have g2 := v8_get (zs := l) (k := en) (by omega)
      have z1 : ((en : Int)).toNat = en := by omega
      rw [hen]
      (repeat' (first
    | exact trivial
    | (with_reducible first | refine awA ?_ | refine awB ?_ | refine awC ?_ | refine awD ?_ | refine awE ?_ | refine awF ?_ | refine awG ?_ | refine awH ?_ | refine awI ?_ | refine awJ ?_ | refine awK ?_ | refine awL ?_ | refine awM (by decide) ?_)
    | (refine aw_draw (id := 11) (t := (.node [0, 1, 2, 3, 4, 5, 6, 7, 8, 9] [])) (drR [7] [46] []) mixed (by kernel_rfl) (by kernel_rfl) (fun _ _ h => h) ?_)
    | (refine at_done (by simp only [List.filterMap_cons, List.filterMap_nil, List.getElem?_toArray, List.getElem?_cons_zero, List.getElem?_cons_succ]; exact rfl) ?_) | (refine at_alt (by simp only [List.filterMap_cons, List.filterMap_nil, List.getElem?_toArray, List.getElem?_cons_zero, List.getElem?_cons_succ]; exact rfl) ?_) | refine qalt_normal ?_ | refine ats_cons ?_ ?_ | exact ats_nil
    | ((with_reducible first | refine awN (tyOf_ok _) [] ?_ | refine awO (tyOf_ok _) [] ?_ | refine awP (tyOf_ok _) [] ?_ | refine awQ ?_ | refine awR ?_ | refine awS ?_); intro r hr; simp only [go_sem, Nat.reduceBEq, Nat.reduceBneDiff, Nat.reduceLT, Nat.reduceLeDiff, Nat.reduceAdd, Nat.reduceMul, Nat.reduceSub, Nat.reduceEqDiff, reduceCtorEq, e4, g2, z1, hv] at hr; subst hr; (first | refine awV ?_ ?_ | refine awW ?_ ?_ | refine endK ?_ ?_ | (refine condK (fun h => ?_) (fun h => ?_) <;> (try simp only [go_sem, reduceCtorEq] at h) <;> (try (exfalso; omega))))) | fail)) <;> (try omega)
      all_goals first | exact ⟨_, by simp only [go_sem, Nat.reduceBEq, Nat.reduceBneDiff, Nat.reduceLT, Nat.reduceLeDiff, Nat.reduceAdd, Nat.reduceMul, Nat.reduceSub, Nat.reduceEqDiff, reduceCtorEq] <;> exact rfl, trivial⟩ | omega
    have e4 : (T.kind = 4) = False := eq_false h4
    have hin : ∀ i, (h : i < T.parts.length) → ∃ pn : Nat, T.parts[i].ty = pn ∧ pn < l.length := fun i h => by
      have := hty.2 _ (List.getElem_mem h)
      exact ⟨T.parts[i].ty.toNat, by omega, by omega⟩
    by_cases h7 : T.kind = 7
    · have e7 : (T.kind = 7) = True := eq_true h7
      (repeat' (first
    | exact trivial
    | (with_reducible first | refine awA ?_ | refine awB ?_ | refine awC ?_ | refine awD ?_ | refine awE ?_ | refine awF ?_ | refine awG ?_ | refine awH ?_ | refine awI ?_ | refine awJ ?_ | refine awK ?_ | refine awL ?_ | refine awM (by decide) ?_)
    | (refine aw_draw (id := 11) (t := (.node [0, 1, 2, 3, 4, 5, 6, 7, 8, 9] [])) (drR [7] [46] []) mixed (by kernel_rfl) (by kernel_rfl) (fun _ _ h => h) ?_)
    | (refine at_done (by simp only [List.filterMap_cons, List.filterMap_nil, List.getElem?_toArray, List.getElem?_cons_zero, List.getElem?_cons_succ]; exact rfl) ?_) | (refine at_alt (by simp only [List.filterMap_cons, List.filterMap_nil, List.getElem?_toArray, List.getElem?_cons_zero, List.getElem?_cons_succ]; exact rfl) ?_) | refine qalt_normal ?_ | refine ats_cons ?_ ?_ | exact ats_nil
    | ((with_reducible first | refine awN (tyOf_ok _) [] ?_ | refine awO (tyOf_ok _) [] ?_ | refine awP (tyOf_ok _) [] ?_ | refine awQ ?_ | refine awR ?_ | refine awS ?_); intro r hr; simp only [go_sem, Nat.reduceBEq, Nat.reduceBneDiff, Nat.reduceLT, Nat.reduceLeDiff, Nat.reduceAdd, Nat.reduceMul, Nat.reduceSub, Nat.reduceEqDiff, reduceCtorEq, e4, e7] at hr; subst hr; (first | refine awV ?_ ?_ | refine awW ?_ ?_ | refine endK ?_ ?_ | (refine condK (fun h => ?_) (fun h => ?_) <;> (try simp only [go_sem, reduceCtorEq] at h) <;> (try (exfalso; omega))))) | fail)) <;> (try omega)
      refine go_loop [1, 2, 4, 5, 6, 7, 8, 9] [2, 7, 8000] (fun q : Nat × Int => ⟨[(1, true, vI t), (2, true, .ptr 1 2 0 0), (4, true, vB false), (5, true, .ref 3 1 8000 0 l.length), (6, true, vI l.length), (7, true, .ptr 1 7 0 0), (8, true, vI q.2), (9, true, vI q.1)], [(2, .var [.lst 4 (encTs ts), .lst 2 (encRs rs)]), (7, .var [vI T.kind, vI T.n, vI T.elem, .lst 3 (encPs T.parts)]), (8000, .row 3 1 (v8 l))]⟩)
        (fun q => q.1 ≤ T.parts.length) (fun q => T.parts.length - q.1) (0, 0) (by simp only [go_sem, Nat.reduceBEq, Nat.reduceBneDiff, Nat.reduceLT, Nat.reduceLeDiff, Nat.reduceAdd, Nat.reduceMul, Nat.reduceSub, Nat.reduceEqDiff, reduceCtorEq, h7] <;> exact rfl) (Nat.zero_le _) ?_
      intro ⟨i, m⟩ hi
      simp only at hi
      have hwi := wrap_i64 (n := (i : Int) + 1) (by omega)
      by_cases hlt2 : i < T.parts.length
      · have f2 : ((i : Int) < T.parts.length) = True := eq_true (by omega)
        have g3 := encPs_get hlt2
        obtain ⟨pn, hpn, hpl⟩ := hin i hlt2
        have g2 := v8_get hpl
        have z1 : ((pn : Int)).toNat = pn := by omega
        rw [hpn] at g3
        generalize T.parts[i] = pp at *
        generalize l[pn] = z at *
        (repeat' (first
    | exact trivial
    | (with_reducible first | refine awA ?_ | refine awB ?_ | refine awC ?_ | refine awD ?_ | refine awE ?_ | refine awF ?_ | refine awG ?_ | refine awH ?_ | refine awI ?_ | refine awJ ?_ | refine awK ?_ | refine awL ?_ | refine awM (by decide) ?_)
    | (refine aw_draw (id := 11) (t := (.node [0, 1, 2, 3, 4, 5, 6, 7, 8, 9] [])) (drR [7] [46] []) mixed (by kernel_rfl) (by kernel_rfl) (fun _ _ h => h) ?_)
    | (refine at_done (by simp only [List.filterMap_cons, List.filterMap_nil, List.getElem?_toArray, List.getElem?_cons_zero, List.getElem?_cons_succ]; exact rfl) ?_) | (refine at_alt (by simp only [List.filterMap_cons, List.filterMap_nil, List.getElem?_toArray, List.getElem?_cons_zero, List.getElem?_cons_succ]; exact rfl) ?_) | refine qalt_normal ?_ | refine ats_cons ?_ ?_ | exact ats_nil
    | ((with_reducible first | refine awN (tyOf_ok _) [] ?_ | refine awO (tyOf_ok _) [] ?_ | refine awP (tyOf_ok _) [] ?_ | refine awQ ?_ | refine awR ?_ | refine awS ?_); intro r hr; simp only [go_sem, Nat.reduceBEq, Nat.reduceBneDiff, Nat.reduceLT, Nat.reduceLeDiff, Nat.reduceAdd, Nat.reduceMul, Nat.reduceSub, Nat.reduceEqDiff, reduceCtorEq, encPs_len, f2, g3, g2, z1, hv, hwi] at hr; subst hr; (first | refine awV ?_ ?_ | refine awW ?_ ?_ | refine endK ?_ ?_ | (refine condK (fun h => ?_) (fun h => ?_) <;> (try simp only [go_sem, reduceCtorEq] at h) <;> (try (exfalso; omega))))) | fail)) <;> (try omega)
        all_goals first | exact ⟨(i + 1, max m z), by simp only [go_sem, Nat.reduceBEq, Nat.reduceBneDiff, Nat.reduceLT, Nat.reduceLeDiff, Nat.reduceAdd, Nat.reduceMul, Nat.reduceSub, Nat.reduceEqDiff, reduceCtorEq] <;> exact rfl, hlt2, by simp only; omega⟩ | omega
      · have f2 : ((i : Int) < T.parts.length) = False := eq_false (by omega)
        (repeat' (first
    | exact trivial
    | (with_reducible first | refine awA ?_ | refine awB ?_ | refine awC ?_ | refine awD ?_ | refine awE ?_ | refine awF ?_ | refine awG ?_ | refine awH ?_ | refine awI ?_ | refine awJ ?_ | refine awK ?_ | refine awL ?_ | refine awM (by decide) ?_)
    | (refine aw_draw (id := 11) (t := (.node [0, 1, 2, 3, 4, 5, 6, 7, 8, 9] [])) (drR [7] [46] []) mixed (by kernel_rfl) (by kernel_rfl) (fun _ _ h => h) ?_)
    | (refine at_done (by simp only [List.filterMap_cons, List.filterMap_nil, List.getElem?_toArray, List.getElem?_cons_zero, List.getElem?_cons_succ]; exact rfl) ?_) | (refine at_alt (by simp only [List.filterMap_cons, List.filterMap_nil, List.getElem?_toArray, List.getElem?_cons_zero, List.getElem?_cons_succ]; exact rfl) ?_) | refine qalt_normal ?_ | refine ats_cons ?_ ?_ | exact ats_nil
    | ((with_reducible first | refine awN (tyOf_ok _) [] ?_ | refine awO (tyOf_ok _) [] ?_ | refine awP (tyOf_ok _) [] ?_ | refine awQ ?_ | refine awR ?_ | refine awS ?_); intro r hr; simp only [go_sem, Nat.reduceBEq, Nat.reduceBneDiff, Nat.reduceLT, Nat.reduceLeDiff, Nat.reduceAdd, Nat.reduceMul, Nat.reduceSub, Nat.reduceEqDiff, reduceCtorEq, encPs_len, f2, hwi] at hr; subst hr; (first | refine awV ?_ ?_ | refine awW ?_ ?_ | refine endK ?_ ?_ | (refine condK (fun h => ?_) (fun h => ?_) <;> (try simp only [go_sem, reduceCtorEq] at h) <;> (try (exfalso; omega))))) | fail)) <;> (try omega)
        exact ⟨_, by simp only [go_sem, Nat.reduceBEq, Nat.reduceBneDiff, Nat.reduceLT, Nat.reduceLeDiff, Nat.reduceAdd, Nat.reduceMul, Nat.reduceSub, Nat.reduceEqDiff, reduceCtorEq] <;> exact rfl, trivial⟩
    have e7 : (T.kind = 7) = False := eq_false h7
    by_cases h8 : T.kind = 8
    · have e8 : (T.kind = 8) = True := eq_true h8
      (repeat' (first
    | exact trivial
    | (with_reducible first | refine awA ?_ | refine awB ?_ | refine awC ?_ | refine awD ?_ | refine awE ?_ | refine awF ?_ | refine awG ?_ | refine awH ?_ | refine awI ?_ | refine awJ ?_ | refine awK ?_ | refine awL ?_ | refine awM (by decide) ?_)
    | (refine aw_draw (id := 11) (t := (.node [0, 1, 2, 3, 4, 5, 6, 7, 8, 9] [])) (drR [7] [46] []) mixed (by kernel_rfl) (by kernel_rfl) (fun _ _ h => h) ?_)
    | (refine at_done (by simp only [List.filterMap_cons, List.filterMap_nil, List.getElem?_toArray, List.getElem?_cons_zero, List.getElem?_cons_succ]; exact rfl) ?_) | (refine at_alt (by simp only [List.filterMap_cons, List.filterMap_nil, List.getElem?_toArray, List.getElem?_cons_zero, List.getElem?_cons_succ]; exact rfl) ?_) | refine qalt_normal ?_ | refine ats_cons ?_ ?_ | exact ats_nil
    | ((with_reducible first | refine awN (tyOf_ok _) [] ?_ | refine awO (tyOf_ok _) [] ?_ | refine awP (tyOf_ok _) [] ?_ | refine awQ ?_ | refine awR ?_ | refine awS ?_); intro r hr; simp only [go_sem, Nat.reduceBEq, Nat.reduceBneDiff, Nat.reduceLT, Nat.reduceLeDiff, Nat.reduceAdd, Nat.reduceMul, Nat.reduceSub, Nat.reduceEqDiff, reduceCtorEq, e4, e7, e8] at hr; subst hr; (first | refine awV ?_ ?_ | refine awW ?_ ?_ | refine endK ?_ ?_ | (refine condK (fun h => ?_) (fun h => ?_) <;> (try simp only [go_sem, reduceCtorEq] at h) <;> (try (exfalso; omega))))) | fail)) <;> (try omega)
      refine go_loop [1, 2, 4, 5, 6, 7, 8, 10] [2, 7, 8000] (fun q : Nat × Int => ⟨[(1, true, vI t), (2, true, .ptr 1 2 0 0), (4, true, vB false), (5, true, .ref 3 1 8000 0 l.length), (6, true, vI l.length), (7, true, .ptr 1 7 0 0), (8, true, vI q.2), (10, true, vI q.1)], [(2, .var [.lst 4 (encTs ts), .lst 2 (encRs rs)]), (7, .var [vI T.kind, vI T.n, vI T.elem, .lst 3 (encPs T.parts)]), (8000, .row 3 1 (v8 l))]⟩)
        (fun q => q.1 ≤ T.parts.length) (fun q => T.parts.length - q.1) (0, 0) (by simp only [go_sem, Nat.reduceBEq, Nat.reduceBneDiff, Nat.reduceLT, Nat.reduceLeDiff, Nat.reduceAdd, Nat.reduceMul, Nat.reduceSub, Nat.reduceEqDiff, reduceCtorEq, h8] <;> exact rfl) (Nat.zero_le _) ?_
      intro ⟨i, m⟩ hi
      simp only at hi
      have hwi := wrap_i64 (n := (i : Int) + 1) (by omega)
      by_cases hlt2 : i < T.parts.length
      · have f2 : ((i : Int) < T.parts.length) = True := eq_true (by omega)
        have g3 := encPs_get hlt2
        obtain ⟨pn, hpn, hpl⟩ := hin i hlt2
        have g2 := v8_get hpl
        have z1 : ((pn : Int)).toNat = pn := by omega
        rw [hpn] at g3
        generalize T.parts[i] = pp at *
        generalize l[pn] = z at *
        (repeat' (first
    | exact trivial
    | (with_reducible first | refine awA ?_ | refine awB ?_ | refine awC ?_ | refine awD ?_ | refine awE ?_ | refine awF ?_ | refine awG ?_ | refine awH ?_ | refine awI ?_ | refine awJ ?_ | refine awK ?_ | refine awL ?_ | refine awM (by decide) ?_)
    | (refine aw_draw (id := 11) (t := (.node [0, 1, 2, 3, 4, 5, 6, 7, 8, 9] [])) (drR [7] [46] []) mixed (by kernel_rfl) (by kernel_rfl) (fun _ _ h => h) ?_)
    | (refine at_done (by simp only [List.filterMap_cons, List.filterMap_nil, List.getElem?_toArray, List.getElem?_cons_zero, List.getElem?_cons_succ]; exact rfl) ?_) | (refine at_alt (by simp only [List.filterMap_cons, List.filterMap_nil, List.getElem?_toArray, List.getElem?_cons_zero, List.getElem?_cons_succ]; exact rfl) ?_) | refine qalt_normal ?_ | refine ats_cons ?_ ?_ | exact ats_nil
    | ((with_reducible first | refine awN (tyOf_ok _) [] ?_ | refine awO (tyOf_ok _) [] ?_ | refine awP (tyOf_ok _) [] ?_ | refine awQ ?_ | refine awR ?_ | refine awS ?_); intro r hr; simp only [go_sem, Nat.reduceBEq, Nat.reduceBneDiff, Nat.reduceLT, Nat.reduceLeDiff, Nat.reduceAdd, Nat.reduceMul, Nat.reduceSub, Nat.reduceEqDiff, reduceCtorEq, encPs_len, f2, g3, g2, z1, hv, hwi] at hr; subst hr; (first | refine awV ?_ ?_ | refine awW ?_ ?_ | refine endK ?_ ?_ | (refine condK (fun h => ?_) (fun h => ?_) <;> (try simp only [go_sem, reduceCtorEq] at h) <;> (try (exfalso; omega))))) | fail)) <;> (try omega)
        all_goals first | exact ⟨(i + 1, IntKind.i64.wrap (m + z)), by simp only [go_sem, Nat.reduceBEq, Nat.reduceBneDiff, Nat.reduceLT, Nat.reduceLeDiff, Nat.reduceAdd, Nat.reduceMul, Nat.reduceSub, Nat.reduceEqDiff, reduceCtorEq] <;> exact rfl, hlt2, by simp only; omega⟩ | omega
      · have f2 : ((i : Int) < T.parts.length) = False := eq_false (by omega)
        (repeat' (first
    | exact trivial
    | (with_reducible first | refine awA ?_ | refine awB ?_ | refine awC ?_ | refine awD ?_ | refine awE ?_ | refine awF ?_ | refine awG ?_ | refine awH ?_ | refine awI ?_ | refine awJ ?_ | refine awK ?_ | refine awL ?_ | refine awM (by decide) ?_)
    | (refine aw_draw (id := 11) (t := (.node [0, 1, 2, 3, 4, 5, 6, 7, 8, 9] [])) (drR [7] [46] []) mixed (by kernel_rfl) (by kernel_rfl) (fun _ _ h => h) ?_)
    | (refine at_done (by simp only [List.filterMap_cons, List.filterMap_nil, List.getElem?_toArray, List.getElem?_cons_zero, List.getElem?_cons_succ]; exact rfl) ?_) | (refine at_alt (by simp only [List.filterMap_cons, List.filterMap_nil, List.getElem?_toArray, List.getElem?_cons_zero, List.getElem?_cons_succ]; exact rfl) ?_) | refine qalt_normal ?_ | refine ats_cons ?_ ?_ | exact ats_nil
    | ((with_reducible first | refine awN (tyOf_ok _) [] ?_ | refine awO (tyOf_ok _) [] ?_ | refine awP (tyOf_ok _) [] ?_ | refine awQ ?_ | refine awR ?_ | refine awS ?_); intro r hr; simp only [go_sem, Nat.reduceBEq, Nat.reduceBneDiff, Nat.reduceLT, Nat.reduceLeDiff, Nat.reduceAdd, Nat.reduceMul, Nat.reduceSub, Nat.reduceEqDiff, reduceCtorEq, encPs_len, f2, hwi] at hr; subst hr; (first | refine awV ?_ ?_ | refine awW ?_ ?_ | refine endK ?_ ?_ | (refine condK (fun h => ?_) (fun h => ?_) <;> (try simp only [go_sem, reduceCtorEq] at h) <;> (try (exfalso; omega))))) | fail)) <;> (try omega)
        exact ⟨_, by simp only [go_sem, Nat.reduceBEq, Nat.reduceBneDiff, Nat.reduceLT, Nat.reduceLeDiff, Nat.reduceAdd, Nat.reduceMul, Nat.reduceSub, Nat.reduceEqDiff, reduceCtorEq] <;> exact rfl, trivial⟩
    have e8 : (T.kind = 8) = False := eq_false h8
    (repeat' (first
    | exact trivial
    | (with_reducible first | refine awA ?_ | refine awB ?_ | refine awC ?_ | refine awD ?_ | refine awE ?_ | refine awF ?_ | refine awG ?_ | refine awH ?_ | refine awI ?_ | refine awJ ?_ | refine awK ?_ | refine awL ?_ | refine awM (by decide) ?_)
    | (refine aw_draw (id := 11) (t := (.node [0, 1, 2, 3, 4, 5, 6, 7, 8, 9] [])) (drR [7] [46] []) mixed (by kernel_rfl) (by kernel_rfl) (fun _ _ h => h) ?_)
    | (refine at_done (by simp only [List.filterMap_cons, List.filterMap_nil, List.getElem?_toArray, List.getElem?_cons_zero, List.getElem?_cons_succ]; exact rfl) ?_) | (refine at_alt (by simp only [List.filterMap_cons, List.filterMap_nil, List.getElem?_toArray, List.getElem?_cons_zero, List.getElem?_cons_succ]; exact rfl) ?_) | refine qalt_normal ?_ | refine ats_cons ?_ ?_ | exact ats_nil
    | ((with_reducible first | refine awN (tyOf_ok _) [] ?_ | refine awO (tyOf_ok _) [] ?_ | refine awP (tyOf_ok _) [] ?_ | refine awQ ?_ | refine awR ?_ | refine awS ?_); intro r hr; simp only [go_sem, Nat.reduceBEq, Nat.reduceBneDiff, Nat.reduceLT, Nat.reduceLeDiff, Nat.reduceAdd, Nat.reduceMul, Nat.reduceSub, Nat.reduceEqDiff, reduceCtorEq, e4, e7, e8] at hr; subst hr; (first | refine awV ?_ ?_ | refine awW ?_ ?_ | refine endK ?_ ?_ | (refine condK (fun h => ?_) (fun h => ?_) <;> (try simp only [go_sem, reduceCtorEq] at h) <;> (try (exfalso; omega))))) | fail)) <;> (try omega)
    exact ⟨_, by simp only [go_sem, Nat.reduceBEq, Nat.reduceBneDiff, Nat.reduceLT, Nat.reduceLeDiff, Nat.reduceAdd, Nat.reduceMul, Nat.reduceSub, Nat.reduceEqDiff, reduceCtorEq] <;> exact rfl, trivial⟩
  intro y _
  obtain ⟨z, hzz⟩ : ∃ z, min (IntKind.i64.wrap (1 + y)) 10000 = z := ⟨_, rfl⟩
  have happ : v8 l ++ [[vI z]] = v8 (l ++ [z]) := by simp [v8]
  have htk : (v8 l).take l.length = v8 l := take_len (by omega)
  have hl1 : (l ++ [z]).length = l.length + 1 := by simp
  have hgl : (v8 (l ++ [z]))[l.length]? = some [vI z] := by
    have := v8_get (zs := l ++ [z]) (k := l.length) (by omega)
    rw [this, List.getElem_append_right (Nat.le_refl _)]; simp
  by_cases hz : 2000 < z
  · have ez : (2000 < z) = True := eq_true hz
    (repeat' (first
    | exact trivial
    | (with_reducible first | refine awA ?_ | refine awB ?_ | refine awC ?_ | refine awD ?_ | refine awE ?_ | refine awF ?_ | refine awG ?_ | refine awH ?_ | refine awI ?_ | refine awJ ?_ | refine awK ?_ | refine awL ?_ | refine awM (by decide) ?_)
    | (refine aw_draw (id := 11) (t := (.node [0, 1, 2, 3, 4, 5, 6, 7, 8, 9] [])) (drR [7] [46] []) mixed (by kernel_rfl) (by kernel_rfl) (fun _ _ h => h) ?_)
    | (refine at_done (by simp only [List.filterMap_cons, List.filterMap_nil, List.getElem?_toArray, List.getElem?_cons_zero, List.getElem?_cons_succ]; exact rfl) ?_) | (refine at_alt (by simp only [List.filterMap_cons, List.filterMap_nil, List.getElem?_toArray, List.getElem?_cons_zero, List.getElem?_cons_succ]; exact rfl) ?_) | refine qalt_normal ?_ | refine ats_cons ?_ ?_ | exact ats_nil
    | ((with_reducible first | refine awN (tyOf_ok _) [] ?_ | refine awO (tyOf_ok _) [] ?_ | refine awP (tyOf_ok _) [] ?_ | refine awQ ?_ | refine awR ?_ | refine awS ?_); intro r hr; simp only [go_sem, Nat.reduceBEq, Nat.reduceBneDiff, Nat.reduceLT, Nat.reduceLeDiff, Nat.reduceAdd, Nat.reduceMul, Nat.reduceSub, Nat.reduceEqDiff, reduceCtorEq, hv, hzz, happ, htk, hl1, hgl, ez, hw1] at hr; subst hr; (first | refine awV ?_ ?_ | refine awW ?_ ?_ | refine endK ?_ ?_ | (refine condK (fun h => ?_) (fun h => ?_) <;> (try simp only [go_sem, reduceCtorEq] at h) <;> (try (exfalso; omega))))) | fail)) <;> (try omega)
    all_goals exact ⟨_, rfl⟩
  · have ez : (2000 < z) = False := eq_false hz
    (repeat' (first
    | exact trivial
    | (with_reducible first | refine awA ?_ | refine awB ?_ | refine awC ?_ | refine awD ?_ | refine awE ?_ | refine awF ?_ | refine awG ?_ | refine awH ?_ | refine awI ?_ | refine awJ ?_ | refine awK ?_ | refine awL ?_ | refine awM (by decide) ?_)
    | (refine aw_draw (id := 11) (t := (.node [0, 1, 2, 3, 4, 5, 6, 7, 8, 9] [])) (drR [7] [46] []) mixed (by kernel_rfl) (by kernel_rfl) (fun _ _ h => h) ?_)
    | (refine at_done (by simp only [List.filterMap_cons, List.filterMap_nil, List.getElem?_toArray, List.getElem?_cons_zero, List.getElem?_cons_succ]; exact rfl) ?_) | (refine at_alt (by simp only [List.filterMap_cons, List.filterMap_nil, List.getElem?_toArray, List.getElem?_cons_zero, List.getElem?_cons_succ]; exact rfl) ?_) | refine qalt_normal ?_ | refine ats_cons ?_ ?_ | exact ats_nil
    | ((with_reducible first | refine awN (tyOf_ok _) [] ?_ | refine awO (tyOf_ok _) [] ?_ | refine awP (tyOf_ok _) [] ?_ | refine awQ ?_ | refine awR ?_ | refine awS ?_); intro r hr; simp only [go_sem, Nat.reduceBEq, Nat.reduceBneDiff, Nat.reduceLT, Nat.reduceLeDiff, Nat.reduceAdd, Nat.reduceMul, Nat.reduceSub, Nat.reduceEqDiff, reduceCtorEq, hv, hzz, happ, htk, hl1, hgl, ez, hw1] at hr; subst hr; (first | refine awV ?_ ?_ | refine awW ?_ ?_ | refine endK ?_ ?_ | (refine condK (fun h => ?_) (fun h => ?_) <;> (try simp only [go_sem, reduceCtorEq] at h) <;> (try (exfalso; omega))))) | fail)) <;> (try omega)
    all_goals exact ⟨l ++ [z], by simp only [go_sem, Nat.reduceBEq, Nat.reduceBneDiff, Nat.reduceLT, Nat.reduceLeDiff, Nat.reduceAdd, Nat.reduceMul, Nat.reduceSub, Nat.reduceEqDiff, reduceCtorEq, hl1] <;> exact rfl, by rw [hl1]; omega, by rw [hl1]; omega⟩
end Go.Proofs.YtfgacgpicfknpaaDoor
end
section
namespace Go.Proofs.YtfgacgpicfknpaaDoor
open Go.RowKit
set_option maxRecDepth 100000
set_option maxHeartbeats 8000000
/-! mortiselaw11.example, awake. -/
def eS11 : ByteArray := ⟨#[]⟩
def ts11 : List TypeM := [⟨1, 1, 0, []⟩, ⟨3, 0, 0, []⟩, ⟨5, 2, 1, []⟩, ⟨2, 0, 0, []⟩, ⟨1, 2, 0, []⟩, ⟨7, 0, 0, [⟨eS11, 3, 3⟩, ⟨eS11, 5, 4⟩]⟩, ⟨8, 0, 0, [⟨⟨#[97]⟩, 0, 0⟩, ⟨⟨#[98]⟩, 0, 2⟩, ⟨⟨#[99]⟩, 0, 5⟩]⟩]
def ps11 : List Int := [9, 300, 5, 8, -1, 1, 65537]
def vs11 : List NodeM := [⟨4, 0, 3⟩, ⟨1, 44, 0⟩, ⟨3, 0, 2⟩, ⟨1, 8, 0⟩, ⟨1, 18446744073709551615, 0⟩, ⟨6, 5, 1⟩, ⟨1, 1, 0⟩]
def vt11 : List NodeM := [⟨4, 0, 3⟩, ⟨1, 256, 0⟩, ⟨3, 0, 2⟩, ⟨1, 8, 0⟩, ⟨1, 18446744073709551615, 0⟩, ⟨6, 5, 1⟩, ⟨1, 1, 0⟩]
def cs11 : Tr := .node ⟨4, 0, 3⟩ [.node ⟨1, 44, 0⟩ [], .node ⟨3, 0, 2⟩ [.node ⟨1, 8, 0⟩ [], .node ⟨1, 18446744073709551615, 0⟩ []], .node ⟨6, 5, 1⟩ [.node ⟨1, 1, 0⟩ []]]
def ct11 : Tr := .node ⟨4, 0, 3⟩ [.node ⟨1, 256, 0⟩ [], .node ⟨3, 0, 2⟩ [.node ⟨1, 8, 0⟩ [], .node ⟨1, 18446744073709551615, 0⟩ []], .node ⟨6, 5, 1⟩ [.node ⟨1, 1, 0⟩ []]]
theorem some11 : someF ts11 [] 6 ps11 = (vs11, 0) := by kernel_rfl
theorem types11 : typesF ts11 [] 6 vs11 cs11 = ([6, 0, 2, 1, 1, 5, 4], 0, 0) := by kernel_rfl
theorem types11b : typesF ts11 [] 6 vt11 ct11 = ([], 111, 1) := by kernel_rfl
theorem types11c : typesF ts11 [] 7 vt11 ct11 = ([], 3, 0) := by kernel_rfl
theorem h111 : ∀ t ∈ ts11, t.parts.length ≤ 1000000000 := by decide
theorem h112 : ∀ x ∈ vs11, nodeOK x := by unfold nodeOK; decide
theorem h113 : ∀ x ∈ vt11, nodeOK x := by unfold nodeOK; decide
theorem okc11 : (chkN vs11).1 = 0 → cs11.flat = vs11 ∧ cs11.ok := fun _ => ⟨by kernel_rfl, by repeat (first | exact trivial | refine ⟨by decide, by decide, ?_⟩ | refine ⟨?_, ?_⟩)⟩
theorem okt11 : (chkN vt11).1 = 0 → ct11.flat = vt11 ∧ ct11.ok := fun _ => ⟨by kernel_rfl, by repeat (first | exact trivial | refine ⟨by decide, by decide, ?_⟩ | refine ⟨?_, ?_⟩)⟩
theorem example11_any : PCall Tryd.prog 30 [] (fun r => r = .tup [vSch ts11 [], vI 6]) := by
  refine go_fnU (tyOf_ok _) Tryd.func30 rfl rfl (by rw [Tryd.results30]) Tryd.ntmps30 rfl fun E => ?_
  (repeat' (first
    | exact trivial
    | (with_reducible first | refine awA ?_ | refine awB ?_ | refine awC ?_ | refine awD ?_ | refine awE ?_ | refine awF ?_ | refine awG ?_ | refine awH ?_ | refine awI ?_ | refine awJ ?_ | refine awK ?_ | refine awL ?_ | refine awM (by decide) ?_)
    | ((with_reducible first | refine awN (tyOf_ok _) [] ?_ | refine awO (tyOf_ok _) [] ?_ | refine awP (tyOf_ok _) [] ?_ | refine awQ ?_ | refine awR ?_ | refine awS ?_); intro r hr; simp only [go_sem, Nat.reduceBEq, Nat.reduceBneDiff, Nat.reduceLT, Nat.reduceLeDiff, Nat.reduceAdd, Nat.reduceMul, Nat.reduceSub, Nat.reduceEqDiff, reduceCtorEq, Int.cast_ofNat_Int, Int.reduceToNat, Int.reduceEq, Int.reduceLT, Int.reduceLE, Int.reduceNe] at hr; subst hr; (first | refine awV ?_ ?_ | refine awW ?_ ?_ | refine endK ?_ ?_ | (refine condK (fun h => ?_) (fun h => ?_) <;> (try simp only [go_sem, reduceCtorEq] at h) <;> (try (exfalso; omega))))) | fail)) <;> (try omega)
  refine AV.up_tup (AV.up_cons (Up.up (.agg (.cons (.lst ?_) (.cons (.nil _) .nil)))) (AV.up_cons (AV.up_rfl _) AV.up_nilL))
  repeat (first | exact .nil | refine .cons (.cons (.rfl _) (.cons (.rfl _) (.cons (.rfl _) (.cons (.nil _) .nil)))) ?_ | refine .cons (.cons (.rfl _) (.cons (.rfl _) (.cons (.rfl _) (.cons (.rfl _) .nil)))) ?_)
theorem v8_nm11 (l : List Int) : ∀ cs ∈ v8 l, ∀ u ∈ cs, ∃ x, u = .v x := by
  intro cs hcs u hu
  obtain ⟨z, _, rfl⟩ := List.mem_map.1 hcs
  rw [List.mem_singleton] at hu
  exact ⟨_, hu⟩
theorem awake11 : PCall Tryd.prog 8 [] (fun r => r = vB true) := by
  refine go_fn (tyOf_ok _) Tryd.func8 rfl rfl (by rw [Tryd.results8]) Tryd.ntmps8 rfl fun E => ?_
  have hS := tSome_any ts11 [] (by decide) (by decide) h111 6 ps11 (by decide)
  rw [some11] at hS
  have hC := tCheck_any ts11 [] (by decide) (by decide) h111 6 vs11 (by decide) h112 cs11 okc11
  have hT := tTypes_G ts11 [] (by decide) (by decide) h111 6 vs11 (by decide) h112 cs11 okc11
  rw [types11] at hC hT
  have hC2 := tCheck_any ts11 [] (by decide) (by decide) h111 6 vt11 (by decide) h113 ct11 okt11
  rw [types11b] at hC2
  have hC3 := tCheck_any ts11 [] (by decide) (by decide) h111 7 vt11 (by decide) h113 ct11 okt11
  rw [types11c] at hC3
  have hE := equal04_refl vs11 (by decide)
  have hs := sameInts11_any [6, 0, 2, 1, 1, 5, 4] [6, 0, 2, 1, 1, 5, 4] (by decide)
  have hd : decide (([6, 0, 2, 1, 1, 5, 4] : List Int) = [6, 0, 2, 1, 1, 5, 4]) = true := by decide
  rw [hd] at hs
  have hx := example11_any
  (repeat' (first
    | exact trivial
    | (with_reducible first | refine awA ?_ | refine awB ?_ | refine awC ?_ | refine awD ?_ | refine awE ?_ | refine awF ?_ | refine awG ?_ | refine awH ?_ | refine awI ?_ | refine awJ ?_ | refine awK ?_ | refine awL ?_ | refine awM (by decide) ?_)
    | ((with_reducible first | refine awN (tyOf_ok _) [26] ?_ | refine awO (tyOf_ok _) [26] ?_ | refine awP (tyOf_ok _) [26] ?_ | refine awQ ?_ | refine awR ?_ | refine awS ?_); intro r hr; simp only [go_sem, Nat.reduceBEq, Nat.reduceBneDiff, Nat.reduceLT, Nat.reduceLeDiff, Nat.reduceAdd, Nat.reduceMul, Nat.reduceSub, Nat.reduceEqDiff, reduceCtorEq, vSch, Int.cast_ofNat_Int, Int.reduceToNat, Int.reduceEq, Int.reduceLT, Int.reduceLE, Int.reduceNe, List.set_cons_succ, List.set_cons_zero, nilS] at hr; subst hr; (first | refine caC (hx) rfl ?_ ?_ ?_ | refine caC (hS) rfl ?_ ?_ ?_ | refine caA (fun _ => num11_any _) rfl ?_ ?_ ?_ | refine caA (fun _ => hE) rfl ?_ ?_ ?_ | refine caA (fun _ => hC) rfl ?_ ?_ ?_ | refine caA (fun _ => hs) rfl ?_ ?_ ?_ | refine caA (fun _ => hC2) rfl ?_ ?_ ?_ | refine caA (fun _ => hC3) rfl ?_ ?_ ?_ | refine awV ?_ ?_ | refine awW ?_ ?_ | refine endK ?_ ?_ | (refine condK (fun h => ?_) (fun h => ?_) <;> (try simp only [go_sem, reduceCtorEq] at h) <;> (try (exfalso; omega)))))
    | (refine go_callGd 48 rfl [] [(29, 48)] [48] [] (by simp only [go_sem, Nat.reduceBEq, Nat.reduceBneDiff, Nat.reduceLT, Nat.reduceLeDiff, Nat.reduceAdd, Nat.reduceMul, Nat.reduceSub, Nat.reduceEqDiff, reduceCtorEq, vSch, Int.cast_ofNat_Int, Int.reduceToNat, Int.reduceEq, Int.reduceLT, Int.reduceLE, Int.reduceNe, List.set_cons_succ, List.set_cons_zero, nilS]; exact rfl) ?_ rfl rfl (by first | exact .inl rfl | exact .inr rfl) (by simp only [go_sem, Nat.reduceBEq, Nat.reduceBneDiff, Nat.reduceLT, Nat.reduceLeDiff, Nat.reduceAdd, Nat.reduceMul, Nat.reduceSub, Nat.reduceEqDiff, reduceCtorEq, vSch, Int.cast_ofNat_Int, Int.reduceToNat, Int.reduceEq, Int.reduceLT, Int.reduceLE, Int.reduceNe, List.set_cons_succ, List.set_cons_zero, nilS] <;> exact rfl) (hT) (.inr ⟨rfl, ?_⟩) ?_) | fail)) <;> (try omega)
  all_goals first | exact rfl | exact ⟨v8_nm11 _, trivial⟩
end Go.Proofs.YtfgacgpicfknpaaDoor
end
section
namespace Go.Proofs.YtfgacgpicfknpaaDoor
open Go.RowKit
set_option maxRecDepth 100000
set_option maxHeartbeats 8000000
/-! mortiselaw11.made: a schema that may be, one of its types, picks. -/
theorem cut11_any (ts : List TypeM) (rs : List RootM) (hts : ts.length ≤ 1000000000) (hrs : rs.length ≤ 1000000000) (hp : ∀ t ∈ ts, t.parts.length ≤ 1000000000) :
    PCall Tryd.prog 9 [vSch ts rs] (fun r => r = vSch (cutT ts) (rs.take 260)) := by
  have h := (cut11_G ts rs hts hrs hp).toP (by simp [cutV, cutO, AV.snapOK, AV.snapOK.snapOKL, lk, encTs_len, encRs_len])
  refine h.mono fun r hr => hr.trans ?_
  have e1 : (encTs (cutT ts)).take (cutT ts).length = encTs (cutT ts) := take_len (by rw [encTs_len]; exact Nat.le_refl _)
  have e2 : (encRs (rs.take 260)).take (rs.take 260).length = encRs (rs.take 260) := take_len (by rw [encRs_len]; exact Nat.le_refl _)
  simp only [cutV, cutO, AV.snap, AV.snap.snapL, lk, vSch, Nat.zero_add, List.drop_zero, Nat.reduceBEq, cond_true, cond_false, e1, e2]
/-- what it answers -/
def Made11 (ts : List TypeM) (rs : List RootM) (a : Int) (ps : List Int) (r : AV) : Prop :=
  r = .tup [vSch ts rs, vI 0, nilS, vB false] ∨
  (r = .tup [vSch ts rs, vI (a % ts.length), .lst 1 (v8 (tameF ts (ps.take 300))), vB true] ∧ (checkF ts rs).1 = 0 ∧ 0 < ts.length)
theorem made_any (ts0 : List TypeM) (rs0 : List RootM) (hts : ts0.length ≤ 1048576) (hrs : rs0.length ≤ 1048576) (hp : ∀ t ∈ ts0, t.parts.length ≤ 1000000000) (a : Int) (ha : I64 a) (ps : List Int) (hps : ps.length ≤ 1048576) :
    PCall Tryd.prog 23 [vSch ts0 rs0, vI a, .lst 1 (v8 ps)] (Made11 (cutT ts0) (rs0.take 260) a ps) := by
  refine go_fn (tyOf_ok _) Tryd.func23 rfl rfl (by rw [Tryd.results23]) Tryd.ntmps23 rfl fun E => ?_
  have hcut := cut11_any ts0 rs0 (by omega) (by omega) hp
  have hl0 := cutT_len ts0
  have hrl0 : (rs0.take 260).length ≤ 260 := by simp; omega
  have hpp := cutT_parts (ts := ts0)
  generalize cutT ts0 = ts at *
  generalize rs0.take 260 = rs at *
  have hpp' : ∀ t ∈ ts, t.parts.length ≤ 1000000000 := fun t ht => by have := hpp t ht; omega
  have hck := rcheck_any ts rs (by omega) (by omega) hpp'
  unfold vF at hck
  unfold vSch at hck
  by_cases h0 : (checkF ts rs).1 = 0
  case neg =>
    have e0 : ((checkF ts rs).1 = 0) = False := eq_false h0
    generalize hF : (checkF ts rs) = F at *
    (repeat' (first
    | exact trivial
    | (with_reducible first | refine awA ?_ | refine awB ?_ | refine awC ?_ | refine awD ?_ | refine awE ?_ | refine awF ?_ | refine awG ?_ | refine awH ?_ | refine awI ?_ | refine awJ ?_ | refine awK ?_ | refine awL ?_ | refine awM (by decide) ?_)
    | (refine aw_draw (id := 7) (t := (.node [0, 1, 2, 3, 4, 5, 6, 7, 8, 9, 10, 11, 12, 13] [])) (drR [10] [] [43]) mixed (by kernel_rfl) (by kernel_rfl) (fun _ _ h => h) ?_)
    | (refine at_done (by simp only [List.filterMap_cons, List.filterMap_nil, List.getElem?_toArray, List.getElem?_cons_zero, List.getElem?_cons_succ]; exact rfl) ?_) | (refine at_alt (by simp only [List.filterMap_cons, List.filterMap_nil, List.getElem?_toArray, List.getElem?_cons_zero, List.getElem?_cons_succ]; exact rfl) ?_) | refine qalt_normal ?_ | refine ats_cons ?_ ?_ | exact ats_nil
    | ((with_reducible first | refine awN (tyOf_ok _) [] ?_ | refine awO (tyOf_ok _) [] ?_ | refine awP (tyOf_ok _) [] ?_ | refine awQ ?_ | refine awR ?_ | refine awS ?_); intro r hr; simp only [go_sem, Nat.reduceBEq, Nat.reduceBneDiff, Nat.reduceLT, Nat.reduceLeDiff, Nat.reduceAdd, Nat.reduceMul, Nat.reduceSub, Nat.reduceEqDiff, reduceCtorEq, vSch, e0] at hr; subst hr; (first | refine caC (hcut) rfl ?_ ?_ ?_ | refine caA (fun _ => hck) rfl ?_ ?_ ?_ | refine awV ?_ ?_ | refine awW ?_ ?_ | refine endK ?_ ?_ | (refine condK (fun h => ?_) (fun h => ?_) <;> (try simp only [go_sem, reduceCtorEq] at h) <;> (try (exfalso; omega))))) | fail)) <;> (try omega)
    all_goals exact .inl rfl
  by_cases he : ts.length = 0
  · have e1 : ((ts.length : Int) = 0) = True := eq_true (by omega)
    rw [h0] at hck
    generalize (checkF ts rs).2 = C2 at *
    (repeat' (first
    | exact trivial
    | (with_reducible first | refine awA ?_ | refine awB ?_ | refine awC ?_ | refine awD ?_ | refine awE ?_ | refine awF ?_ | refine awG ?_ | refine awH ?_ | refine awI ?_ | refine awJ ?_ | refine awK ?_ | refine awL ?_ | refine awM (by decide) ?_)
    | (refine aw_draw (id := 7) (t := (.node [0, 1, 2, 3, 4, 5, 6, 7, 8, 9, 10, 11, 12, 13] [])) (drR [10] [] [43]) mixed (by kernel_rfl) (by kernel_rfl) (fun _ _ h => h) ?_)
    | (refine at_done (by simp only [List.filterMap_cons, List.filterMap_nil, List.getElem?_toArray, List.getElem?_cons_zero, List.getElem?_cons_succ]; exact rfl) ?_) | (refine at_alt (by simp only [List.filterMap_cons, List.filterMap_nil, List.getElem?_toArray, List.getElem?_cons_zero, List.getElem?_cons_succ]; exact rfl) ?_) | refine qalt_normal ?_ | refine ats_cons ?_ ?_ | exact ats_nil
    | ((with_reducible first | refine awN (tyOf_ok _) [] ?_ | refine awO (tyOf_ok _) [] ?_ | refine awP (tyOf_ok _) [] ?_ | refine awQ ?_ | refine awR ?_ | refine awS ?_); intro r hr; simp only [go_sem, Nat.reduceBEq, Nat.reduceBneDiff, Nat.reduceLT, Nat.reduceLeDiff, Nat.reduceAdd, Nat.reduceMul, Nat.reduceSub, Nat.reduceEqDiff, reduceCtorEq, vSch, e1, encTs_len] at hr; subst hr; (first | refine caC (hcut) rfl ?_ ?_ ?_ | refine caA (fun _ => hck) rfl ?_ ?_ ?_ | refine awV ?_ ?_ | refine awW ?_ ?_ | refine endK ?_ ?_ | (refine condK (fun h => ?_) (fun h => ?_) <;> (try simp only [go_sem, reduceCtorEq] at h) <;> (try (exfalso; omega))))) | fail)) <;> (try omega)
    all_goals exact .inl rfl
  have e1 : ((ts.length : Int) = 0) = False := eq_false (by omega)
  have hre := rest11_any a ts.length ha (by omega)
  have hLi := light_any ts rs (by omega) (by omega) hpp' (a % ts.length)
  have hT := tame_G ts rs (by omega) (ps.take 300) (by simp; omega)
  have hmin : ((min (ps.length : Int) 300)).toNat = min 300 ps.length := by omega
  have hR : ps.take (min 300 ps.length) = ps.take 300 := List.take_eq_take_iff.2 (by omega)
  have hl3 : (ps.take 300).length = min 300 ps.length := by simp
  have htl := tameF_len ts (ps.take 300)
  have hok : ∀ r, r = AV.tup [vSch ts rs, vI (a % ts.length), .lst 1 (v8 (tameF ts (ps.take 300))), vB true] → Made11 ts rs a ps r := fun r h => .inr ⟨h, h0, by omega⟩
  rw [h0] at hck
  generalize hC2 : (checkF ts rs).2 = C2 at *
  generalize tameF ts (ps.take 300) = qs at *
  unfold vSch at hLi hT
  rw [hl3] at hT htl
  (repeat' (first
    | exact trivial
    | (obtain ⟨b, rfl⟩ := hr)
    | (with_reducible first | refine awA ?_ | refine awB ?_ | refine awC ?_ | refine awD ?_ | refine awE ?_ | refine awF ?_ | refine awG ?_ | refine awH ?_ | refine awI ?_ | refine awJ ?_ | refine awK ?_ | refine awL ?_ | refine awM (by decide) ?_)
    | (refine aw_draw (id := 7) (t := (.node [0, 1, 2, 3, 4, 5, 6, 7, 8, 9, 10, 11, 12, 13] [])) (drR [10] [] [43]) mixed (by kernel_rfl) (by kernel_rfl) (fun _ _ h => h) ?_)
    | (refine at_done (by simp only [List.filterMap_cons, List.filterMap_nil, List.getElem?_toArray, List.getElem?_cons_zero, List.getElem?_cons_succ]; exact rfl) ?_) | (refine at_alt (by simp only [List.filterMap_cons, List.filterMap_nil, List.getElem?_toArray, List.getElem?_cons_zero, List.getElem?_cons_succ]; exact rfl) ?_) | refine qalt_normal ?_ | refine ats_cons ?_ ?_ | exact ats_nil
    | ((with_reducible first | refine awN (tyOf_ok _) [] ?_ | refine awO (tyOf_ok _) [] ?_ | refine awP (tyOf_ok _) [] ?_ | refine awQ ?_ | refine awR ?_ | refine awS ?_); intro r hr; simp only [go_sem, Nat.reduceBEq, Nat.reduceBneDiff, Nat.reduceLT, Nat.reduceLeDiff, Nat.reduceAdd, Nat.reduceMul, Nat.reduceSub, Nat.reduceEqDiff, reduceCtorEq, vSch, e1, encTs_len, hmin, hR, v8_take, hl3, v8_len, Int.toNat_zero, List.drop_zero] at hr; subst hr; (first | refine caC (hcut) rfl ?_ ?_ ?_ | refine caA (fun _ => hck) rfl ?_ ?_ ?_ | refine caA (fun _ => hre) rfl ?_ ?_ ?_ | refine caD (hLi) rfl ?_ ?_ (fun r hr => ?_) | refine awV ?_ ?_ | refine awW ?_ ?_ | refine endK ?_ ?_ | (refine condK (fun h => ?_) (fun h => ?_) <;> (try simp only [go_sem, reduceCtorEq] at h) <;> (try (exfalso; omega)))))
    | (refine go_callGE [(42, 10000)] [(10000, 42)] [] [42] ?_; intro r hr; simp only [go_sem, Nat.reduceBEq, Nat.reduceBneDiff, Nat.reduceLT, Nat.reduceLeDiff, Nat.reduceAdd, Nat.reduceMul, Nat.reduceSub, Nat.reduceEqDiff, reduceCtorEq, vSch, e1, encTs_len, hmin, hR, v8_take, hl3, v8_len, Int.toNat_zero, List.drop_zero] at hr; subst hr; refine callGK (hT) rfl rfl (by first | exact .inl rfl | exact .inr rfl) ?_ (.inl rfl) ?_) | fail)) <;> (try omega)
  all_goals first | exact .inl rfl | exact hok _ (by rw [take_len (by omega)]; exact rfl)
end Go.Proofs.YtfgacgpicfknpaaDoor
end

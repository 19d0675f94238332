import Derived.Deep.DeepHandedRow
import Derived.Lib.LaidTab
import Derived.Test.YtfgacgpicfknpaaDoorP11
set_option linter.all false
section
namespace Go.Proofs.YtfgacgpicfknpaaDoor
open Go.RowKit
set_option maxRecDepth 100000
set_option maxHeartbeats 8000000
/-! TypingKids. -/
theorem kids_any (ts0 : List TypeM) (rs0 : List RootM) (hts : ts0.length ≤ 1048576) (hrs : rs0.length ≤ 1048576) (hp : ∀ t ∈ ts0, t.parts.length ≤ 1000000000) (hg : ∀ t ∈ ts0, ∀ p ∈ t.parts, I64 p.tag) (a : Int) (ha : I64 a) (ps : List Int) (hps : ps.length ≤ 1048576)
    (b : Int) (hb : I64 b) (x : NodeM) (hx : nodeOK x) :
    PCall Tryd.prog 6 [vSch ts0 rs0, vI a, .lst 1 (v8 ps), vI b, .agg [vI x.kind, .v (.int .u64 x.n), vI x.kids]] (fun r => r = vB true) := by
  refine go_fn (tyOf_ok _) Tryd.func6 rfl rfl (by rw [Tryd.results6]) Tryd.ntmps6 rfl fun E => ?_
  have hM := made_any ts0 rs0 hts hrs hp a ha ps hps
  have hl0 := cutT_len ts0
  have hrl0 : (rs0.take 260).length ≤ 260 := by simp; omega
  have hpp := cutT_parts (ts := ts0)
  have hgg : ∀ t ∈ cutT ts0, ∀ p ∈ t.parts, I64 p.tag := fun t ht p hp => by
    obtain ⟨u, hu, rfl⟩ := cutT_mem ht
    exact hg u hu p (List.mem_of_mem_take hp)
  generalize cutT ts0 = ts at *
  generalize rs0.take 260 = rs at *
  have hpp' : ∀ t ∈ ts, t.parts.length ≤ 1000000000 := fun t ht => by have := hpp t ht; omega
  have haw := awake11
  unfold vSch at hM
  (repeat' (first
    | exact trivial
    | (with_reducible first | refine awA ?_ | refine awB ?_ | refine awC ?_ | refine awD ?_ | refine awE ?_ | refine awF ?_ | refine awG ?_ | refine awH ?_ | refine awI ?_ | refine awJ ?_ | refine awK ?_ | refine awL ?_ | refine awM (by decide) ?_)
    | (refine aw_draw (id := 19) (t := (.node [0, 1, 2, 3, 4] [(.node [5] [(.node [6, 7, 8, 9, 10, 11, 12] []), (.node [10, 6, 7, 8, 9, 11, 12] [])]), (.node [10, 5, 6, 7, 8, 9, 11, 12] [])])) (drR [11] [] []) mixed (by kernel_rfl) (by kernel_rfl) (fun _ _ h => h) ?_)
    | (refine aw_draw (id := 29) (t := (.node [0, 1, 2, 3, 4, 5, 6, 7, 8] [(.node [9, 10, 11] []), (.node [10, 9, 11] [])])) (drR [11] [160] []) mixed (by kernel_rfl) (by kernel_rfl) (fun _ _ h => h) ?_)
    | (refine at_done (by simp only [List.filterMap_cons, List.filterMap_nil, List.getElem?_toArray, List.getElem?_cons_zero, List.getElem?_cons_succ]; exact rfl) ?_) | (refine at_alt (by simp only [List.filterMap_cons, List.filterMap_nil, List.getElem?_toArray, List.getElem?_cons_zero, List.getElem?_cons_succ]; exact rfl) ?_) | refine qalt_normal ?_ | refine ats_cons ?_ ?_ | exact ats_nil
    | ((with_reducible first | refine awN (tyOf_ok _) [] ?_ | refine awO (tyOf_ok _) [] ?_ | refine awP (tyOf_ok _) [] ?_ | refine awQ ?_ | refine awR ?_ | refine awS ?_); intro r hr; simp only [go_sem, Nat.reduceBEq, Nat.reduceBneDiff, Nat.reduceLT, Nat.reduceLeDiff, Nat.reduceAdd, Nat.reduceMul, Nat.reduceSub, Nat.reduceEqDiff, reduceCtorEq, vSch] at hr; subst hr; (first | refine caA (fun _ => haw) rfl ?_ ?_ ?_ | refine caD (hM) rfl ?_ ?_ (fun r hr => hold ?_) | refine awV ?_ ?_ | refine awW ?_ ?_ | refine endK ?_ ?_ | (refine condK (fun h => ?_) (fun h => ?_) <;> (try simp only [go_sem, reduceCtorEq] at h) <;> (try (exfalso; omega))))) | fail)) <;> (try omega)
  refine ⟨?_⟩
  rcases hr with rfl | ⟨rfl, h0, hn⟩
  · (repeat' (first
    | exact trivial
    | (with_reducible first | refine awA ?_ | refine awB ?_ | refine awC ?_ | refine awD ?_ | refine awE ?_ | refine awF ?_ | refine awG ?_ | refine awH ?_ | refine awI ?_ | refine awJ ?_ | refine awK ?_ | refine awL ?_ | refine awM (by decide) ?_)
    | (refine aw_draw (id := 19) (t := (.node [0, 1, 2, 3, 4] [(.node [5] [(.node [6, 7, 8, 9, 10, 11, 12] []), (.node [10, 6, 7, 8, 9, 11, 12] [])]), (.node [10, 5, 6, 7, 8, 9, 11, 12] [])])) (drR [11] [] []) mixed (by kernel_rfl) (by kernel_rfl) (fun _ _ h => h) ?_)
    | (refine aw_draw (id := 29) (t := (.node [0, 1, 2, 3, 4, 5, 6, 7, 8] [(.node [9, 10, 11] []), (.node [10, 9, 11] [])])) (drR [11] [160] []) mixed (by kernel_rfl) (by kernel_rfl) (fun _ _ h => h) ?_)
    | (refine at_done (by simp only [List.filterMap_cons, List.filterMap_nil, List.getElem?_toArray, List.getElem?_cons_zero, List.getElem?_cons_succ]; exact rfl) ?_) | (refine at_alt (by simp only [List.filterMap_cons, List.filterMap_nil, List.getElem?_toArray, List.getElem?_cons_zero, List.getElem?_cons_succ]; exact rfl) ?_) | refine qalt_normal ?_ | refine ats_cons ?_ ?_ | exact ats_nil
    | ((with_reducible first | refine awN (tyOf_ok _) [] ?_ | refine awO (tyOf_ok _) [] ?_ | refine awP (tyOf_ok _) [] ?_ | refine awQ ?_ | refine awR ?_ | refine awS ?_); intro r hr; simp only [go_sem, Nat.reduceBEq, Nat.reduceBneDiff, Nat.reduceLT, Nat.reduceLeDiff, Nat.reduceAdd, Nat.reduceMul, Nat.reduceSub, Nat.reduceEqDiff, reduceCtorEq, vSch] at hr; subst hr; (first | refine awV ?_ ?_ | refine awW ?_ ?_ | refine endK ?_ ?_ | (refine condK (fun h => ?_) (fun h => ?_) <;> (try simp only [go_sem, reduceCtorEq] at h) <;> (try (exfalso; omega))))) | fail)) <;> (try omega)
    all_goals exact rfl
  obtain ⟨j, hj⟩ : ∃ j : Nat, a % (ts.length : Int) = j := ⟨(a % (ts.length : Int)).toNat, by
    have := Int.emod_nonneg a (show (ts.length : Int) ≠ 0 by omega)
    omega⟩
  have hjl : j < ts.length := by
    have := Int.emod_lt_of_pos a (show 0 < (ts.length : Int) by omega)
    omega
  rw [hj]
  have hqs := tameF_len ts (ps.take 300)
  simp only [List.length_take] at hqs
  generalize tameF ts (ps.take 300) = qs at *
  have hS := tSome_G ts rs (by omega) (by omega) hpp' j qs (by omega)
  unfold vSch at hS
  have hMS := mustSome_any ts rs (by omega) (by omega) hpp' hgg j (by unfold I64; omega) qs (by omega)
  unfold vSch at hMS
  rcases some_cases (rs := rs) h0 hjl qs with h5 | ⟨h5, c, _, hc1, hty, hnd, hcl⟩
  · rw [h5] at hS
    generalize (someF ts rs j qs).1 = F at *
    (repeat' (first
    | exact trivial
    | (with_reducible first | refine awA ?_ | refine awB ?_ | refine awC ?_ | refine awD ?_ | refine awE ?_ | refine awF ?_ | refine awG ?_ | refine awH ?_ | refine awI ?_ | refine awJ ?_ | refine awK ?_ | refine awL ?_ | refine awM (by decide) ?_)
    | (refine aw_draw (id := 19) (t := (.node [0, 1, 2, 3, 4] [(.node [5] [(.node [6, 7, 8, 9, 10, 11, 12] []), (.node [10, 6, 7, 8, 9, 11, 12] [])]), (.node [10, 5, 6, 7, 8, 9, 11, 12] [])])) (drR [11] [] []) mixed (by kernel_rfl) (by kernel_rfl) (fun _ _ h => h) ?_)
    | (refine aw_draw (id := 29) (t := (.node [0, 1, 2, 3, 4, 5, 6, 7, 8] [(.node [9, 10, 11] []), (.node [10, 9, 11] [])])) (drR [11] [160] []) mixed (by kernel_rfl) (by kernel_rfl) (fun _ _ h => h) ?_)
    | (refine at_done (by simp only [List.filterMap_cons, List.filterMap_nil, List.getElem?_toArray, List.getElem?_cons_zero, List.getElem?_cons_succ]; exact rfl) ?_) | (refine at_alt (by simp only [List.filterMap_cons, List.filterMap_nil, List.getElem?_toArray, List.getElem?_cons_zero, List.getElem?_cons_succ]; exact rfl) ?_) | refine qalt_normal ?_ | refine ats_cons ?_ ?_ | exact ats_nil
    | ((with_reducible first | refine awN (tyOf_ok _) [] ?_ | refine awO (tyOf_ok _) [] ?_ | refine awP (tyOf_ok _) [] ?_ | refine awQ ?_ | refine awR ?_ | refine awS ?_); intro r hr; simp only [go_sem, Nat.reduceBEq, Nat.reduceBneDiff, Nat.reduceLT, Nat.reduceLeDiff, Nat.reduceAdd, Nat.reduceMul, Nat.reduceSub, Nat.reduceEqDiff, reduceCtorEq, vSch] at hr; subst hr; (first | refine caA (fun _ => num11_any _) rfl ?_ ?_ ?_ | refine awV ?_ ?_ | refine awW ?_ ?_ | refine endK ?_ ?_ | (refine condK (fun h => ?_) (fun h => ?_) <;> (try simp only [go_sem, reduceCtorEq] at h) <;> (try (exfalso; omega)))))
    | (refine go_callGd 45 rfl [] [(8000, 45)] [45] [] (by simp only [go_sem, Nat.reduceBEq, Nat.reduceBneDiff, Nat.reduceLT, Nat.reduceLeDiff, Nat.reduceAdd, Nat.reduceMul, Nat.reduceSub, Nat.reduceEqDiff, reduceCtorEq, vSch]; exact rfl) ?_ rfl rfl (by first | exact .inl rfl | exact .inr rfl) (by simp only [go_sem, Nat.reduceBEq, Nat.reduceBneDiff, Nat.reduceLT, Nat.reduceLeDiff, Nat.reduceAdd, Nat.reduceMul, Nat.reduceSub, Nat.reduceEqDiff, reduceCtorEq, vSch] <;> exact rfl) (hS) (.inr ⟨rfl, ?_⟩) ?_) | fail)) <;> (try omega)
    all_goals first | exact rfl | exact ⟨encNs_nm _, trivial⟩
  rw [h5, ← hc1] at hS
  rw [← hc1] at hMS
  have hRT := rTypes11_any ts rs (by omega) (by omega) hpp' hgg j (by unfold I64; omega) c.flat (by omega) hnd c (fun _ => ⟨rfl, typed_ok _ c (Nat.le_refl _) j hty⟩)
  rw [typesF_typed h0 hty] at hRT
  unfold vSch at hRT
  have hok := typed_ok _ c (Nat.le_refl _) j hty
  have hpos := flat_pos c
  have hL0 : ((c.flat.length : Int) = 0) = False := eq_false (by omega)
  have hre := rest11_any b c.flat.length hb (by omega)
  obtain ⟨k, hk⟩ : ∃ k : Nat, b % (c.flat.length : Int) = k := ⟨(b % (c.flat.length : Int)).toNat, by
    have := Int.emod_nonneg b (show (c.flat.length : Int) ≠ 0 by omega)
    omega⟩
  have hkl : k < c.flat.length := by
    have := Int.emod_lt_of_pos b (show 0 < (c.flat.length : Int) by omega)
    omega
  rw [hk] at hre
  have g1 := encNs_get hkl
  have zk : ((k : Int)).toNat = k := by omega
  obtain ⟨y, hy⟩ : ∃ y : NodeM, y = ⟨x.kind, x.n, c.flat[k].kids⟩ := ⟨_, rfl⟩
  have hset := encNs_set c.flat k y
  rw [hy] at hset
  simp only [encN, vU] at hset
  rw [← hy] at hset
  have hyo : nodeOK y := by
    subst hy
    have := hnd _ (List.getElem_mem hkl)
    exact ⟨hx.1, this.2.1, hx.2.2⟩
  have hyk : ∀ z, c.flat[k]? = some z → y.kids = z.kids := fun z hz => by
    rw [List.getElem?_eq_getElem hkl] at hz
    injection hz with hz
    rw [hy, ← hz]
  have hUl : (c.flat.set k y).length = c.flat.length := List.length_set ..
  have hUo := set_ok hnd (k := k) hyo
  have hch := chkL_set c.flat k y 1 0 (chk_flat11 hok) hyk hkl
  have hpf := put_flat _ c (Nat.le_refl _) k y
  have h4 := check04_any (c.flat.set k y) (by omega)
  have htk : (encNs (c.flat.set k y)).take c.flat.length = encNs (c.flat.set k y) := take_len (by rw [encNs_len, hUl]; exact Nat.le_refl _)
  cases hry : rightN y with
  | false =>
    rw [hry, if_neg (by simp), Int.zero_add] at hch
    change chkN (c.flat.set k y) = (40, (k : Int)) at hch
    have hC := tCheck_any ts rs (by omega) (by omega) hpp' j (c.flat.set k y) (by omega) hUo c (fun h => by rw [hch] at h; cases h)
    have hT : typesF ts rs j (c.flat.set k y) c = ([], 40, (k : Int)) := by
      unfold typesF
      rw [if_neg (by omega), if_neg (by omega), if_pos (by rw [hch]; simp), hch]
    rw [hT] at hC
    rw [hch] at h4
    unfold vSch at hC
    clear hpf hch hUo hT
    generalize c.flat.set k y = U at *
    (repeat' (first
    | exact trivial
    | (with_reducible first | refine awA ?_ | refine awB ?_ | refine awC ?_ | refine awD ?_ | refine awE ?_ | refine awF ?_ | refine awG ?_ | refine awH ?_ | refine awI ?_ | refine awJ ?_ | refine awK ?_ | refine awL ?_ | refine awM (by decide) ?_)
    | (refine aw_draw (id := 19) (t := (.node [0, 1, 2, 3, 4] [(.node [5] [(.node [6, 7, 8, 9, 10, 11, 12] []), (.node [10, 6, 7, 8, 9, 11, 12] [])]), (.node [10, 5, 6, 7, 8, 9, 11, 12] [])])) (drR [11] [] []) mixed (by kernel_rfl) (by kernel_rfl) (fun _ _ h => h) ?_)
    | (refine aw_draw (id := 29) (t := (.node [0, 1, 2, 3, 4, 5, 6, 7, 8] [(.node [9, 10, 11] []), (.node [10, 9, 11] [])])) (drR [11] [160] []) mixed (by kernel_rfl) (by kernel_rfl) (fun _ _ h => h) ?_)
    | (refine at_done (by simp only [List.filterMap_cons, List.filterMap_nil, List.getElem?_toArray, List.getElem?_cons_zero, List.getElem?_cons_succ]; exact rfl) ?_) | (refine at_alt (by simp only [List.filterMap_cons, List.filterMap_nil, List.getElem?_toArray, List.getElem?_cons_zero, List.getElem?_cons_succ]; exact rfl) ?_) | refine qalt_normal ?_ | refine ats_cons ?_ ?_ | exact ats_nil
    | ((with_reducible first | refine awN (tyOf_ok _) [] ?_ | refine awO (tyOf_ok _) [] ?_ | refine awP (tyOf_ok _) [] ?_ | refine awQ ?_ | refine awR ?_ | refine awS ?_); intro r hr; simp only [go_sem, Nat.reduceBEq, Nat.reduceBneDiff, Nat.reduceLT, Nat.reduceLeDiff, Nat.reduceAdd, Nat.reduceMul, Nat.reduceSub, Nat.reduceEqDiff, reduceCtorEq, vSch, hL0, g1, zk, hset, hUl, htk, List.drop_zero, Int.cast_ofNat_Int, Int.reduceToNat, Int.reduceEq, Int.reduceLT, Int.reduceLE, Int.reduceNe] at hr; subst hr; (first | refine caA (fun _ => num11_any _) rfl ?_ ?_ ?_ | refine caA (fun _ => hre) rfl ?_ ?_ ?_ | refine caA (fun _ => h4) rfl ?_ ?_ ?_ | refine caA (fun _ => hC) rfl ?_ ?_ ?_ | refine awV ?_ ?_ | refine awW ?_ ?_ | refine endK ?_ ?_ | (refine condK (fun h => ?_) (fun h => ?_) <;> (try simp only [go_sem, reduceCtorEq] at h) <;> (try (exfalso; omega)))))
    | (refine go_callGd 45 rfl [] [(8000, 45)] [45] [] (by simp only [go_sem, Nat.reduceBEq, Nat.reduceBneDiff, Nat.reduceLT, Nat.reduceLeDiff, Nat.reduceAdd, Nat.reduceMul, Nat.reduceSub, Nat.reduceEqDiff, reduceCtorEq, vSch, hL0, g1, zk, hset, hUl, htk, List.drop_zero, Int.cast_ofNat_Int, Int.reduceToNat, Int.reduceEq, Int.reduceLT, Int.reduceLE, Int.reduceNe]; exact rfl) ?_ rfl rfl (by first | exact .inl rfl | exact .inr rfl) (by simp only [go_sem, Nat.reduceBEq, Nat.reduceBneDiff, Nat.reduceLT, Nat.reduceLeDiff, Nat.reduceAdd, Nat.reduceMul, Nat.reduceSub, Nat.reduceEqDiff, reduceCtorEq, vSch, hL0, g1, zk, hset, hUl, htk, List.drop_zero, Int.cast_ofNat_Int, Int.reduceToNat, Int.reduceEq, Int.reduceLT, Int.reduceLE, Int.reduceNe] <;> exact rfl) (hS) (.inr ⟨rfl, ?_⟩) ?_) | fail)) <;> (try omega)
    all_goals first | exact rfl | exact ⟨encNs_nm _, trivial⟩
  | true =>
  rw [hry, if_pos rfl] at hch
  change chkN (c.flat.set k y) = (0, 0) at hch
  rw [hch] at h4
  have hdo := put_ok _ c (Nat.le_refl _) hok k y hry hyk
  have hC := tCheck_any ts rs (by omega) (by omega) hpp' j (c.put k y).flat (by rw [hpf, hUl]; omega) (by rw [hpf]; exact hUo) (c.put k y) (fun _ => ⟨rfl, hdo⟩)
  have hT : ∀ (d : Tr) (t : Nat), t < ts.length → d.ok → (typesF ts rs t d.flat d).2 = (d.walk ts t 0 []).2.2 := fun d t ht hd => by
    unfold typesF
    rw [if_neg (by omega), if_neg (by omega), if_neg (by have := chk_flat11 hd; omega), Int.toNat_natCast]
  have hCk : ∀ (d : Tr) (t : Nat), t < ts.length → d.ok → (∀ x ∈ d.flat, nodeOK x) → d.flat.length ≤ 1048576 → PCall Tryd.prog 11 [.agg [.lst 4 (encTs ts), .lst 2 (encRs rs)], vI t, .lst 3 (encNs d.flat)] (fun r => r = .agg [vI (d.walk ts t 0 []).2.2.1, vI (d.walk ts t 0 []).2.2.2]) := fun d t ht h1 h2 h3 => by
    have h := tCheck_any ts rs (by omega) (by omega) hpp' t d.flat (by omega) h2 d (fun _ => ⟨rfl, h1⟩)
    rw [hT d t ht h1] at h
    exact h
  have hpl := put_len c k y
  have hno : ∀ x ∈ (c.put k y).flat, nodeOK x := by rw [hpf]; exact hUo
  clear hUo hT hC
  rw [← hpf] at hset hUl h4 htk hch
  have hC := hCk (c.put k y) j hjl hdo hno (by omega)
  clear hpf
  cases k with
  | zero =>
    have hF := fun {F1 F2 : Int} => root_put (F1 := F1) (F2 := F2) (y := y) (t := j) (ts := ts) (r := (match c with | .node r _ => r)) (ks := (match c with | .node _ ks => ks)) (by cases c; exact hty)
    have hpe : c.put 0 y = .node y (match c with | .node _ ks => ks) := by cases c; rfl
    rw [← hpe] at hF
    have hyx : y.kind = x.kind := by rw [hy]
    generalize c.put 0 y = d at *
    clear hpe
    obtain ⟨F1, hF1⟩ : ∃ z, (d.walk ts j 0 []).2.2.1 = z := ⟨_, rfl⟩
    obtain ⟨F2, hF2⟩ : ∃ z, (d.walk ts j 0 []).2.2.2 = z := ⟨_, rfl⟩
    have hF := hF (Prod.ext hF1 hF2)
    rw [hF1, hF2] at hC
    rcases hF with rfl | hF | ⟨f1, f2, f3⟩
    · (repeat' (first
    | exact trivial
    | (with_reducible first | refine awA ?_ | refine awB ?_ | refine awC ?_ | refine awD ?_ | refine awE ?_ | refine awF ?_ | refine awG ?_ | refine awH ?_ | refine awI ?_ | refine awJ ?_ | refine awK ?_ | refine awL ?_ | refine awM (by decide) ?_)
    | (refine aw_draw (id := 19) (t := (.node [0, 1, 2, 3, 4] [(.node [5] [(.node [6, 7, 8, 9, 10, 11, 12] []), (.node [10, 6, 7, 8, 9, 11, 12] [])]), (.node [10, 5, 6, 7, 8, 9, 11, 12] [])])) (drR [11] [] []) mixed (by kernel_rfl) (by kernel_rfl) (fun _ _ h => h) ?_)
    | (refine aw_draw (id := 29) (t := (.node [0, 1, 2, 3, 4, 5, 6, 7, 8] [(.node [9, 10, 11] []), (.node [10, 9, 11] [])])) (drR [11] [160] []) mixed (by kernel_rfl) (by kernel_rfl) (fun _ _ h => h) ?_)
    | (refine at_done (by simp only [List.filterMap_cons, List.filterMap_nil, List.getElem?_toArray, List.getElem?_cons_zero, List.getElem?_cons_succ]; exact rfl) ?_) | (refine at_alt (by simp only [List.filterMap_cons, List.filterMap_nil, List.getElem?_toArray, List.getElem?_cons_zero, List.getElem?_cons_succ]; exact rfl) ?_) | refine qalt_normal ?_ | refine ats_cons ?_ ?_ | exact ats_nil
    | ((with_reducible first | refine awN (tyOf_ok _) [] ?_ | refine awO (tyOf_ok _) [] ?_ | refine awP (tyOf_ok _) [] ?_ | refine awQ ?_ | refine awR ?_ | refine awS ?_); intro r hr; simp only [go_sem, Nat.reduceBEq, Nat.reduceBneDiff, Nat.reduceLT, Nat.reduceLeDiff, Nat.reduceAdd, Nat.reduceMul, Nat.reduceSub, Nat.reduceEqDiff, reduceCtorEq, vSch, hL0, g1, zk, hset, hUl, htk, List.drop_zero, Int.cast_ofNat_Int, Int.reduceToNat, Int.reduceEq, Int.reduceLT, Int.reduceLE, Int.reduceNe] at hr; subst hr; (first | refine caA (fun _ => num11_any _) rfl ?_ ?_ ?_ | refine caA (fun _ => hre) rfl ?_ ?_ ?_ | refine caA (fun _ => h4) rfl ?_ ?_ ?_ | refine caA (fun _ => hC) rfl ?_ ?_ ?_ | refine awV ?_ ?_ | refine awW ?_ ?_ | refine endK ?_ ?_ | (refine condK (fun h => ?_) (fun h => ?_) <;> (try simp only [go_sem, reduceCtorEq] at h) <;> (try (exfalso; omega)))))
    | (refine go_callGd 45 rfl [] [(8000, 45)] [45] [] (by simp only [go_sem, Nat.reduceBEq, Nat.reduceBneDiff, Nat.reduceLT, Nat.reduceLeDiff, Nat.reduceAdd, Nat.reduceMul, Nat.reduceSub, Nat.reduceEqDiff, reduceCtorEq, vSch, hL0, g1, zk, hset, hUl, htk, List.drop_zero, Int.cast_ofNat_Int, Int.reduceToNat, Int.reduceEq, Int.reduceLT, Int.reduceLE, Int.reduceNe]; exact rfl) ?_ rfl rfl (by first | exact .inl rfl | exact .inr rfl) (by simp only [go_sem, Nat.reduceBEq, Nat.reduceBneDiff, Nat.reduceLT, Nat.reduceLeDiff, Nat.reduceAdd, Nat.reduceMul, Nat.reduceSub, Nat.reduceEqDiff, reduceCtorEq, vSch, hL0, g1, zk, hset, hUl, htk, List.drop_zero, Int.cast_ofNat_Int, Int.reduceToNat, Int.reduceEq, Int.reduceLT, Int.reduceLE, Int.reduceNe] <;> exact rfl) (hS) (.inr ⟨rfl, ?_⟩) ?_) | fail)) <;> (try omega)
      all_goals first | exact rfl | exact ⟨encNs_nm _, trivial⟩
    · by_cases h0' : F1 = 0
      · subst h0'
        (repeat' (first
    | exact trivial
    | (with_reducible first | refine awA ?_ | refine awB ?_ | refine awC ?_ | refine awD ?_ | refine awE ?_ | refine awF ?_ | refine awG ?_ | refine awH ?_ | refine awI ?_ | refine awJ ?_ | refine awK ?_ | refine awL ?_ | refine awM (by decide) ?_)
    | (refine aw_draw (id := 19) (t := (.node [0, 1, 2, 3, 4] [(.node [5] [(.node [6, 7, 8, 9, 10, 11, 12] []), (.node [10, 6, 7, 8, 9, 11, 12] [])]), (.node [10, 5, 6, 7, 8, 9, 11, 12] [])])) (drR [11] [] []) mixed (by kernel_rfl) (by kernel_rfl) (fun _ _ h => h) ?_)
    | (refine aw_draw (id := 29) (t := (.node [0, 1, 2, 3, 4, 5, 6, 7, 8] [(.node [9, 10, 11] []), (.node [10, 9, 11] [])])) (drR [11] [160] []) mixed (by kernel_rfl) (by kernel_rfl) (fun _ _ h => h) ?_)
    | (refine at_done (by simp only [List.filterMap_cons, List.filterMap_nil, List.getElem?_toArray, List.getElem?_cons_zero, List.getElem?_cons_succ]; exact rfl) ?_) | (refine at_alt (by simp only [List.filterMap_cons, List.filterMap_nil, List.getElem?_toArray, List.getElem?_cons_zero, List.getElem?_cons_succ]; exact rfl) ?_) | refine qalt_normal ?_ | refine ats_cons ?_ ?_ | exact ats_nil
    | ((with_reducible first | refine awN (tyOf_ok _) [] ?_ | refine awO (tyOf_ok _) [] ?_ | refine awP (tyOf_ok _) [] ?_ | refine awQ ?_ | refine awR ?_ | refine awS ?_); intro r hr; simp only [go_sem, Nat.reduceBEq, Nat.reduceBneDiff, Nat.reduceLT, Nat.reduceLeDiff, Nat.reduceAdd, Nat.reduceMul, Nat.reduceSub, Nat.reduceEqDiff, reduceCtorEq, vSch, hL0, g1, zk, hset, hUl, htk, List.drop_zero, Int.cast_ofNat_Int, Int.reduceToNat, Int.reduceEq, Int.reduceLT, Int.reduceLE, Int.reduceNe] at hr; subst hr; (first | refine caA (fun _ => num11_any _) rfl ?_ ?_ ?_ | refine caA (fun _ => hre) rfl ?_ ?_ ?_ | refine caA (fun _ => h4) rfl ?_ ?_ ?_ | refine caA (fun _ => hC) rfl ?_ ?_ ?_ | refine awV ?_ ?_ | refine awW ?_ ?_ | refine endK ?_ ?_ | (refine condK (fun h => ?_) (fun h => ?_) <;> (try simp only [go_sem, reduceCtorEq] at h) <;> (try (exfalso; omega)))))
    | (refine go_callGd 45 rfl [] [(8000, 45)] [45] [] (by simp only [go_sem, Nat.reduceBEq, Nat.reduceBneDiff, Nat.reduceLT, Nat.reduceLeDiff, Nat.reduceAdd, Nat.reduceMul, Nat.reduceSub, Nat.reduceEqDiff, reduceCtorEq, vSch, hL0, g1, zk, hset, hUl, htk, List.drop_zero, Int.cast_ofNat_Int, Int.reduceToNat, Int.reduceEq, Int.reduceLT, Int.reduceLE, Int.reduceNe]; exact rfl) ?_ rfl rfl (by first | exact .inl rfl | exact .inr rfl) (by simp only [go_sem, Nat.reduceBEq, Nat.reduceBneDiff, Nat.reduceLT, Nat.reduceLeDiff, Nat.reduceAdd, Nat.reduceMul, Nat.reduceSub, Nat.reduceEqDiff, reduceCtorEq, vSch, hL0, g1, zk, hset, hUl, htk, List.drop_zero, Int.cast_ofNat_Int, Int.reduceToNat, Int.reduceEq, Int.reduceLT, Int.reduceLE, Int.reduceNe] <;> exact rfl) (hS) (.inr ⟨rfl, ?_⟩) ?_) | fail)) <;> (try omega)
        all_goals first | exact rfl | exact ⟨encNs_nm _, trivial⟩
      have e0 : (F1 = 0) = False := eq_false h0'
      subst hF
      (repeat' (first
    | exact trivial
    | (with_reducible first | refine awA ?_ | refine awB ?_ | refine awC ?_ | refine awD ?_ | refine awE ?_ | refine awF ?_ | refine awG ?_ | refine awH ?_ | refine awI ?_ | refine awJ ?_ | refine awK ?_ | refine awL ?_ | refine awM (by decide) ?_)
    | (refine aw_draw (id := 19) (t := (.node [0, 1, 2, 3, 4] [(.node [5] [(.node [6, 7, 8, 9, 10, 11, 12] []), (.node [10, 6, 7, 8, 9, 11, 12] [])]), (.node [10, 5, 6, 7, 8, 9, 11, 12] [])])) (drR [11] [] []) mixed (by kernel_rfl) (by kernel_rfl) (fun _ _ h => h) ?_)
    | (refine aw_draw (id := 29) (t := (.node [0, 1, 2, 3, 4, 5, 6, 7, 8] [(.node [9, 10, 11] []), (.node [10, 9, 11] [])])) (drR [11] [160] []) mixed (by kernel_rfl) (by kernel_rfl) (fun _ _ h => h) ?_)
    | (refine at_done (by simp only [List.filterMap_cons, List.filterMap_nil, List.getElem?_toArray, List.getElem?_cons_zero, List.getElem?_cons_succ]; exact rfl) ?_) | (refine at_alt (by simp only [List.filterMap_cons, List.filterMap_nil, List.getElem?_toArray, List.getElem?_cons_zero, List.getElem?_cons_succ]; exact rfl) ?_) | refine qalt_normal ?_ | refine ats_cons ?_ ?_ | exact ats_nil
    | ((with_reducible first | refine awN (tyOf_ok _) [] ?_ | refine awO (tyOf_ok _) [] ?_ | refine awP (tyOf_ok _) [] ?_ | refine awQ ?_ | refine awR ?_ | refine awS ?_); intro r hr; simp only [go_sem, Nat.reduceBEq, Nat.reduceBneDiff, Nat.reduceLT, Nat.reduceLeDiff, Nat.reduceAdd, Nat.reduceMul, Nat.reduceSub, Nat.reduceEqDiff, reduceCtorEq, vSch, hL0, g1, zk, hset, hUl, htk, List.drop_zero, e0, Int.cast_ofNat_Int, Int.reduceToNat, Int.reduceEq, Int.reduceLT, Int.reduceLE, Int.reduceNe] at hr; subst hr; (first | refine caA (fun _ => num11_any _) rfl ?_ ?_ ?_ | refine caA (fun _ => hre) rfl ?_ ?_ ?_ | refine caA (fun _ => h4) rfl ?_ ?_ ?_ | refine caA (fun _ => hC) rfl ?_ ?_ ?_ | refine awV ?_ ?_ | refine awW ?_ ?_ | refine endK ?_ ?_ | (refine condK (fun h => ?_) (fun h => ?_) <;> (try simp only [go_sem, reduceCtorEq] at h) <;> (try (exfalso; omega)))))
    | (refine go_callGd 45 rfl [] [(8000, 45)] [45] [] (by simp only [go_sem, Nat.reduceBEq, Nat.reduceBneDiff, Nat.reduceLT, Nat.reduceLeDiff, Nat.reduceAdd, Nat.reduceMul, Nat.reduceSub, Nat.reduceEqDiff, reduceCtorEq, vSch, hL0, g1, zk, hset, hUl, htk, List.drop_zero, e0, Int.cast_ofNat_Int, Int.reduceToNat, Int.reduceEq, Int.reduceLT, Int.reduceLE, Int.reduceNe]; exact rfl) ?_ rfl rfl (by first | exact .inl rfl | exact .inr rfl) (by simp only [go_sem, Nat.reduceBEq, Nat.reduceBneDiff, Nat.reduceLT, Nat.reduceLeDiff, Nat.reduceAdd, Nat.reduceMul, Nat.reduceSub, Nat.reduceEqDiff, reduceCtorEq, vSch, hL0, g1, zk, hset, hUl, htk, List.drop_zero, e0, Int.cast_ofNat_Int, Int.reduceToNat, Int.reduceEq, Int.reduceLT, Int.reduceLE, Int.reduceNe] <;> exact rfl) (hS) (.inr ⟨rfl, ?_⟩) ?_) | fail)) <;> (try omega)
      all_goals first | exact rfl | exact ⟨encNs_nm _, trivial⟩
    · have e0 : (F1 = 0) = False := eq_false (by omega)
      have e2 : (F2 = 0) = False := eq_false (by omega)
      have e3 : (0 < F1) = True := eq_true f1
      have e4 : (0 < F2) = True := eq_true f2
      have e5 : x.kind = 6 := by omega
      rw [e5] at hset
      (repeat' (first
    | exact trivial
    | (with_reducible first | refine awA ?_ | refine awB ?_ | refine awC ?_ | refine awD ?_ | refine awE ?_ | refine awF ?_ | refine awG ?_ | refine awH ?_ | refine awI ?_ | refine awJ ?_ | refine awK ?_ | refine awL ?_ | refine awM (by decide) ?_)
    | (refine aw_draw (id := 19) (t := (.node [0, 1, 2, 3, 4] [(.node [5] [(.node [6, 7, 8, 9, 10, 11, 12] []), (.node [10, 6, 7, 8, 9, 11, 12] [])]), (.node [10, 5, 6, 7, 8, 9, 11, 12] [])])) (drR [11] [] []) mixed (by kernel_rfl) (by kernel_rfl) (fun _ _ h => h) ?_)
    | (refine aw_draw (id := 29) (t := (.node [0, 1, 2, 3, 4, 5, 6, 7, 8] [(.node [9, 10, 11] []), (.node [10, 9, 11] [])])) (drR [11] [160] []) mixed (by kernel_rfl) (by kernel_rfl) (fun _ _ h => h) ?_)
    | (refine at_done (by simp only [List.filterMap_cons, List.filterMap_nil, List.getElem?_toArray, List.getElem?_cons_zero, List.getElem?_cons_succ]; exact rfl) ?_) | (refine at_alt (by simp only [List.filterMap_cons, List.filterMap_nil, List.getElem?_toArray, List.getElem?_cons_zero, List.getElem?_cons_succ]; exact rfl) ?_) | refine qalt_normal ?_ | refine ats_cons ?_ ?_ | exact ats_nil
    | ((with_reducible first | refine awN (tyOf_ok _) [] ?_ | refine awO (tyOf_ok _) [] ?_ | refine awP (tyOf_ok _) [] ?_ | refine awQ ?_ | refine awR ?_ | refine awS ?_); intro r hr; simp only [go_sem, Nat.reduceBEq, Nat.reduceBneDiff, Nat.reduceLT, Nat.reduceLeDiff, Nat.reduceAdd, Nat.reduceMul, Nat.reduceSub, Nat.reduceEqDiff, reduceCtorEq, vSch, hL0, g1, zk, hset, hUl, htk, List.drop_zero, e0, e2, e3, e4, e5, Int.cast_ofNat_Int, Int.reduceToNat, Int.reduceEq, Int.reduceLT, Int.reduceLE, Int.reduceNe] at hr; subst hr; (first | refine caA (fun _ => num11_any _) rfl ?_ ?_ ?_ | refine caA (fun _ => hre) rfl ?_ ?_ ?_ | refine caA (fun _ => h4) rfl ?_ ?_ ?_ | refine caA (fun _ => hC) rfl ?_ ?_ ?_ | refine awV ?_ ?_ | refine awW ?_ ?_ | refine endK ?_ ?_ | (refine condK (fun h => ?_) (fun h => ?_) <;> (try simp only [go_sem, reduceCtorEq] at h) <;> (try (exfalso; omega)))))
    | (refine go_callGd 45 rfl [] [(8000, 45)] [45] [] (by simp only [go_sem, Nat.reduceBEq, Nat.reduceBneDiff, Nat.reduceLT, Nat.reduceLeDiff, Nat.reduceAdd, Nat.reduceMul, Nat.reduceSub, Nat.reduceEqDiff, reduceCtorEq, vSch, hL0, g1, zk, hset, hUl, htk, List.drop_zero, e0, e2, e3, e4, e5, Int.cast_ofNat_Int, Int.reduceToNat, Int.reduceEq, Int.reduceLT, Int.reduceLE, Int.reduceNe]; exact rfl) ?_ rfl rfl (by first | exact .inl rfl | exact .inr rfl) (by simp only [go_sem, Nat.reduceBEq, Nat.reduceBneDiff, Nat.reduceLT, Nat.reduceLeDiff, Nat.reduceAdd, Nat.reduceMul, Nat.reduceSub, Nat.reduceEqDiff, reduceCtorEq, vSch, hL0, g1, zk, hset, hUl, htk, List.drop_zero, e0, e2, e3, e4, e5, Int.cast_ofNat_Int, Int.reduceToNat, Int.reduceEq, Int.reduceLT, Int.reduceLE, Int.reduceNe] <;> exact rfl) (hS) (.inr ⟨rfl, ?_⟩) ?_) | fail)) <;> (try omega)
      all_goals first | exact rfl | exact ⟨encNs_nm _, trivial⟩
  | succ k =>
    obtain ⟨r, ks, T, m, hdf, hrk, hkok, hwk, hat⟩ := kids_facts hty k y
    have hko := hkok hdo
    have htl := types_len _ c (Nat.le_refl _) (ts := ts) j
    clear hkok hyk
    generalize c.put (k + 1) y = d at *
    have hwk := hwk 0 []
    obtain ⟨F1, hF1⟩ : ∃ z, (d.walk ts j 0 []).2.2.1 = z := ⟨_, rfl⟩
    obtain ⟨F2, hF2⟩ : ∃ z, (d.walk ts j 0 []).2.2.2 = z := ⟨_, rfl⟩
    have hF : (d.walk ts j 0 []).2.2 = (F1, F2) := Prod.ext hF1 hF2
    rw [hF1, hF2] at hC
    rw [hF] at hwk
    have g0 : (encNs d.flat)[0]? = some [vI r.kind, vU r.n, vI r.kids] := by rw [hdf]; rfl
    generalize hl : c.types ts j = l at *
    generalize c.flat[k + 1] = z0 at *
    have e1 : (((k + 1 : Nat) : Int) = 0) = False := eq_false (by omega)
    have e2 : ((l.length : Int) < 1) = False := eq_false (by omega)
    generalize hL : c.flat.length = L at *
    (repeat' (first
    | exact trivial
    | (with_reducible first | refine awA ?_ | refine awB ?_ | refine awC ?_ | refine awD ?_ | refine awE ?_ | refine awF ?_ | refine awG ?_ | refine awH ?_ | refine awI ?_ | refine awJ ?_ | refine awK ?_ | refine awL ?_ | refine awM (by decide) ?_)
    | (refine aw_draw (id := 19) (t := (.node [0, 1, 2, 3, 4] [(.node [5] [(.node [6, 7, 8, 9, 10, 11, 12] []), (.node [10, 6, 7, 8, 9, 11, 12] [])]), (.node [10, 5, 6, 7, 8, 9, 11, 12] [])])) (drR [11] [] []) mixed (by kernel_rfl) (by kernel_rfl) (fun _ _ h => h) ?_)
    | (refine aw_draw (id := 29) (t := (.node [0, 1, 2, 3, 4, 5, 6, 7, 8] [(.node [9, 10, 11] []), (.node [10, 9, 11] [])])) (drR [11] [160] []) mixed (by kernel_rfl) (by kernel_rfl) (fun _ _ h => h) ?_)
    | (refine at_done (by simp only [List.filterMap_cons, List.filterMap_nil, List.getElem?_toArray, List.getElem?_cons_zero, List.getElem?_cons_succ]; exact rfl) ?_) | (refine at_alt (by simp only [List.filterMap_cons, List.filterMap_nil, List.getElem?_toArray, List.getElem?_cons_zero, List.getElem?_cons_succ]; exact rfl) ?_) | refine qalt_normal ?_ | refine ats_cons ?_ ?_ | exact ats_nil
    | ((with_reducible first | refine awN (tyOf_ok _) [] ?_ | refine awO (tyOf_ok _) [] ?_ | refine awP (tyOf_ok _) [] ?_ | refine awQ ?_ | refine awR ?_ | refine awS ?_); intro r hr; simp only [go_sem, Nat.reduceBEq, Nat.reduceBneDiff, Nat.reduceLT, Nat.reduceLeDiff, Nat.reduceAdd, Nat.reduceMul, Nat.reduceSub, Nat.reduceEqDiff, reduceCtorEq, vSch, hL0, g1, zk, hset, hUl, htk, List.drop_zero, e1, e2, Int.cast_ofNat_Int, Int.reduceToNat, Int.reduceEq, Int.reduceLT, Int.reduceLE, Int.reduceNe] at hr; subst hr; (first | refine caA (fun _ => num11_any _) rfl ?_ ?_ ?_ | refine caA (fun _ => hre) rfl ?_ ?_ ?_ | refine caA (fun _ => h4) rfl ?_ ?_ ?_ | refine caA (fun _ => hC) rfl ?_ ?_ ?_ | refine caC (hMS) rfl ?_ ?_ ?_ | refine caC (hRT) rfl ?_ ?_ ?_ | refine awV ?_ ?_ | refine awW ?_ ?_ | refine endK ?_ ?_ | (refine condK (fun h => ?_) (fun h => ?_) <;> (try simp only [go_sem, reduceCtorEq] at h) <;> (try (exfalso; omega)))))
    | (refine go_callGd 45 rfl [] [(8000, 45)] [45] [] (by simp only [go_sem, Nat.reduceBEq, Nat.reduceBneDiff, Nat.reduceLT, Nat.reduceLeDiff, Nat.reduceAdd, Nat.reduceMul, Nat.reduceSub, Nat.reduceEqDiff, reduceCtorEq, vSch, hL0, g1, zk, hset, hUl, htk, List.drop_zero, e1, e2, Int.cast_ofNat_Int, Int.reduceToNat, Int.reduceEq, Int.reduceLT, Int.reduceLE, Int.reduceNe]; exact rfl) ?_ rfl rfl (by first | exact .inl rfl | exact .inr rfl) (by simp only [go_sem, Nat.reduceBEq, Nat.reduceBneDiff, Nat.reduceLT, Nat.reduceLeDiff, Nat.reduceAdd, Nat.reduceMul, Nat.reduceSub, Nat.reduceEqDiff, reduceCtorEq, vSch, hL0, g1, zk, hset, hUl, htk, List.drop_zero, e1, e2, Int.cast_ofNat_Int, Int.reduceToNat, Int.reduceEq, Int.reduceLT, Int.reduceLE, Int.reduceNe] <;> exact rfl) (hS) (.inr ⟨rfl, ?_⟩) ?_) | fail)) <;> (try omega)
    · exact ⟨encNs_nm _, trivial⟩
    all_goals
      clear hS hre h4 hC hMS hRT hset g1
      refine go_loop [11, 14, 19, 20, 21, 23, 24] [11, 19, 45] (fun q : Nat × Nat × Bool => ⟨[(11, true, .ptr 1 11 0 0), (14, true, .ref 43 3 45 0 L), (19, true, .ptr 1 19 0 0), (20, true, vB q.2.2), (21, true, .lst 1 (v8 l)), (23, true, vI q.2.1), (24, true, vI q.1)], [(11, .var [.lst 4 (encTs ts), .lst 2 (encRs rs)]), (19, .var [vI F1, vI F2]), (45, .row 43 3 (encNs d.flat))]⟩)
        (fun q => q.1 ≤ ks.length ∧ q.2.1 = 1 + (Tr.flat.flatL (ks.take q.1)).length ∧ (q.2.2 = true → ∃ o, (Tr.walk.walkL ts T m (ks.drop q.1) q.1 q.2.1 o).2.2 = (F1, F2)) ∧ (q.2.2 = false → F1 ≠ 0)) (fun q => ks.length - q.1) (0, 1, true) (by simp only [go_sem, Nat.reduceBEq, Nat.reduceBneDiff, Nat.reduceLT, Nat.reduceLeDiff, Nat.reduceAdd, Nat.reduceMul, Nat.reduceSub, Nat.reduceEqDiff, reduceCtorEq] <;> exact rfl)
        ⟨Nat.zero_le _, by simp [Tr.flat.flatL], fun _ => ⟨_, hwk.symm⟩, fun h => by cases h⟩ ?_
      clear hwk
      intro ⟨i, place, all⟩ ⟨hi, hpl2, ht, hf⟩
      simp only at hi hpl2 ht hf
      have hLk : L = 1 + (Tr.flat.flatL ks).length := by rw [← hUl, hdf]; simp [Nat.add_comm]
      have htf := tflatL_len ks
      have hwi := wrap_i64 (n := (i : Int) + 1) (by omega)
      by_cases hlt : i < ks.length
      case neg =>
        have f1 : ((i : Int) < ks.length) = False := eq_false (by omega)
        rw [List.drop_eq_nil_of_le (by omega)] at ht
        cases all with
        | true =>
          obtain ⟨o, ho⟩ := ht rfl
          simp only [Tr.walk.walkL, Prod.mk.injEq] at ho
          obtain ⟨rfl, rfl⟩ := ho
          (repeat' (first
    | exact trivial
    | (with_reducible first | refine awA ?_ | refine awB ?_ | refine awC ?_ | refine awD ?_ | refine awE ?_ | refine awF ?_ | refine awG ?_ | refine awH ?_ | refine awI ?_ | refine awJ ?_ | refine awK ?_ | refine awL ?_ | refine awM (by decide) ?_)
    | (refine aw_draw (id := 19) (t := (.node [0, 1, 2, 3, 4] [(.node [5] [(.node [6, 7, 8, 9, 10, 11, 12] []), (.node [10, 6, 7, 8, 9, 11, 12] [])]), (.node [10, 5, 6, 7, 8, 9, 11, 12] [])])) (drR [11] [] []) mixed (by kernel_rfl) (by kernel_rfl) (fun _ _ h => h) ?_)
    | (refine aw_draw (id := 29) (t := (.node [0, 1, 2, 3, 4, 5, 6, 7, 8] [(.node [9, 10, 11] []), (.node [10, 9, 11] [])])) (drR [11] [160] []) mixed (by kernel_rfl) (by kernel_rfl) (fun _ _ h => h) ?_)
    | (refine at_done (by simp only [List.filterMap_cons, List.filterMap_nil, List.getElem?_toArray, List.getElem?_cons_zero, List.getElem?_cons_succ]; exact rfl) ?_) | (refine at_alt (by simp only [List.filterMap_cons, List.filterMap_nil, List.getElem?_toArray, List.getElem?_cons_zero, List.getElem?_cons_succ]; exact rfl) ?_) | refine qalt_normal ?_ | refine ats_cons ?_ ?_ | exact ats_nil
    | ((with_reducible first | refine awN (tyOf_ok _) [] ?_ | refine awO (tyOf_ok _) [] ?_ | refine awP (tyOf_ok _) [] ?_ | refine awQ ?_ | refine awR ?_ | refine awS ?_); intro r hr; simp only [go_sem, Nat.reduceBEq, Nat.reduceBneDiff, Nat.reduceLT, Nat.reduceLeDiff, Nat.reduceAdd, Nat.reduceMul, Nat.reduceSub, Nat.reduceEqDiff, reduceCtorEq, g0, hrk, f1, Int.cast_ofNat_Int, Int.reduceToNat, Int.reduceEq, Int.reduceLT, Int.reduceLE, Int.reduceNe] at hr; subst hr; (first | refine awV ?_ ?_ | refine awW ?_ ?_ | refine endK ?_ ?_ | (refine condK (fun h => ?_) (fun h => ?_) <;> (try simp only [go_sem, reduceCtorEq] at h) <;> (try (exfalso; omega))))) | fail)) <;> (try omega)
          all_goals exact rfl
        | false =>
          have f2 : (F1 = 0) = False := eq_false (hf rfl)
          (repeat' (first
    | exact trivial
    | (with_reducible first | refine awA ?_ | refine awB ?_ | refine awC ?_ | refine awD ?_ | refine awE ?_ | refine awF ?_ | refine awG ?_ | refine awH ?_ | refine awI ?_ | refine awJ ?_ | refine awK ?_ | refine awL ?_ | refine awM (by decide) ?_)
    | (refine aw_draw (id := 19) (t := (.node [0, 1, 2, 3, 4] [(.node [5] [(.node [6, 7, 8, 9, 10, 11, 12] []), (.node [10, 6, 7, 8, 9, 11, 12] [])]), (.node [10, 5, 6, 7, 8, 9, 11, 12] [])])) (drR [11] [] []) mixed (by kernel_rfl) (by kernel_rfl) (fun _ _ h => h) ?_)
    | (refine aw_draw (id := 29) (t := (.node [0, 1, 2, 3, 4, 5, 6, 7, 8] [(.node [9, 10, 11] []), (.node [10, 9, 11] [])])) (drR [11] [160] []) mixed (by kernel_rfl) (by kernel_rfl) (fun _ _ h => h) ?_)
    | (refine at_done (by simp only [List.filterMap_cons, List.filterMap_nil, List.getElem?_toArray, List.getElem?_cons_zero, List.getElem?_cons_succ]; exact rfl) ?_) | (refine at_alt (by simp only [List.filterMap_cons, List.filterMap_nil, List.getElem?_toArray, List.getElem?_cons_zero, List.getElem?_cons_succ]; exact rfl) ?_) | refine qalt_normal ?_ | refine ats_cons ?_ ?_ | exact ats_nil
    | ((with_reducible first | refine awN (tyOf_ok _) [] ?_ | refine awO (tyOf_ok _) [] ?_ | refine awP (tyOf_ok _) [] ?_ | refine awQ ?_ | refine awR ?_ | refine awS ?_); intro r hr; simp only [go_sem, Nat.reduceBEq, Nat.reduceBneDiff, Nat.reduceLT, Nat.reduceLeDiff, Nat.reduceAdd, Nat.reduceMul, Nat.reduceSub, Nat.reduceEqDiff, reduceCtorEq, g0, hrk, f1, f2, Int.cast_ofNat_Int, Int.reduceToNat, Int.reduceEq, Int.reduceLT, Int.reduceLE, Int.reduceNe] at hr; subst hr; (first | refine awV ?_ ?_ | refine awW ?_ ?_ | refine endK ?_ ?_ | (refine condK (fun h => ?_) (fun h => ?_) <;> (try simp only [go_sem, reduceCtorEq] at h) <;> (try (exfalso; omega))))) | fail)) <;> (try omega)
          all_goals exact rfl
      have f1 : ((i : Int) < ks.length) = True := eq_true (by omega)
      have hsp := flatL_split ks i hlt
      have hps := pre_succ ks i hlt
      have heo := okL_mem hko _ (List.getElem_mem hlt)
      obtain ⟨en, hen, hel, hee⟩ := hat i hlt
      rw [← hpl2] at hen
      rw [List.drop_eq_getElem_cons hlt] at ht
      have hdr : d.flat.drop place = ks[i].flat ++ Tr.flat.flatL (ks.drop (i + 1)) := by rw [hdf, hsp, hpl2, Nat.add_comm, List.drop_succ_cons, List.drop_left]
      have hls := congrArg List.length hsp
      simp only [List.length_append] at hls
      have hnx := next04_any d.flat (by omega) (by rw [hch]) place ks[i] _ hdr heo
      have hek : ∀ x ∈ ks[i].flat, nodeOK x := fun x hx => hno x (List.mem_of_mem_drop (i := place) (by rw [hdr]; exact List.mem_append_left _ hx))
      have hCe := hCk ks[i] en hel heo hek (by omega)
      have hsl : ((encNs d.flat).drop place).take ks[i].flat.length = encNs ks[i].flat := by
        have : (encNs d.flat).drop place = encNs (d.flat.drop place) := by simp [encNs, List.map_drop]
        rw [this, hdr]; simp [encNs]
      have hwo := walk_out (ts := ts) _ ks[i] (Nat.le_refl _) en place 0
      have hpos2 := flat_pos ks[i]
      have gv : (v8 l)[place]? = some [vI en] := by simp [v8, hen]
      have hpll : place < l.length := (List.getElem?_eq_some_iff.1 hen).1
      generalize ks[i] = e at *
      have f2 : ((l.length : Int) ≤ place) = False := eq_false (by omega)
      have zp : ((place : Int)).toNat = place := by omega
      obtain ⟨nx, hnxe⟩ : ∃ nx, place + e.flat.length = nx := ⟨_, rfl⟩
      rw [hnxe] at hnx
      have zn : ((nx : Int)).toNat = nx := by omega
      have f3 : ((nx : Int) ≤ place) = False := eq_false (by omega)
      have hsl2 : ((encNs d.flat).drop place).take (nx - place) = encNs e.flat := by rw [← hsl]; congr 1; omega
      have hsl3 : ((encNs d.flat).take nx).drop place = encNs e.flat := by rw [List.drop_take, hsl2]
      have hnn : place + (nx - place) = nx := by omega
      have hnp : nx = 1 + (Tr.flat.flatL (ks.take (i + 1))).length := by omega
      have htk0 : (encNs d.flat).take L = encNs d.flat := take_len (by rw [encNs_len, hUl]; exact Nat.le_refl _)
      by_cases hG : (e.walk ts en 0 []).2.2.1 = 0
      · rw [hG] at hCe
        generalize (e.walk ts en 0 []).2.2.2 = G2 at *
        have hnext : all = true → ∃ o, (Tr.walk.walkL ts T m (ks.drop (i + 1)) (i + 1) nx o).2.2 = (F1, F2) := fun h => by
          obtain ⟨o, ho⟩ := ht h
          have h0 := (hwo o []).1.trans hG
          have hlw := walk_len ts _ e (Nat.le_refl _) en place o h0
          rw [walkL_cons, hee, if_neg (by omega), hlw.1] at ho
          exact ⟨_, by rw [← hnxe]; exact_mod_cast ho⟩
        clear hwo
        (repeat' (first
    | exact trivial
    | (with_reducible first | refine awA ?_ | refine awB ?_ | refine awC ?_ | refine awD ?_ | refine awE ?_ | refine awF ?_ | refine awG ?_ | refine awH ?_ | refine awI ?_ | refine awJ ?_ | refine awK ?_ | refine awL ?_ | refine awM (by decide) ?_)
    | (refine aw_draw (id := 19) (t := (.node [0, 1, 2, 3, 4] [(.node [5] [(.node [6, 7, 8, 9, 10, 11, 12] []), (.node [10, 6, 7, 8, 9, 11, 12] [])]), (.node [10, 5, 6, 7, 8, 9, 11, 12] [])])) (drR [11] [] []) mixed (by kernel_rfl) (by kernel_rfl) (fun _ _ h => h) ?_)
    | (refine aw_draw (id := 29) (t := (.node [0, 1, 2, 3, 4, 5, 6, 7, 8] [(.node [9, 10, 11] []), (.node [10, 9, 11] [])])) (drR [11] [160] []) mixed (by kernel_rfl) (by kernel_rfl) (fun _ _ h => h) ?_)
    | (refine at_done (by simp only [List.filterMap_cons, List.filterMap_nil, List.getElem?_toArray, List.getElem?_cons_zero, List.getElem?_cons_succ]; exact rfl) ?_) | (refine at_alt (by simp only [List.filterMap_cons, List.filterMap_nil, List.getElem?_toArray, List.getElem?_cons_zero, List.getElem?_cons_succ]; exact rfl) ?_) | refine qalt_normal ?_ | refine ats_cons ?_ ?_ | exact ats_nil
    | ((with_reducible first | refine awN (tyOf_ok _) [] ?_ | refine awO (tyOf_ok _) [] ?_ | refine awP (tyOf_ok _) [] ?_ | refine awQ ?_ | refine awR ?_ | refine awS ?_); intro r hr; simp only [go_sem, Nat.reduceBEq, Nat.reduceBneDiff, Nat.reduceLT, Nat.reduceLeDiff, Nat.reduceAdd, Nat.reduceMul, Nat.reduceSub, Nat.reduceEqDiff, reduceCtorEq, g0, hrk, f1, f2, f3, gv, zp, zn, hsl3, hnn, htk0, hwi, List.drop_zero, Int.cast_ofNat_Int, Int.reduceToNat, Int.reduceEq, Int.reduceLT, Int.reduceLE, Int.reduceNe] at hr; subst hr; (first | refine caA (fun _ => hnx) rfl ?_ ?_ ?_ | refine caA (fun _ => hCe) rfl ?_ ?_ ?_ | refine awV ?_ ?_ | refine awW ?_ ?_ | refine endK ?_ ?_ | (refine condK (fun h => ?_) (fun h => ?_) <;> (try simp only [go_sem, reduceCtorEq] at h) <;> (try (exfalso; omega))))) | fail)) <;> (try omega)
        all_goals exact ⟨(i + 1, nx, all), by simp only [go_sem, Nat.reduceBEq, Nat.reduceBneDiff, Nat.reduceLT, Nat.reduceLeDiff, Nat.reduceAdd, Nat.reduceMul, Nat.reduceSub, Nat.reduceEqDiff, reduceCtorEq] <;> exact rfl, ⟨hlt, hnp, hnext, hf⟩, by simp only; omega⟩
      · have e0 : ((e.walk ts en 0 []).2.2.1 = 0) = False := eq_false hG
        have hnext : all = true → F1 = (e.walk ts en 0 []).2.2.1 ∧ F2 = place + (e.walk ts en 0 []).2.2.2 := fun h => by
          obtain ⟨o, ho⟩ := ht h
          have h0 := hwo o []
          have hne : (e.walk ts en place o).2.2.1 ≠ 0 := by rw [h0.1]; exact hG
          have h1 := h0.2 hne
          rw [walkL_cons, hee, if_pos hne] at ho
          simp only [Prod.mk.injEq] at ho
          exact ⟨by rw [← ho.1]; exact h0.1, by rw [← ho.2]; omega⟩
        have hb := ((walk_out (ts := ts) _ e (Nat.le_refl _) en 0 0 [] []).2 hG).2
        clear hwo
        generalize (e.walk ts en 0 []).2.2.1 = G1 at *
        generalize (e.walk ts en 0 []).2.2.2 = G2 at *
        have hwg := wrap_i64 (n := (place : Int) + G2) (by omega)
        cases all with
        | true =>
          obtain ⟨rfl, rfl⟩ := hnext rfl
          (repeat' (first
    | exact trivial
    | (with_reducible first | refine awA ?_ | refine awB ?_ | refine awC ?_ | refine awD ?_ | refine awE ?_ | refine awF ?_ | refine awG ?_ | refine awH ?_ | refine awI ?_ | refine awJ ?_ | refine awK ?_ | refine awL ?_ | refine awM (by decide) ?_)
    | (refine aw_draw (id := 19) (t := (.node [0, 1, 2, 3, 4] [(.node [5] [(.node [6, 7, 8, 9, 10, 11, 12] []), (.node [10, 6, 7, 8, 9, 11, 12] [])]), (.node [10, 5, 6, 7, 8, 9, 11, 12] [])])) (drR [11] [] []) mixed (by kernel_rfl) (by kernel_rfl) (fun _ _ h => h) ?_)
    | (refine aw_draw (id := 29) (t := (.node [0, 1, 2, 3, 4, 5, 6, 7, 8] [(.node [9, 10, 11] []), (.node [10, 9, 11] [])])) (drR [11] [160] []) mixed (by kernel_rfl) (by kernel_rfl) (fun _ _ h => h) ?_)
    | (refine at_done (by simp only [List.filterMap_cons, List.filterMap_nil, List.getElem?_toArray, List.getElem?_cons_zero, List.getElem?_cons_succ]; exact rfl) ?_) | (refine at_alt (by simp only [List.filterMap_cons, List.filterMap_nil, List.getElem?_toArray, List.getElem?_cons_zero, List.getElem?_cons_succ]; exact rfl) ?_) | refine qalt_normal ?_ | refine ats_cons ?_ ?_ | exact ats_nil
    | ((with_reducible first | refine awN (tyOf_ok _) [] ?_ | refine awO (tyOf_ok _) [] ?_ | refine awP (tyOf_ok _) [] ?_ | refine awQ ?_ | refine awR ?_ | refine awS ?_); intro r hr; simp only [go_sem, Nat.reduceBEq, Nat.reduceBneDiff, Nat.reduceLT, Nat.reduceLeDiff, Nat.reduceAdd, Nat.reduceMul, Nat.reduceSub, Nat.reduceEqDiff, reduceCtorEq, g0, hrk, f1, f2, f3, gv, zp, zn, hsl3, hnn, htk0, hwi, hwg, e0, List.drop_zero, Int.cast_ofNat_Int, Int.reduceToNat, Int.reduceEq, Int.reduceLT, Int.reduceLE, Int.reduceNe] at hr; subst hr; (first | refine caA (fun _ => hnx) rfl ?_ ?_ ?_ | refine caA (fun _ => hCe) rfl ?_ ?_ ?_ | refine awV ?_ ?_ | refine awW ?_ ?_ | refine endK ?_ ?_ | (refine condK (fun h => ?_) (fun h => ?_) <;> (try simp only [go_sem, reduceCtorEq] at h) <;> (try (exfalso; omega))))) | fail)) <;> (try omega)
          all_goals exact ⟨(i + 1, nx, false), by simp only [go_sem, Nat.reduceBEq, Nat.reduceBneDiff, Nat.reduceLT, Nat.reduceLeDiff, Nat.reduceAdd, Nat.reduceMul, Nat.reduceSub, Nat.reduceEqDiff, reduceCtorEq] <;> exact rfl, ⟨hlt, hnp, fun h => (by cases h), fun _ => hG⟩, by simp only; omega⟩
        | false =>
          (repeat' (first
    | exact trivial
    | (with_reducible first | refine awA ?_ | refine awB ?_ | refine awC ?_ | refine awD ?_ | refine awE ?_ | refine awF ?_ | refine awG ?_ | refine awH ?_ | refine awI ?_ | refine awJ ?_ | refine awK ?_ | refine awL ?_ | refine awM (by decide) ?_)
    | (refine aw_draw (id := 19) (t := (.node [0, 1, 2, 3, 4] [(.node [5] [(.node [6, 7, 8, 9, 10, 11, 12] []), (.node [10, 6, 7, 8, 9, 11, 12] [])]), (.node [10, 5, 6, 7, 8, 9, 11, 12] [])])) (drR [11] [] []) mixed (by kernel_rfl) (by kernel_rfl) (fun _ _ h => h) ?_)
    | (refine aw_draw (id := 29) (t := (.node [0, 1, 2, 3, 4, 5, 6, 7, 8] [(.node [9, 10, 11] []), (.node [10, 9, 11] [])])) (drR [11] [160] []) mixed (by kernel_rfl) (by kernel_rfl) (fun _ _ h => h) ?_)
    | (refine at_done (by simp only [List.filterMap_cons, List.filterMap_nil, List.getElem?_toArray, List.getElem?_cons_zero, List.getElem?_cons_succ]; exact rfl) ?_) | (refine at_alt (by simp only [List.filterMap_cons, List.filterMap_nil, List.getElem?_toArray, List.getElem?_cons_zero, List.getElem?_cons_succ]; exact rfl) ?_) | refine qalt_normal ?_ | refine ats_cons ?_ ?_ | exact ats_nil
    | ((with_reducible first | refine awN (tyOf_ok _) [] ?_ | refine awO (tyOf_ok _) [] ?_ | refine awP (tyOf_ok _) [] ?_ | refine awQ ?_ | refine awR ?_ | refine awS ?_); intro r hr; simp only [go_sem, Nat.reduceBEq, Nat.reduceBneDiff, Nat.reduceLT, Nat.reduceLeDiff, Nat.reduceAdd, Nat.reduceMul, Nat.reduceSub, Nat.reduceEqDiff, reduceCtorEq, g0, hrk, f1, f2, f3, gv, zp, zn, hsl3, hnn, htk0, hwi, hwg, e0, List.drop_zero, Int.cast_ofNat_Int, Int.reduceToNat, Int.reduceEq, Int.reduceLT, Int.reduceLE, Int.reduceNe] at hr; subst hr; (first | refine caA (fun _ => hnx) rfl ?_ ?_ ?_ | refine caA (fun _ => hCe) rfl ?_ ?_ ?_ | refine awV ?_ ?_ | refine awW ?_ ?_ | refine endK ?_ ?_ | (refine condK (fun h => ?_) (fun h => ?_) <;> (try simp only [go_sem, reduceCtorEq] at h) <;> (try (exfalso; omega))))) | fail)) <;> (try omega)
          all_goals exact ⟨(i + 1, nx, false), by simp only [go_sem, Nat.reduceBEq, Nat.reduceBneDiff, Nat.reduceLT, Nat.reduceLeDiff, Nat.reduceAdd, Nat.reduceMul, Nat.reduceSub, Nat.reduceEqDiff, reduceCtorEq] <;> exact rfl, ⟨hlt, hnp, fun h => (by cases h), hf⟩, by simp only; omega⟩
end Go.Proofs.YtfgacgpicfknpaaDoor
end
section
namespace Go.Proofs.YtfgacgpicfknpaaDoor
open Go.ChangeShapes Go.WideShapes Go.ChangeAt Go.RowKit
set_option maxRecDepth 100000
/-! The package-level variable that the statements lay. -/
theorem gTab : Tryd.prog.globalNamed "mortise/typing.kinds" = some 0 := by kernel_rfl
theorem gTabType : (Tryd.prog.globals[0]?).map (·.type) = some 84 := by kernel_rfl
theorem cells9 : Tryd.prog.cellsOf 84 = 9 := by kernel_rfl
theorem cells1 : Tryd.prog.cellsOf 3 = 1 := by kernel_rfl
theorem fok_laid {rest : List (String × DataW Unit)} {W : World} (h : laidMet Tryd.prog (("mortise/typing.kinds", Rows.laid_mortise_typing_kinds) :: rest) W) : FOK (fun b => b < W.heap.size) W := by
  have ht : Lib.TabIs Tryd.prog W "mortise/typing.kinds" .i64 [0, 1, 2, 1, 3, 3, 5, 6, 4] :=
    Lib.tabIs_of_head (rest := rest) gTab gTabType Tryd.underlying84 Tryd.underlying3 cells1 cells9 h
  have hc := fun i hi => ht.cell gTab i hi
  refine ⟨fun b hb => hb, fun g vs hg => ?_⟩
  match g, hg with
  | 0, hg =>
    injection hg with hg
    subst hg
    refine ⟨World.block_lt_of_cell? W _ (hc 0 (by decide)), fun j x hx => ?_⟩
    match j, hx with
    | 0, hx => injection hx with hx; subst hx; exact ⟨rfl, hc 0 (by decide)⟩
    | 1, hx => injection hx with hx; subst hx; exact ⟨rfl, hc 1 (by decide)⟩
    | 2, hx => injection hx with hx; subst hx; exact ⟨rfl, hc 2 (by decide)⟩
    | 3, hx => injection hx with hx; subst hx; exact ⟨rfl, hc 3 (by decide)⟩
    | 4, hx => injection hx with hx; subst hx; exact ⟨rfl, hc 4 (by decide)⟩
    | 5, hx => injection hx with hx; subst hx; exact ⟨rfl, hc 5 (by decide)⟩
    | 6, hx => injection hx with hx; subst hx; exact ⟨rfl, hc 6 (by decide)⟩
    | 7, hx => injection hx with hx; subst hx; exact ⟨rfl, hc 7 (by decide)⟩
    | 8, hx => injection hx with hx; subst hx; exact ⟨rfl, hc 8 (by decide)⟩
    | j + 9, hx => cases hx
  | g + 1, hg => cases hg
/-- A world for the witness: the settled one, the table (block 0) holding what its initialiser lays. -/
noncomputable def laidWorld (os : Os) : World :=
  { World.holding Tryd.prog os ⟨#[], #[], []⟩ with heap := (World.holding Tryd.prog os ⟨#[], #[], []⟩).heap.modify 0 fun
      | .cells _ t frozen => .cells #[.int .i64 0, .int .i64 1, .int .i64 2, .int .i64 1, .int .i64 3, .int .i64 3, .int .i64 5, .int .i64 6, .int .i64 4] t frozen
      | o => o }
end Go.Proofs.YtfgacgpicfknpaaDoor
end

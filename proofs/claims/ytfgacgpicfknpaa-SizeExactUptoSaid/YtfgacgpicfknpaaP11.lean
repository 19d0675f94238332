import Derived.Test.YtfgacgpicfknpaaP10
set_option linter.all false
section
namespace Go.Proofs.Ytfgacgpicfknpaa
open Go.RowKit
set_option maxRecDepth 100000
set_option maxHeartbeats 8000000
theorem some_any {ts : List TypeM} {rs : List RootM} {ps : List Int} (W : MOK ts ps) : ∀ (f t : Nat), t < f → t < ts.length → SomeAt ts rs ps (mkT ts ps f) t
  | 0, _, h, _ => absurd h (Nat.not_lt_zero _)
  | f + 1, t, hf, ht => fun V hV => by
    have h := some_step (rs := rs) W (mkT ts ps f) t ht V hV _ rfl _ rfl fun t' ht' => some_any W f t' (by omega) (by omega)
    have he : mkT ts ps (f + 1) t V.length = .node (pickN ts[t] (pickAt ps V.length)) (mkL ts[t] (pickN ts[t] (pickAt ps V.length)) (mkT ts ps f) (pickN ts[t] (pickAt ps V.length)).kids.toNat 0 (V.length + 1)) := by
      rw [mkT, tyA_lt ht]
    rw [he]
    exact h
def madeT (ts : List TypeM) (ps : List Int) (t : Int) : Tr := mkT ts ps ts.length t.toNat 0
def someF (ts : List TypeM) (rs : List RootM) (t : Int) (ps : List Int) : List NodeM × Int :=
  if (checkF ts rs).1 ≠ 0 then ([], (checkF ts rs).1)
  else if t < 0 ∨ (ts.length : Int) ≤ t then ([], 3)
  else if 1048576 < (madeT ts ps t).flat.length then ([], 5) else ((madeT ts ps t).flat, 0)
theorem Some_any (ts : List TypeM) (rs : List RootM) (hts : ts.length ≤ 1000000000) (hrs : rs.length ≤ 1000000000) (hp : ∀ t ∈ ts, t.parts.length ≤ 1000000000) (hg : ∀ t ∈ ts, ∀ p ∈ t.parts, I64 p.tag) (t : Int) (ht : I64 t) (ps : List Int) (hps : ps.length ≤ 1000000000) :
    PCall Try.prog 61 [vSch ts rs, vI t, .lst 1 (v8 ps)] (fun r => r = .tup [.lst 3 (encNs (someF ts rs t ps).1), vI (someF ts rs t ps).2]) := by
  refine go_fnU (tyOf_ok _) Try.func61 rfl rfl (by rw [Try.results61]) Try.ntmps61 rfl fun E => ?_
  have hck := rcheck_any ts rs hts hrs hp
  unfold vF at hck
  by_cases h0 : (checkF ts rs).1 = 0
  case neg =>
    rw [someF, if_pos h0]
    have e1 : ((checkF ts rs).1 = 0) = False := eq_false h0
    generalize checkF ts rs = C at *
    (repeat' (first
    | exact trivial
    | (with_reducible first | refine awA ?_ | refine awB ?_ | refine awC ?_ | refine awD ?_ | refine awE ?_ | refine awF ?_ | refine awG ?_ | refine awH ?_ | refine awI ?_ | refine awJ ?_ | refine awK ?_ | refine awL ?_ | refine awM (by decide) ?_)
    | (refine aw_draw (id := 3) (t := (.node [0, 1, 2, 3] [])) (drR [8] [] []) mixed (by kernel_rfl) (by kernel_rfl) (fun _ _ h => h) ?_)
    | (refine at_done (by simp only [List.filterMap_cons, List.filterMap_nil, List.getElem?_toArray, List.getElem?_cons_zero, List.getElem?_cons_succ]; exact rfl) ?_) | (refine at_alt (by simp only [List.filterMap_cons, List.filterMap_nil, List.getElem?_toArray, List.getElem?_cons_zero, List.getElem?_cons_succ]; exact rfl) ?_) | refine qalt_normal ?_ | refine ats_cons ?_ ?_ | exact ats_nil
    | ((with_reducible first | refine awN (tyOf_ok _) [] ?_ | refine awO (tyOf_ok _) [] ?_ | refine awP (tyOf_ok _) [] ?_ | refine awQ ?_ | refine awR ?_ | refine awS ?_); intro r hr; simp only [go_sem, Nat.reduceBEq, Nat.reduceBneDiff, Nat.reduceLT, Nat.reduceLeDiff, Nat.reduceAdd, Nat.reduceMul, Nat.reduceSub, Nat.reduceEqDiff, reduceCtorEq, vSch, e1] at hr; subst hr; (first | refine caA (fun _ => hck) rfl ?_ ?_ ?_ | refine awV ?_ ?_ | refine awW ?_ ?_ | refine endK ?_ ?_ | (refine condK (fun h => ?_) (fun h => ?_) <;> (try simp only [go_sem, reduceCtorEq] at h) <;> (try (exfalso; omega))))) | fail)) <;> (try omega)
    exact AV.up_nil2 _ _
  have W : MOK ts ps := ⟨hts, hps, check_right h0, hp, hg⟩
  rw [h0] at hck
  rw [someF, if_neg (by omega)]
  generalize (checkF ts rs).2 = C2 at *
  by_cases h1 : t < 0
  · have e1 : (t < 0) = True := eq_true h1
    rw [if_pos (.inl h1)]
    (repeat' (first
    | exact trivial
    | (with_reducible first | refine awA ?_ | refine awB ?_ | refine awC ?_ | refine awD ?_ | refine awE ?_ | refine awF ?_ | refine awG ?_ | refine awH ?_ | refine awI ?_ | refine awJ ?_ | refine awK ?_ | refine awL ?_ | refine awM (by decide) ?_)
    | (refine aw_draw (id := 3) (t := (.node [0, 1, 2, 3] [])) (drR [8] [] []) mixed (by kernel_rfl) (by kernel_rfl) (fun _ _ h => h) ?_)
    | (refine at_done (by simp only [List.filterMap_cons, List.filterMap_nil, List.getElem?_toArray, List.getElem?_cons_zero, List.getElem?_cons_succ]; exact rfl) ?_) | (refine at_alt (by simp only [List.filterMap_cons, List.filterMap_nil, List.getElem?_toArray, List.getElem?_cons_zero, List.getElem?_cons_succ]; exact rfl) ?_) | refine qalt_normal ?_ | refine ats_cons ?_ ?_ | exact ats_nil
    | ((with_reducible first | refine awN (tyOf_ok _) [] ?_ | refine awO (tyOf_ok _) [] ?_ | refine awP (tyOf_ok _) [] ?_ | refine awQ ?_ | refine awR ?_ | refine awS ?_); intro r hr; simp only [go_sem, Nat.reduceBEq, Nat.reduceBneDiff, Nat.reduceLT, Nat.reduceLeDiff, Nat.reduceAdd, Nat.reduceMul, Nat.reduceSub, Nat.reduceEqDiff, reduceCtorEq, vSch, encTs_len, e1] at hr; subst hr; (first | refine caA (fun _ => hck) rfl ?_ ?_ ?_ | refine awV ?_ ?_ | refine awW ?_ ?_ | refine endK ?_ ?_ | (refine condK (fun h => ?_) (fun h => ?_) <;> (try simp only [go_sem, reduceCtorEq] at h) <;> (try (exfalso; omega))))) | fail)) <;> (try omega)
    exact AV.up_nil2 _ _
  have e1 : (t < 0) = False := eq_false h1
  by_cases h2 : (ts.length : Int) ≤ t
  · have e2 : ((ts.length : Int) ≤ t) = True := eq_true h2
    rw [if_pos (.inr h2)]
    (repeat' (first
    | exact trivial
    | (with_reducible first | refine awA ?_ | refine awB ?_ | refine awC ?_ | refine awD ?_ | refine awE ?_ | refine awF ?_ | refine awG ?_ | refine awH ?_ | refine awI ?_ | refine awJ ?_ | refine awK ?_ | refine awL ?_ | refine awM (by decide) ?_)
    | (refine aw_draw (id := 3) (t := (.node [0, 1, 2, 3] [])) (drR [8] [] []) mixed (by kernel_rfl) (by kernel_rfl) (fun _ _ h => h) ?_)
    | (refine at_done (by simp only [List.filterMap_cons, List.filterMap_nil, List.getElem?_toArray, List.getElem?_cons_zero, List.getElem?_cons_succ]; exact rfl) ?_) | (refine at_alt (by simp only [List.filterMap_cons, List.filterMap_nil, List.getElem?_toArray, List.getElem?_cons_zero, List.getElem?_cons_succ]; exact rfl) ?_) | refine qalt_normal ?_ | refine ats_cons ?_ ?_ | exact ats_nil
    | ((with_reducible first | refine awN (tyOf_ok _) [] ?_ | refine awO (tyOf_ok _) [] ?_ | refine awP (tyOf_ok _) [] ?_ | refine awQ ?_ | refine awR ?_ | refine awS ?_); intro r hr; simp only [go_sem, Nat.reduceBEq, Nat.reduceBneDiff, Nat.reduceLT, Nat.reduceLeDiff, Nat.reduceAdd, Nat.reduceMul, Nat.reduceSub, Nat.reduceEqDiff, reduceCtorEq, vSch, encTs_len, e1, e2] at hr; subst hr; (first | refine caA (fun _ => hck) rfl ?_ ?_ ?_ | refine awV ?_ ?_ | refine awW ?_ ?_ | refine endK ?_ ?_ | (refine condK (fun h => ?_) (fun h => ?_) <;> (try simp only [go_sem, reduceCtorEq] at h) <;> (try (exfalso; omega))))) | fail)) <;> (try omega)
    exact AV.up_nil2 _ _
  have e2 : ((ts.length : Int) ≤ t) = False := eq_false h2
  rw [if_neg (by omega)]
  have hw := some_any (rs := rs) W ts.length t.toNat (by omega) (by omega) [] (Nat.zero_le _)
  rw [Int.toNat_of_nonneg (by omega)] at hw
  simp only [List.nil_append, List.length_nil, Nat.zero_add] at hw
  change GCall _ _ _ _ _ (obM ts rs ps ((madeT ts ps t).flat.take 1048576) (decide (1048576 < (madeT ts ps t).flat.length))) at hw
  generalize (madeT ts ps t).flat = F at *
  have hnn : encNs [] = [] := rfl
  by_cases hb : 1048576 < F.length
  · have hd : decide (1048576 < F.length) = true := by simpa using hb
    rw [if_pos hb]
    rw [hd] at hw
    (repeat' (first
    | exact trivial
    | (refine aw_nilvar 29 3 72 3 8000 (cs := [_, _, _, .v (.slice none 0 0), _]) (.inl (by decide)) (by decide) rfl rfl ?_)
    | (with_reducible first | refine awA ?_ | refine awB ?_ | refine awC ?_ | refine awD ?_ | refine awE ?_ | refine awF ?_ | refine awG ?_ | refine awH ?_ | refine awI ?_ | refine awJ ?_ | refine awK ?_ | refine awL ?_ | refine awM (by decide) ?_)
    | (refine aw_draw (id := 3) (t := (.node [0, 1, 2, 3] [])) (drR [8] [] []) mixed (by kernel_rfl) (by kernel_rfl) (fun _ _ h => h) ?_)
    | (refine at_done (by simp only [List.filterMap_cons, List.filterMap_nil, List.getElem?_toArray, List.getElem?_cons_zero, List.getElem?_cons_succ]; exact rfl) ?_) | (refine at_alt (by simp only [List.filterMap_cons, List.filterMap_nil, List.getElem?_toArray, List.getElem?_cons_zero, List.getElem?_cons_succ]; exact rfl) ?_) | refine qalt_normal ?_ | refine ats_cons ?_ ?_ | exact ats_nil
    | ((with_reducible first | refine awN (tyOf_ok _) [] ?_ | refine awO (tyOf_ok _) [] ?_ | refine awP (tyOf_ok _) [] ?_ | refine awQ ?_ | refine awR ?_ | refine awS ?_); intro r hr; simp only [go_sem, Nat.reduceBEq, Nat.reduceBneDiff, Nat.reduceLT, Nat.reduceLeDiff, Nat.reduceAdd, Nat.reduceMul, Nat.reduceSub, Nat.reduceEqDiff, reduceCtorEq, AState.nilvar, List.set_cons_succ, List.set_cons_zero, vSch, encTs_len, e1, e2, hnn] at hr; subst hr; (first | refine caA (fun _ => hck) rfl ?_ ?_ ?_ | refine awV ?_ ?_ | refine awW ?_ ?_ | refine endK ?_ ?_ | (refine condK (fun h => ?_) (fun h => ?_) <;> (try simp only [go_sem, reduceCtorEq] at h) <;> (try (exfalso; omega)))))
    | (refine go_callGE [(29, 10000), (8000, 15000)] [(10000, 29), (15000, 8000)] [8000] [29] ?_; intro r hr; simp only [go_sem, Nat.reduceBEq, Nat.reduceBneDiff, Nat.reduceLT, Nat.reduceLeDiff, Nat.reduceAdd, Nat.reduceMul, Nat.reduceSub, Nat.reduceEqDiff, reduceCtorEq, AState.nilvar, List.set_cons_succ, List.set_cons_zero, vSch, encTs_len, e1, e2, hnn] at hr; subst hr; refine callGK (hw) rfl rfl (by first | exact .inl rfl | exact .inr rfl) ?_ (.inl rfl) ?_) | fail)) <;> (try omega)
    exact AV.up_nil2 _ _
  · have hd : decide (1048576 < F.length) = false := by simpa using hb
    have htk : F.take 1048576 = F := List.take_of_length_le (by omega)
    rw [if_neg hb]
    rw [hd, htk] at hw
    (repeat' (first
    | exact trivial
    | (refine aw_nilvar 29 3 72 3 8000 (cs := [_, _, _, .v (.slice none 0 0), _]) (.inl (by decide)) (by decide) rfl rfl ?_)
    | (with_reducible first | refine awA ?_ | refine awB ?_ | refine awC ?_ | refine awD ?_ | refine awE ?_ | refine awF ?_ | refine awG ?_ | refine awH ?_ | refine awI ?_ | refine awJ ?_ | refine awK ?_ | refine awL ?_ | refine awM (by decide) ?_)
    | (refine aw_draw (id := 3) (t := (.node [0, 1, 2, 3] [])) (drR [8] [] []) mixed (by kernel_rfl) (by kernel_rfl) (fun _ _ h => h) ?_)
    | (refine at_done (by simp only [List.filterMap_cons, List.filterMap_nil, List.getElem?_toArray, List.getElem?_cons_zero, List.getElem?_cons_succ]; exact rfl) ?_) | (refine at_alt (by simp only [List.filterMap_cons, List.filterMap_nil, List.getElem?_toArray, List.getElem?_cons_zero, List.getElem?_cons_succ]; exact rfl) ?_) | refine qalt_normal ?_ | refine ats_cons ?_ ?_ | exact ats_nil
    | ((with_reducible first | refine awN (tyOf_ok _) [] ?_ | refine awO (tyOf_ok _) [] ?_ | refine awP (tyOf_ok _) [] ?_ | refine awQ ?_ | refine awR ?_ | refine awS ?_); intro r hr; simp only [go_sem, Nat.reduceBEq, Nat.reduceBneDiff, Nat.reduceLT, Nat.reduceLeDiff, Nat.reduceAdd, Nat.reduceMul, Nat.reduceSub, Nat.reduceEqDiff, reduceCtorEq, AState.nilvar, List.set_cons_succ, List.set_cons_zero, vSch, encTs_len, e1, e2, hnn] at hr; subst hr; (first | refine caA (fun _ => hck) rfl ?_ ?_ ?_ | refine awV ?_ ?_ | refine awW ?_ ?_ | refine endK ?_ ?_ | (refine condK (fun h => ?_) (fun h => ?_) <;> (try simp only [go_sem, reduceCtorEq] at h) <;> (try (exfalso; omega)))))
    | (refine go_callGE [(29, 10000), (8000, 15000)] [(10000, 29), (15000, 8000)] [8000] [29] ?_; intro r hr; simp only [go_sem, Nat.reduceBEq, Nat.reduceBneDiff, Nat.reduceLT, Nat.reduceLeDiff, Nat.reduceAdd, Nat.reduceMul, Nat.reduceSub, Nat.reduceEqDiff, reduceCtorEq, AState.nilvar, List.set_cons_succ, List.set_cons_zero, vSch, encTs_len, e1, e2, hnn] at hr; subst hr; refine callGK (hw) rfl rfl (by first | exact .inl rfl | exact .inr rfl) ?_ (.inl rfl) ?_) | fail)) <;> (try omega)
    rw [take_len (by rw [encNs_len]; exact Nat.le_refl _)]
    exact AV.up_rfl _
end Go.Proofs.Ytfgacgpicfknpaa
end
section
namespace Go.Proofs.Ytfgacgpicfknpaa
open Go.RowKit
/-! Trees that are of a type. -/
def Tr.typed (ts : List TypeM) : Tr → Nat → Prop
  | .node x ks, t => t < ts.length ∧ fitsF (tyA ts t) x = 0 ∧ rightN x = true ∧ x.kids = ks.length ∧ typedL ts (tyA ts t) x.n ks 0
where typedL (ts : List TypeM) (T : TypeM) (n : Int) : List Tr → Nat → Prop
  | [], _ => True
  | c :: cs, k => c.typed ts (elemF T n k).toNat ∧ typedL ts T n cs (k + 1)
/-- each node's type -/
def Tr.types (ts : List TypeM) : Tr → Nat → List Int
  | .node x ks, t => (t : Int) :: typesL ts (tyA ts t) x.n ks 0
where typesL (ts : List TypeM) (T : TypeM) (n : Int) : List Tr → Nat → List Int
  | [], _ => []
  | c :: cs, k => c.types ts (elemF T n k).toNat ++ typesL ts T n cs (k + 1)
theorem typed_ok {ts : List TypeM} : ∀ (n : Nat) (c : Tr), c.flat.length ≤ n → ∀ t, c.typed ts t → c.ok
  | 0, c, h => absurd (flat_pos c) (by omega)
  | n + 1, .node x ks, h => fun t ⟨_, _, h3, h4, h5⟩ => by
    simp only [Tr.flat, List.length_cons] at h
    refine ⟨h3, h4, ?_⟩
    have hL : ∀ (l : List Tr), (∀ c ∈ l, c.flat.length ≤ n) → ∀ (T : TypeM) (m : Int) (k : Nat), Tr.typed.typedL ts T m l k → Tr.ok.okL l := by
      intro l
      induction l with
      | nil => intro _ _ _ _ _; trivial
      | cons c cs ih => exact fun hc T m k ⟨g1, g2⟩ => ⟨typed_ok n c (hc c (.head _)) _ g1, ih (fun d hd => hc d (.tail _ hd)) T m (k + 1) g2⟩
    exact hL ks (fun c hc => by have := flatL_mem hc; omega) _ _ _ h5
/-- a tree of the type: no fault, each node's type -/
theorem typed_walk {ts : List TypeM} : ∀ (n : Nat) (c : Tr), c.flat.length ≤ n → ∀ t, c.typed ts t → ∀ (p : Int) (out : List Int), c.walk ts t p out = (out ++ c.types ts t, p + c.flat.length, 0, 0)
  | 0, c, h => absurd (flat_pos c) (by omega)
  | n + 1, .node x ks, h => fun t ⟨h1, h2, h3, h4, h5⟩ p out => by
    simp only [Tr.flat, List.length_cons] at h
    have hL : ∀ (l : List Tr), (∀ c ∈ l, c.flat.length ≤ n) → ∀ (T : TypeM) (m : Int) (k : Nat), Tr.typed.typedL ts T m l k → ∀ (p : Int) (out : List Int), Tr.walk.walkL ts T m l k p out = (out ++ Tr.types.typesL ts T m l k, p + (Tr.flat.flatL l).length, 0, 0) := by
      intro l
      induction l with
      | nil => intro _ _ _ _ _ p out; simp [Tr.walk.walkL, Tr.types.typesL, Tr.flat.flatL]
      | cons c cs ih =>
        intro hc T m k ⟨g1, g2⟩ p out
        have e1 := typed_walk n c (hc c (.head _)) _ g1 p out
        rw [Tr.walk.walkL, e1, if_neg (by simp), ih (fun d hd => hc d (.tail _ hd)) T m (k + 1) g2]
        simp [Tr.types.typesL, Tr.flat.flatL, Int.add_assoc]
    rw [Tr.walk, if_neg (by omega), hL ks (fun c hc => by have := flatL_mem hc; omega) _ _ _ h5]
    simp [Tr.types, Tr.flat, Int.add_assoc, Int.add_comm]
theorem types_len {ts : List TypeM} : ∀ (n : Nat) (c : Tr), c.flat.length ≤ n → ∀ t, (c.types ts t).length = c.flat.length
  | 0, c, h => absurd (flat_pos c) (by omega)
  | n + 1, .node x ks, h => fun t => by
    simp only [Tr.flat, List.length_cons] at h
    have hL : ∀ (l : List Tr), (∀ c ∈ l, c.flat.length ≤ n) → ∀ (T : TypeM) (m : Int) (k : Nat), (Tr.types.typesL ts T m l k).length = (Tr.flat.flatL l).length := by
      intro l
      induction l with
      | nil => intro _ _ _ _; rfl
      | cons c cs ih => intro hc T m k; simp only [Tr.types.typesL, Tr.flat.flatL, List.length_append, types_len n c (hc c (.head _)), ih (fun d hd => hc d (.tail _ hd))]
    simp only [Tr.types, Tr.flat, List.length_cons, hL ks (fun c hc => by have := flatL_mem hc; omega)]
/-- what picks lead to is of the type -/
theorem mkT_typed {ts : List TypeM} {ps : List Int} (hr : ∀ (k : Nat) (h : k < ts.length), rightOK ts[k] k = true) : ∀ (f t : Nat), t < f → t < ts.length → ∀ pos, (mkT ts ps f t pos).typed ts t
  | 0, _, h, _ => absurd h (Nat.not_lt_zero _)
  | f + 1, t, hf, ht => fun pos => by
    have hrt := hr t ht
    obtain ⟨_, hxr, hxf⟩ := pick_ok hrt (pickAt_bd ps pos)
    rw [mkT, tyA_lt ht]
    generalize pickN ts[t] (pickAt ps pos) = x at *
    have hxk := rightN_kids hxr
    have hL : ∀ (m k : Nat), (k : Int) + m ≤ x.kids → ∀ pos, Tr.typed.typedL ts ts[t] x.n (mkL ts[t] x (mkT ts ps f) m k pos) k ∧ (mkL ts[t] x (mkT ts ps f) m k pos).length = m := by
      intro m
      induction m with
      | zero => intro k _ pos; exact ⟨trivial, rfl⟩
      | succ m ih =>
        intro k hk pos
        obtain ⟨he, _⟩ := elem_ok hrt hxr hxf (i := k) (by omega)
        obtain ⟨g1, g2⟩ := ih (k + 1) (by omega) (pos + (mkT ts ps f (elemF ts[t] x.n k).toNat pos).flat.length)
        exact ⟨⟨mkT_typed hr f _ (by omega) (by omega) pos, g1⟩, by simp only [mkL, List.length_cons, g2]⟩
    obtain ⟨g1, g2⟩ := hL x.kids.toNat 0 (by omega) (pos + 1)
    exact ⟨ht, by rw [tyA_lt ht]; exact hxf, hxr, by rw [g2]; omega, by rw [tyA_lt ht]; exact g1⟩
/-- each node may be -/
theorem mkT_node {ts : List TypeM} {ps : List Int} (hr : ∀ (k : Nat) (h : k < ts.length), rightOK ts[k] k = true) : ∀ (f t : Nat), t < f → t < ts.length → ∀ pos, ∀ x ∈ (mkT ts ps f t pos).flat, nodeOK x
  | 0, _, h, _ => absurd h (Nat.not_lt_zero _)
  | f + 1, t, hf, ht => fun pos => by
    have hrt := hr t ht
    obtain ⟨hxo, hxr, hxf⟩ := pick_ok hrt (pickAt_bd ps pos)
    rw [mkT, tyA_lt ht]
    generalize pickN ts[t] (pickAt ps pos) = x at *
    have hxk := rightN_kids hxr
    have hL : ∀ (m k : Nat), (k : Int) + m ≤ x.kids → ∀ pos, ∀ y ∈ Tr.flat.flatL (mkL ts[t] x (mkT ts ps f) m k pos), nodeOK y := by
      intro m
      induction m with
      | zero => intro k _ pos y hy; cases hy
      | succ m ih =>
        intro k hk pos y hy
        obtain ⟨he, _⟩ := elem_ok hrt hxr hxf (i := k) (by omega)
        simp only [mkL, Tr.flat.flatL, List.mem_append] at hy
        rcases hy with hy | hy
        · exact mkT_node hr f _ (by omega) (by omega) pos y hy
        · exact ih (k + 1) (by omega) _ y hy
    intro y hy
    simp only [Tr.flat, List.mem_cons] at hy
    rcases hy with rfl | hy
    · exact hxo
    · exact hL x.kids.toNat 0 (by omega) (pos + 1) y hy
end Go.Proofs.Ytfgacgpicfknpaa
end
section
namespace Go.Proofs.Ytfgacgpicfknpaa
open Go.RowKit
/-! Sizes: what is greater of what is greater. -/
theorem plus2 {a b : Int} (ha : 0 ≤ a ∧ a ≤ 4611686018427387904) (hb : 0 ≤ b ∧ b ≤ 4611686018427387904) : plusL [a, b] = min (a + b) 4611686018427387904 := by
  simp only [plusL, List.foldl, addS, sz]; omega
theorem withinM_ge {f : Bool} {b : Int} (h : 0 ≤ b ∧ b ≤ 4611686018427387904) : b ≤ withinM f b := by
  unfold withinM
  split
  · exact Int.le_refl _
  · rw [plus2 (by omega) h]; omega
theorem withinM_mono {f : Bool} {a b : Int} (ha : 0 ≤ a ∧ a ≤ 4611686018427387904) (hb : 0 ≤ b ∧ b ≤ 4611686018427387904) (h : a ≤ b) : withinM f a ≤ withinM f b := by
  unfold withinM
  split
  · exact h
  · rw [plus2 (by omega) ha, plus2 (by omega) hb]; omega
theorem sz_mono {a b : Int} (h : a ≤ b) : sz a ≤ sz b := by unfold sz; omega
theorem timesS_mono {a b c d : Int} (h1 : a ≤ b) (h2 : c ≤ d) : timesS a c ≤ timesS b d := by
  have h : sz a * sz c ≤ sz b * sz d := Int.mul_le_mul (sz_mono h1) (sz_mono h2) (sz_lo c) (sz_lo b)
  unfold timesS; omega
def extG (e : ExtM) : Prop := 0 ≤ e.least ∧ e.least ≤ e.most ∧ e.most ≤ 4611686018427387904 ∧ 1 ≤ e.depth
theorem uni_good {L : List ExtM} : ∀ (l : List PartM) (x : Int × Int × Int), (∀ p ∈ l, extG (atE L p.ty)) → 0 ≤ x.1 ∧ x.1 ≤ 4611686018427387904 → 0 ≤ x.2.1 ∧ x.2.1 ≤ 4611686018427387904 →
    ((uni L l x).1 ≤ x.1 ∧ x.2.1 ≤ (uni L l x).2.1 ∧ x.2.2 ≤ (uni L l x).2.2 ∧ 0 ≤ (uni L l x).1 ∧ (uni L l x).2.1 ≤ 4611686018427387904) ∧ ∀ p ∈ l, (uni L l x).1 ≤ (atE L p.ty).least ∧ plusL [1, (atE L p.ty).most] ≤ (uni L l x).2.1 ∧ 1 + (atE L p.ty).depth ≤ (uni L l x).2.2
  | [], x, _, h1, h2 => ⟨⟨Int.le_refl _, Int.le_refl _, Int.le_refl _, h1.1, h2.2⟩, fun p hp => by cases hp⟩
  | q :: l, x, h, h1, h2 => by
    have hq := h q (.head _)
    have hpl := plusL_bd [1, (atE L q.ty).most]
    unfold extG at hq
    have ih := uni_good l (min x.1 (atE L q.ty).least, max x.2.1 (plusL [1, (atE L q.ty).most]), max x.2.2 (1 + (atE L q.ty).depth)) (fun p hp => h p (.tail _ hp)) ⟨by simp only; omega, by simp only; omega⟩ ⟨by simp only; omega, by simp only; omega⟩
    have hu : uni L (q :: l) x = uni L l (min x.1 (atE L q.ty).least, max x.2.1 (plusL [1, (atE L q.ty).most]), max x.2.2 (1 + (atE L q.ty).depth)) := rfl
    rw [hu]
    obtain ⟨⟨g1, g2, g3, g4, g5⟩, g6⟩ := ih
    simp only at g1 g2 g3
    refine ⟨⟨by omega, by omega, by omega, g4, g5⟩, fun p hp => ?_⟩
    rcases List.mem_cons.1 hp with rfl | hp
    · exact ⟨by omega, by omega, by omega⟩
    · exact g6 p hp
def stepS (L : List ExtM) (x : ExtM) (p : PartM) : ExtM := ⟨x.fixed && (atE L p.ty).fixed, plusL [x.least, withinM (atE L p.ty).fixed (atE L p.ty).least], plusL [x.most, withinM (atE L p.ty).fixed (atE L p.ty).most], max x.depth (1 + (atE L p.ty).depth)⟩
theorem str_snoc (L : List ExtM) (l : List PartM) (p : PartM) (x : ExtM) : str L (l ++ [p]) x = stepS L (str L l x) p := by
  rw [str, List.foldl_append]; rfl
theorem step_ge {L : List ExtM} {x : ExtM} {p : PartM} (h : extG (atE L p.ty)) (h1 : 0 ≤ x.least ∧ x.least ≤ x.most ∧ x.most ≤ 4611686018427387904) :
    (0 ≤ (stepS L x p).least ∧ (stepS L x p).least ≤ (stepS L x p).most ∧ (stepS L x p).most ≤ 4611686018427387904) ∧ x.least ≤ (stepS L x p).least ∧ x.most ≤ (stepS L x p).most ∧ x.depth ≤ (stepS L x p).depth ∧ ((stepS L x p).fixed = true → x.fixed = true) ∧
    (atE L p.ty).most ≤ (stepS L x p).most ∧ (atE L p.ty).depth < (stepS L x p).depth ∧ ((stepS L x p).fixed = true → (atE L p.ty).fixed = true) := by
  unfold extG at h
  have a1 := withinM_bd (f := (atE L p.ty).fixed) (b := (atE L p.ty).least) (by omega)
  have a2 := withinM_bd (f := (atE L p.ty).fixed) (b := (atE L p.ty).most) (by omega)
  have a3 := withinM_mono (f := (atE L p.ty).fixed) (a := (atE L p.ty).least) (b := (atE L p.ty).most) (by omega) (by omega) h.2.1
  have a4 := withinM_ge (f := (atE L p.ty).fixed) (b := (atE L p.ty).most) (by omega)
  have a5 := plus2 (a := x.least) (b := withinM (atE L p.ty).fixed (atE L p.ty).least) (by omega) a1
  have a6 := plus2 (a := x.most) (b := withinM (atE L p.ty).fixed (atE L p.ty).most) (by omega) a2
  simp only [stepS]
  rw [a5, a6]
  refine ⟨⟨by omega, by omega, by omega⟩, by omega, by omega, by omega, fun h => ?_, by omega, by omega, fun h => ?_⟩
  · rw [Bool.and_eq_true] at h; exact h.1
  · rw [Bool.and_eq_true] at h; exact h.2
theorem str_good {L : List ExtM} : ∀ (l : List PartM) (x : ExtM), (∀ p ∈ l, extG (atE L p.ty)) → 0 ≤ x.least ∧ x.least ≤ x.most ∧ x.most ≤ 4611686018427387904 →
    (0 ≤ (str L l x).least ∧ (str L l x).least ≤ (str L l x).most ∧ (str L l x).most ≤ 4611686018427387904) ∧ x.least ≤ (str L l x).least ∧ x.most ≤ (str L l x).most ∧ x.depth ≤ (str L l x).depth ∧ ((str L l x).fixed = true → x.fixed = true) ∧
    ∀ p ∈ l, (atE L p.ty).most ≤ (str L l x).most ∧ (atE L p.ty).depth < (str L l x).depth ∧ ((str L l x).fixed = true → (atE L p.ty).fixed = true)
  | [], x, _, h1 => ⟨h1, Int.le_refl _, Int.le_refl _, Int.le_refl _, id, fun p hp => by cases hp⟩
  | q :: l, x, h, h1 => by
    obtain ⟨s1, s2, s3, s4, s5, s6, s7, s8⟩ := step_ge (h q (.head _)) h1
    obtain ⟨g1, g2, g3, g4, g5, g6⟩ := str_good l (stepS L x q) (fun p hp => h p (.tail _ hp)) s1
    have hu : str L (q :: l) x = str L l (stepS L x q) := rfl
    rw [hu]
    refine ⟨g1, by omega, by omega, by omega, fun h => s5 (g5 h), fun p hp => ?_⟩
    rcases List.mem_cons.1 hp with rfl | hp
    · exact ⟨by omega, by omega, fun h => s8 (g5 h)⟩
    · exact g6 p hp
theorem extM_good {t : TypeM} {L : List ExtM} (hr : rightOK t L.length = true) (hL : ∀ e ∈ L, extG e) :
    extG (extM t L) ∧ ∀ p ∈ t.parts, (atE L p.ty).most ≤ (extM t L).most ∧ (atE L p.ty).depth < (extM t L).depth ∧ ((extM t L).fixed = true → (atE L p.ty).fixed = true) := by
  have hty := rightOK_ty hr
  have hat : ∀ i : Int, 0 ≤ i → i < L.length → extG (atE L i) := fun i h0 h1 => by
    have hlt : i.toNat < L.length := by omega
    rw [atE, List.getElem?_eq_getElem hlt]
    exact hL _ (List.getElem_mem hlt)
  have hpe : t.kind ≠ 7 → t.kind ≠ 8 → t.parts = [] := fun h7 h8 => by
    rw [rightOK, Bool.and_eq_true] at hr
    have := hr.2
    split at this
    · simp only [Bool.and_eq_true, decide_eq_true_eq] at this
      exact List.eq_nil_of_length_eq_zero (by omega)
    · split at this
      · simp only [Bool.and_eq_true, decide_eq_true_eq] at this
        exact List.eq_nil_of_length_eq_zero (by omega)
      · split at this
        · omega
        · cases this
  have hno : t.kind ≠ 7 → t.kind ≠ 8 → ∀ q : PartM → Prop, ∀ p ∈ t.parts, q p := fun h7 h8 q p hp => by rw [hpe h7 h8] at hp; cases hp
  rcases rightOK_kind hr with hk | hk | hk
  · rcases hk with hk | hk | hk
    · have := right_1 hr hk
      unfold extM
      rw [if_pos hk]
      exact ⟨⟨by simp only; omega, Int.le_refl _, by simp only; omega, by simp⟩, hno (by omega) (by omega) _⟩
    · unfold extM
      rw [if_neg (by omega), if_pos hk]
      exact ⟨⟨by decide, by decide, by decide, by decide⟩, hno (by omega) (by omega) _⟩
    · unfold extM
      rw [if_neg (by omega), if_neg (by omega), if_pos hk]
      exact ⟨⟨by decide, by decide, by decide, by decide⟩, hno (by omega) (by omega) _⟩
  · have hn := rightOK_n hr hk
    have he := hat t.elem (hty.1 hk).1 (hty.1 hk).2
    unfold extG at he
    rcases hk with hk | hk | hk
    · unfold extM
      rw [if_neg (by omega), if_neg (by omega), if_neg (by omega), if_pos hk]
      exact ⟨⟨(timesS_bd _ _).1, timesS_mono (Int.le_refl _) (withinM_mono (by omega) (by omega) he.2.1), (timesS_bd _ _).2, by simp only; omega⟩, hno (by omega) (by omega) _⟩
    · unfold extM
      rw [if_neg (by omega), if_neg (by omega), if_neg (by omega), if_neg (by omega), if_pos hk]
      exact ⟨⟨Int.le_refl _, (timesS_bd _ _).1, (timesS_bd _ _).2, by simp only; omega⟩, hno (by omega) (by omega) _⟩
    · unfold extM
      rw [if_neg (by omega), if_neg (by omega), if_neg (by omega), if_neg (by omega), if_neg (by omega), if_pos hk]
      have := plus2 (a := 1) (b := (atE L t.elem).most) (by omega) (by omega)
      exact ⟨⟨by simp only; omega, by simp only; omega, (plusL_bd _).2, by simp only; omega⟩, hno (by omega) (by omega) _⟩
  · have hp := right_parts hr hk
    have hps : ∀ p ∈ t.parts, extG (atE L p.ty) := fun p hp => hat _ (hty.2 p hp).1 (hty.2 p hp).2
    rcases hk with hk | hk
    · unfold extM
      rw [if_neg (by omega), if_neg (by omega), if_neg (by omega), if_neg (by omega), if_neg (by omega), if_neg (by omega), if_pos hk]
      obtain ⟨⟨g1, g2, g3, g4, g5⟩, g6⟩ := uni_good t.parts (4611686018427387904, 0, 1) hps (by decide) (by decide)
      simp only at g1 g2 g3 ⊢
      obtain ⟨q, hq⟩ : ∃ q, q ∈ t.parts := ⟨t.parts[0]'(by omega), List.getElem_mem _⟩
      have hq1 := g6 q hq
      have hq2 := hps q hq
      unfold extG at hq2
      have a1 := plus2 (a := 1) (b := (uni L t.parts (4611686018427387904, 0, 1)).1) (by omega) (by omega)
      have a2 := plus2 (a := 1) (b := (atE L q.ty).most) (by omega) (by omega)
      refine ⟨⟨(plusL_bd _).1, by simp only; omega, g5, by simp only; omega⟩, fun p hp => ?_⟩
      have hp1 := g6 p hp
      have hp2 := hps p hp
      unfold extG at hp2
      have a3 := plus2 (a := 1) (b := (atE L p.ty).most) (by omega) (by omega)
      exact ⟨by omega, by omega, fun h => by cases h⟩
    · unfold extM
      rw [if_neg (by omega), if_neg (by omega), if_neg (by omega), if_neg (by omega), if_neg (by omega), if_neg (by omega), if_neg (by omega)]
      obtain ⟨⟨g1, g2, g3⟩, _, _, g4, _, g6⟩ := str_good t.parts ⟨true, 0, 0, 1⟩ hps (by decide)
      exact ⟨⟨g1, g2, g3, g4⟩, g6⟩
/-- a greater number, a part more -/
theorem more_n {t : TypeM} {L : List ExtM} (hk : t.kind = 4 ∨ t.kind = 5) {n : Int} (hn : t.n ≤ n) :
    (extM t L).most ≤ (extM ⟨t.kind, n, t.elem, t.parts⟩ L).most ∧ (extM t L).least ≤ (extM ⟨t.kind, n, t.elem, t.parts⟩ L).least ∧ ((extM ⟨t.kind, n, t.elem, t.parts⟩ L).fixed = true → (extM t L).fixed = true) := by
  unfold extM
  rcases hk with hk | hk
  · simp only [hk]
    exact ⟨timesS_mono hn (Int.le_refl _), timesS_mono hn (Int.le_refl _), id⟩
  · simp only [hk]
    exact ⟨timesS_mono hn (Int.le_refl _), Int.le_refl _, id⟩
theorem more_p {t : TypeM} {L : List ExtM} (hk : t.kind = 8) {p : PartM} (hps : ∀ q ∈ t.parts, extG (atE L q.ty)) (hp : extG (atE L p.ty)) :
    (extM t L).most ≤ (extM ⟨t.kind, t.n, t.elem, t.parts ++ [p]⟩ L).most ∧ (extM t L).least ≤ (extM ⟨t.kind, t.n, t.elem, t.parts ++ [p]⟩ L).least ∧ ((extM ⟨t.kind, t.n, t.elem, t.parts ++ [p]⟩ L).fixed = true → (extM t L).fixed = true) := by
  have e1 : extM t L = str L t.parts ⟨true, 0, 0, 1⟩ := by unfold extM; simp only [hk]; rfl
  have e2 : extM ⟨t.kind, t.n, t.elem, t.parts ++ [p]⟩ L = stepS L (str L t.parts ⟨true, 0, 0, 1⟩) p := by unfold extM; simp only [hk]; exact str_snoc _ _ _ _
  rw [e1, e2]
  obtain ⟨g1, _⟩ := str_good t.parts ⟨true, 0, 0, 1⟩ hps (by decide)
  obtain ⟨_, s2, s3, _, s5, _⟩ := step_ge hp g1
  exact ⟨s3, s2, s5⟩
end Go.Proofs.Ytfgacgpicfknpaa
end
section
namespace Go.Proofs.Ytfgacgpicfknpaa
open Go.RowKit
theorem exts_take' (ts : List TypeM) : ∀ k, k ≤ ts.length → (exts ts).take k = exts (ts.take k) := by
  have h : ∀ (l m : List TypeM), ∃ r, exts (l ++ m) = exts l ++ r := by
    intro l m
    induction m generalizing l with
    | nil => exact ⟨[], by simp⟩
    | cons x m ih =>
      obtain ⟨r, hr⟩ := ih (l ++ [x])
      have h1 : exts (l ++ [x]) = exts l ++ [extM x (exts l)] := by rw [exts, List.foldl_append]; rfl
      exact ⟨extM x (exts l) :: r, by rw [show l ++ x :: m = (l ++ [x]) ++ m by simp, hr, h1]; simp⟩
  intro k hk
  obtain ⟨r, hr⟩ := h (ts.take k) (ts.drop k)
  rw [List.take_append_drop] at hr
  have hl := exts_len ts k hk
  rw [hr, List.take_append_of_le_length (by omega), List.take_of_length_le (by omega)]
theorem exts_length (ts : List TypeM) : (exts ts).length = ts.length := by
  have := exts_len ts ts.length (Nat.le_refl _)
  rwa [List.take_length] at this
theorem exts_at {ts : List TypeM} {k : Nat} (h : k < ts.length) : (exts ts)[k]'(by rw [exts_length]; exact h) = extM ts[k] (exts (ts.take k)) := by
  have h1 := exts_succ h
  have h2 := exts_take' ts (k + 1) h
  have hl := exts_len ts k (by omega)
  have h3 : (exts ts)[k]? = some (extM ts[k] (exts (ts.take k))) := by
    rw [← List.getElem?_take_of_lt (show k < k + 1 by omega), h2, h1, List.getElem?_append_right (by omega), hl]
    simp
  rw [List.getElem?_eq_getElem (by rw [exts_length]; exact h)] at h3
  exact Option.some.inj h3
theorem exts_good {ts : List TypeM} (hr : ∀ (k : Nat) (h : k < ts.length), rightOK ts[k] k = true) : ∀ k, k ≤ ts.length → ∀ e ∈ exts (ts.take k), extG e
  | 0, _ => fun e he => by cases he
  | k + 1, hk => fun e he => by
    have ih := exts_good hr k (by omega)
    rw [exts_succ (by omega)] at he
    rcases List.mem_append.1 he with he | he
    · exact ih e he
    · rw [List.mem_singleton] at he
      subst he
      exact (extM_good (by rw [exts_len ts k (by omega)]; exact hr k (by omega)) ih).1
theorem atE_front {ts : List TypeM} {k : Nat} (hk : k ≤ ts.length) {i : Int} (h0 : 0 ≤ i) (h1 : i < k) : atE (exts (ts.take k)) i = atE (exts ts) i := by
  rw [← exts_take' ts k hk, atE, atE, List.getElem?_take_of_lt (by omega)]
theorem atE_get {L : List ExtM} {i : Int} (h1 : i.toNat < L.length) : atE L i = L[i.toNat] := by
  rw [atE, List.getElem?_eq_getElem h1]; rfl
/-- what is said of each extent -/
theorem exts_said {ts : List TypeM} (hr : ∀ (k : Nat) (h : k < ts.length), rightOK ts[k] k = true) {k : Nat} (hk : k < ts.length) :
    extG ((exts ts)[k]'(by rw [exts_length]; exact hk)) ∧ ∀ p ∈ ts[k].parts, (0 ≤ p.ty ∧ p.ty < k) ∧ (atE (exts ts) p.ty).most ≤ ((exts ts)[k]'(by rw [exts_length]; exact hk)).most ∧
      (atE (exts ts) p.ty).depth < ((exts ts)[k]'(by rw [exts_length]; exact hk)).depth ∧ (((exts ts)[k]'(by rw [exts_length]; exact hk)).fixed = true → (atE (exts ts) p.ty).fixed = true) := by
  rw [exts_at hk]
  obtain ⟨g1, g2⟩ := extM_good (t := ts[k]) (L := exts (ts.take k)) (by rw [exts_len ts k (by omega)]; exact hr k hk) (exts_good hr k (by omega))
  refine ⟨g1, fun p hp => ?_⟩
  have ht := (rightOK_ty (hr k hk)).2 p hp
  rw [← atE_front (by omega : k ≤ ts.length) ht.1 ht.2]
  exact ⟨ht, g2 p hp⟩
theorem atE_nat {L : List ExtM} {k : Nat} (h : k < L.length) : atE L (k : Int) = L[k] := by
  rw [atE, Int.toNat_natCast, List.getElem?_eq_getElem h]; rfl
theorem exts_told {ts : List TypeM} (hr : ∀ (k : Nat) (h : k < ts.length), rightOK ts[k] k = true) {k : Nat} (hk : k < ts.length) :
    extG (atE (exts ts) k) ∧ ∀ p ∈ ts[k].parts, (0 ≤ p.ty ∧ p.ty < k) ∧ (atE (exts ts) p.ty).most ≤ (atE (exts ts) k).most ∧
      (atE (exts ts) p.ty).depth < (atE (exts ts) k).depth ∧ ((atE (exts ts) k).fixed = true → (atE (exts ts) p.ty).fixed = true) := by
  rw [atE_nat (by rw [exts_length]; exact hk)]; exact exts_said hr hk
theorem encEs_at {L : List ExtM} {k : Nat} (h : k < L.length) : (encEs L)[k]? = some [vB (atE L k).fixed, vI (atE L k).least, vI (atE L k).most, vI (atE L k).depth] := by
  rw [encEs_get h, atE_nat h]
theorem encEs_atI {L : List ExtM} {i : Int} (h0 : 0 ≤ i) (h : i < L.length) : (encEs L)[i.toNat]? = some [vB (atE L i).fixed, vI (atE L i).least, vI (atE L i).most, vI (atE L i).depth] := by
  rw [encEs_at (by omega), Int.toNat_of_nonneg h0]
theorem exts_set {ts : List TypeM} {k : Nat} (h : k < ts.length) (y : TypeM) : (exts (ts.set k y))[k]'(by rw [exts_length, List.length_set]; exact h) = extM y (exts (ts.take k)) := by
  rw [exts_at (by rw [List.length_set]; exact h), List.getElem_set_self, List.take_set_of_le (Nat.le_refl _)]
end Go.Proofs.Ytfgacgpicfknpaa
end
section
namespace Go.Proofs.Ytfgacgpicfknpaa
open Go.RowKit
/-! Lengths of a tree of a type: what size's walk finds, and that they lie between least and most. -/
theorem leb_le : ∀ (f : Nat) (n : Int), 0 ≤ n → n < 128 ^ (f + 1) → leb (f + 1) n ≤ f + 1 ∧ 1 ≤ leb (f + 1) n
  | 0, n, h0, h1 => by
    have : n < 128 := by simpa using h1
    rw [leb, if_pos this]; decide
  | f + 1, n, h0, h1 => by
    rw [leb]
    split
    · omega
    · have := leb_le f (n / 128) (by omega) (Int.ediv_lt_of_lt_mul (by omega) (by rw [Int.pow_succ] at h1; exact h1))
      omega
def Btw (X : List ExtM) (l ty : Int) : Prop := (atE X ty).least ≤ l ∧ l ≤ (atE X ty).most
def BtwL (X : List ExtM) : List Int → List Int → Prop
  | [], [] => True
  | a :: l, b :: m => Btw X a b ∧ BtwL X l m
  | _, _ => False
theorem BtwL.app {X : List ExtM} : ∀ {l m l' m' : List Int}, BtwL X l m → BtwL X l' m' → BtwL X (l ++ l') (m ++ m')
  | [], [], _, _, _, h => h
  | _ :: _, _ :: _, _, _, h, h' => ⟨h.1, BtwL.app h.2 h'⟩
theorem BtwL.get {X : List ExtM} : ∀ {l m : List Int}, BtwL X l m → ∀ (i : Nat) (h1 : i < l.length) (h2 : i < m.length), Btw X l[i] m[i]
  | a :: l, b :: m, h, 0, _, _ => h.1
  | a :: l, b :: m, h, i + 1, h1, h2 => by simpa using BtwL.get h.2 i (by simpa using h1) (by simpa using h2)
section
variable {ts : List TypeM} {X : List ExtM} {V : List NodeM} {rec : Rec}
/-- what is known of a value's length -/
def ValOK (ts : List TypeM) (X : List ExtM) (V : List NodeM) (rec : Rec) (c : Tr) (t : Nat) : Prop := ∀ (pre post : List NodeM) (ls : List Int), V = pre ++ c.flat ++ post → ls.length = pre.length →
  ∃ n l', rec t ls = (n, true, ls ++ l') ∧ l'.length = c.flat.length ∧ BtwL X l' (c.types ts t) ∧ Btw X n t ∧ l'.head? = some n
theorem kids_val {T : TypeM} {m e : Int} (he : ∀ k : Nat, elemF T m k = e) (hE : extG (atE X e)) (he0 : 0 ≤ e) : ∀ (l : List Tr) (k : Nat), (∀ c ∈ l, c.typed ts e.toNat → ValOK ts X V rec c e.toNat) → Tr.typed.typedL ts T m l k →
    ∀ (pre post : List NodeM) (sum : Int) (ls : List Int), V = pre ++ Tr.flat.flatL l ++ post → ls.length = pre.length → 0 ≤ sum ∧ sum ≤ 4611686018427387904 →
    ∃ S l', kidsW X rec e l.length sum ls = (S, true, ls ++ l') ∧ l'.length = (Tr.flat.flatL l).length ∧ BtwL X l' (Tr.types.typesL ts T m l k) ∧
      min (sum + l.length * withinM (atE X e).fixed (atE X e).least) 4611686018427387904 ≤ S ∧ S ≤ min (sum + l.length * withinM (atE X e).fixed (atE X e).most) 4611686018427387904
  | [], k, _, _ => fun pre post sum ls _ _ hs => ⟨sum, [], by simp [kidsW], rfl, trivial, by simp; omega, by simp; omega⟩
  | c :: l, k, hc, ⟨g1, g2⟩ => fun pre post sum ls hV hl hs => by
    unfold extG at hE
    rw [he k] at g1
    simp only [Tr.flat.flatL] at hV
    obtain ⟨n, l1, r1, r2, r3, r4, _⟩ := hc c (.head _) g1 pre (Tr.flat.flatL l ++ post) ls (by rw [hV]; simp) hl
    have r4' : (atE X e).least ≤ n ∧ n ≤ (atE X e).most := by have := r4; unfold Btw at this; rwa [Int.toNat_of_nonneg he0] at this
    have a1 := withinM_bd (f := (atE X e).fixed) (b := n) (by omega)
    have a2 := withinM_mono (f := (atE X e).fixed) (a := (atE X e).least) (b := n) (by omega) (by omega) r4'.1
    have a3 := withinM_mono (f := (atE X e).fixed) (a := n) (b := (atE X e).most) (by omega) (by omega) r4'.2
    have a4 := withinM_bd (f := (atE X e).fixed) (b := (atE X e).least) (by omega)
    have a5 := withinM_bd (f := (atE X e).fixed) (b := (atE X e).most) (by omega)
    have a6 := plus2 (a := sum) (b := withinM (atE X e).fixed n) hs a1
    obtain ⟨S, l2, s1, s2, s3, s4, s5⟩ := kids_val he ⟨hE.1, hE.2.1, hE.2.2.1, hE.2.2.2⟩ he0 l (k + 1) (fun d hd => hc d (.tail _ hd)) g2 (pre ++ c.flat) post (plusL [sum, withinM (atE X e).fixed n]) (ls ++ l1) (by rw [hV]; simp) (by rw [List.length_append, List.length_append]; omega) (plusL_bd _)
    refine ⟨S, l1 ++ l2, ?_, by simp only [Tr.flat.flatL, List.length_append]; omega, ?_, ?_, ?_⟩
    · rw [List.length_cons, kidsW, r1]
      simp only [if_pos, s1, List.append_assoc]
    · have : BtwL X l1 (c.types ts (elemF T m k).toNat) := by rw [he k]; exact r3
      exact BtwL.app this s3
    · rw [a6] at s4
      have hm : ((l.length : Int) + 1) * withinM (atE X e).fixed (atE X e).least = l.length * withinM (atE X e).fixed (atE X e).least + withinM (atE X e).fixed (atE X e).least := by rw [Int.add_mul, Int.one_mul]
      have hp : 0 ≤ (l.length : Int) * withinM (atE X e).fixed (atE X e).least := Int.mul_nonneg (by omega) a4.1
      rw [show ((c :: l).length : Int) = (l.length : Int) + 1 by simp, hm]
      generalize (l.length : Int) * withinM (atE X e).fixed (atE X e).least = A at *
      generalize withinM (atE X e).fixed (atE X e).least = B at *
      omega
    · rw [a6] at s5
      have hm : ((l.length : Int) + 1) * withinM (atE X e).fixed (atE X e).most = l.length * withinM (atE X e).fixed (atE X e).most + withinM (atE X e).fixed (atE X e).most := by rw [Int.add_mul, Int.one_mul]
      have hp : 0 ≤ (l.length : Int) * withinM (atE X e).fixed (atE X e).most := Int.mul_nonneg (by omega) a5.1
      rw [show ((c :: l).length : Int) = (l.length : Int) + 1 by simp, hm]
      generalize (l.length : Int) * withinM (atE X e).fixed (atE X e).most = A at *
      generalize withinM (atE X e).fixed (atE X e).most = B at *
      omega
theorem fields_val {T : TypeM} {m : Int} (h8 : T.kind = 8) : ∀ (l : List Tr) (k : Nat), k + l.length = T.parts.length → (∀ p ∈ T.parts, 0 ≤ p.ty ∧ extG (atE X p.ty)) →
    (∀ c ∈ l, ∀ p ∈ T.parts, c.typed ts p.ty.toNat → ValOK ts X V rec c p.ty.toNat) → Tr.typed.typedL ts T m l k →
    ∀ (pre post : List NodeM) (x : ExtM) (sum : Int) (ls : List Int), V = pre ++ Tr.flat.flatL l ++ post → ls.length = pre.length → 0 ≤ x.least ∧ x.least ≤ sum ∧ sum ≤ x.most ∧ x.most ≤ 4611686018427387904 →
    ∃ S l', fieldsW X rec (T.parts.drop k) sum ls = (S, true, ls ++ l') ∧ l'.length = (Tr.flat.flatL l).length ∧ BtwL X l' (Tr.types.typesL ts T m l k) ∧ (str X (T.parts.drop k) x).least ≤ S ∧ S ≤ (str X (T.parts.drop k) x).most
  | [], k, hk, _, _, _ => fun pre post x sum ls _ _ hs => by
    simp only [List.length_nil, Nat.add_zero] at hk
    rw [List.drop_eq_nil_of_le (by omega)]
    exact ⟨sum, [], by simp [fieldsW], rfl, trivial, hs.2.1, hs.2.2.1⟩
  | c :: l, k, hk, hp, hc, ⟨g1, g2⟩ => fun pre post x sum ls hV hl hs => by
    simp only [List.length_cons] at hk
    have hlt : k < T.parts.length := by omega
    rw [List.drop_eq_getElem_cons hlt]
    have hmem := List.getElem_mem hlt
    rw [elem8 h8 hlt] at g1
    have hty : Tr.types.typesL ts T m (c :: l) k = c.types ts (T.parts[k].ty).toNat ++ Tr.types.typesL ts T m l (k + 1) := by rw [Tr.types.typesL, elem8 h8 hlt]
    obtain ⟨p0, pG⟩ := hp _ hmem
    have hcc := hc c (.head _) _ hmem g1
    rw [hty]
    have hst : str X (T.parts[k] :: T.parts.drop (k + 1)) x = str X (T.parts.drop (k + 1)) (stepS X x T.parts[k]) := rfl
    rw [hst]
    generalize T.parts[k] = p at *
    unfold extG at pG
    simp only [Tr.flat.flatL] at hV
    obtain ⟨n, l1, r1, r2, r3, r4, _⟩ := hcc pre (Tr.flat.flatL l ++ post) ls (by rw [hV]; simp) hl
    have r4' : (atE X p.ty).least ≤ n ∧ n ≤ (atE X p.ty).most := by have := r4; unfold Btw at this; rwa [Int.toNat_of_nonneg p0] at this
    have a1 := withinM_bd (f := (atE X p.ty).fixed) (b := n) (by omega)
    have a2 := withinM_mono (f := (atE X p.ty).fixed) (a := (atE X p.ty).least) (b := n) (by omega) (by omega) r4'.1
    have a3 := withinM_mono (f := (atE X p.ty).fixed) (a := n) (b := (atE X p.ty).most) (by omega) (by omega) r4'.2
    have a4 := withinM_bd (f := (atE X p.ty).fixed) (b := (atE X p.ty).least) (by omega)
    have a5 := withinM_bd (f := (atE X p.ty).fixed) (b := (atE X p.ty).most) (by omega)
    have a6 := plus2 (a := sum) (b := withinM (atE X p.ty).fixed n) (by omega) a1
    have a7 := plus2 (a := x.least) (b := withinM (atE X p.ty).fixed (atE X p.ty).least) (by omega) a4
    have a8 := plus2 (a := x.most) (b := withinM (atE X p.ty).fixed (atE X p.ty).most) (by omega) a5
    obtain ⟨S, l2, s1, s2, s3, s4, s5⟩ := fields_val h8 l (k + 1) (by omega) hp (fun d hd => hc d (.tail _ hd)) g2 (pre ++ c.flat) post (stepS X x p) (plusL [sum, withinM (atE X p.ty).fixed n]) (ls ++ l1) (by rw [hV]; simp) (by rw [List.length_append, List.length_append]; omega)
      (by simp only [stepS, a6, a7, a8]; omega)
    refine ⟨S, l1 ++ l2, ?_, by simp only [Tr.flat.flatL, List.length_append]; omega, BtwL.app r3 s3, s4, s5⟩
    rw [fieldsW, r1]
    simp only [if_pos, s1, List.append_assoc]
end
end Go.Proofs.Ytfgacgpicfknpaa
end
section
namespace Go.Proofs.Ytfgacgpicfknpaa
open Go.RowKit
theorem uni_congr {L X : List ExtM} : ∀ (l : List PartM) (x : Int × Int × Int), (∀ p ∈ l, atE L p.ty = atE X p.ty) → uni L l x = uni X l x
  | [], _, _ => rfl
  | p :: l, x, h => by
    have h1 : uni L (p :: l) x = uni L l (min x.1 (atE L p.ty).least, max x.2.1 (plusL [1, (atE L p.ty).most]), max x.2.2 (1 + (atE L p.ty).depth)) := rfl
    have h2 : uni X (p :: l) x = uni X l (min x.1 (atE X p.ty).least, max x.2.1 (plusL [1, (atE X p.ty).most]), max x.2.2 (1 + (atE X p.ty).depth)) := rfl
    rw [h1, h2, h p (.head _)]
    exact uni_congr l _ fun q hq => h q (.tail _ hq)
theorem str_congr {L X : List ExtM} : ∀ (l : List PartM) (x : ExtM), (∀ p ∈ l, atE L p.ty = atE X p.ty) → str L l x = str X l x
  | [], _, _ => rfl
  | p :: l, x, h => by
    have h1 : str L (p :: l) x = str L l (stepS L x p) := rfl
    have h2 : str X (p :: l) x = str X l (stepS X x p) := rfl
    have h3 : stepS L x p = stepS X x p := by unfold stepS; rw [h p (.head _)]
    rw [h1, h2, h3]
    exact str_congr l _ fun q hq => h q (.tail _ hq)
theorem extM_congr {T : TypeM} {L X : List ExtM} (h1 : T.kind = 4 ∨ T.kind = 5 ∨ T.kind = 6 → atE L T.elem = atE X T.elem) (h2 : ∀ p ∈ T.parts, atE L p.ty = atE X p.ty) : extM T L = extM T X := by
  unfold extM
  split
  · rfl
  split
  · rfl
  split
  · rfl
  split
  · rw [h1 (.inl ‹_›)]
  split
  · rw [h1 (.inr (.inl ‹_›))]
  split
  · rw [h1 (.inr (.inr ‹_›))]
  split
  · rw [uni_congr _ _ h2]
  · rw [str_congr _ _ h2]
theorem ext_at {ts : List TypeM} (hr : ∀ (k : Nat) (h : k < ts.length), rightOK ts[k] k = true) {t : Nat} (ht : t < ts.length) : atE (exts ts) t = extM ts[t] (exts ts) := by
  rw [atE_nat (by rw [exts_length]; exact ht), exts_at ht]
  have hty := rightOK_ty (hr t ht)
  exact extM_congr (fun h => atE_front (by omega) (hty.1 h).1 (hty.1 h).2) fun p hp => atE_front (by omega) (hty.2 p hp).1 (hty.2 p hp).2
theorem right_zero {x : NodeM} (h : rightN x = true) (hk : x.kind = 1 ∨ x.kind = 2) : x.kids = 0 ∧ (x.kind = 2 → x.n ≤ 1) := by
  rw [rightN, Bool.and_eq_true] at h
  obtain ⟨h1, h2⟩ := h
  rw [if_neg (by omega), if_neg (by omega), if_neg (by omega), if_neg (by omega), decide_eq_true_eq] at h2
  refine ⟨h2, fun hk2 => ?_⟩
  rw [numberN, if_neg (by omega), if_pos hk2, decide_eq_true_eq] at h1
  exact h1
theorem right_seq {x : NodeM} (h : rightN x = true) (hk : x.kind = 3 ∨ x.kind = 4 ∨ x.kind = 5) : x.n = 0 := by
  rw [rightN, Bool.and_eq_true, numberN] at h
  have h1 := h.1
  rw [if_neg (by omega), if_neg (by omega), if_neg (by omega), Bool.and_eq_true, decide_eq_true_eq] at h1
  exact h1.1
theorem right_opt {x : NodeM} (h : rightN x = true) (hk : x.kind = 5) : x.kids = 0 ∨ x.kids = 1 := by
  rw [rightN, Bool.and_eq_true] at h
  have h2 := h.2
  rw [if_neg (by omega), if_neg (by omega), if_pos hk] at h2
  simpa using h2
theorem right_uni {x : NodeM} (h : rightN x = true) (hk : x.kind = 6) : x.kids = 1 := by
  rw [rightN, Bool.and_eq_true] at h
  have h2 := h.2
  rw [if_neg (by omega), if_neg (by omega), if_neg (by omega), if_pos hk, decide_eq_true_eq] at h2
  exact h2
theorem fits_parts {T : TypeM} {x : NodeM} (h : fitsF T x = 0) : x.kind = nkOf T.kind ∧ (T.kind = 1 → fitsB x.n T.n = true) ∧ (T.kind = 4 → x.kids = T.n) ∧ (T.kind = 5 → x.kids ≤ T.n) ∧ (T.kind = 8 → x.kids = T.parts.length) ∧ (T.kind = 7 → armOf T.parts x.n ≠ none) := by
  unfold fitsF at h
  split at h
  · cases h
  · rename_i h1
    split at h
    · cases h
    · rename_i h2
      split at h
      · cases h
      · rename_i h3
        split at h
        · cases h
        · rename_i h4
          refine ⟨by omega, fun hk => ?_, fun hk => by omega, fun hk => by omega, fun hk => by omega, fun hk hn => h4 ⟨hk, hn⟩⟩
          cases hb : fitsB x.n T.n with
          | true => rfl
          | false => exact absurd ⟨hk, hb⟩ h2
section
variable {ts : List TypeM} {V : List NodeM}
theorem val_step (hr : ∀ (k : Nat) (h : k < ts.length), rightOK ts[k] k = true) (hV : ∀ x ∈ V, nodeOK x) (f t : Nat) (ht : t < ts.length) (x : NodeM) (ks : List Tr) (hty : (Tr.node x ks).typed ts t)
    (H : ∀ c ∈ ks, ∀ t', t' < t → c.typed ts t' → ValOK ts (exts ts) V (valW ts (exts ts) V f) c t') : ValOK ts (exts ts) V (valW ts (exts ts) V (f + 1)) (.node x ks) t := by
  intro pre post ls hVe hl
  obtain ⟨_, hf, hxr, hkids, hks⟩ := hty
  have hat : V[ls.length]? = some x := by rw [hVe, hl]; simp [Tr.flat]
  have hxo := hV x (List.mem_of_getElem? hat)
  have hrt := hr t ht
  have hta := tyA_lt ht
  have htd : (ts[t]?).getD ⟨0, 0, 0, []⟩ = ts[t] := hta
  have hext := ext_at hr ht
  have hG : ∀ i : Int, 0 ≤ i → i < ts.length → extG (atE (exts ts) i) := fun i h0 h1 => by
    rw [atE_get (by rw [exts_length]; omega)]
    have := exts_good hr ts.length (Nat.le_refl _)
    rw [List.take_length] at this
    exact this _ (List.getElem_mem _)
  have htyp := rightOK_ty hrt
  rw [hta] at hf hks
  obtain ⟨fk, f1, f4, f5, f8, f7⟩ := fits_parts hf
  simp only [Tr.flat] at hVe ⊢
  rw [valW, hat]
  simp only [htd]
  unfold ValOK at H
  generalize hT : ts[t] = T at *
  -- what the node's length must be
  suffices hn : ∃ n l'', nodeW (exts ts) (valW ts (exts ts) V f) x T (ls ++ [0]) = (n, true, (ls ++ [0]) ++ l'') ∧ l''.length = (Tr.flat.flatL ks).length ∧ BtwL (exts ts) l'' (Tr.types.typesL ts T x.n ks 0) ∧ (extM T (exts ts)).least ≤ n ∧ n ≤ (extM T (exts ts)).most by
    obtain ⟨n, l'', h1, h2, h3, h4, h5⟩ := hn
    rw [h1]
    refine ⟨n, n :: l'', ?_, by simp [h2], ?_, ?_, rfl⟩
    · simp only [setL]
      congr 2
      rw [List.append_assoc, List.set_append_right _ _ (Nat.le_refl _), Nat.sub_self]
      rfl
    · rw [Tr.types, hta]
      exact ⟨by unfold Btw; rw [hext]; exact ⟨h4, h5⟩, h3⟩
    · unfold Btw; rw [hext]; exact ⟨h4, h5⟩
  have hpos : (ls ++ [(0 : Int)]).length = (pre ++ [x]).length := by simp [hl]
  have hVe2 : V = (pre ++ [x]) ++ Tr.flat.flatL ks ++ post := by rw [hVe]; simp
  have hsub : ∀ e : Nat, e < t → ∀ c ∈ ks, c.typed ts e → ValOK ts (exts ts) V (valW ts (exts ts) V f) c e := fun e he c hc h => H c hc e he h
  have hempty : x.kids = 0 → ks = [] := fun h => List.eq_nil_of_length_eq_zero (by omega)
  rcases rightOK_kind hrt with hk | hk | hk
  · rcases hk with hk | hk | hk
    · have hnk : x.kind = 1 := by rw [fk, hk]; decide
      obtain ⟨z1, _⟩ := right_zero hxr (.inl hnk)
      have := hempty z1
      subst this
      have hn := right_1 hrt hk
      refine ⟨T.n, [], ?_, rfl, trivial, ?_, ?_⟩
      · unfold nodeW; rw [if_pos hk, f1 hk]; simp [isN, hnk, z1]
      · unfold extM; rw [if_pos hk]; exact Int.le_refl _
      · unfold extM; rw [if_pos hk]; exact Int.le_refl _
    · have hnk : x.kind = 2 := by rw [fk, hk]; decide
      obtain ⟨z1, z2⟩ := right_zero hxr (.inr hnk)
      have := hempty z1
      subst this
      have z3 := z2 hnk
      refine ⟨1, [], ?_, rfl, trivial, ?_, ?_⟩
      · unfold nodeW; rw [if_neg (by omega), if_pos hk]; simp [hnk, z1, z3]
      · unfold extM; rw [if_neg (by omega), if_pos hk]; decide
      · unfold extM; rw [if_neg (by omega), if_pos hk]; decide
    · have hnk : x.kind = 1 := by rw [fk, hk]; decide
      obtain ⟨z1, _⟩ := right_zero hxr (.inl hnk)
      have := hempty z1
      subst this
      have hlb := leb_le 9 x.n hxo.2.2.1 (by have := hxo.2.2.2; have h128 : (128 : Int) ^ (9 + 1) = 1180591620717411303424 := by decide
                                             omega)
      refine ⟨leb 10 x.n, [], ?_, rfl, trivial, ?_, ?_⟩
      · unfold nodeW; rw [if_neg (by omega), if_neg (by omega), if_pos hk]; simp [isN, hnk, z1]
      · unfold extM; rw [if_neg (by omega), if_neg (by omega), if_pos hk]; exact hlb.2
      · unfold extM; rw [if_neg (by omega), if_neg (by omega), if_pos hk]; exact hlb.1
  · have hn := rightOK_n hrt hk
    have he := htyp.1 hk
    have hEG := hG T.elem he.1 (by omega)
    have hel : ∀ k : Nat, elemF T x.n k = T.elem := fun k => by unfold elemF; rw [if_pos hk]
    have hEG' := hEG
    unfold extG at hEG'
    have w1 := withinM_bd (f := (atE (exts ts) T.elem).fixed) (b := (atE (exts ts) T.elem).least) (by omega)
    have w2 := withinM_bd (f := (atE (exts ts) T.elem).fixed) (b := (atE (exts ts) T.elem).most) (by omega)
    have hseq := kids_val (ts := ts) (V := V) (rec := valW ts (exts ts) V f) (T := T) (m := x.n) (e := T.elem) hel hEG he.1 ks 0 (hsub _ (by omega)) hks (pre ++ [x]) post 0 (ls ++ [0]) hVe2 hpos (by omega)
    rcases hk with hk | hk | hk
    · have hnk : x.kind = 3 := by rw [fk, hk]; decide
      have hx0 := right_seq hxr (.inl hnk)
      obtain ⟨S, l', s1, s2, s3, s4, s5⟩ := hseq
      have hkl : ks.length = T.n.toNat := by have := f4 hk; omega
      have hlI : (ks.length : Int) = T.n := by have := f4 hk; omega
      refine ⟨S, l', ?_, s2, s3, ?_, ?_⟩
      · unfold nodeW
        rw [if_neg (by omega), if_neg (by omega), if_neg (by omega), if_pos hk, if_pos (by simp [isN, hnk, f4 hk, hx0]), ← hkl]
        exact s1
      · unfold extM
        rw [if_neg (by omega), if_neg (by omega), if_neg (by omega), if_pos hk]
        show timesS T.n _ ≤ S
        unfold timesS
        rw [sz_of hn.1 (by omega), sz_of w1.1 w1.2, ← hlI]
        simpa using s4
      · unfold extM
        rw [if_neg (by omega), if_neg (by omega), if_neg (by omega), if_pos hk]
        show S ≤ timesS T.n _
        unfold timesS
        rw [sz_of hn.1 (by omega), sz_of w2.1 w2.2, ← hlI]
        simpa using s5
    · have hnk : x.kind = 3 := by rw [fk, hk]; decide
      have hx0 := right_seq hxr (.inl hnk)
      obtain ⟨S, l', s1, s2, s3, s4, s5⟩ := hseq
      have hkb := rightN_kids hxr
      have hkl : ks.length = x.kids.toNat := by omega
      have h5 := f5 hk
      have p1 : 0 ≤ (ks.length : Int) * withinM (atE (exts ts) T.elem).fixed (atE (exts ts) T.elem).least := Int.mul_nonneg (by omega) w1.1
      have p2 : (ks.length : Int) * withinM (atE (exts ts) T.elem).fixed (atE (exts ts) T.elem).most ≤ T.n * withinM (atE (exts ts) T.elem).fixed (atE (exts ts) T.elem).most := Int.mul_le_mul_of_nonneg_right (by omega) w2.1
      refine ⟨S, l', ?_, s2, s3, ?_, ?_⟩
      · unfold nodeW
        rw [if_neg (by omega), if_neg (by omega), if_neg (by omega), if_neg (by omega), if_pos hk, if_pos ⟨hkb.1, h5, by simp [isN, hnk, hx0]⟩, ← hkl]
        exact s1
      · unfold extM
        rw [if_neg (by omega), if_neg (by omega), if_neg (by omega), if_neg (by omega), if_pos hk]
        show 0 ≤ S
        omega
      · unfold extM
        rw [if_neg (by omega), if_neg (by omega), if_neg (by omega), if_neg (by omega), if_pos hk]
        show S ≤ timesS T.n _
        unfold timesS
        rw [sz_of hn.1 (by omega), sz_of w2.1 w2.2]
        omega
    · have hnk : x.kind = 5 := by rw [fk, hk]; decide
      have hx0 := right_seq hxr (.inr (.inr hnk))
      have hm := plus2 (a := 1) (b := (atE (exts ts) T.elem).most) (by omega) (by omega)
      rcases right_opt hxr hnk with h0 | h1
      · have := hempty h0
        subst this
        refine ⟨1, [], ?_, rfl, trivial, ?_, ?_⟩
        · unfold nodeW
          rw [if_neg (by omega), if_neg (by omega), if_neg (by omega), if_neg (by omega), if_neg (by omega), if_pos hk, if_pos ⟨by omega, by omega, by simp [isN, hnk, hx0]⟩, if_pos h0]
          simp
        · unfold extM
          rw [if_neg (by omega), if_neg (by omega), if_neg (by omega), if_neg (by omega), if_neg (by omega), if_pos hk]
          exact Int.le_refl _
        · unfold extM
          rw [if_neg (by omega), if_neg (by omega), if_neg (by omega), if_neg (by omega), if_neg (by omega), if_pos hk]
          show 1 ≤ plusL _
          omega
      · obtain ⟨c, rfl⟩ := List.length_eq_one_iff.1 (show ks.length = 1 by omega)
        obtain ⟨g1, _⟩ := hks
        rw [hel 0] at g1
        obtain ⟨n, l1, r1, r2, r3, r4, _⟩ := hsub T.elem.toNat (by omega) c (.head _) g1 (pre ++ [x]) post (ls ++ [0]) (by rw [hVe2]; simp [Tr.flat.flatL]) hpos
        unfold Btw at r4
        rw [Int.toNat_of_nonneg he.1] at r4
        have hp := plus2 (a := 1) (b := n) (by omega) (by omega)
        refine ⟨plusL [1, n], l1, ?_, by simp [Tr.flat.flatL, r2], ?_, ?_, ?_⟩
        · unfold nodeW
          rw [if_neg (by omega), if_neg (by omega), if_neg (by omega), if_neg (by omega), if_neg (by omega), if_pos hk, if_pos ⟨by omega, by omega, by simp [isN, hnk, hx0]⟩, if_neg (by omega), one1, r1]
        · simp only [Tr.types.typesL, hel, List.append_nil]; exact r3
        · unfold extM
          rw [if_neg (by omega), if_neg (by omega), if_neg (by omega), if_neg (by omega), if_neg (by omega), if_pos hk]
          show 1 ≤ plusL _
          omega
        · unfold extM
          rw [if_neg (by omega), if_neg (by omega), if_neg (by omega), if_neg (by omega), if_neg (by omega), if_pos hk]
          show plusL _ ≤ plusL _
          omega
  · have hpp := right_parts hrt hk
    have hps : ∀ p ∈ T.parts, (0 ≤ p.ty ∧ p.ty < t) ∧ extG (atE (exts ts) p.ty) := fun p hp => ⟨htyp.2 p hp, hG _ (htyp.2 p hp).1 (by have := (htyp.2 p hp).2; omega)⟩
    rcases hk with hk | hk
    · have hnk : x.kind = 6 := by rw [fk, hk]; decide
      have hu := right_uni hxr hnk
      obtain ⟨c, rfl⟩ := List.length_eq_one_iff.1 (show ks.length = 1 by omega)
      obtain ⟨g1, _⟩ := hks
      cases ha : armOf T.parts x.n with
      | none => exact absurd ha (f7 hk)
      | some p =>
        have hmem : p ∈ T.parts := List.mem_of_find?_eq_some ha
        obtain ⟨⟨p0, p1⟩, pG⟩ := hps p hmem
        have hel : elemF T x.n 0 = p.ty := by unfold elemF; rw [if_neg (by omega), if_neg (by omega), if_pos hk, ha]
        rw [hel] at g1
        obtain ⟨n, l1, r1, r2, r3, r4, _⟩ := hsub p.ty.toNat (by omega) c (.head _) g1 (pre ++ [x]) post (ls ++ [0]) (by rw [hVe2]; simp [Tr.flat.flatL]) hpos
        unfold Btw at r4
        rw [Int.toNat_of_nonneg p0] at r4
        unfold extG at pG
        obtain ⟨⟨u1, _, _, u4, u5⟩, u6⟩ := uni_good (L := exts ts) T.parts (4611686018427387904, 0, 1) (fun q hq => (hps q hq).2) (by decide) (by decide)
        obtain ⟨v1, v2, _⟩ := u6 p hmem
        simp only at u1
        have q1 := plus2 (a := 1) (b := n) (by omega) (by omega)
        have q2 := plus2 (a := 1) (b := (uni (exts ts) T.parts (4611686018427387904, 0, 1)).1) (by omega) (by omega)
        have q3 := plus2 (a := 1) (b := (atE (exts ts) p.ty).most) (by omega) (by omega)
        refine ⟨plusL [1, n], l1, ?_, by simp [Tr.flat.flatL, r2], ?_, ?_, ?_⟩
        · unfold nodeW
          rw [if_neg (by omega), if_neg (by omega), if_neg (by omega), if_neg (by omega), if_neg (by omega), if_neg (by omega), if_pos hk, if_pos (by simp [isN, hnk, hu]), armW, ha]
          simp only [one1, r1]
        · simp only [Tr.types.typesL, hel, List.append_nil]; exact r3
        · unfold extM
          rw [if_neg (by omega), if_neg (by omega), if_neg (by omega), if_neg (by omega), if_neg (by omega), if_neg (by omega), if_pos hk]
          show plusL [1, (uni (exts ts) T.parts (4611686018427387904, 0, 1)).1] ≤ plusL [1, n]
          omega
        · unfold extM
          rw [if_neg (by omega), if_neg (by omega), if_neg (by omega), if_neg (by omega), if_neg (by omega), if_neg (by omega), if_pos hk]
          show plusL [1, n] ≤ (uni (exts ts) T.parts (4611686018427387904, 0, 1)).2.1
          omega
    · have hnk : x.kind = 4 := by rw [fk, hk]; decide
      have hx0 := right_seq hxr (.inr (.inl hnk))
      have h8 := f8 hk
      obtain ⟨S, l', s1, s2, s3, s4, s5⟩ := fields_val (ts := ts) (X := exts ts) (V := V) (rec := valW ts (exts ts) V f) (T := T) (m := x.n) hk ks 0 (by omega) (fun p hp => ⟨(hps p hp).1.1, (hps p hp).2⟩)
        (fun c hc p hp h => hsub p.ty.toNat (by have := (hps p hp).1; omega) c hc h) hks (pre ++ [x]) post ⟨true, 0, 0, 1⟩ 0 (ls ++ [0]) hVe2 hpos (by decide)
      rw [List.drop_zero] at s1 s4 s5
      refine ⟨S, l', ?_, s2, s3, ?_, ?_⟩
      · unfold nodeW
        rw [if_neg (by omega), if_neg (by omega), if_neg (by omega), if_neg (by omega), if_neg (by omega), if_neg (by omega), if_neg (by omega), if_pos (by simp [isN, hnk, h8, hx0])]
        exact s1
      · unfold extM
        rw [if_neg (by omega), if_neg (by omega), if_neg (by omega), if_neg (by omega), if_neg (by omega), if_neg (by omega), if_neg (by omega)]
        exact s4
      · unfold extM
        rw [if_neg (by omega), if_neg (by omega), if_neg (by omega), if_neg (by omega), if_neg (by omega), if_neg (by omega), if_neg (by omega)]
        exact s5
theorem typed_val (hr : ∀ (k : Nat) (h : k < ts.length), rightOK ts[k] k = true) (hV : ∀ x ∈ V, nodeOK x) : ∀ (n : Nat) (c : Tr), c.flat.length ≤ n → ∀ (f t : Nat), t < f → c.typed ts t → ValOK ts (exts ts) V (valW ts (exts ts) V f) c t
  | 0, c, h => absurd (flat_pos c) (by omega)
  | n + 1, .node x ks, h => fun f t hf hty => by
    simp only [Tr.flat, List.length_cons] at h
    obtain ⟨f, rfl⟩ : ∃ g, f = g + 1 := ⟨f - 1, by omega⟩
    exact val_step hr hV f t hty.1 x ks hty fun c hc t' ht' hc' => typed_val hr hV n c (by have := flatL_mem hc; omega) f t' (by omega) hc'
/-- the lengths of a value of the type -/
theorem typed_lens {rs : List RootM} (h0 : (checkF ts rs).1 = 0) (c : Tr) (hc : c.flat = V) (hV : ∀ x ∈ V, nodeOK x) (t : Nat) (hty : c.typed ts t) :
    ∃ l n, lensF ts rs t V = (l, 0) ∧ l.length = V.length ∧ BtwL (exts ts) l (c.types ts t) ∧ l.head? = some n ∧ len1F ts rs t V = (n, 0) := by
  have ht : t < ts.length := by cases c; exact hty.1
  obtain ⟨n, l, h1, h2, h3, h4, h5⟩ := typed_val (check_right h0) hV _ c (Nat.le_refl _) ts.length t ht hty [] [] [] (by simp [hc]) rfl
  rw [hc] at h2
  have hl : lensF ts rs t V = (l, 0) := by
    unfold lensF
    rw [if_neg (by omega), if_neg (by omega), Int.toNat_natCast, h1]
    simp only [List.nil_append]
    rw [if_pos ⟨trivial, h2⟩]
  refine ⟨l, n, hl, h2, h3, h5, ?_⟩
  unfold len1F
  rw [hl, if_pos rfl]
  cases l with
  | nil => cases h5
  | cons a l => simp only [List.head?_cons, Option.some.injEq] at h5; subst h5; rfl
end
end Go.Proofs.Ytfgacgpicfknpaa
end
section
namespace Go.Proofs.Ytfgacgpicfknpaa
open Go.RowKit
set_option maxRecDepth 100000
set_option maxHeartbeats 8000000
/-! mortiselaw10.small: whatever it answers, it answers. -/
def vBs (l : List Bool) : List (List AV) := l.map fun b => [vB b]
theorem vBs_len (l : List Bool) : (vBs l).length = l.length := by simp [vBs]
theorem vBs_get {l : List Bool} {k : Nat} (h : k < l.length) : (vBs l)[k]? = some [vB l[k]] := by simp [vBs, h]
theorem vBs_set (l : List Bool) (k : Nat) (b : Bool) : (vBs l).set k [vB b] = vBs (l.set k b) := by simp [vBs, List.map_set]
def elemsT (T : TypeM) : List Int := (if T.kind = 4 ∨ T.kind = 5 ∨ T.kind = 6 then [T.elem] else []) ++ T.parts.map (·.ty)
def smallL (ts : List TypeM) : Nat → List Int → List Bool → Bool
  | 0, _, _ => true
  | f + 1, l, seen => match l.getLast? with
    | none => true
    | some k => if seen.getD k.toNat false = true then smallL ts f l.dropLast seen
      else if (tyA ts k.toNat).kind = 4 ∧ 12 < (tyA ts k.toNat).n then false
      else smallL ts f (l.dropLast ++ elemsT (tyA ts k.toNat)) (seen.set k.toNat true)
def smallF (ts : List TypeM) (t : Nat) : Bool := smallL ts (1 + 72 * ts.length) [(t : Int)] (List.replicate ts.length false)
def unseen (l : List Bool) : Nat := (l.filter fun b => !b).length
theorem unseen_set : ∀ (l : List Bool) (k : Nat) (h : k < l.length), l[k] = false → unseen (l.set k true) + 1 = unseen l
  | b :: l, 0, _, h => by simp at h; subst h; simp [unseen]
  | b :: l, k + 1, h, hf => by
    have := unseen_set l k (by simpa using h) (by simpa using hf)
    cases b <;> simp [unseen] at this ⊢ <;> omega
theorem right_len {T : TypeM} {k : Int} (h : rightOK T k = true) : T.parts.length ≤ 64 := by
  rcases rightOK_kind h with hk | hk | hk
  · rw [rightOK, if_pos hk] at h
    simp only [Bool.and_eq_true, decide_eq_true_eq] at h
    omega
  · rw [rightOK, if_neg (by omega), if_pos hk] at h
    simp only [Bool.and_eq_true, decide_eq_true_eq] at h
    omega
  · exact (right_parts h hk).1
theorem small_any (ts : List TypeM) (rs : List RootM) (hts : ts.length ≤ 1000000) (hr : ∀ (k : Nat) (h : k < ts.length), rightOK ts[k] k = true) (t : Nat) (ht : t < ts.length) :
    PCall Try.prog 60 [vSch ts rs, vI t] (fun r => r = vB (smallF ts t)) := by
  refine go_fn (tyOf_ok _) Try.func60 rfl rfl (by rw [Try.results60]) Try.ntmps60 rfl fun E => ?_
  generalize hB : smallF ts t = B
  unfold smallF at hB
  have hrep : List.replicate ((ts.length : Int)).toNat [AV.v (Value.bool false)] = vBs (List.replicate ts.length false) := by simp [vBs]
  have hrep' : List.replicate ts.length [AV.v (Value.bool false)] = vBs (List.replicate ts.length false) := by simp [vBs]
  (repeat' (first
    | exact trivial
    | (with_reducible first | refine awA ?_ | refine awB ?_ | refine awC ?_ | refine awD ?_ | refine awE ?_ | refine awF ?_ | refine awG ?_ | refine awH ?_ | refine awI ?_ | refine awJ ?_ | refine awK ?_ | refine awL ?_ | refine awM (by decide) ?_)
    | ((with_reducible first | refine awN (tyOf_ok _) [11] ?_ | refine awO (tyOf_ok _) [11] ?_ | refine awP (tyOf_ok _) [11] ?_ | refine awQ ?_ | refine awR ?_ | refine awS ?_); intro r hr; simp only [go_sem, Nat.reduceBEq, Nat.reduceBneDiff, Nat.reduceLT, Nat.reduceLeDiff, Nat.reduceAdd, Nat.reduceMul, Nat.reduceSub, Nat.reduceEqDiff, reduceCtorEq, vSch, encTs_len, hrep] at hr; subst hr; (first | refine awV ?_ ?_ | refine awW ?_ ?_ | refine endK ?_ ?_ | (refine condK (fun h => ?_) (fun h => ?_) <;> (try simp only [go_sem, reduceCtorEq] at h) <;> (try (exfalso; omega))))) | fail)) <;> (try omega)
  refine go_loop [2, 5, 6] [2, 11, 15] (fun q : Nat × List Int × List Int × List Bool => ⟨[(2, true, .ptr 1 2 0 0), (5, true, .ref 3 1 11 0 q.2.1.length), (6, true, .ref 4 1 15 0 ts.length)],
      [(2, .var [.lst 4 (encTs ts), .lst 2 (encRs rs)]), (11, .row 3 1 (v8 (q.2.1 ++ q.2.2.1))), (15, .row 4 1 (vBs q.2.2.2))]⟩)
    (fun q => smallL ts q.1 q.2.1 q.2.2.2 = B ∧ q.2.2.2.length = ts.length ∧ (∀ z ∈ q.2.1, 0 ≤ z ∧ z < ts.length) ∧ q.2.1.length + 72 * unseen q.2.2.2 ≤ q.1 ∧ q.1 ≤ 1 + 72 * ts.length) (fun q => q.1) (1 + 72 * ts.length, [(t : Int)], [], List.replicate ts.length false)
    (by simp only [go_sem, Nat.reduceBEq, Nat.reduceBneDiff, Nat.reduceLT, Nat.reduceLeDiff, Nat.reduceAdd, Nat.reduceMul, Nat.reduceSub, Nat.reduceEqDiff, reduceCtorEq, hrep'] <;> exact rfl) ⟨hB, by simp, by simp; omega, by simp [unseen] <;> omega, Nat.le_refl _⟩ ?_
  intro ⟨f, l, g, seen⟩ ⟨hL, hsl, hz, hm, hf⟩
  simp only at hL hsl hz hm hf
  clear hB hrep hrep'
  rcases List.eq_nil_or_concat l with rfl | ⟨l', k, rfl⟩
  · have hBt : B = true := by
      rw [← hL]
      cases f with
      | zero => rfl
      | succ f => rfl
    (repeat' (first
    | exact trivial
    | (with_reducible first | refine awA ?_ | refine awB ?_ | refine awC ?_ | refine awD ?_ | refine awE ?_ | refine awF ?_ | refine awG ?_ | refine awH ?_ | refine awI ?_ | refine awJ ?_ | refine awK ?_ | refine awL ?_ | refine awM (by decide) ?_)
    | ((with_reducible first | refine awN (tyOf_ok _) [] ?_ | refine awO (tyOf_ok _) [] ?_ | refine awP (tyOf_ok _) [] ?_ | refine awQ ?_ | refine awR ?_ | refine awS ?_); intro r hr; simp only [go_sem, Nat.reduceBEq, Nat.reduceBneDiff, Nat.reduceLT, Nat.reduceLeDiff, Nat.reduceAdd, Nat.reduceMul, Nat.reduceSub, Nat.reduceEqDiff, reduceCtorEq] at hr; subst hr; (first | refine awV ?_ ?_ | refine awW ?_ ?_ | refine endK ?_ ?_ | (refine condK (fun h => ?_) (fun h => ?_) <;> (try simp only [go_sem, reduceCtorEq] at h) <;> (try (exfalso; omega))))) | fail)) <;> (try omega)
    rw [hBt]; exact rfl
  · rw [List.concat_eq_append] at *
    simp only [List.length_append, List.length_singleton] at hm
    obtain ⟨f, rfl⟩ : ∃ g, f = g + 1 := ⟨f - 1, by omega⟩
    obtain ⟨hk0, hk1⟩ := hz k (by simp)
    obtain ⟨a, rfl⟩ : ∃ a : Nat, k = a := ⟨k.toNat, by omega⟩
    have hal : a < ts.length := by omega
    have hz' : ∀ z ∈ l', 0 ≤ z ∧ z < ts.length := fun z h => hz z (by simp [h])
    rw [smallL, List.getLast?_append] at hL
    simp only [List.getLast?_singleton, Option.some_or, List.dropLast_concat, Int.toNat_natCast] at hL
    have hl1 : (l' ++ [(a : Int)]).length = l'.length + 1 := by simp
    have hw1 : IntKind.i64.wrap (((l'.length + 1 : Nat) : Int) - 1) = l'.length := by rw [wrap_i64 (by omega)]; omega
    have zl : ((l'.length : Int)).toNat = l'.length := by omega
    have za : ((a : Int)).toNat = a := by omega
    have g1 : (v8 ((l' ++ [(a : Int)]) ++ g))[l'.length]? = some [vI a] := by rw [v8_get (by simp)]; simp
    have hgt := encTs_get hal
    have hrt := hr a hal
    have hty := rightOK_ty hrt
    have g2 := vBs_get (l := seen) (k := a) (by omega)
    rw [tyA_lt hal] at hL
    have hgd : seen.getD a false = seen[a]'(by omega) := by simp [List.getElem?_eq_getElem (show a < seen.length by omega)]
    rw [hgd] at hL
    have hun := unseen_set seen a (by omega)
    by_cases hs : seen[a]'(by omega) = true
    · rw [if_pos hs] at hL
      rw [hs] at g2
      have hga : l' ++ [(a : Int)] ++ g = l' ++ ((a : Int) :: g) := by simp
      (repeat' (first
    | exact trivial
    | (with_reducible first | refine awA ?_ | refine awB ?_ | refine awC ?_ | refine awD ?_ | refine awE ?_ | refine awF ?_ | refine awG ?_ | refine awH ?_ | refine awI ?_ | refine awJ ?_ | refine awK ?_ | refine awL ?_ | refine awM (by decide) ?_)
    | ((with_reducible first | refine awN (tyOf_ok _) [] ?_ | refine awO (tyOf_ok _) [] ?_ | refine awP (tyOf_ok _) [] ?_ | refine awQ ?_ | refine awR ?_ | refine awS ?_); intro r hr; simp only [go_sem, Nat.reduceBEq, Nat.reduceBneDiff, Nat.reduceLT, Nat.reduceLeDiff, Nat.reduceAdd, Nat.reduceMul, Nat.reduceSub, Nat.reduceEqDiff, reduceCtorEq, hl1, hw1, zl, za, g1, hgt, g2, Int.toNat_zero, Nat.sub_zero] at hr; subst hr; (first | refine awV ?_ ?_ | refine awW ?_ ?_ | refine endK ?_ ?_ | (refine condK (fun h => ?_) (fun h => ?_) <;> (try simp only [go_sem, reduceCtorEq] at h) <;> (try (exfalso; omega))))) | fail)) <;> (try omega)
      exact ⟨(f, l', (a : Int) :: g, seen), by simp only [go_sem, Nat.reduceBEq, Nat.reduceBneDiff, Nat.reduceLT, Nat.reduceLeDiff, Nat.reduceAdd, Nat.reduceMul, Nat.reduceSub, Nat.reduceEqDiff, reduceCtorEq, hga] <;> exact rfl, ⟨hL, hsl, hz', by simp only; omega, by simp only; omega⟩, by simp only; omega⟩
    · have hs' : seen[a]'(by omega) = false := by simpa using hs
      rw [hs'] at g2
      rw [if_neg hs] at hL
      have hu := hun hs'
      have hset := vBs_set seen a true
      have hga : l' ++ [(a : Int)] ++ g = l' ++ ((a : Int) :: g) := by simp
      have hpl := right_len hrt
      have hset' : (vBs seen).set a [AV.v (.bool true)] = vBs (seen.set a true) := hset
      have hsl' : (seen.set a true).length = ts.length := by rw [List.length_set]; exact hsl
      have hsa := vBs_len seen
      rw [hsl] at hsa
      generalize ts[a] = T at *
      generalize seen.set a true = seen' at *
      by_cases h12 : T.kind = 4 ∧ 12 < T.n
      · have k4 : (T.kind = 4) = True := eq_true h12.1
        have e1 : (12 < T.n) = True := eq_true h12.2
        rw [if_pos h12] at hL
        subst hL
        (repeat' (first
    | exact trivial
    | (with_reducible first | refine awA ?_ | refine awB ?_ | refine awC ?_ | refine awD ?_ | refine awE ?_ | refine awF ?_ | refine awG ?_ | refine awH ?_ | refine awI ?_ | refine awJ ?_ | refine awK ?_ | refine awL ?_ | refine awM (by decide) ?_)
    | ((with_reducible first | refine awN (tyOf_ok _) [] ?_ | refine awO (tyOf_ok _) [] ?_ | refine awP (tyOf_ok _) [] ?_ | refine awQ ?_ | refine awR ?_ | refine awS ?_); intro r hr; simp only [go_sem, Nat.reduceBEq, Nat.reduceBneDiff, Nat.reduceLT, Nat.reduceLeDiff, Nat.reduceAdd, Nat.reduceMul, Nat.reduceSub, Nat.reduceEqDiff, reduceCtorEq, hl1, hw1, zl, za, g1, hgt, g2, Int.toNat_zero, Nat.sub_zero, hset', hsa, k4, e1] at hr; subst hr; (first | refine awV ?_ ?_ | refine awW ?_ ?_ | refine endK ?_ ?_ | (refine condK (fun h => ?_) (fun h => ?_) <;> (try simp only [go_sem, reduceCtorEq] at h) <;> (try (exfalso; omega))))) | fail)) <;> (try omega)
        exact rfl
      rw [if_neg h12] at hL
      have e1 : (decide (T.kind = 4) && decide (12 < T.n)) = false := by simpa using h12
      have htk : (v8 (l' ++ [(a : Int)] ++ g)).take l'.length = v8 l' := by simp [v8]
      (repeat' (first
    | exact trivial
    | (refine go_cutC (.tmp 62) [2, 5, 6, 8] [2, 8, 11, 15] (fun q : List Int × List Int => ⟨[(2, true, .ptr 1 2 0 0), (5, true, .ref 3 1 11 0 q.1.length), (6, true, .ref 4 1 15 0 ts.length), (8, true, .ptr 1 8 0 0)],
          [(2, .var [.lst 4 (encTs ts), .lst 2 (encRs rs)]), (8, .var [vI T.kind, vI T.n, vI T.elem, .lst 3 (encPs T.parts)]), (11, .row 3 1 (v8 (q.1 ++ q.2))), (15, .row 4 1 (vBs seen'))]⟩) (fun q => q.1 = l' ++ (if T.kind = 4 ∨ T.kind = 5 ∨ T.kind = 6 then [T.elem] else [])) (hold ?_) ?_)
    | (with_reducible first | refine awA ?_ | refine awB ?_ | refine awC ?_ | refine awD ?_ | refine awE ?_ | refine awF ?_ | refine awG ?_ | refine awH ?_ | refine awI ?_ | refine awJ ?_ | refine awK ?_ | refine awL ?_ | refine awM (by decide) ?_)
    | ((with_reducible first | refine awN (tyOf_ok _) [] ?_ | refine awO (tyOf_ok _) [] ?_ | refine awP (tyOf_ok _) [] ?_ | refine awQ ?_ | refine awR ?_ | refine awS ?_); intro r hr; simp only [go_sem, Nat.reduceBEq, Nat.reduceBneDiff, Nat.reduceLT, Nat.reduceLeDiff, Nat.reduceAdd, Nat.reduceMul, Nat.reduceSub, Nat.reduceEqDiff, reduceCtorEq, hl1, hw1, zl, za, g1, hgt, g2, Int.toNat_zero, Nat.sub_zero, hset', hsa, e1, htk, v8_app] at hr; subst hr; (first | refine awV ?_ ?_ | refine awW ?_ ?_ | refine endK ?_ ?_ | (refine condK (fun h => ?_) (fun h => ?_) <;> (try simp only [go_sem, reduceCtorEq] at h) <;> (try (exfalso; omega))))) | fail)) <;> (try omega)
      · refine ⟨?_⟩
        by_cases h456 : T.kind = 4 ∨ T.kind = 5 ∨ T.kind = 6
        · have e2 : (decide (T.kind = 4) || decide (T.kind = 5) || decide (T.kind = 6)) = true := by simpa [or_assoc] using h456
          have hl2 : (l' ++ [T.elem]).length = l'.length + 1 := by simp
          (repeat' (first
    | exact trivial
    | (with_reducible first | refine awA ?_ | refine awB ?_ | refine awC ?_ | refine awD ?_ | refine awE ?_ | refine awF ?_ | refine awG ?_ | refine awH ?_ | refine awI ?_ | refine awJ ?_ | refine awK ?_ | refine awL ?_ | refine awM (by decide) ?_)
    | ((with_reducible first | refine awN (tyOf_ok _) [] ?_ | refine awO (tyOf_ok _) [] ?_ | refine awP (tyOf_ok _) [] ?_ | refine awQ ?_ | refine awR ?_ | refine awS ?_); intro r hr; simp only [go_sem, Nat.reduceBEq, Nat.reduceBneDiff, Nat.reduceLT, Nat.reduceLeDiff, Nat.reduceAdd, Nat.reduceMul, Nat.reduceSub, Nat.reduceEqDiff, reduceCtorEq, htk, v8_app, hl2, e2] at hr; subst hr; (first | refine awV ?_ ?_ | refine awW ?_ ?_ | refine endK ?_ ?_ | (refine condK (fun h => ?_) (fun h => ?_) <;> (try simp only [go_sem, reduceCtorEq] at h) <;> (try (exfalso; omega))))) | fail)) <;> (try omega)
          all_goals first | omega | exact ⟨(l' ++ [T.elem], []), by simp only [go_sem, Nat.reduceBEq, Nat.reduceBneDiff, Nat.reduceLT, Nat.reduceLeDiff, Nat.reduceAdd, Nat.reduceMul, Nat.reduceSub, Nat.reduceEqDiff, reduceCtorEq, List.append_nil, hl2] <;> exact rfl, by rw [if_pos h456]⟩ | (simp only [List.length_append]; omega)
        · have e2 : (decide (T.kind = 4) || decide (T.kind = 5) || decide (T.kind = 6)) = false := by simp; omega
          (repeat' (first
    | exact trivial
    | (with_reducible first | refine awA ?_ | refine awB ?_ | refine awC ?_ | refine awD ?_ | refine awE ?_ | refine awF ?_ | refine awG ?_ | refine awH ?_ | refine awI ?_ | refine awJ ?_ | refine awK ?_ | refine awL ?_ | refine awM (by decide) ?_)
    | ((with_reducible first | refine awN (tyOf_ok _) [] ?_ | refine awO (tyOf_ok _) [] ?_ | refine awP (tyOf_ok _) [] ?_ | refine awQ ?_ | refine awR ?_ | refine awS ?_); intro r hr; simp only [go_sem, Nat.reduceBEq, Nat.reduceBneDiff, Nat.reduceLT, Nat.reduceLeDiff, Nat.reduceAdd, Nat.reduceMul, Nat.reduceSub, Nat.reduceEqDiff, reduceCtorEq, e2] at hr; subst hr; (first | refine awV ?_ ?_ | refine awW ?_ ?_ | refine endK ?_ ?_ | (refine condK (fun h => ?_) (fun h => ?_) <;> (try simp only [go_sem, reduceCtorEq] at h) <;> (try (exfalso; omega))))) | fail)) <;> (try omega)
          exact ⟨(l', (a : Int) :: g), by simp only [go_sem, Nat.reduceBEq, Nat.reduceBneDiff, Nat.reduceLT, Nat.reduceLeDiff, Nat.reduceAdd, Nat.reduceMul, Nat.reduceSub, Nat.reduceEqDiff, reduceCtorEq, hga] <;> exact rfl, by rw [if_neg h456, List.append_nil]⟩
      intro ⟨base, G⟩ hb
      simp only at hb
      have hbl : base.length ≤ l'.length + 1 := by rw [hb]; split <;> simp
      have hpt : ∀ p ∈ T.parts, 0 ≤ p.ty ∧ p.ty < ts.length := fun p hp => by have := hty.2 p hp; omega
      have hbz : ∀ z ∈ base, 0 ≤ z ∧ z < ts.length := fun z h => by
        rw [hb, List.mem_append] at h
        rcases h with h | h
        · exact hz' z h
        · split at h
          · rename_i h456
            rw [List.mem_singleton] at h
            subst h
            have := hty.1 h456
            omega
          · cases h
      rw [elemsT, ← List.append_assoc, ← hb] at hL
      clear hb hga e1 h12 htk
      (repeat' (first
    | exact trivial
    | (with_reducible first | refine awA ?_ | refine awB ?_ | refine awC ?_ | refine awD ?_ | refine awE ?_ | refine awF ?_ | refine awG ?_ | refine awH ?_ | refine awI ?_ | refine awJ ?_ | refine awK ?_ | refine awL ?_ | refine awM (by decide) ?_)
    | ((with_reducible first | refine awN (tyOf_ok _) [] ?_ | refine awO (tyOf_ok _) [] ?_ | refine awP (tyOf_ok _) [] ?_ | refine awQ ?_ | refine awR ?_ | refine awS ?_); intro r hr; simp only [go_sem, Nat.reduceBEq, Nat.reduceBneDiff, Nat.reduceLT, Nat.reduceLeDiff, Nat.reduceAdd, Nat.reduceMul, Nat.reduceSub, Nat.reduceEqDiff, reduceCtorEq] at hr; subst hr; (first | refine awV ?_ ?_ | refine awW ?_ ?_ | refine endK ?_ ?_ | (refine condK (fun h => ?_) (fun h => ?_) <;> (try simp only [go_sem, reduceCtorEq] at h) <;> (try (exfalso; omega))))) | fail)) <;> (try omega)
      refine go_loop [2, 5, 6, 8, 9] [2, 8, 11, 15] (fun q : Nat × List Int => ⟨[(2, true, .ptr 1 2 0 0), (5, true, .ref 3 1 11 0 (base.length + q.1)), (6, true, .ref 4 1 15 0 ts.length), (8, true, .ptr 1 8 0 0), (9, true, vI q.1)],
          [(2, .var [.lst 4 (encTs ts), .lst 2 (encRs rs)]), (8, .var [vI T.kind, vI T.n, vI T.elem, .lst 3 (encPs T.parts)]), (11, .row 3 1 (v8 (base ++ (T.parts.take q.1).map (·.ty) ++ q.2))), (15, .row 4 1 (vBs seen'))]⟩)
        (fun q => q.1 ≤ T.parts.length) (fun q => T.parts.length - q.1) (0, G) (by simp only [go_sem, Nat.reduceBEq, Nat.reduceBneDiff, Nat.reduceLT, Nat.reduceLeDiff, Nat.reduceAdd, Nat.reduceMul, Nat.reduceSub, Nat.reduceEqDiff, reduceCtorEq, List.take_zero, List.map_nil, List.append_nil, Nat.add_zero] <;> exact rfl) (Nat.zero_le _) ?_
      intro ⟨j, G'⟩ hj
      simp only at hj
      have hwj := wrap_i64 (n := (j : Int) + 1) (by omega)
      have hlj : (base ++ (T.parts.take j).map (·.ty)).length = base.length + j := by simp; omega
      by_cases hlt : j < T.parts.length
      · have f1 : ((j : Int) < T.parts.length) = True := eq_true (by omega)
        have g3 := encPs_get hlt
        have hnx : (T.parts.take (j + 1)).map (·.ty) = (T.parts.take j).map (·.ty) ++ [T.parts[j].ty] := by rw [List.take_succ_eq_append_getElem hlt, List.map_append]; rfl
        have htk2 : (v8 (base ++ (T.parts.take j).map (·.ty) ++ G')).take (base.length + j) = v8 (base ++ (T.parts.take j).map (·.ty)) := by rw [v8_take, List.take_append_of_le_length (by omega), List.take_of_length_le (by omega)]
        have hl3 : (base ++ (T.parts.take j).map (·.ty) ++ [T.parts[j].ty]).length = base.length + (j + 1) := by rw [List.length_append, hlj]; rfl
        (repeat' (first
    | exact trivial
    | (with_reducible first | refine awA ?_ | refine awB ?_ | refine awC ?_ | refine awD ?_ | refine awE ?_ | refine awF ?_ | refine awG ?_ | refine awH ?_ | refine awI ?_ | refine awJ ?_ | refine awK ?_ | refine awL ?_ | refine awM (by decide) ?_)
    | ((with_reducible first | refine awN (tyOf_ok _) [] ?_ | refine awO (tyOf_ok _) [] ?_ | refine awP (tyOf_ok _) [] ?_ | refine awQ ?_ | refine awR ?_ | refine awS ?_); intro r hr; simp only [go_sem, Nat.reduceBEq, Nat.reduceBneDiff, Nat.reduceLT, Nat.reduceLeDiff, Nat.reduceAdd, Nat.reduceMul, Nat.reduceSub, Nat.reduceEqDiff, reduceCtorEq, hwj, f1, g3, htk2, v8_app, hl3] at hr; subst hr; (first | refine awV ?_ ?_ | refine awW ?_ ?_ | refine endK ?_ ?_ | (refine condK (fun h => ?_) (fun h => ?_) <;> (try simp only [go_sem, reduceCtorEq] at h) <;> (try (exfalso; omega))))) | fail)) <;> (try omega)
        all_goals first | (simp only [List.length_append, List.length_map, List.length_take]; omega) | exact ⟨(j + 1, []), by simp only [go_sem, Nat.reduceBEq, Nat.reduceBneDiff, Nat.reduceLT, Nat.reduceLeDiff, Nat.reduceAdd, Nat.reduceMul, Nat.reduceSub, Nat.reduceEqDiff, reduceCtorEq, hnx, List.append_nil, List.append_assoc] <;> exact rfl, hlt, by simp only; omega⟩
      · have f1 : ((j : Int) < T.parts.length) = False := eq_false (by omega)
        have hjl : j = T.parts.length := by omega
        subst hjl
        rw [List.take_length]
        (repeat' (first
    | exact trivial
    | (with_reducible first | refine awA ?_ | refine awB ?_ | refine awC ?_ | refine awD ?_ | refine awE ?_ | refine awF ?_ | refine awG ?_ | refine awH ?_ | refine awI ?_ | refine awJ ?_ | refine awK ?_ | refine awL ?_ | refine awM (by decide) ?_)
    | ((with_reducible first | refine awN (tyOf_ok _) [] ?_ | refine awO (tyOf_ok _) [] ?_ | refine awP (tyOf_ok _) [] ?_ | refine awQ ?_ | refine awR ?_ | refine awS ?_); intro r hr; simp only [go_sem, Nat.reduceBEq, Nat.reduceBneDiff, Nat.reduceLT, Nat.reduceLeDiff, Nat.reduceAdd, Nat.reduceMul, Nat.reduceSub, Nat.reduceEqDiff, reduceCtorEq, hwj, f1] at hr; subst hr; (first | refine awV ?_ ?_ | refine awW ?_ ?_ | refine endK ?_ ?_ | (refine condK (fun h => ?_) (fun h => ?_) <;> (try simp only [go_sem, reduceCtorEq] at h) <;> (try (exfalso; omega))))) | fail)) <;> (try omega)
        refine ⟨(f, base ++ T.parts.map (·.ty), G', seen'), by simp only [go_sem, Nat.reduceBEq, Nat.reduceBneDiff, Nat.reduceLT, Nat.reduceLeDiff, Nat.reduceAdd, Nat.reduceMul, Nat.reduceSub, Nat.reduceEqDiff, reduceCtorEq, List.length_append, List.length_map] <;> exact rfl, ⟨hL, hsl', fun z h => ?_, by simp only [List.length_append, List.length_map]; omega, by simp only; omega⟩, by simp only; omega⟩
        rcases List.mem_append.1 h with h | h
        · exact hbz z h
        · obtain ⟨p, hp, rfl⟩ := List.mem_map.1 h
          exact hpt p hp
end Go.Proofs.Ytfgacgpicfknpaa
end
section
namespace Go.Proofs.Ytfgacgpicfknpaa
open Go.RowKit
/-! A schema whose lists are short. -/
def shortP (t : TypeM) : TypeM := if t.kind = 5 then ⟨t.kind, min t.n 3, t.elem, t.parts⟩ else t
def shortT (ts : List TypeM) : List TypeM := ts.map shortP
theorem short_len (ts : List TypeM) : (shortT ts).length = ts.length := by simp [shortT]
theorem short_get {ts : List TypeM} {k : Nat} (h : k < ts.length) : (shortT ts)[k]'(by rw [short_len]; exact h) = shortP ts[k] := by simp [shortT]
theorem shortP_eq (t : TypeM) : (shortP t).kind = t.kind ∧ (shortP t).elem = t.elem ∧ (shortP t).parts = t.parts ∧ (t.kind ≠ 5 → (shortP t).n = t.n) ∧ (t.kind = 5 → (shortP t).n = min t.n 3) := by
  unfold shortP
  split
  · exact ⟨rfl, rfl, rfl, fun h => absurd ‹_› h, fun _ => rfl⟩
  · exact ⟨rfl, rfl, rfl, fun _ => rfl, fun h => absurd h ‹_›⟩
theorem short_right {t : TypeM} {k : Int} (h : rightOK t k = true) : rightOK (shortP t) k = true := by
  obtain ⟨h1, h2, h3, h4, h5⟩ := shortP_eq t
  rw [rightOK, h1, h2, h3]
  rw [rightOK] at h
  by_cases hk : t.kind = 5
  · rw [h5 hk]
    simp only [Bool.and_eq_true] at h ⊢
    refine ⟨?_, h.2⟩
    have hn := h.1
    rw [numberOK, if_neg (by omega), if_pos (.inr hk)] at hn ⊢
    simp only [Bool.and_eq_true, decide_eq_true_eq] at hn ⊢
    omega
  · rw [h4 hk]; exact h
theorem dep_short (ds : List Int) (t : TypeM) : dep ds (shortP t) = dep ds t := by
  obtain ⟨h1, h2, h3, _, _⟩ := shortP_eq t
  rw [dep, dep, dep0, dep0, h1, h2, h3]
theorem deps_short (l : List TypeM) : deps (shortT l) = deps l := by
  have h : ∀ (l : List TypeM) (ds : List Int), (shortT l).foldl (fun ds t => ds ++ [dep ds t]) ds = l.foldl (fun ds t => ds ++ [dep ds t]) ds := by
    intro l
    induction l with
    | nil => intro ds; rfl
    | cons t l ih => intro ds; simp only [shortT, List.map_cons, List.foldl_cons, dep_short]; exact ih _
  exact h l []
theorem short_check {ts : List TypeM} {rs : List RootM} (h : (checkF ts rs).1 = 0) : (checkF (shortT ts) rs).1 = 0 := by
  have hr := check_right h
  have h1 : ∀ l : List TypeM, (∀ (k : Nat) (hk : k < l.length), rightOK l[k] k = true) → (List.range l.length).find? (wrongType l) = none := fun l hl => find_none fun i hi => by
    rw [wrongType, List.getElem?_eq_getElem hi]; simp [hl i hi]
  have g1 := h1 ts hr
  have g2 := h1 (shortT ts) fun k hk => by rw [short_len] at hk; rw [short_get hk]; exact short_right (hr k hk)
  have hd : ∀ k, tooDeep (shortT ts) k = tooDeep ts k := fun k => by
    unfold tooDeep
    have e1 : (shortT ts).take k = shortT (ts.take k) := by simp [shortT, List.map_take]
    rw [e1, deps_short]
    have e2 : dep (deps (ts.take k)) (((shortT ts)[k]?).getD ⟨0, 0, 0, []⟩) = dep (deps (ts.take k)) ((ts[k]?).getD ⟨0, 0, 0, []⟩) := by
      cases hk : ts[k]? with
      | none => simp [shortT, hk]
      | some t => simp [shortT, hk, dep_short]
    rw [e2]
  have hdf : deepF (shortT ts) = deepF ts := by
    unfold deepF
    rw [short_len, funext hd]
  unfold checkF at h ⊢
  rw [g1] at h
  rw [g2]
  simp only at h ⊢
  rw [hdf, short_len]
  exact h
theorem elem_short (t : TypeM) (n : Int) (k : Nat) : elemF (shortP t) n k = elemF t n k := by
  obtain ⟨h1, h2, h3, _, _⟩ := shortP_eq t
  rw [elemF, elemF, h1, h2, h3]
theorem fits_short {t : TypeM} {x : NodeM} (h : fitsF (shortP t) x = 0) : fitsF t x = 0 := by
  obtain ⟨h1, h2, h3, h4, h5⟩ := shortP_eq t
  by_cases hk : t.kind = 5
  · obtain ⟨f1, _, _, f5, _, _⟩ := fits_parts h
    rw [h1] at f1
    have := f5 (by rw [h1]; exact hk)
    rw [h5 hk] at this
    unfold fitsF
    rw [if_neg (by omega), if_neg (by omega), if_neg (by omega), if_neg (by omega)]
  · have : shortP t = t := by unfold shortP; rw [if_neg hk]
    rwa [this] at h
theorem tyA_short {ts : List TypeM} {t : Nat} (h : t < ts.length) : tyA (shortT ts) t = shortP (tyA ts t) := by
  rw [tyA_lt (by rw [short_len]; exact h), short_get h, tyA_lt h]
theorem typed_short {ts : List TypeM} : ∀ (n : Nat) (c : Tr), c.flat.length ≤ n → ∀ t, c.typed (shortT ts) t → c.typed ts t
  | 0, c, h => absurd (flat_pos c) (by omega)
  | n + 1, .node x ks, h => fun t ⟨h1, h2, h3, h4, h5⟩ => by
    simp only [Tr.flat, List.length_cons] at h
    rw [short_len] at h1
    rw [tyA_short h1] at h2 h5
    have hL : ∀ (l : List Tr), (∀ c ∈ l, c.flat.length ≤ n) → ∀ (T : TypeM) (m : Int) (k : Nat), Tr.typed.typedL (shortT ts) (shortP T) m l k → Tr.typed.typedL ts T m l k := by
      intro l
      induction l with
      | nil => intro _ _ _ _ _; trivial
      | cons c cs ih => exact fun hc T m k ⟨g1, g2⟩ => ⟨by rw [elem_short] at g1; exact typed_short n c (hc c (.head _)) _ g1, ih (fun d hd => hc d (.tail _ hd)) T m (k + 1) g2⟩
    exact ⟨h1, fits_short h2, h3, h4, hL ks (fun c hc => by have := flatL_mem hc; omega) _ _ _ h5⟩
end Go.Proofs.Ytfgacgpicfknpaa
end
section
namespace Go.Proofs.Ytfgacgpicfknpaa
open Go.RowKit
set_option maxRecDepth 100000
set_option maxHeartbeats 4000000
theorem plus12_p (a b : Int) (ha : I64 a) (hb : I64 b) : PCall Try.prog 101 [.lst 1 [[vI a], [vI b]]] (fun x => x = vI (plusL [a, b])) :=
  plus1_p (zs := [a, b]) (fun z hz => by simp at hz; rcases hz with rfl | rfl <;> assumption)
theorem rplus_any (a b : Int) (ha : I64 a) (hb : I64 b) : PCall Try.prog 89 [vI a, vI b] (fun r => r = vI (plusL [a, b])) := by
  refine go_fn (tyOf_ok _) Try.func89 rfl rfl (by rw [Try.results89]) Try.ntmps89 rfl fun E => ?_
  (repeat' (first
    | exact trivial
    | (with_reducible first | refine awA ?_ | refine awB ?_ | refine awC ?_ | refine awD ?_ | refine awE ?_ | refine awF ?_ | refine awG ?_ | refine awH ?_ | refine awI ?_ | refine awJ ?_ | refine awK ?_ | refine awL ?_ | refine awM (by decide) ?_)
    | ((with_reducible first | refine awN (tyOf_ok _) [] ?_ | refine awO (tyOf_ok _) [] ?_ | refine awP (tyOf_ok _) [] ?_ | refine awQ ?_ | refine awR ?_ | refine awS ?_); intro r hr; simp only [go_sem, Nat.reduceBEq, Nat.reduceBneDiff, Nat.reduceLT, Nat.reduceLeDiff, Nat.reduceAdd, Nat.reduceMul, Nat.reduceSub, Nat.reduceEqDiff, reduceCtorEq] at hr; subst hr; (first | refine caA (fun _ => plus12_p a b ha hb) rfl ?_ ?_ ?_ | refine awV ?_ ?_ | refine awW ?_ ?_ | refine endK ?_ ?_ | (refine condK (fun h => ?_) (fun h => ?_) <;> (try simp only [go_sem, reduceCtorEq] at h) <;> (try (exfalso; omega))))) | fail)) <;> (try omega)
  exact rfl
theorem rtimes_any (a b : Int) (ha : I64 a) (hb : I64 b) : PCall Try.prog 88 [vI a, vI b] (fun r => r = vI (timesS a b)) := by
  refine go_fn (tyOf_ok _) Try.func88 rfl rfl (by rw [Try.results88]) Try.ntmps88 rfl fun E => ?_
  (repeat' (first
    | exact trivial
    | (with_reducible first | refine awA ?_ | refine awB ?_ | refine awC ?_ | refine awD ?_ | refine awE ?_ | refine awF ?_ | refine awG ?_ | refine awH ?_ | refine awI ?_ | refine awJ ?_ | refine awK ?_ | refine awL ?_ | refine awM (by decide) ?_)
    | ((with_reducible first | refine awN (tyOf_ok _) [] ?_ | refine awO (tyOf_ok _) [] ?_ | refine awP (tyOf_ok _) [] ?_ | refine awQ ?_ | refine awR ?_ | refine awS ?_); intro r hr; simp only [go_sem, Nat.reduceBEq, Nat.reduceBneDiff, Nat.reduceLT, Nat.reduceLeDiff, Nat.reduceAdd, Nat.reduceMul, Nat.reduceSub, Nat.reduceEqDiff, reduceCtorEq] at hr; subst hr; (first | refine caA (fun _ => times1_p ha hb) rfl ?_ ?_ ?_ | refine awV ?_ ?_ | refine awW ?_ ?_ | refine endK ?_ ?_ | (refine condK (fun h => ?_) (fun h => ?_) <;> (try simp only [go_sem, reduceCtorEq] at h) <;> (try (exfalso; omega))))) | fail)) <;> (try omega)
  exact rfl
theorem rpart_any (e : ExtM) (h1 : I64 e.least) (h2 : I64 e.most) : PCall Try.prog 87 [.agg [vB e.fixed, vI e.least, vI e.most, vI e.depth]] (fun r => r = .tup [vI (withinM e.fixed e.least), vI (withinM e.fixed e.most)]) := by
  have h4 : I64 4 := by unfold I64; omega
  refine go_fn (tyOf_ok _) Try.func87 rfl rfl (by rw [Try.results87]) Try.ntmps87 rfl fun E => ?_
  (repeat' (first
    | exact trivial
    | (with_reducible first | refine awA ?_ | refine awB ?_ | refine awC ?_ | refine awD ?_ | refine awE ?_ | refine awF ?_ | refine awG ?_ | refine awH ?_ | refine awI ?_ | refine awJ ?_ | refine awK ?_ | refine awL ?_ | refine awM (by decide) ?_)
    | (refine aw_draw (id := 2) (t := (.node [0, 1, 2, 3, 4, 5] [])) (drR [1] [] []) mixed (by kernel_rfl) (by kernel_rfl) (fun _ _ h => h) ?_)
    | (refine aw_draw (id := 3) (t := (.node [0, 1, 3, 4, 2, 5, 6, 7] [])) (drR [1] [] []) mixed (by kernel_rfl) (by kernel_rfl) (fun _ _ h => h) ?_)
    | (refine at_done (by simp only [List.filterMap_cons, List.filterMap_nil, List.getElem?_toArray, List.getElem?_cons_zero, List.getElem?_cons_succ]; exact rfl) ?_) | (refine at_alt (by simp only [List.filterMap_cons, List.filterMap_nil, List.getElem?_toArray, List.getElem?_cons_zero, List.getElem?_cons_succ]; exact rfl) ?_) | refine qalt_normal ?_ | refine ats_cons ?_ ?_ | exact ats_nil
    | ((with_reducible first | refine awN (tyOf_ok _) [] ?_ | refine awO (tyOf_ok _) [] ?_ | refine awP (tyOf_ok _) [] ?_ | refine awQ ?_ | refine awR ?_ | refine awS ?_); intro r hr; simp only [go_sem, Nat.reduceBEq, Nat.reduceBneDiff, Nat.reduceLT, Nat.reduceLeDiff, Nat.reduceAdd, Nat.reduceMul, Nat.reduceSub, Nat.reduceEqDiff, reduceCtorEq] at hr; subst hr; (first | refine caA (fun _ => rplus_any 4 _ h4 h1) rfl ?_ ?_ ?_ | refine caA (fun _ => rplus_any 4 _ h4 h2) rfl ?_ ?_ ?_ | refine awV ?_ ?_ | refine awW ?_ ?_ | refine endK ?_ ?_ | (refine condK (fun h => ?_) (fun h => ?_) <;> (try simp only [go_sem, reduceCtorEq] at h) <;> (try (exfalso; omega))))) | fail)) <;> (try omega)
  · rw [withinM, if_pos h, withinM, if_pos h]; exact rfl
  · rw [withinM, if_neg (by rw [h]; decide), withinM, if_neg (by rw [h]; decide)]; exact rfl
end Go.Proofs.Ytfgacgpicfknpaa
end

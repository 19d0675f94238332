import Derived.Test.YtfgacgpicfknpaaP9
set_option linter.all false
section
namespace Go.Proofs.Ytfgacgpicfknpaa
open Go.RowKit
set_option maxRecDepth 100000
set_option maxHeartbeats 8000000
theorem walk0_any {ts : List TypeM} {rs : List RootM} {V : List NodeM} (W : TOK' ts V) (c : Tr) (hc : c.flat = V) (hok : c.ok) (t : Nat) (ht : t < ts.length) :
    GCall Try.prog 63 [vSch ts rs, vI t, .lst 3 (encNs V), vI 0, .v (.slice none 0 0)] [] (vW (c.walk ts t 0 [])) (obW (c.walk ts t 0 []).1) := by
  have h := walk_any (rs := rs) W _ c (Nat.le_refl _) hok t ht [] [] (by simp [hc]) [] (Nat.zero_le _)
  exact GCall.weak h (AV.up_cons (AV.up_rfl _) (AV.up_cons (AV.up_rfl _) (AV.up_cons (AV.up_rfl _) (AV.up_cons (AV.up_rfl _) (AV.up_cons (AV.up_nilref _ _ _ _) AV.up_nilL))))) (obUp_row0 obUp_nil)
theorem Types_any (ts : List TypeM) (rs : List RootM) (hts : ts.length ≤ 1000000000) (hrs : rs.length ≤ 1000000000) (hp : ∀ t ∈ ts, t.parts.length ≤ 1000000000) (hg : ∀ t ∈ ts, ∀ p ∈ t.parts, I64 p.tag) (t : Int) (ht : I64 t) (V : List NodeM) (hV : V.length ≤ 1000000000) (hv : ∀ x ∈ V, nodeOK x)
    (c : Tr) (hc : (chkN V).1 = 0 → c.flat = V ∧ c.ok) :
    PCall Try.prog 39 [vSch ts rs, vI t, .lst 3 (encNs V)] (fun r => r = .tup [.lst 1 (v8 (typesF ts rs t V c).1), .agg [vI (typesF ts rs t V c).2.1, vI (typesF ts rs t V c).2.2]]) := by
  refine go_fnU (tyOf_ok _) Try.func39 rfl rfl (by rw [Try.results39]) Try.ntmps39 rfl fun E => ?_
  have hck := rcheck_any ts rs hts hrs hp
  have h4 := check04_any V hV
  unfold vF at hck
  by_cases h0 : (checkF ts rs).1 = 0
  case neg =>
    rw [typesF, if_pos h0]
    have e1 : ((checkF ts rs).1 = 0) = False := eq_false h0
    generalize checkF ts rs = C at *
    (repeat' (first
    | exact trivial
    | (with_reducible first | refine awA ?_ | refine awB ?_ | refine awC ?_ | refine awD ?_ | refine awE ?_ | refine awF ?_ | refine awG ?_ | refine awH ?_ | refine awI ?_ | refine awJ ?_ | refine awK ?_ | refine awL ?_ | refine awM (by decide) ?_)
    | (refine aw_draw (id := 3) (t := (.node [0, 1, 2] [])) (drR [8] [] []) mixed (by kernel_rfl) (by kernel_rfl) (fun _ _ h => h) ?_)
    | (refine aw_draw (id := 10) (t := (.node [0, 1, 2, 3] [])) (drR [8] [] []) mixed (by kernel_rfl) (by kernel_rfl) (fun _ _ h => h) ?_)
    | (refine at_done (by simp only [List.filterMap_cons, List.filterMap_nil, List.getElem?_toArray, List.getElem?_cons_zero, List.getElem?_cons_succ]; exact rfl) ?_) | (refine at_alt (by simp only [List.filterMap_cons, List.filterMap_nil, List.getElem?_toArray, List.getElem?_cons_zero, List.getElem?_cons_succ]; exact rfl) ?_) | refine qalt_normal ?_ | refine ats_cons ?_ ?_ | exact ats_nil
    | ((with_reducible first | refine awN (tyOf_ok _) [] ?_ | refine awO (tyOf_ok _) [] ?_ | refine awP (tyOf_ok _) [] ?_ | refine awQ ?_ | refine awR ?_ | refine awS ?_); intro r hr; simp only [go_sem, Nat.reduceBEq, Nat.reduceBneDiff, Nat.reduceLT, Nat.reduceLeDiff, Nat.reduceAdd, Nat.reduceMul, Nat.reduceSub, Nat.reduceEqDiff, reduceCtorEq, vSch, e1] at hr; subst hr; (first | refine caA (fun _ => hck) rfl ?_ ?_ ?_ | refine awV ?_ ?_ | refine awW ?_ ?_ | refine endK ?_ ?_ | (refine condK (fun h => ?_) (fun h => ?_) <;> (try simp only [go_sem, reduceCtorEq] at h) <;> (try (exfalso; omega))))) | fail)) <;> (try omega)
    exact AV.up_nil2 _ _
  have W : TOK' ts V := ⟨hts, hV, check_right h0, hp, hv, hg⟩
  rw [h0] at hck
  rw [typesF, if_neg (by omega)]
  generalize (checkF ts rs).2 = C2 at *
  by_cases h1 : t < 0
  · have e1 : (t < 0) = True := eq_true h1
    rw [if_pos (.inl h1)]
    (repeat' (first
    | exact trivial
    | (with_reducible first | refine awA ?_ | refine awB ?_ | refine awC ?_ | refine awD ?_ | refine awE ?_ | refine awF ?_ | refine awG ?_ | refine awH ?_ | refine awI ?_ | refine awJ ?_ | refine awK ?_ | refine awL ?_ | refine awM (by decide) ?_)
    | (refine aw_draw (id := 3) (t := (.node [0, 1, 2] [])) (drR [8] [] []) mixed (by kernel_rfl) (by kernel_rfl) (fun _ _ h => h) ?_)
    | (refine aw_draw (id := 10) (t := (.node [0, 1, 2, 3] [])) (drR [8] [] []) mixed (by kernel_rfl) (by kernel_rfl) (fun _ _ h => h) ?_)
    | (refine at_done (by simp only [List.filterMap_cons, List.filterMap_nil, List.getElem?_toArray, List.getElem?_cons_zero, List.getElem?_cons_succ]; exact rfl) ?_) | (refine at_alt (by simp only [List.filterMap_cons, List.filterMap_nil, List.getElem?_toArray, List.getElem?_cons_zero, List.getElem?_cons_succ]; exact rfl) ?_) | refine qalt_normal ?_ | refine ats_cons ?_ ?_ | exact ats_nil
    | ((with_reducible first | refine awN (tyOf_ok _) [] ?_ | refine awO (tyOf_ok _) [] ?_ | refine awP (tyOf_ok _) [] ?_ | refine awQ ?_ | refine awR ?_ | refine awS ?_); intro r hr; simp only [go_sem, Nat.reduceBEq, Nat.reduceBneDiff, Nat.reduceLT, Nat.reduceLeDiff, Nat.reduceAdd, Nat.reduceMul, Nat.reduceSub, Nat.reduceEqDiff, reduceCtorEq, vSch, encTs_len, e1] at hr; subst hr; (first | refine caA (fun _ => hck) rfl ?_ ?_ ?_ | refine awV ?_ ?_ | refine awW ?_ ?_ | refine endK ?_ ?_ | (refine condK (fun h => ?_) (fun h => ?_) <;> (try simp only [go_sem, reduceCtorEq] at h) <;> (try (exfalso; omega))))) | fail)) <;> (try omega)
    exact AV.up_nil2 _ _
  have e1 : (t < 0) = False := eq_false h1
  by_cases h2 : (ts.length : Int) ≤ t
  · have e2 : ((ts.length : Int) ≤ t) = True := eq_true h2
    rw [if_pos (.inr h2)]
    (repeat' (first
    | exact trivial
    | (with_reducible first | refine awA ?_ | refine awB ?_ | refine awC ?_ | refine awD ?_ | refine awE ?_ | refine awF ?_ | refine awG ?_ | refine awH ?_ | refine awI ?_ | refine awJ ?_ | refine awK ?_ | refine awL ?_ | refine awM (by decide) ?_)
    | (refine aw_draw (id := 3) (t := (.node [0, 1, 2] [])) (drR [8] [] []) mixed (by kernel_rfl) (by kernel_rfl) (fun _ _ h => h) ?_)
    | (refine aw_draw (id := 10) (t := (.node [0, 1, 2, 3] [])) (drR [8] [] []) mixed (by kernel_rfl) (by kernel_rfl) (fun _ _ h => h) ?_)
    | (refine at_done (by simp only [List.filterMap_cons, List.filterMap_nil, List.getElem?_toArray, List.getElem?_cons_zero, List.getElem?_cons_succ]; exact rfl) ?_) | (refine at_alt (by simp only [List.filterMap_cons, List.filterMap_nil, List.getElem?_toArray, List.getElem?_cons_zero, List.getElem?_cons_succ]; exact rfl) ?_) | refine qalt_normal ?_ | refine ats_cons ?_ ?_ | exact ats_nil
    | ((with_reducible first | refine awN (tyOf_ok _) [] ?_ | refine awO (tyOf_ok _) [] ?_ | refine awP (tyOf_ok _) [] ?_ | refine awQ ?_ | refine awR ?_ | refine awS ?_); intro r hr; simp only [go_sem, Nat.reduceBEq, Nat.reduceBneDiff, Nat.reduceLT, Nat.reduceLeDiff, Nat.reduceAdd, Nat.reduceMul, Nat.reduceSub, Nat.reduceEqDiff, reduceCtorEq, vSch, encTs_len, e1, e2] at hr; subst hr; (first | refine caA (fun _ => hck) rfl ?_ ?_ ?_ | refine awV ?_ ?_ | refine awW ?_ ?_ | refine endK ?_ ?_ | (refine condK (fun h => ?_) (fun h => ?_) <;> (try simp only [go_sem, reduceCtorEq] at h) <;> (try (exfalso; omega))))) | fail)) <;> (try omega)
    exact AV.up_nil2 _ _
  have e2 : ((ts.length : Int) ≤ t) = False := eq_false h2
  rw [if_neg (by omega)]
  by_cases h3 : (chkN V).1 = 0
  case neg =>
    have e3 : ((chkN V).1 = 0) = False := eq_false h3
    rw [if_pos h3]
    generalize chkN V = D at *
    (repeat' (first
    | exact trivial
    | (with_reducible first | refine awA ?_ | refine awB ?_ | refine awC ?_ | refine awD ?_ | refine awE ?_ | refine awF ?_ | refine awG ?_ | refine awH ?_ | refine awI ?_ | refine awJ ?_ | refine awK ?_ | refine awL ?_ | refine awM (by decide) ?_)
    | (refine aw_draw (id := 3) (t := (.node [0, 1, 2] [])) (drR [8] [] []) mixed (by kernel_rfl) (by kernel_rfl) (fun _ _ h => h) ?_)
    | (refine aw_draw (id := 10) (t := (.node [0, 1, 2, 3] [])) (drR [8] [] []) mixed (by kernel_rfl) (by kernel_rfl) (fun _ _ h => h) ?_)
    | (refine at_done (by simp only [List.filterMap_cons, List.filterMap_nil, List.getElem?_toArray, List.getElem?_cons_zero, List.getElem?_cons_succ]; exact rfl) ?_) | (refine at_alt (by simp only [List.filterMap_cons, List.filterMap_nil, List.getElem?_toArray, List.getElem?_cons_zero, List.getElem?_cons_succ]; exact rfl) ?_) | refine qalt_normal ?_ | refine ats_cons ?_ ?_ | exact ats_nil
    | ((with_reducible first | refine awN (tyOf_ok _) [] ?_ | refine awO (tyOf_ok _) [] ?_ | refine awP (tyOf_ok _) [] ?_ | refine awQ ?_ | refine awR ?_ | refine awS ?_); intro r hr; simp only [go_sem, Nat.reduceBEq, Nat.reduceBneDiff, Nat.reduceLT, Nat.reduceLeDiff, Nat.reduceAdd, Nat.reduceMul, Nat.reduceSub, Nat.reduceEqDiff, reduceCtorEq, vSch, encTs_len, e1, e2, e3] at hr; subst hr; (first | refine caA (fun _ => hck) rfl ?_ ?_ ?_ | refine caA (fun _ => h4) rfl ?_ ?_ ?_ | refine awV ?_ ?_ | refine awW ?_ ?_ | refine endK ?_ ?_ | (refine condK (fun h => ?_) (fun h => ?_) <;> (try simp only [go_sem, reduceCtorEq] at h) <;> (try (exfalso; omega))))) | fail)) <;> (try omega)
    exact AV.up_nil2 _ _
  obtain ⟨hc1, hc2⟩ := hc h3
  rw [h3] at h4
  rw [if_neg (by omega)]
  generalize (chkN V).2 = D2 at *
  have hw := walk0_any (rs := rs) W c hc1 hc2 t.toNat (by omega)
  rw [Int.toNat_of_nonneg (by omega)] at hw
  generalize c.walk ts t.toNat 0 [] = r at *
  obtain ⟨o, p, e, a⟩ := r
  (repeat' (first
    | exact trivial
    | (with_reducible first | refine awA ?_ | refine awB ?_ | refine awC ?_ | refine awD ?_ | refine awE ?_ | refine awF ?_ | refine awG ?_ | refine awH ?_ | refine awI ?_ | refine awJ ?_ | refine awK ?_ | refine awL ?_ | refine awM (by decide) ?_)
    | (refine aw_draw (id := 3) (t := (.node [0, 1, 2] [])) (drR [8] [] []) mixed (by kernel_rfl) (by kernel_rfl) (fun _ _ h => h) ?_)
    | (refine aw_draw (id := 10) (t := (.node [0, 1, 2, 3] [])) (drR [8] [] []) mixed (by kernel_rfl) (by kernel_rfl) (fun _ _ h => h) ?_)
    | (refine at_done (by simp only [List.filterMap_cons, List.filterMap_nil, List.getElem?_toArray, List.getElem?_cons_zero, List.getElem?_cons_succ]; exact rfl) ?_) | (refine at_alt (by simp only [List.filterMap_cons, List.filterMap_nil, List.getElem?_toArray, List.getElem?_cons_zero, List.getElem?_cons_succ]; exact rfl) ?_) | refine qalt_normal ?_ | refine ats_cons ?_ ?_ | exact ats_nil
    | ((with_reducible first | refine awN (tyOf_ok _) [] ?_ | refine awO (tyOf_ok _) [] ?_ | refine awP (tyOf_ok _) [] ?_ | refine awQ ?_ | refine awR ?_ | refine awS ?_); intro r hr; simp only [go_sem, Nat.reduceBEq, Nat.reduceBneDiff, Nat.reduceLT, Nat.reduceLeDiff, Nat.reduceAdd, Nat.reduceMul, Nat.reduceSub, Nat.reduceEqDiff, reduceCtorEq, vSch, encTs_len, e1, e2, take_len (Nat.le_refl _)] at hr; subst hr; (first | refine caA (fun _ => hck) rfl ?_ ?_ ?_ | refine caA (fun _ => h4) rfl ?_ ?_ ?_ | refine awV ?_ ?_ | refine awW ?_ ?_ | refine endK ?_ ?_ | (refine condK (fun h => ?_) (fun h => ?_) <;> (try simp only [go_sem, reduceCtorEq] at h) <;> (try (exfalso; omega)))))
    | (refine go_callGE [] [(15000, 43)] [43] [] ?_; intro r hr; simp only [go_sem, Nat.reduceBEq, Nat.reduceBneDiff, Nat.reduceLT, Nat.reduceLeDiff, Nat.reduceAdd, Nat.reduceMul, Nat.reduceSub, Nat.reduceEqDiff, reduceCtorEq, vSch, encTs_len, e1, e2, take_len (Nat.le_refl _)] at hr; subst hr; refine callGK (hw) rfl rfl (by first | exact .inl rfl | exact .inr rfl) ?_ (.inl rfl) ?_) | fail)) <;> (try omega)
  rw [take_len (by rw [v8_len]; exact Nat.le_refl _)]
  exact AV.up_rfl _
end Go.Proofs.Ytfgacgpicfknpaa
end
section
namespace Go.Proofs.Ytfgacgpicfknpaa
open Go.RowKit
set_option maxRecDepth 100000
set_option maxHeartbeats 8000000
section
variable {P : Program} {E : Env} {s : AState} {n : Nat} {Q : Exit → AState → Prop}
/-- a cut behind a block -/
theorem go_cutK {α : Type} {c d : Code} (id : Nat) (ts os : List Nat) (sh : α → AState) (inv : α → Prop)
    (h1 : AWp P E n (.block id c) (ASeq (fun s' => ∃ y, s'.keep ts os = sh y ∧ inv y) Q) s) (h2 : ∀ y, inv y → AWp P E n d Q (sh y)) : AWp P E n (.block id c) (ASeq (AWp P E n d Q) Q) s := fun a w hw => wp_mono (h1 a w hw) fun e a' w' hl => by
  cases e with
  | normal =>
    obtain ⟨s', ⟨y, g1, g2⟩, g3⟩ := hl
    refine ⟨s'.keep ts os, ?_, g3.weaken (fun t p => lk_keep s'.fr t p ts) (fun d o => lk_keep s'.ob d o os)⟩
    rw [g1]
    exact h2 y g2
  | _ => exact hl
end
section
variable {P : Program} {E : Env} {s : AState} {n : Nat} {Q : Exit → AState → Prop}
/-- a cut behind a branching -/
theorem go_cutC {α : Type} {c e d : Code} (o : Operand) (ts os : List Nat) (sh : α → AState) (inv : α → Prop)
    (h1 : AWp P E n (.cond o c e) (ASeq (fun s' => ∃ y, s'.keep ts os = sh y ∧ inv y) Q) s) (h2 : ∀ y, inv y → AWp P E n d Q (sh y)) : AWp P E n (.cond o c e) (ASeq (AWp P E n d Q) Q) s := fun a w hw => wp_mono (h1 a w hw) fun e a' w' hl => by
  cases e with
  | normal =>
    obtain ⟨s', ⟨y, g1, g2⟩, g3⟩ := hl
    refine ⟨s'.keep ts os, ?_, g3.weaken (fun t p => lk_keep s'.fr t p ts) (fun d o => lk_keep s'.ob d o os)⟩
    rw [g1]
    exact h2 y g2
  | _ => exact hl
/-- a goal that waits -/
structure Hold (p : Prop) : Prop where
  out : p
theorem hold {p : Prop} (h : Hold p) : p := h.out
end
/-! Values that are made out of picks. -/
def u64 (n : Int) : Int := n % 18446744073709551616
/-- the node that a pick makes -/
def pickN (T : TypeM) (p : Int) : NodeM :=
  if T.kind = 1 then ⟨1, if T.n < 8 then p % 256 ^ T.n.toNat else p, 0⟩
  else if T.kind = 3 then ⟨1, p, 0⟩
  else if T.kind = 2 then ⟨2, p % 2, 0⟩
  else if T.kind = 4 then ⟨3, 0, T.n⟩
  else if T.kind = 5 then ⟨3, 0, p % (T.n + 1)⟩
  else if T.kind = 6 then ⟨5, 0, p % 2⟩
  else if T.kind = 7 then ⟨6, u64 ((T.parts[(p % T.parts.length).toNat]?).getD ⟨⟨#[]⟩, 0, 0⟩).tag, 1⟩
  else ⟨4, 0, T.parts.length⟩
def pickAt (ps : List Int) (i : Nat) : Int := match ps[i]? with | some z => u64 z | none => 0
/-- the value that picks lead to, as a tree -/
def mkL (T : TypeM) (x : NodeM) (mk : Nat → Nat → Tr) : Nat → Nat → Nat → List Tr
  | 0, _, _ => []
  | m + 1, k, pos => mk (elemF T x.n k).toNat pos :: mkL T x mk m (k + 1) (pos + (mk (elemF T x.n k).toNat pos).flat.length)
def mkT (ts : List TypeM) (ps : List Int) : Nat → Nat → Nat → Tr
  | 0, _, _ => .node ⟨0, 0, 0⟩ []
  | f + 1, t, pos => .node (pickN (tyA ts t) (pickAt ps pos)) (mkL (tyA ts t) (pickN (tyA ts t) (pickAt ps pos)) (mkT ts ps f) (pickN (tyA ts t) (pickAt ps pos)).kids.toNat 0 (pos + 1))
theorem u64_bd (z : Int) : 0 ≤ u64 z ∧ u64 z < 18446744073709551616 := by unfold u64; omega
theorem pickAt_bd (ps : List Int) (i : Nat) : 0 ≤ pickAt ps i ∧ pickAt ps i < 18446744073709551616 := by
  unfold pickAt
  split
  · exact u64_bd _
  · decide
theorem pow_256 {n : Int} (hn : n = 1 ∨ n = 2 ∨ n = 4) : 256 ≤ (256 : Int) ^ n.toNat ∧ (256 : Int) ^ n.toNat ≤ 4294967296 := by
  rcases hn with rfl | rfl | rfl <;> decide
/-- what a pick makes is of the type, and may be -/
theorem pick_ok {T : TypeM} {k : Nat} (hr : rightOK T k = true) {p : Int} (hp : 0 ≤ p ∧ p < 18446744073709551616) : nodeOK (pickN T p) ∧ rightN (pickN T p) = true ∧ fitsF T (pickN T p) = 0 := by
  rcases rightOK_kind hr with h | h | h
  · rcases h with h | h | h
    · have hn := right_1n hr h
      by_cases h8 : T.n < 8
      · have h124 : T.n = 1 ∨ T.n = 2 ∨ T.n = 4 := by omega
        have hpw := pow_256 h124
        have hm0 := Int.emod_nonneg p (show (256 : Int) ^ T.n.toNat ≠ 0 by omega)
        have hm1 := Int.emod_lt_of_pos p (show (0 : Int) < 256 ^ T.n.toNat by omega)
        have hfb : fitsB (p % 256 ^ T.n.toNat) T.n = true := by simp [fitsB]; omega
        have hP : pickN T p = ⟨1, p % 256 ^ T.n.toNat, 0⟩ := by unfold pickN; rw [if_pos h, if_pos h8]
        rw [hP]
        generalize p % 256 ^ T.n.toNat = q at *
        exact ⟨by unfold nodeOK I64; simp only; omega, by simp [rightN, numberN], by simp [fitsF, nkOf, h, hfb]⟩
      · have h8' : T.n = 8 := by omega
        have hfb : fitsB p T.n = true := by
          rw [h8']; simp [fitsB]
          have h2 : (256 : Int) ^ (8 : Int).toNat = 18446744073709551616 := by decide
          omega
        have hP : pickN T p = ⟨1, p, 0⟩ := by unfold pickN; rw [if_pos h, if_neg h8]
        rw [hP]
        exact ⟨by unfold nodeOK I64; simp only; omega, by simp [rightN, numberN], by simp [fitsF, nkOf, h, hfb]⟩
    · have hP : pickN T p = ⟨2, p % 2, 0⟩ := by unfold pickN; rw [if_neg (by omega), if_neg (by omega), if_pos h]
      rw [hP]
      exact ⟨by unfold nodeOK I64; simp only; omega, by simp [rightN, numberN]; omega, by simp [fitsF, nkOf, h]⟩
    · have hP : pickN T p = ⟨1, p, 0⟩ := by unfold pickN; rw [if_neg (by omega), if_pos h]
      rw [hP]
      exact ⟨by unfold nodeOK I64; simp only; omega, by simp [rightN, numberN], by simp [fitsF, nkOf, h]⟩
  · have hn := rightOK_n hr h
    rcases h with h | h | h
    · have hP : pickN T p = ⟨3, 0, T.n⟩ := by unfold pickN; rw [if_neg (by omega), if_neg (by omega), if_neg (by omega), if_pos h]
      rw [hP]
      exact ⟨by unfold nodeOK I64; simp only; omega, by simp [rightN, numberN]; omega, by simp [fitsF, nkOf, h]⟩
    · have hm0 := Int.emod_nonneg p (show T.n + 1 ≠ 0 by omega)
      have hm1 := Int.emod_lt_of_pos p (show 0 < T.n + 1 by omega)
      have hP : pickN T p = ⟨3, 0, p % (T.n + 1)⟩ := by unfold pickN; rw [if_neg (by omega), if_neg (by omega), if_neg (by omega), if_neg (by omega), if_pos h]
      rw [hP]
      generalize p % (T.n + 1) = q at *
      exact ⟨by unfold nodeOK I64; simp only; omega, by simp [rightN, numberN]; omega, by simp [fitsF, nkOf, h]; omega⟩
    · have hP : pickN T p = ⟨5, 0, p % 2⟩ := by unfold pickN; rw [if_neg (by omega), if_neg (by omega), if_neg (by omega), if_neg (by omega), if_neg (by omega), if_pos h]
      rw [hP]
      exact ⟨by unfold nodeOK I64; simp only; omega, by simp [rightN, numberN]; omega, by simp [fitsF, nkOf, h]⟩
  · have hl := right_parts hr h
    rcases h with h | h
    · have hm0 := Int.emod_nonneg p (show (T.parts.length : Int) ≠ 0 by omega)
      have hm1 := Int.emod_lt_of_pos p (show (0 : Int) < T.parts.length by omega)
      have hlt : (p % T.parts.length).toNat < T.parts.length := by omega
      have htag := right_tag hr h _ (List.getElem_mem hlt)
      have hu : u64 T.parts[(p % T.parts.length).toNat].tag = T.parts[(p % T.parts.length).toNat].tag := by unfold u64; omega
      have hP : pickN T p = ⟨6, T.parts[(p % T.parts.length).toNat].tag, 1⟩ := by
        unfold pickN
        rw [if_neg (by omega), if_neg (by omega), if_neg (by omega), if_neg (by omega), if_neg (by omega), if_neg (by omega), if_pos h, List.getElem?_eq_getElem hlt, Option.getD_some, hu]
      have hmem := List.getElem_mem hlt
      rw [hP]
      generalize T.parts[(p % T.parts.length).toNat] = q at *
      have harm : armOf T.parts q.tag ≠ none := by
        intro hn
        unfold armOf at hn
        rw [List.find?_eq_none] at hn
        have := hn q hmem
        simp at this
        omega
      exact ⟨by unfold nodeOK I64; simp only; omega, by simp [rightN, numberN]; omega, by simp [fitsF, nkOf, h, harm]⟩
    · have hP : pickN T p = ⟨4, 0, T.parts.length⟩ := by
        unfold pickN
        rw [if_neg (by omega), if_neg (by omega), if_neg (by omega), if_neg (by omega), if_neg (by omega), if_neg (by omega), if_neg (by omega)]
      rw [hP]
      exact ⟨by unfold nodeOK I64; simp only; omega, by simp [rightN, numberN]; omega, by simp [fitsF, nkOf, h]⟩
end Go.Proofs.Ytfgacgpicfknpaa
end
section
namespace Go.Proofs.Ytfgacgpicfknpaa
open Go.RowKit
set_option maxRecDepth 100000
set_option maxHeartbeats 8000000
def obM (ts : List TypeM) (rs : List RootM) (ps : List Int) (V : List NodeM) (many : Bool) : List (Nat × AObj) :=
  [(10000, .var [.lst 4 (encTs ts), .lst 2 (encRs rs), .lst 1 (v8 ps), .ref 72 3 15000 0 V.length, vB many]), (15000, .row 72 3 (encNs V))]
attribute [go_sem] obM
def SomeAt (ts : List TypeM) (rs : List RootM) (ps : List Int) (mk : Nat → Nat → Tr) (t : Nat) : Prop := ∀ V : List NodeM, V.length ≤ 1048576 →
  GCall Try.prog 81 [.ptr 1 10000 0 0, vI t] (obM ts rs ps V false) (.tup []) (obM ts rs ps ((V ++ (mk t V.length).flat).take 1048576) (decide (1048576 < V.length + (mk t V.length).flat.length)))
structure MOK (ts : List TypeM) (ps : List Int) : Prop where
  nts : ts.length ≤ 1000000000
  nps : ps.length ≤ 1000000000
  right : ∀ (k : Nat) (h : k < ts.length), rightOK ts[k] k = true
  parts : ∀ t ∈ ts, t.parts.length ≤ 1000000000
  tags : ∀ t ∈ ts, ∀ p ∈ t.parts, I64 p.tag
theorem encNs_app (l : List NodeM) (x : NodeM) : encNs l ++ [[vI x.kind, .v (.int .u64 x.n), vI x.kids]] = encNs (l ++ [x]) := by simp [encNs, encN, vU]
theorem wrapU (z : Int) : IntKind.u64.wrap z = u64 z := IntKind.wrap_u64 z
theorem pow_shl {n : Int} (hn : n = 1 ∨ n = 2 ∨ n = 4) : u64 (1 * 2 ^ min (8 * n).toNat 64) = 256 ^ n.toNat := by
  rcases hn with rfl | rfl | rfl <;> decide
theorem right_n {T : TypeM} {k : Int} (h : rightOK T k = true) : 0 ≤ T.n ∧ T.n ≤ 1048576 := by
  rw [rightOK, Bool.and_eq_true] at h
  have h := h.1
  unfold numberOK at h
  split at h
  · simp only [Bool.or_eq_true, decide_eq_true_eq] at h; omega
  · split at h
    · simp only [Bool.and_eq_true, decide_eq_true_eq] at h; omega
    · simp only [decide_eq_true_eq] at h; omega
theorem some_step {ts : List TypeM} {rs : List RootM} {ps : List Int} (W : MOK ts ps) (mk : Nat → Nat → Tr) (t : Nat) (ht : t < ts.length) (V : List NodeM) (hV : V.length ≤ 1048576) (x : NodeM) (hx : x = pickN ts[t] (pickAt ps V.length))
    (ks : List Tr) (hks : ks = mkL ts[t] x mk x.kids.toNat 0 (V.length + 1)) (H : ∀ t', t' < t → SomeAt ts rs ps mk t') :
    GCall Try.prog 81 [.ptr 1 10000 0 0, vI t] (obM ts rs ps V false) (.tup []) (obM ts rs ps ((V ++ (Tr.node x ks).flat).take 1048576) (decide (1048576 < V.length + (Tr.node x ks).flat.length))) := by
  have hNts := W.nts
  have hNps := W.nps
  have hr := W.right t ht
  have hgt := encTs_get ht
  have hpl := W.parts _ (List.getElem_mem ht)
  have htag := W.tags _ (List.getElem_mem ht)
  have hpb := pickAt_bd ps V.length
  obtain ⟨hxok, hxr, hxf⟩ := pick_ok hr hpb
  rw [← hx] at hxok hxr hxf
  have hxk := rightN_kids hxr
  have hflat : (Tr.node x ks).flat = x :: Tr.flat.flatL ks := rfl
  rw [hflat]
  generalize hp : pickAt ps V.length = p at *
  generalize hF : Tr.flat.flatL ks = F at *
  refine go_fnG (tyOf_ok _) Try.func81 rfl rfl (by rw [Try.results81]) Try.ntmps81 rfl fun E => ?_
  by_cases hfull : V.length = 1048576
  · have e1 : (1048576 ≤ (V.length : Int)) = True := eq_true (by omega)
    have hd : decide (1048576 < V.length + (x :: F).length) = true := by simp; omega
    have htk : (V ++ x :: F).take 1048576 = V := by rw [List.take_append_of_le_length (by omega), List.take_of_length_le (by omega)]
    rw [hd, htk]
    (repeat' (first
    | exact trivial
    | (with_reducible first | refine awA ?_ | refine awB ?_ | refine awC ?_ | refine awD ?_ | refine awE ?_ | refine awF ?_ | refine awG ?_ | refine awH ?_ | refine awI ?_ | refine awJ ?_ | refine awK ?_ | refine awL ?_ | refine awM (by decide) ?_)
    | (refine aw_draw (id := 4) (t := (.node [0, 1, 2, 3, 4, 5, 6, 7, 8, 9, 10] [])) (drR [10000] [] []) mixed (by kernel_rfl) (by kernel_rfl) (fun _ _ h => h) ?_)
    | (refine aw_draw (id := 5) (t := (.node [0, 1, 2, 3, 4, 5, 6, 7, 8, 9, 10, 11, 12] [])) (drR [10000] [43] []) mixed (by kernel_rfl) (by kernel_rfl) (fun _ _ h => h) ?_)
    | (refine aw_draw (id := 25) (t := (.node [0, 1, 2, 3, 4, 5, 6, 7, 8, 9, 10, 11] [])) (drR [5] [114] []) mixed (by kernel_rfl) (by kernel_rfl) (fun _ _ h => h) ?_)
    | (refine aw_draw (id := 27) (t := (.node [0, 1, 2, 3, 4, 5, 6, 7, 8, 9, 10] [])) (drR [6] [123] []) mixed (by kernel_rfl) (by kernel_rfl) (fun _ _ h => h) ?_)
    | (refine at_done (by simp only [List.filterMap_cons, List.filterMap_nil, List.getElem?_toArray, List.getElem?_cons_zero, List.getElem?_cons_succ]; exact rfl) ?_) | (refine at_alt (by simp only [List.filterMap_cons, List.filterMap_nil, List.getElem?_toArray, List.getElem?_cons_zero, List.getElem?_cons_succ]; exact rfl) ?_) | refine qalt_normal ?_ | refine ats_cons ?_ ?_ | exact ats_nil
    | ((with_reducible first | refine awN (tyOf_ok _) [] ?_ | refine awO (tyOf_ok _) [] ?_ | refine awP (tyOf_ok _) [] ?_ | refine awQ ?_ | refine awR ?_ | refine awS ?_ | refine awT ?_ | refine awU ?_); intro r hr; simp only [go_sem, Nat.reduceBEq, Nat.reduceBneDiff, Nat.reduceLT, Nat.reduceLeDiff, Nat.reduceAdd, Nat.reduceMul, Nat.reduceSub, Nat.reduceEqDiff, reduceCtorEq, encNs_len, e1] at hr; subst hr; (first | refine awV ?_ ?_ | refine awW ?_ ?_ | refine endK ?_ ?_ | refine endGK ?_ ?_ ?_ | (refine condK (fun h => ?_) (fun h => ?_) <;> (try simp only [go_sem, reduceCtorEq] at h) <;> (try (exfalso; omega))))) | fail)) <;> (try omega)
    · exact AV.up_rfl _
    · exact obUp_cons rfl (obUp_cons rfl obUp_nil)
  have e1 : (1048576 ≤ (V.length : Int)) = False := eq_false (by omega)
  have zV : ((V.length : Int)).toNat = V.length := by omega
  generalize hT : ts[t] = T at *
  (repeat' (first
    | exact trivial
    | (refine go_cutC (.tmp 32) [0, 1, 4] [10000, 15000] (fun _ : Unit => ⟨[(0, true, .ptr 1 10000 0 0), (1, true, vI t), (4, true, .v (.int .u64 p))], obM ts rs ps V false⟩) (fun _ => True) (hold ?_) ?_)
    | (with_reducible first | refine awA ?_ | refine awB ?_ | refine awC ?_ | refine awD ?_ | refine awE ?_ | refine awF ?_ | refine awG ?_ | refine awH ?_ | refine awI ?_ | refine awJ ?_ | refine awK ?_ | refine awL ?_ | refine awM (by decide) ?_)
    | (refine aw_draw (id := 4) (t := (.node [0, 1, 2, 3, 4, 5, 6, 7, 8, 9, 10] [])) (drR [10000] [] []) mixed (by kernel_rfl) (by kernel_rfl) (fun _ _ h => h) ?_)
    | (refine aw_draw (id := 5) (t := (.node [0, 1, 2, 3, 4, 5, 6, 7, 8, 9, 10, 11, 12] [])) (drR [10000] [43] []) mixed (by kernel_rfl) (by kernel_rfl) (fun _ _ h => h) ?_)
    | (refine aw_draw (id := 25) (t := (.node [0, 1, 2, 3, 4, 5, 6, 7, 8, 9, 10, 11] [])) (drR [5] [114] []) mixed (by kernel_rfl) (by kernel_rfl) (fun _ _ h => h) ?_)
    | (refine aw_draw (id := 27) (t := (.node [0, 1, 2, 3, 4, 5, 6, 7, 8, 9, 10] [])) (drR [6] [123] []) mixed (by kernel_rfl) (by kernel_rfl) (fun _ _ h => h) ?_)
    | (refine at_done (by simp only [List.filterMap_cons, List.filterMap_nil, List.getElem?_toArray, List.getElem?_cons_zero, List.getElem?_cons_succ]; exact rfl) ?_) | (refine at_alt (by simp only [List.filterMap_cons, List.filterMap_nil, List.getElem?_toArray, List.getElem?_cons_zero, List.getElem?_cons_succ]; exact rfl) ?_) | refine qalt_normal ?_ | refine ats_cons ?_ ?_ | exact ats_nil
    | ((with_reducible first | refine awN (tyOf_ok _) [] ?_ | refine awO (tyOf_ok _) [] ?_ | refine awP (tyOf_ok _) [] ?_ | refine awQ ?_ | refine awR ?_ | refine awS ?_ | refine awT ?_ | refine awU ?_); intro r hr; simp only [go_sem, Nat.reduceBEq, Nat.reduceBneDiff, Nat.reduceLT, Nat.reduceLeDiff, Nat.reduceAdd, Nat.reduceMul, Nat.reduceSub, Nat.reduceEqDiff, reduceCtorEq, encNs_len, e1] at hr; subst hr; (first | refine awV ?_ ?_ | refine awW ?_ ?_ | refine endK ?_ ?_ | refine endGK ?_ ?_ ?_ | (refine condK (fun h => ?_) (fun h => ?_) <;> (try simp only [go_sem, reduceCtorEq] at h) <;> (try (exfalso; omega))))) | fail)) <;> (try omega)
  · refine ⟨?_⟩
    by_cases hlp : V.length < ps.length
    · have e2 : ((V.length : Int) < ps.length) = True := eq_true (by omega)
      have g1 := v8_get hlp
      have hpp : u64 ps[V.length] = p := by rw [← hp, pickAt, List.getElem?_eq_getElem hlp]
      (repeat' (first
    | exact trivial
    | (with_reducible first | refine awA ?_ | refine awB ?_ | refine awC ?_ | refine awD ?_ | refine awE ?_ | refine awF ?_ | refine awG ?_ | refine awH ?_ | refine awI ?_ | refine awJ ?_ | refine awK ?_ | refine awL ?_ | refine awM (by decide) ?_)
    | (refine aw_draw (id := 4) (t := (.node [0, 1, 2, 3, 4, 5, 6, 7, 8, 9, 10] [])) (drR [10000] [] []) mixed (by kernel_rfl) (by kernel_rfl) (fun _ _ h => h) ?_)
    | (refine aw_draw (id := 5) (t := (.node [0, 1, 2, 3, 4, 5, 6, 7, 8, 9, 10, 11, 12] [])) (drR [10000] [43] []) mixed (by kernel_rfl) (by kernel_rfl) (fun _ _ h => h) ?_)
    | (refine aw_draw (id := 25) (t := (.node [0, 1, 2, 3, 4, 5, 6, 7, 8, 9, 10, 11] [])) (drR [5] [114] []) mixed (by kernel_rfl) (by kernel_rfl) (fun _ _ h => h) ?_)
    | (refine aw_draw (id := 27) (t := (.node [0, 1, 2, 3, 4, 5, 6, 7, 8, 9, 10] [])) (drR [6] [123] []) mixed (by kernel_rfl) (by kernel_rfl) (fun _ _ h => h) ?_)
    | (refine at_done (by simp only [List.filterMap_cons, List.filterMap_nil, List.getElem?_toArray, List.getElem?_cons_zero, List.getElem?_cons_succ]; exact rfl) ?_) | (refine at_alt (by simp only [List.filterMap_cons, List.filterMap_nil, List.getElem?_toArray, List.getElem?_cons_zero, List.getElem?_cons_succ]; exact rfl) ?_) | refine qalt_normal ?_ | refine ats_cons ?_ ?_ | exact ats_nil
    | ((with_reducible first | refine awN (tyOf_ok _) [] ?_ | refine awO (tyOf_ok _) [] ?_ | refine awP (tyOf_ok _) [] ?_ | refine awQ ?_ | refine awR ?_ | refine awS ?_ | refine awT ?_ | refine awU ?_); intro r hr; simp only [go_sem, Nat.reduceBEq, Nat.reduceBneDiff, Nat.reduceLT, Nat.reduceLeDiff, Nat.reduceAdd, Nat.reduceMul, Nat.reduceSub, Nat.reduceEqDiff, reduceCtorEq, encNs_len, e2, zV, g1, wrapU, hpp] at hr; subst hr; (first | refine awV ?_ ?_ | refine awW ?_ ?_ | refine endK ?_ ?_ | refine endGK ?_ ?_ ?_ | (refine condK (fun h => ?_) (fun h => ?_) <;> (try simp only [go_sem, reduceCtorEq] at h) <;> (try (exfalso; omega))))) | fail)) <;> (try omega)
      exact ⟨(), by simp only [go_sem, Nat.reduceBEq, Nat.reduceBneDiff, Nat.reduceLT, Nat.reduceLeDiff, Nat.reduceAdd, Nat.reduceMul, Nat.reduceSub, Nat.reduceEqDiff, reduceCtorEq] <;> exact rfl, trivial⟩
    · have e2 : ((V.length : Int) < ps.length) = False := eq_false (by omega)
      have hp0 : p = 0 := by rw [← hp, pickAt, List.getElem?_eq_none (by omega)]
      (repeat' (first
    | exact trivial
    | (with_reducible first | refine awA ?_ | refine awB ?_ | refine awC ?_ | refine awD ?_ | refine awE ?_ | refine awF ?_ | refine awG ?_ | refine awH ?_ | refine awI ?_ | refine awJ ?_ | refine awK ?_ | refine awL ?_ | refine awM (by decide) ?_)
    | (refine aw_draw (id := 4) (t := (.node [0, 1, 2, 3, 4, 5, 6, 7, 8, 9, 10] [])) (drR [10000] [] []) mixed (by kernel_rfl) (by kernel_rfl) (fun _ _ h => h) ?_)
    | (refine aw_draw (id := 5) (t := (.node [0, 1, 2, 3, 4, 5, 6, 7, 8, 9, 10, 11, 12] [])) (drR [10000] [43] []) mixed (by kernel_rfl) (by kernel_rfl) (fun _ _ h => h) ?_)
    | (refine aw_draw (id := 25) (t := (.node [0, 1, 2, 3, 4, 5, 6, 7, 8, 9, 10, 11] [])) (drR [5] [114] []) mixed (by kernel_rfl) (by kernel_rfl) (fun _ _ h => h) ?_)
    | (refine aw_draw (id := 27) (t := (.node [0, 1, 2, 3, 4, 5, 6, 7, 8, 9, 10] [])) (drR [6] [123] []) mixed (by kernel_rfl) (by kernel_rfl) (fun _ _ h => h) ?_)
    | (refine at_done (by simp only [List.filterMap_cons, List.filterMap_nil, List.getElem?_toArray, List.getElem?_cons_zero, List.getElem?_cons_succ]; exact rfl) ?_) | (refine at_alt (by simp only [List.filterMap_cons, List.filterMap_nil, List.getElem?_toArray, List.getElem?_cons_zero, List.getElem?_cons_succ]; exact rfl) ?_) | refine qalt_normal ?_ | refine ats_cons ?_ ?_ | exact ats_nil
    | ((with_reducible first | refine awN (tyOf_ok _) [] ?_ | refine awO (tyOf_ok _) [] ?_ | refine awP (tyOf_ok _) [] ?_ | refine awQ ?_ | refine awR ?_ | refine awS ?_ | refine awT ?_ | refine awU ?_); intro r hr; simp only [go_sem, Nat.reduceBEq, Nat.reduceBneDiff, Nat.reduceLT, Nat.reduceLeDiff, Nat.reduceAdd, Nat.reduceMul, Nat.reduceSub, Nat.reduceEqDiff, reduceCtorEq, encNs_len, e2] at hr; subst hr; (first | refine awV ?_ ?_ | refine awW ?_ ?_ | refine endK ?_ ?_ | refine endGK ?_ ?_ ?_ | (refine condK (fun h => ?_) (fun h => ?_) <;> (try simp only [go_sem, reduceCtorEq] at h) <;> (try (exfalso; omega))))) | fail)) <;> (try omega)
      exact ⟨(), by simp only [go_sem, Nat.reduceBEq, Nat.reduceBneDiff, Nat.reduceLT, Nat.reduceLeDiff, Nat.reduceAdd, Nat.reduceMul, Nat.reduceSub, Nat.reduceEqDiff, reduceCtorEq, hp0] <;> exact rfl, trivial⟩
  intro _ _
  have hn := right_n hr
  (repeat' (first
    | exact trivial
    | (refine go_cutK 0 [0, 5, 6] [5, 6, 10000, 15000] (fun _ : Unit => ⟨[(0, true, .ptr 1 10000 0 0), (5, true, .ptr 1 5 0 0), (6, true, .ptr 1 6 0 0)], [(5, .var [vI T.kind, vI T.n, vI T.elem, .lst 3 (encPs T.parts)]), (6, .var [vI x.kind, .v (.int .u64 x.n), vI x.kids])] ++ obM ts rs ps V false⟩) (fun _ => True) (hold ?_) ?_)
    | (with_reducible first | refine awA ?_ | refine awB ?_ | refine awC ?_ | refine awD ?_ | refine awE ?_ | refine awF ?_ | refine awG ?_ | refine awH ?_ | refine awI ?_ | refine awJ ?_ | refine awK ?_ | refine awL ?_ | refine awM (by decide) ?_)
    | (refine aw_draw (id := 4) (t := (.node [0, 1, 2, 3, 4, 5, 6, 7, 8, 9, 10] [])) (drR [10000] [] []) mixed (by kernel_rfl) (by kernel_rfl) (fun _ _ h => h) ?_)
    | (refine aw_draw (id := 5) (t := (.node [0, 1, 2, 3, 4, 5, 6, 7, 8, 9, 10, 11, 12] [])) (drR [10000] [43] []) mixed (by kernel_rfl) (by kernel_rfl) (fun _ _ h => h) ?_)
    | (refine aw_draw (id := 25) (t := (.node [0, 1, 2, 3, 4, 5, 6, 7, 8, 9, 10, 11] [])) (drR [5] [114] []) mixed (by kernel_rfl) (by kernel_rfl) (fun _ _ h => h) ?_)
    | (refine aw_draw (id := 27) (t := (.node [0, 1, 2, 3, 4, 5, 6, 7, 8, 9, 10] [])) (drR [6] [123] []) mixed (by kernel_rfl) (by kernel_rfl) (fun _ _ h => h) ?_)
    | (refine at_done (by simp only [List.filterMap_cons, List.filterMap_nil, List.getElem?_toArray, List.getElem?_cons_zero, List.getElem?_cons_succ]; exact rfl) ?_) | (refine at_alt (by simp only [List.filterMap_cons, List.filterMap_nil, List.getElem?_toArray, List.getElem?_cons_zero, List.getElem?_cons_succ]; exact rfl) ?_) | refine qalt_normal ?_ | refine ats_cons ?_ ?_ | exact ats_nil
    | ((with_reducible first | refine awN (tyOf_ok _) [] ?_ | refine awO (tyOf_ok _) [] ?_ | refine awP (tyOf_ok _) [] ?_ | refine awQ ?_ | refine awR ?_ | refine awS ?_ | refine awT ?_ | refine awU ?_); intro r hr; simp only [go_sem, Nat.reduceBEq, Nat.reduceBneDiff, Nat.reduceLT, Nat.reduceLeDiff, Nat.reduceAdd, Nat.reduceMul, Nat.reduceSub, Nat.reduceEqDiff, reduceCtorEq, hgt] at hr; subst hr; (first | refine awV ?_ ?_ | refine awW ?_ ?_ | refine endK ?_ ?_ | refine endGK ?_ ?_ ?_ | (refine condK (fun h => ?_) (fun h => ?_) <;> (try simp only [go_sem, reduceCtorEq] at h) <;> (try (exfalso; omega))))) | fail)) <;> (try omega)
  · refine ⟨?_⟩
    clear H hks hgt hF
    rcases rightOK_kind hr with h | h | h
    · rcases h with h | h | h
      · have k1 : (T.kind = 1) = True := eq_true h
        by_cases h8 : T.n < 8
        · have h124 : T.n = 1 ∨ T.n = 2 ∨ T.n = 4 := by have := right_1n hr h; omega
          have hpw := pow_shl h124
          have hpb2 := pow_256 h124
          have hw8 := wrap_i64 (n := 8 * T.n) (by omega)
          have e3 : (T.n < 8) = True := eq_true h8
          have hxe : x = ⟨1, p % 256 ^ T.n.toNat, 0⟩ := by rw [hx]; unfold pickN; rw [if_pos h, if_pos h8]
          generalize (256 : Int) ^ T.n.toNat = q at *
          have htm : p.tmod q = p % q := Int.tmod_eq_emod_of_nonneg hpb.1
          subst hxe
          (repeat' (first
    | exact trivial
    | (with_reducible first | refine awA ?_ | refine awB ?_ | refine awC ?_ | refine awD ?_ | refine awE ?_ | refine awF ?_ | refine awG ?_ | refine awH ?_ | refine awI ?_ | refine awJ ?_ | refine awK ?_ | refine awL ?_ | refine awM (by decide) ?_)
    | (refine aw_draw (id := 4) (t := (.node [0, 1, 2, 3, 4, 5, 6, 7, 8, 9, 10] [])) (drR [10000] [] []) mixed (by kernel_rfl) (by kernel_rfl) (fun _ _ h => h) ?_)
    | (refine aw_draw (id := 5) (t := (.node [0, 1, 2, 3, 4, 5, 6, 7, 8, 9, 10, 11, 12] [])) (drR [10000] [43] []) mixed (by kernel_rfl) (by kernel_rfl) (fun _ _ h => h) ?_)
    | (refine aw_draw (id := 25) (t := (.node [0, 1, 2, 3, 4, 5, 6, 7, 8, 9, 10, 11] [])) (drR [5] [114] []) mixed (by kernel_rfl) (by kernel_rfl) (fun _ _ h => h) ?_)
    | (refine aw_draw (id := 27) (t := (.node [0, 1, 2, 3, 4, 5, 6, 7, 8, 9, 10] [])) (drR [6] [123] []) mixed (by kernel_rfl) (by kernel_rfl) (fun _ _ h => h) ?_)
    | (refine at_done (by simp only [List.filterMap_cons, List.filterMap_nil, List.getElem?_toArray, List.getElem?_cons_zero, List.getElem?_cons_succ]; exact rfl) ?_) | (refine at_alt (by simp only [List.filterMap_cons, List.filterMap_nil, List.getElem?_toArray, List.getElem?_cons_zero, List.getElem?_cons_succ]; exact rfl) ?_) | refine qalt_normal ?_ | refine ats_cons ?_ ?_ | exact ats_nil
    | ((with_reducible first | refine awN (tyOf_ok _) [] ?_ | refine awO (tyOf_ok _) [] ?_ | refine awP (tyOf_ok _) [] ?_ | refine awQ ?_ | refine awR ?_ | refine awS ?_ | refine awT ?_ | refine awU ?_); intro r hr; simp only [go_sem, Nat.reduceBEq, Nat.reduceBneDiff, Nat.reduceLT, Nat.reduceLeDiff, Nat.reduceAdd, Nat.reduceMul, Nat.reduceSub, Nat.reduceEqDiff, reduceCtorEq, wrapU, k1, e3, hw8, hpw, htm] at hr; subst hr; (first | refine awV ?_ ?_ | refine awW ?_ ?_ | refine endK ?_ ?_ | refine endGK ?_ ?_ ?_ | (refine condK (fun h => ?_) (fun h => ?_) <;> (try simp only [go_sem, reduceCtorEq] at h) <;> (try (exfalso; omega))))) | fail)) <;> (try omega)
          exact ⟨(), by simp only [go_sem, Nat.reduceBEq, Nat.reduceBneDiff, Nat.reduceLT, Nat.reduceLeDiff, Nat.reduceAdd, Nat.reduceMul, Nat.reduceSub, Nat.reduceEqDiff, reduceCtorEq, List.cons_append, List.nil_append] <;> exact rfl, trivial⟩
        · have e3 : (T.n < 8) = False := eq_false h8
          have hxe : x = ⟨1, p, 0⟩ := by rw [hx]; unfold pickN; rw [if_pos h, if_neg h8]
          subst hxe
          (repeat' (first
    | exact trivial
    | (with_reducible first | refine awA ?_ | refine awB ?_ | refine awC ?_ | refine awD ?_ | refine awE ?_ | refine awF ?_ | refine awG ?_ | refine awH ?_ | refine awI ?_ | refine awJ ?_ | refine awK ?_ | refine awL ?_ | refine awM (by decide) ?_)
    | (refine aw_draw (id := 4) (t := (.node [0, 1, 2, 3, 4, 5, 6, 7, 8, 9, 10] [])) (drR [10000] [] []) mixed (by kernel_rfl) (by kernel_rfl) (fun _ _ h => h) ?_)
    | (refine aw_draw (id := 5) (t := (.node [0, 1, 2, 3, 4, 5, 6, 7, 8, 9, 10, 11, 12] [])) (drR [10000] [43] []) mixed (by kernel_rfl) (by kernel_rfl) (fun _ _ h => h) ?_)
    | (refine aw_draw (id := 25) (t := (.node [0, 1, 2, 3, 4, 5, 6, 7, 8, 9, 10, 11] [])) (drR [5] [114] []) mixed (by kernel_rfl) (by kernel_rfl) (fun _ _ h => h) ?_)
    | (refine aw_draw (id := 27) (t := (.node [0, 1, 2, 3, 4, 5, 6, 7, 8, 9, 10] [])) (drR [6] [123] []) mixed (by kernel_rfl) (by kernel_rfl) (fun _ _ h => h) ?_)
    | (refine at_done (by simp only [List.filterMap_cons, List.filterMap_nil, List.getElem?_toArray, List.getElem?_cons_zero, List.getElem?_cons_succ]; exact rfl) ?_) | (refine at_alt (by simp only [List.filterMap_cons, List.filterMap_nil, List.getElem?_toArray, List.getElem?_cons_zero, List.getElem?_cons_succ]; exact rfl) ?_) | refine qalt_normal ?_ | refine ats_cons ?_ ?_ | exact ats_nil
    | ((with_reducible first | refine awN (tyOf_ok _) [] ?_ | refine awO (tyOf_ok _) [] ?_ | refine awP (tyOf_ok _) [] ?_ | refine awQ ?_ | refine awR ?_ | refine awS ?_ | refine awT ?_ | refine awU ?_); intro r hr; simp only [go_sem, Nat.reduceBEq, Nat.reduceBneDiff, Nat.reduceLT, Nat.reduceLeDiff, Nat.reduceAdd, Nat.reduceMul, Nat.reduceSub, Nat.reduceEqDiff, reduceCtorEq, wrapU, k1, e3] at hr; subst hr; (first | refine awV ?_ ?_ | refine awW ?_ ?_ | refine endK ?_ ?_ | refine endGK ?_ ?_ ?_ | (refine condK (fun h => ?_) (fun h => ?_) <;> (try simp only [go_sem, reduceCtorEq] at h) <;> (try (exfalso; omega))))) | fail)) <;> (try omega)
          exact ⟨(), by simp only [go_sem, Nat.reduceBEq, Nat.reduceBneDiff, Nat.reduceLT, Nat.reduceLeDiff, Nat.reduceAdd, Nat.reduceMul, Nat.reduceSub, Nat.reduceEqDiff, reduceCtorEq, List.cons_append, List.nil_append] <;> exact rfl, trivial⟩
      · have k1 : (T.kind = 1) = False := eq_false (by omega)
        have k3 : (T.kind = 3) = False := eq_false (by omega)
        have k2 : (T.kind = 2) = True := eq_true h
        have hxe : x = ⟨2, p % 2, 0⟩ := by rw [hx]; unfold pickN; rw [if_neg (by omega), if_neg (by omega), if_pos h]
        have htm : p.tmod 2 = p % 2 := Int.tmod_eq_emod_of_nonneg hpb.1
        subst hxe
        (repeat' (first
    | exact trivial
    | (with_reducible first | refine awA ?_ | refine awB ?_ | refine awC ?_ | refine awD ?_ | refine awE ?_ | refine awF ?_ | refine awG ?_ | refine awH ?_ | refine awI ?_ | refine awJ ?_ | refine awK ?_ | refine awL ?_ | refine awM (by decide) ?_)
    | (refine aw_draw (id := 4) (t := (.node [0, 1, 2, 3, 4, 5, 6, 7, 8, 9, 10] [])) (drR [10000] [] []) mixed (by kernel_rfl) (by kernel_rfl) (fun _ _ h => h) ?_)
    | (refine aw_draw (id := 5) (t := (.node [0, 1, 2, 3, 4, 5, 6, 7, 8, 9, 10, 11, 12] [])) (drR [10000] [43] []) mixed (by kernel_rfl) (by kernel_rfl) (fun _ _ h => h) ?_)
    | (refine aw_draw (id := 25) (t := (.node [0, 1, 2, 3, 4, 5, 6, 7, 8, 9, 10, 11] [])) (drR [5] [114] []) mixed (by kernel_rfl) (by kernel_rfl) (fun _ _ h => h) ?_)
    | (refine aw_draw (id := 27) (t := (.node [0, 1, 2, 3, 4, 5, 6, 7, 8, 9, 10] [])) (drR [6] [123] []) mixed (by kernel_rfl) (by kernel_rfl) (fun _ _ h => h) ?_)
    | (refine at_done (by simp only [List.filterMap_cons, List.filterMap_nil, List.getElem?_toArray, List.getElem?_cons_zero, List.getElem?_cons_succ]; exact rfl) ?_) | (refine at_alt (by simp only [List.filterMap_cons, List.filterMap_nil, List.getElem?_toArray, List.getElem?_cons_zero, List.getElem?_cons_succ]; exact rfl) ?_) | refine qalt_normal ?_ | refine ats_cons ?_ ?_ | exact ats_nil
    | ((with_reducible first | refine awN (tyOf_ok _) [] ?_ | refine awO (tyOf_ok _) [] ?_ | refine awP (tyOf_ok _) [] ?_ | refine awQ ?_ | refine awR ?_ | refine awS ?_ | refine awT ?_ | refine awU ?_); intro r hr; simp only [go_sem, Nat.reduceBEq, Nat.reduceBneDiff, Nat.reduceLT, Nat.reduceLeDiff, Nat.reduceAdd, Nat.reduceMul, Nat.reduceSub, Nat.reduceEqDiff, reduceCtorEq, wrapU, k1, k3, k2, htm] at hr; subst hr; (first | refine awV ?_ ?_ | refine awW ?_ ?_ | refine endK ?_ ?_ | refine endGK ?_ ?_ ?_ | (refine condK (fun h => ?_) (fun h => ?_) <;> (try simp only [go_sem, reduceCtorEq] at h) <;> (try (exfalso; omega))))) | fail)) <;> (try omega)
        exact ⟨(), by simp only [go_sem, Nat.reduceBEq, Nat.reduceBneDiff, Nat.reduceLT, Nat.reduceLeDiff, Nat.reduceAdd, Nat.reduceMul, Nat.reduceSub, Nat.reduceEqDiff, reduceCtorEq, List.cons_append, List.nil_append] <;> exact rfl, trivial⟩
      · have k1 : (T.kind = 1) = False := eq_false (by omega)
        have k3 : (T.kind = 3) = True := eq_true h
        have hxe : x = ⟨1, p, 0⟩ := by rw [hx]; unfold pickN; rw [if_neg (by omega), if_pos h]
        subst hxe
        (repeat' (first
    | exact trivial
    | (with_reducible first | refine awA ?_ | refine awB ?_ | refine awC ?_ | refine awD ?_ | refine awE ?_ | refine awF ?_ | refine awG ?_ | refine awH ?_ | refine awI ?_ | refine awJ ?_ | refine awK ?_ | refine awL ?_ | refine awM (by decide) ?_)
    | (refine aw_draw (id := 4) (t := (.node [0, 1, 2, 3, 4, 5, 6, 7, 8, 9, 10] [])) (drR [10000] [] []) mixed (by kernel_rfl) (by kernel_rfl) (fun _ _ h => h) ?_)
    | (refine aw_draw (id := 5) (t := (.node [0, 1, 2, 3, 4, 5, 6, 7, 8, 9, 10, 11, 12] [])) (drR [10000] [43] []) mixed (by kernel_rfl) (by kernel_rfl) (fun _ _ h => h) ?_)
    | (refine aw_draw (id := 25) (t := (.node [0, 1, 2, 3, 4, 5, 6, 7, 8, 9, 10, 11] [])) (drR [5] [114] []) mixed (by kernel_rfl) (by kernel_rfl) (fun _ _ h => h) ?_)
    | (refine aw_draw (id := 27) (t := (.node [0, 1, 2, 3, 4, 5, 6, 7, 8, 9, 10] [])) (drR [6] [123] []) mixed (by kernel_rfl) (by kernel_rfl) (fun _ _ h => h) ?_)
    | (refine at_done (by simp only [List.filterMap_cons, List.filterMap_nil, List.getElem?_toArray, List.getElem?_cons_zero, List.getElem?_cons_succ]; exact rfl) ?_) | (refine at_alt (by simp only [List.filterMap_cons, List.filterMap_nil, List.getElem?_toArray, List.getElem?_cons_zero, List.getElem?_cons_succ]; exact rfl) ?_) | refine qalt_normal ?_ | refine ats_cons ?_ ?_ | exact ats_nil
    | ((with_reducible first | refine awN (tyOf_ok _) [] ?_ | refine awO (tyOf_ok _) [] ?_ | refine awP (tyOf_ok _) [] ?_ | refine awQ ?_ | refine awR ?_ | refine awS ?_ | refine awT ?_ | refine awU ?_); intro r hr; simp only [go_sem, Nat.reduceBEq, Nat.reduceBneDiff, Nat.reduceLT, Nat.reduceLeDiff, Nat.reduceAdd, Nat.reduceMul, Nat.reduceSub, Nat.reduceEqDiff, reduceCtorEq, wrapU, k1, k3] at hr; subst hr; (first | refine awV ?_ ?_ | refine awW ?_ ?_ | refine endK ?_ ?_ | refine endGK ?_ ?_ ?_ | (refine condK (fun h => ?_) (fun h => ?_) <;> (try simp only [go_sem, reduceCtorEq] at h) <;> (try (exfalso; omega))))) | fail)) <;> (try omega)
        exact ⟨(), by simp only [go_sem, Nat.reduceBEq, Nat.reduceBneDiff, Nat.reduceLT, Nat.reduceLeDiff, Nat.reduceAdd, Nat.reduceMul, Nat.reduceSub, Nat.reduceEqDiff, reduceCtorEq, List.cons_append, List.nil_append] <;> exact rfl, trivial⟩
    · rcases h with h | h | h
      · have k1 : (T.kind = 1) = False := eq_false (by omega)
        have k3 : (T.kind = 3) = False := eq_false (by omega)
        have k2 : (T.kind = 2) = False := eq_false (by omega)
        have k4 : (T.kind = 4) = True := eq_true h
        have hxe : x = ⟨3, 0, T.n⟩ := by rw [hx]; unfold pickN; rw [if_neg (by omega), if_neg (by omega), if_neg (by omega), if_pos h]
        subst hxe
        (repeat' (first
    | exact trivial
    | (with_reducible first | refine awA ?_ | refine awB ?_ | refine awC ?_ | refine awD ?_ | refine awE ?_ | refine awF ?_ | refine awG ?_ | refine awH ?_ | refine awI ?_ | refine awJ ?_ | refine awK ?_ | refine awL ?_ | refine awM (by decide) ?_)
    | (refine aw_draw (id := 4) (t := (.node [0, 1, 2, 3, 4, 5, 6, 7, 8, 9, 10] [])) (drR [10000] [] []) mixed (by kernel_rfl) (by kernel_rfl) (fun _ _ h => h) ?_)
    | (refine aw_draw (id := 5) (t := (.node [0, 1, 2, 3, 4, 5, 6, 7, 8, 9, 10, 11, 12] [])) (drR [10000] [43] []) mixed (by kernel_rfl) (by kernel_rfl) (fun _ _ h => h) ?_)
    | (refine aw_draw (id := 25) (t := (.node [0, 1, 2, 3, 4, 5, 6, 7, 8, 9, 10, 11] [])) (drR [5] [114] []) mixed (by kernel_rfl) (by kernel_rfl) (fun _ _ h => h) ?_)
    | (refine aw_draw (id := 27) (t := (.node [0, 1, 2, 3, 4, 5, 6, 7, 8, 9, 10] [])) (drR [6] [123] []) mixed (by kernel_rfl) (by kernel_rfl) (fun _ _ h => h) ?_)
    | (refine at_done (by simp only [List.filterMap_cons, List.filterMap_nil, List.getElem?_toArray, List.getElem?_cons_zero, List.getElem?_cons_succ]; exact rfl) ?_) | (refine at_alt (by simp only [List.filterMap_cons, List.filterMap_nil, List.getElem?_toArray, List.getElem?_cons_zero, List.getElem?_cons_succ]; exact rfl) ?_) | refine qalt_normal ?_ | refine ats_cons ?_ ?_ | exact ats_nil
    | ((with_reducible first | refine awN (tyOf_ok _) [] ?_ | refine awO (tyOf_ok _) [] ?_ | refine awP (tyOf_ok _) [] ?_ | refine awQ ?_ | refine awR ?_ | refine awS ?_ | refine awT ?_ | refine awU ?_); intro r hr; simp only [go_sem, Nat.reduceBEq, Nat.reduceBneDiff, Nat.reduceLT, Nat.reduceLeDiff, Nat.reduceAdd, Nat.reduceMul, Nat.reduceSub, Nat.reduceEqDiff, reduceCtorEq, wrapU, k1, k3, k2, k4] at hr; subst hr; (first | refine awV ?_ ?_ | refine awW ?_ ?_ | refine endK ?_ ?_ | refine endGK ?_ ?_ ?_ | (refine condK (fun h => ?_) (fun h => ?_) <;> (try simp only [go_sem, reduceCtorEq] at h) <;> (try (exfalso; omega))))) | fail)) <;> (try omega)
        exact ⟨(), by simp only [go_sem, Nat.reduceBEq, Nat.reduceBneDiff, Nat.reduceLT, Nat.reduceLeDiff, Nat.reduceAdd, Nat.reduceMul, Nat.reduceSub, Nat.reduceEqDiff, reduceCtorEq, List.cons_append, List.nil_append] <;> exact rfl, trivial⟩
      · have k1 : (T.kind = 1) = False := eq_false (by omega)
        have k3 : (T.kind = 3) = False := eq_false (by omega)
        have k2 : (T.kind = 2) = False := eq_false (by omega)
        have k4 : (T.kind = 4) = False := eq_false (by omega)
        have k5 : (T.kind = 5) = True := eq_true h
        have hxe : x = ⟨3, 0, p % (T.n + 1)⟩ := by rw [hx]; unfold pickN; rw [if_neg (by omega), if_neg (by omega), if_neg (by omega), if_neg (by omega), if_pos h]
        have hwn := wrap_i64 (n := T.n + 1) (by omega)
        have hun : u64 (T.n + 1) = T.n + 1 := by unfold u64; omega
        have htm : p.tmod (T.n + 1) = p % (T.n + 1) := Int.tmod_eq_emod_of_nonneg hpb.1
        have hm0 := Int.emod_nonneg p (show T.n + 1 ≠ 0 by omega)
        have hm1 := Int.emod_lt_of_pos p (show 0 < T.n + 1 by omega)
        generalize p % (T.n + 1) = q at *
        have hwq := wrap_i64 (n := q) (by omega)
        subst hxe
        (repeat' (first
    | exact trivial
    | (with_reducible first | refine awA ?_ | refine awB ?_ | refine awC ?_ | refine awD ?_ | refine awE ?_ | refine awF ?_ | refine awG ?_ | refine awH ?_ | refine awI ?_ | refine awJ ?_ | refine awK ?_ | refine awL ?_ | refine awM (by decide) ?_)
    | (refine aw_draw (id := 4) (t := (.node [0, 1, 2, 3, 4, 5, 6, 7, 8, 9, 10] [])) (drR [10000] [] []) mixed (by kernel_rfl) (by kernel_rfl) (fun _ _ h => h) ?_)
    | (refine aw_draw (id := 5) (t := (.node [0, 1, 2, 3, 4, 5, 6, 7, 8, 9, 10, 11, 12] [])) (drR [10000] [43] []) mixed (by kernel_rfl) (by kernel_rfl) (fun _ _ h => h) ?_)
    | (refine aw_draw (id := 25) (t := (.node [0, 1, 2, 3, 4, 5, 6, 7, 8, 9, 10, 11] [])) (drR [5] [114] []) mixed (by kernel_rfl) (by kernel_rfl) (fun _ _ h => h) ?_)
    | (refine aw_draw (id := 27) (t := (.node [0, 1, 2, 3, 4, 5, 6, 7, 8, 9, 10] [])) (drR [6] [123] []) mixed (by kernel_rfl) (by kernel_rfl) (fun _ _ h => h) ?_)
    | (refine at_done (by simp only [List.filterMap_cons, List.filterMap_nil, List.getElem?_toArray, List.getElem?_cons_zero, List.getElem?_cons_succ]; exact rfl) ?_) | (refine at_alt (by simp only [List.filterMap_cons, List.filterMap_nil, List.getElem?_toArray, List.getElem?_cons_zero, List.getElem?_cons_succ]; exact rfl) ?_) | refine qalt_normal ?_ | refine ats_cons ?_ ?_ | exact ats_nil
    | ((with_reducible first | refine awN (tyOf_ok _) [] ?_ | refine awO (tyOf_ok _) [] ?_ | refine awP (tyOf_ok _) [] ?_ | refine awQ ?_ | refine awR ?_ | refine awS ?_ | refine awT ?_ | refine awU ?_); intro r hr; simp only [go_sem, Nat.reduceBEq, Nat.reduceBneDiff, Nat.reduceLT, Nat.reduceLeDiff, Nat.reduceAdd, Nat.reduceMul, Nat.reduceSub, Nat.reduceEqDiff, reduceCtorEq, wrapU, k1, k3, k2, k4, k5, hwn, hun, htm, hwq] at hr; subst hr; (first | refine awV ?_ ?_ | refine awW ?_ ?_ | refine endK ?_ ?_ | refine endGK ?_ ?_ ?_ | (refine condK (fun h => ?_) (fun h => ?_) <;> (try simp only [go_sem, reduceCtorEq] at h) <;> (try (exfalso; omega))))) | fail)) <;> (try omega)
        exact ⟨(), by simp only [go_sem, Nat.reduceBEq, Nat.reduceBneDiff, Nat.reduceLT, Nat.reduceLeDiff, Nat.reduceAdd, Nat.reduceMul, Nat.reduceSub, Nat.reduceEqDiff, reduceCtorEq, List.cons_append, List.nil_append] <;> exact rfl, trivial⟩
      · have k1 : (T.kind = 1) = False := eq_false (by omega)
        have k3 : (T.kind = 3) = False := eq_false (by omega)
        have k2 : (T.kind = 2) = False := eq_false (by omega)
        have k4 : (T.kind = 4) = False := eq_false (by omega)
        have k5 : (T.kind = 5) = False := eq_false (by omega)
        have k6 : (T.kind = 6) = True := eq_true h
        have hxe : x = ⟨5, 0, p % 2⟩ := by rw [hx]; unfold pickN; rw [if_neg (by omega), if_neg (by omega), if_neg (by omega), if_neg (by omega), if_neg (by omega), if_pos h]
        have htm : p.tmod 2 = p % 2 := Int.tmod_eq_emod_of_nonneg hpb.1
        have hwq := wrap_i64 (n := p % 2) (by omega)
        subst hxe
        (repeat' (first
    | exact trivial
    | (with_reducible first | refine awA ?_ | refine awB ?_ | refine awC ?_ | refine awD ?_ | refine awE ?_ | refine awF ?_ | refine awG ?_ | refine awH ?_ | refine awI ?_ | refine awJ ?_ | refine awK ?_ | refine awL ?_ | refine awM (by decide) ?_)
    | (refine aw_draw (id := 4) (t := (.node [0, 1, 2, 3, 4, 5, 6, 7, 8, 9, 10] [])) (drR [10000] [] []) mixed (by kernel_rfl) (by kernel_rfl) (fun _ _ h => h) ?_)
    | (refine aw_draw (id := 5) (t := (.node [0, 1, 2, 3, 4, 5, 6, 7, 8, 9, 10, 11, 12] [])) (drR [10000] [43] []) mixed (by kernel_rfl) (by kernel_rfl) (fun _ _ h => h) ?_)
    | (refine aw_draw (id := 25) (t := (.node [0, 1, 2, 3, 4, 5, 6, 7, 8, 9, 10, 11] [])) (drR [5] [114] []) mixed (by kernel_rfl) (by kernel_rfl) (fun _ _ h => h) ?_)
    | (refine aw_draw (id := 27) (t := (.node [0, 1, 2, 3, 4, 5, 6, 7, 8, 9, 10] [])) (drR [6] [123] []) mixed (by kernel_rfl) (by kernel_rfl) (fun _ _ h => h) ?_)
    | (refine at_done (by simp only [List.filterMap_cons, List.filterMap_nil, List.getElem?_toArray, List.getElem?_cons_zero, List.getElem?_cons_succ]; exact rfl) ?_) | (refine at_alt (by simp only [List.filterMap_cons, List.filterMap_nil, List.getElem?_toArray, List.getElem?_cons_zero, List.getElem?_cons_succ]; exact rfl) ?_) | refine qalt_normal ?_ | refine ats_cons ?_ ?_ | exact ats_nil
    | ((with_reducible first | refine awN (tyOf_ok _) [] ?_ | refine awO (tyOf_ok _) [] ?_ | refine awP (tyOf_ok _) [] ?_ | refine awQ ?_ | refine awR ?_ | refine awS ?_ | refine awT ?_ | refine awU ?_); intro r hr; simp only [go_sem, Nat.reduceBEq, Nat.reduceBneDiff, Nat.reduceLT, Nat.reduceLeDiff, Nat.reduceAdd, Nat.reduceMul, Nat.reduceSub, Nat.reduceEqDiff, reduceCtorEq, wrapU, k1, k3, k2, k4, k5, k6, htm, hwq] at hr; subst hr; (first | refine awV ?_ ?_ | refine awW ?_ ?_ | refine endK ?_ ?_ | refine endGK ?_ ?_ ?_ | (refine condK (fun h => ?_) (fun h => ?_) <;> (try simp only [go_sem, reduceCtorEq] at h) <;> (try (exfalso; omega))))) | fail)) <;> (try omega)
        exact ⟨(), by simp only [go_sem, Nat.reduceBEq, Nat.reduceBneDiff, Nat.reduceLT, Nat.reduceLeDiff, Nat.reduceAdd, Nat.reduceMul, Nat.reduceSub, Nat.reduceEqDiff, reduceCtorEq, List.cons_append, List.nil_append] <;> exact rfl, trivial⟩
    · have hl := right_parts hr h
      rcases h with h | h
      · have k1 : (T.kind = 1) = False := eq_false (by omega)
        have k3 : (T.kind = 3) = False := eq_false (by omega)
        have k2 : (T.kind = 2) = False := eq_false (by omega)
        have k4 : (T.kind = 4) = False := eq_false (by omega)
        have k5 : (T.kind = 5) = False := eq_false (by omega)
        have k6 : (T.kind = 6) = False := eq_false (by omega)
        have k7 : (T.kind = 7) = True := eq_true h
        obtain ⟨a, ha, hal⟩ : ∃ a : Nat, p % (T.parts.length : Int) = a ∧ a < T.parts.length := ⟨(p % (T.parts.length : Int)).toNat, by
          have hm0 := Int.emod_nonneg p (show (T.parts.length : Int) ≠ 0 by omega)
          have hm1 := Int.emod_lt_of_pos p (show (0 : Int) < T.parts.length by omega)
          omega⟩
        have hun : u64 (T.parts.length : Int) = T.parts.length := by unfold u64; omega
        have htm : p.tmod T.parts.length = a := by rw [Int.tmod_eq_emod_of_nonneg hpb.1, ha]
        have hza : ((a : Int)).toNat = a := by omega
        have g3 := encPs_get hal
        have hxe : x = ⟨6, u64 T.parts[a].tag, 1⟩ := by
          rw [hx]; unfold pickN
          rw [if_neg (by omega), if_neg (by omega), if_neg (by omega), if_neg (by omega), if_neg (by omega), if_neg (by omega), if_pos h, ha, Int.toNat_natCast, List.getElem?_eq_getElem hal, Option.getD_some]
        subst hxe
        (repeat' (first
    | exact trivial
    | (with_reducible first | refine awA ?_ | refine awB ?_ | refine awC ?_ | refine awD ?_ | refine awE ?_ | refine awF ?_ | refine awG ?_ | refine awH ?_ | refine awI ?_ | refine awJ ?_ | refine awK ?_ | refine awL ?_ | refine awM (by decide) ?_)
    | (refine aw_draw (id := 4) (t := (.node [0, 1, 2, 3, 4, 5, 6, 7, 8, 9, 10] [])) (drR [10000] [] []) mixed (by kernel_rfl) (by kernel_rfl) (fun _ _ h => h) ?_)
    | (refine aw_draw (id := 5) (t := (.node [0, 1, 2, 3, 4, 5, 6, 7, 8, 9, 10, 11, 12] [])) (drR [10000] [43] []) mixed (by kernel_rfl) (by kernel_rfl) (fun _ _ h => h) ?_)
    | (refine aw_draw (id := 25) (t := (.node [0, 1, 2, 3, 4, 5, 6, 7, 8, 9, 10, 11] [])) (drR [5] [114] []) mixed (by kernel_rfl) (by kernel_rfl) (fun _ _ h => h) ?_)
    | (refine aw_draw (id := 27) (t := (.node [0, 1, 2, 3, 4, 5, 6, 7, 8, 9, 10] [])) (drR [6] [123] []) mixed (by kernel_rfl) (by kernel_rfl) (fun _ _ h => h) ?_)
    | (refine at_done (by simp only [List.filterMap_cons, List.filterMap_nil, List.getElem?_toArray, List.getElem?_cons_zero, List.getElem?_cons_succ]; exact rfl) ?_) | (refine at_alt (by simp only [List.filterMap_cons, List.filterMap_nil, List.getElem?_toArray, List.getElem?_cons_zero, List.getElem?_cons_succ]; exact rfl) ?_) | refine qalt_normal ?_ | refine ats_cons ?_ ?_ | exact ats_nil
    | ((with_reducible first | refine awN (tyOf_ok _) [] ?_ | refine awO (tyOf_ok _) [] ?_ | refine awP (tyOf_ok _) [] ?_ | refine awQ ?_ | refine awR ?_ | refine awS ?_ | refine awT ?_ | refine awU ?_); intro r hr; simp only [go_sem, Nat.reduceBEq, Nat.reduceBneDiff, Nat.reduceLT, Nat.reduceLeDiff, Nat.reduceAdd, Nat.reduceMul, Nat.reduceSub, Nat.reduceEqDiff, reduceCtorEq, wrapU, k1, k3, k2, k4, k5, k6, k7, encPs_len, hun, htm, hza, g3] at hr; subst hr; (first | refine awV ?_ ?_ | refine awW ?_ ?_ | refine endK ?_ ?_ | refine endGK ?_ ?_ ?_ | (refine condK (fun h => ?_) (fun h => ?_) <;> (try simp only [go_sem, reduceCtorEq] at h) <;> (try (exfalso; omega))))) | fail)) <;> (try omega)
        exact ⟨(), by simp only [go_sem, Nat.reduceBEq, Nat.reduceBneDiff, Nat.reduceLT, Nat.reduceLeDiff, Nat.reduceAdd, Nat.reduceMul, Nat.reduceSub, Nat.reduceEqDiff, reduceCtorEq, List.cons_append, List.nil_append] <;> exact rfl, trivial⟩
      · have k1 : (T.kind = 1) = False := eq_false (by omega)
        have k3 : (T.kind = 3) = False := eq_false (by omega)
        have k2 : (T.kind = 2) = False := eq_false (by omega)
        have k4 : (T.kind = 4) = False := eq_false (by omega)
        have k5 : (T.kind = 5) = False := eq_false (by omega)
        have k6 : (T.kind = 6) = False := eq_false (by omega)
        have k7 : (T.kind = 7) = False := eq_false (by omega)
        have hxe : x = ⟨4, 0, T.parts.length⟩ := by rw [hx]; unfold pickN; rw [if_neg (by omega), if_neg (by omega), if_neg (by omega), if_neg (by omega), if_neg (by omega), if_neg (by omega), if_neg (by omega)]
        subst hxe
        (repeat' (first
    | exact trivial
    | (with_reducible first | refine awA ?_ | refine awB ?_ | refine awC ?_ | refine awD ?_ | refine awE ?_ | refine awF ?_ | refine awG ?_ | refine awH ?_ | refine awI ?_ | refine awJ ?_ | refine awK ?_ | refine awL ?_ | refine awM (by decide) ?_)
    | (refine aw_draw (id := 4) (t := (.node [0, 1, 2, 3, 4, 5, 6, 7, 8, 9, 10] [])) (drR [10000] [] []) mixed (by kernel_rfl) (by kernel_rfl) (fun _ _ h => h) ?_)
    | (refine aw_draw (id := 5) (t := (.node [0, 1, 2, 3, 4, 5, 6, 7, 8, 9, 10, 11, 12] [])) (drR [10000] [43] []) mixed (by kernel_rfl) (by kernel_rfl) (fun _ _ h => h) ?_)
    | (refine aw_draw (id := 25) (t := (.node [0, 1, 2, 3, 4, 5, 6, 7, 8, 9, 10, 11] [])) (drR [5] [114] []) mixed (by kernel_rfl) (by kernel_rfl) (fun _ _ h => h) ?_)
    | (refine aw_draw (id := 27) (t := (.node [0, 1, 2, 3, 4, 5, 6, 7, 8, 9, 10] [])) (drR [6] [123] []) mixed (by kernel_rfl) (by kernel_rfl) (fun _ _ h => h) ?_)
    | (refine at_done (by simp only [List.filterMap_cons, List.filterMap_nil, List.getElem?_toArray, List.getElem?_cons_zero, List.getElem?_cons_succ]; exact rfl) ?_) | (refine at_alt (by simp only [List.filterMap_cons, List.filterMap_nil, List.getElem?_toArray, List.getElem?_cons_zero, List.getElem?_cons_succ]; exact rfl) ?_) | refine qalt_normal ?_ | refine ats_cons ?_ ?_ | exact ats_nil
    | ((with_reducible first | refine awN (tyOf_ok _) [] ?_ | refine awO (tyOf_ok _) [] ?_ | refine awP (tyOf_ok _) [] ?_ | refine awQ ?_ | refine awR ?_ | refine awS ?_ | refine awT ?_ | refine awU ?_); intro r hr; simp only [go_sem, Nat.reduceBEq, Nat.reduceBneDiff, Nat.reduceLT, Nat.reduceLeDiff, Nat.reduceAdd, Nat.reduceMul, Nat.reduceSub, Nat.reduceEqDiff, reduceCtorEq, wrapU, k1, k3, k2, k4, k5, k6, k7, encPs_len] at hr; subst hr; (first | refine awV ?_ ?_ | refine awW ?_ ?_ | refine endK ?_ ?_ | refine endGK ?_ ?_ ?_ | (refine condK (fun h => ?_) (fun h => ?_) <;> (try simp only [go_sem, reduceCtorEq] at h) <;> (try (exfalso; omega))))) | fail)) <;> (try omega)
        exact ⟨(), by simp only [go_sem, Nat.reduceBEq, Nat.reduceBneDiff, Nat.reduceLT, Nat.reduceLeDiff, Nat.reduceAdd, Nat.reduceMul, Nat.reduceSub, Nat.reduceEqDiff, reduceCtorEq, List.cons_append, List.nil_append] <;> exact rfl, trivial⟩
  intro _ _
  have htk : (encNs V).take V.length = encNs V := take_len (by rw [encNs_len]; exact Nat.le_refl _)
  have hl1 : (V ++ [x]).length = V.length + 1 := by simp
  (repeat' (first
    | exact trivial
    | (with_reducible first | refine awA ?_ | refine awB ?_ | refine awC ?_ | refine awD ?_ | refine awE ?_ | refine awF ?_ | refine awG ?_ | refine awH ?_ | refine awI ?_ | refine awJ ?_ | refine awK ?_ | refine awL ?_ | refine awM (by decide) ?_)
    | (refine aw_draw (id := 4) (t := (.node [0, 1, 2, 3, 4, 5, 6, 7, 8, 9, 10] [])) (drR [10000] [] []) mixed (by kernel_rfl) (by kernel_rfl) (fun _ _ h => h) ?_)
    | (refine aw_draw (id := 5) (t := (.node [0, 1, 2, 3, 4, 5, 6, 7, 8, 9, 10, 11, 12] [])) (drR [10000] [43] []) mixed (by kernel_rfl) (by kernel_rfl) (fun _ _ h => h) ?_)
    | (refine aw_draw (id := 25) (t := (.node [0, 1, 2, 3, 4, 5, 6, 7, 8, 9, 10, 11] [])) (drR [5] [114] []) mixed (by kernel_rfl) (by kernel_rfl) (fun _ _ h => h) ?_)
    | (refine aw_draw (id := 27) (t := (.node [0, 1, 2, 3, 4, 5, 6, 7, 8, 9, 10] [])) (drR [6] [123] []) mixed (by kernel_rfl) (by kernel_rfl) (fun _ _ h => h) ?_)
    | (refine at_done (by simp only [List.filterMap_cons, List.filterMap_nil, List.getElem?_toArray, List.getElem?_cons_zero, List.getElem?_cons_succ]; exact rfl) ?_) | (refine at_alt (by simp only [List.filterMap_cons, List.filterMap_nil, List.getElem?_toArray, List.getElem?_cons_zero, List.getElem?_cons_succ]; exact rfl) ?_) | refine qalt_normal ?_ | refine ats_cons ?_ ?_ | exact ats_nil
    | ((with_reducible first | refine awN (tyOf_ok _) [] ?_ | refine awO (tyOf_ok _) [] ?_ | refine awP (tyOf_ok _) [] ?_ | refine awQ ?_ | refine awR ?_ | refine awS ?_ | refine awT ?_ | refine awU ?_); intro r hr; simp only [go_sem, Nat.reduceBEq, Nat.reduceBneDiff, Nat.reduceLT, Nat.reduceLeDiff, Nat.reduceAdd, Nat.reduceMul, Nat.reduceSub, Nat.reduceEqDiff, reduceCtorEq, htk, encNs_app, encNs_len, hl1] at hr; subst hr; (first | refine awV ?_ ?_ | refine awW ?_ ?_ | refine endK ?_ ?_ | refine endGK ?_ ?_ ?_ | (refine condK (fun h => ?_) (fun h => ?_) <;> (try simp only [go_sem, reduceCtorEq] at h) <;> (try (exfalso; omega))))) | fail)) <;> (try omega)
  obtain ⟨m, hm⟩ : ∃ m : Nat, x.kids = m := ⟨x.kids.toNat, by omega⟩
  rw [hm, Int.toNat_natCast] at hks
  refine go_loop [0, 5, 6, 8] [5, 6, 10000, 15000] (fun q : Nat × List NodeM × Bool => ⟨[(0, true, .ptr 1 10000 0 0), (5, true, .ptr 1 5 0 0), (6, true, .ptr 1 6 0 0), (8, true, vI q.1)],
      [(5, .var [vI T.kind, vI T.n, vI T.elem, .lst 3 (encPs T.parts)]), (6, .var [vI x.kind, .v (.int .u64 x.n), vI x.kids])] ++ obM ts rs ps q.2.1 q.2.2⟩)
    (fun q => q.1 ≤ m ∧ q.2.1.length ≤ 1048576 ∧ (q.2.2 = false → ∃ done : List Tr, q.2.1 = V ++ x :: Tr.flat.flatL done ∧ done ++ mkL T x mk (m - q.1) q.1 q.2.1.length = ks) ∧ (q.2.2 = true → q.2.1 = (V ++ x :: F).take 1048576 ∧ 1048576 < V.length + (x :: F).length))
    (fun q => m - q.1) (0, V ++ [x], false) (by simp only [go_sem, Nat.reduceBEq, Nat.reduceBneDiff, Nat.reduceLT, Nat.reduceLeDiff, Nat.reduceAdd, Nat.reduceMul, Nat.reduceSub, Nat.reduceEqDiff, reduceCtorEq, List.cons_append, List.nil_append, hl1] <;> exact rfl) ⟨Nat.zero_le _, by simp only; omega, fun _ => ⟨[], by simp [Tr.flat.flatL], by simp only [List.nil_append, hl1]; exact hks.symm⟩, fun h => by cases h⟩ ?_
  intro ⟨k, U, many⟩ ⟨hk, hU, hf, ht⟩
  simp only at hk hU hf ht
  have hwk := wrap_i64 (n := (k : Int) + 1) (by omega)
  cases many with
  | true =>
    obtain ⟨hU1, hU2⟩ := ht rfl
    have hd : decide (1048576 < V.length + (x :: F).length) = true := by simpa using hU2
    rw [hd, ← hU1]
    by_cases hlt : k < m
    · have f1 : ((k : Int) < m) = True := eq_true (by omega)
      (repeat' (first
    | exact trivial
    | (with_reducible first | refine awA ?_ | refine awB ?_ | refine awC ?_ | refine awD ?_ | refine awE ?_ | refine awF ?_ | refine awG ?_ | refine awH ?_ | refine awI ?_ | refine awJ ?_ | refine awK ?_ | refine awL ?_ | refine awM (by decide) ?_)
    | (refine aw_draw (id := 4) (t := (.node [0, 1, 2, 3, 4, 5, 6, 7, 8, 9, 10] [])) (drR [10000] [] []) mixed (by kernel_rfl) (by kernel_rfl) (fun _ _ h => h) ?_)
    | (refine aw_draw (id := 5) (t := (.node [0, 1, 2, 3, 4, 5, 6, 7, 8, 9, 10, 11, 12] [])) (drR [10000] [43] []) mixed (by kernel_rfl) (by kernel_rfl) (fun _ _ h => h) ?_)
    | (refine aw_draw (id := 25) (t := (.node [0, 1, 2, 3, 4, 5, 6, 7, 8, 9, 10, 11] [])) (drR [5] [114] []) mixed (by kernel_rfl) (by kernel_rfl) (fun _ _ h => h) ?_)
    | (refine aw_draw (id := 27) (t := (.node [0, 1, 2, 3, 4, 5, 6, 7, 8, 9, 10] [])) (drR [6] [123] []) mixed (by kernel_rfl) (by kernel_rfl) (fun _ _ h => h) ?_)
    | (refine at_done (by simp only [List.filterMap_cons, List.filterMap_nil, List.getElem?_toArray, List.getElem?_cons_zero, List.getElem?_cons_succ]; exact rfl) ?_) | (refine at_alt (by simp only [List.filterMap_cons, List.filterMap_nil, List.getElem?_toArray, List.getElem?_cons_zero, List.getElem?_cons_succ]; exact rfl) ?_) | refine qalt_normal ?_ | refine ats_cons ?_ ?_ | exact ats_nil
    | ((with_reducible first | refine awN (tyOf_ok _) [] ?_ | refine awO (tyOf_ok _) [] ?_ | refine awP (tyOf_ok _) [] ?_ | refine awQ ?_ | refine awR ?_ | refine awS ?_ | refine awT ?_ | refine awU ?_); intro r hr; simp only [go_sem, Nat.reduceBEq, Nat.reduceBneDiff, Nat.reduceLT, Nat.reduceLeDiff, Nat.reduceAdd, Nat.reduceMul, Nat.reduceSub, Nat.reduceEqDiff, reduceCtorEq, List.cons_append, List.nil_append, hm, f1] at hr; subst hr; (first | refine awV ?_ ?_ | refine awW ?_ ?_ | refine endK ?_ ?_ | refine endGK ?_ ?_ ?_ | (refine condK (fun h => ?_) (fun h => ?_) <;> (try simp only [go_sem, reduceCtorEq] at h) <;> (try (exfalso; omega))))) | fail)) <;> (try omega)
      · exact AV.up_rfl _
      · exact obUp_cons rfl (obUp_cons rfl obUp_nil)
    · have f1 : ((k : Int) < m) = False := eq_false (by omega)
      (repeat' (first
    | exact trivial
    | (with_reducible first | refine awA ?_ | refine awB ?_ | refine awC ?_ | refine awD ?_ | refine awE ?_ | refine awF ?_ | refine awG ?_ | refine awH ?_ | refine awI ?_ | refine awJ ?_ | refine awK ?_ | refine awL ?_ | refine awM (by decide) ?_)
    | (refine aw_draw (id := 4) (t := (.node [0, 1, 2, 3, 4, 5, 6, 7, 8, 9, 10] [])) (drR [10000] [] []) mixed (by kernel_rfl) (by kernel_rfl) (fun _ _ h => h) ?_)
    | (refine aw_draw (id := 5) (t := (.node [0, 1, 2, 3, 4, 5, 6, 7, 8, 9, 10, 11, 12] [])) (drR [10000] [43] []) mixed (by kernel_rfl) (by kernel_rfl) (fun _ _ h => h) ?_)
    | (refine aw_draw (id := 25) (t := (.node [0, 1, 2, 3, 4, 5, 6, 7, 8, 9, 10, 11] [])) (drR [5] [114] []) mixed (by kernel_rfl) (by kernel_rfl) (fun _ _ h => h) ?_)
    | (refine aw_draw (id := 27) (t := (.node [0, 1, 2, 3, 4, 5, 6, 7, 8, 9, 10] [])) (drR [6] [123] []) mixed (by kernel_rfl) (by kernel_rfl) (fun _ _ h => h) ?_)
    | (refine at_done (by simp only [List.filterMap_cons, List.filterMap_nil, List.getElem?_toArray, List.getElem?_cons_zero, List.getElem?_cons_succ]; exact rfl) ?_) | (refine at_alt (by simp only [List.filterMap_cons, List.filterMap_nil, List.getElem?_toArray, List.getElem?_cons_zero, List.getElem?_cons_succ]; exact rfl) ?_) | refine qalt_normal ?_ | refine ats_cons ?_ ?_ | exact ats_nil
    | ((with_reducible first | refine awN (tyOf_ok _) [] ?_ | refine awO (tyOf_ok _) [] ?_ | refine awP (tyOf_ok _) [] ?_ | refine awQ ?_ | refine awR ?_ | refine awS ?_ | refine awT ?_ | refine awU ?_); intro r hr; simp only [go_sem, Nat.reduceBEq, Nat.reduceBneDiff, Nat.reduceLT, Nat.reduceLeDiff, Nat.reduceAdd, Nat.reduceMul, Nat.reduceSub, Nat.reduceEqDiff, reduceCtorEq, List.cons_append, List.nil_append, hm, f1] at hr; subst hr; (first | refine awV ?_ ?_ | refine awW ?_ ?_ | refine endK ?_ ?_ | refine endGK ?_ ?_ ?_ | (refine condK (fun h => ?_) (fun h => ?_) <;> (try simp only [go_sem, reduceCtorEq] at h) <;> (try (exfalso; omega))))) | fail)) <;> (try omega)
      · exact AV.up_rfl _
      · exact obUp_cons rfl (obUp_cons rfl obUp_nil)
  | false =>
    obtain ⟨done, hU1, hrest⟩ := hf rfl
    by_cases hlt : k < m
    · have f1 : ((k : Int) < m) = True := eq_true (by omega)
      obtain ⟨hel, hk8⟩ := elem_ok hr hxr hxf (i := k) (by omega)
      have hE := Elem_any T hpl htag x hxok.2.2 k hk8
      rw [hm] at hE
      obtain ⟨te, hte⟩ : ∃ te : Nat, elemF T x.n k = te := ⟨(elemF T x.n k).toNat, by omega⟩
      rw [show m - k = (m - (k + 1)) + 1 by omega, mkL] at hrest
      rw [hte] at hE hrest hel
      rw [Int.toNat_natCast] at hrest
      have hc := H te (by omega) U hU
      generalize mk te U.length = c at *
      have hF2 : V ++ x :: F = (U ++ c.flat) ++ Tr.flat.flatL (mkL T x mk (m - (k + 1)) (k + 1) (U.length + c.flat.length)) := by
        rw [← hF, ← hrest, flatL_app, hU1]
        simp [Tr.flat.flatL]
      have hlF : V.length + (x :: F).length = (V ++ x :: F).length := by rw [List.length_append]
      by_cases hb : 1048576 < U.length + c.flat.length
      · have hd : decide (1048576 < U.length + c.flat.length) = true := by simpa using hb
        rw [hd] at hc
        have hlU : ((U ++ c.flat).take 1048576).length ≤ 1048576 := by rw [List.length_take]; omega
        have hU2 : (V ++ x :: F).take 1048576 = (U ++ c.flat).take 1048576 := by rw [hF2, List.take_append_of_le_length (by rw [List.length_append]; omega)]
        have hN : 1048576 < V.length + (x :: F).length := by rw [hlF, hF2]; simp only [List.length_append]; omega
        generalize (U ++ c.flat).take 1048576 = U' at *
        (repeat' (first
    | exact trivial
    | (with_reducible first | refine awA ?_ | refine awB ?_ | refine awC ?_ | refine awD ?_ | refine awE ?_ | refine awF ?_ | refine awG ?_ | refine awH ?_ | refine awI ?_ | refine awJ ?_ | refine awK ?_ | refine awL ?_ | refine awM (by decide) ?_)
    | (refine aw_draw (id := 4) (t := (.node [0, 1, 2, 3, 4, 5, 6, 7, 8, 9, 10] [])) (drR [10000] [] []) mixed (by kernel_rfl) (by kernel_rfl) (fun _ _ h => h) ?_)
    | (refine aw_draw (id := 5) (t := (.node [0, 1, 2, 3, 4, 5, 6, 7, 8, 9, 10, 11, 12] [])) (drR [10000] [43] []) mixed (by kernel_rfl) (by kernel_rfl) (fun _ _ h => h) ?_)
    | (refine aw_draw (id := 25) (t := (.node [0, 1, 2, 3, 4, 5, 6, 7, 8, 9, 10, 11] [])) (drR [5] [114] []) mixed (by kernel_rfl) (by kernel_rfl) (fun _ _ h => h) ?_)
    | (refine aw_draw (id := 27) (t := (.node [0, 1, 2, 3, 4, 5, 6, 7, 8, 9, 10] [])) (drR [6] [123] []) mixed (by kernel_rfl) (by kernel_rfl) (fun _ _ h => h) ?_)
    | (refine at_done (by simp only [List.filterMap_cons, List.filterMap_nil, List.getElem?_toArray, List.getElem?_cons_zero, List.getElem?_cons_succ]; exact rfl) ?_) | (refine at_alt (by simp only [List.filterMap_cons, List.filterMap_nil, List.getElem?_toArray, List.getElem?_cons_zero, List.getElem?_cons_succ]; exact rfl) ?_) | refine qalt_normal ?_ | refine ats_cons ?_ ?_ | exact ats_nil
    | ((with_reducible first | refine awN (tyOf_ok _) [] ?_ | refine awO (tyOf_ok _) [] ?_ | refine awP (tyOf_ok _) [] ?_ | refine awQ ?_ | refine awR ?_ | refine awS ?_ | refine awT ?_ | refine awU ?_); intro r hr; simp only [go_sem, Nat.reduceBEq, Nat.reduceBneDiff, Nat.reduceLT, Nat.reduceLeDiff, Nat.reduceAdd, Nat.reduceMul, Nat.reduceSub, Nat.reduceEqDiff, reduceCtorEq, List.cons_append, List.nil_append, hm, f1, hwk] at hr; subst hr; (first | refine caA (fun _ => hE) rfl ?_ ?_ ?_ | refine awV ?_ ?_ | refine awW ?_ ?_ | refine endK ?_ ?_ | refine endGK ?_ ?_ ?_ | (refine condK (fun h => ?_) (fun h => ?_) <;> (try simp only [go_sem, reduceCtorEq] at h) <;> (try (exfalso; omega)))))
    | (refine go_callGE [(10000, 10000), (15000, 15000)] [(10000, 10000), (15000, 15000)] [15000] [10000] ?_; intro r hr; simp only [go_sem, Nat.reduceBEq, Nat.reduceBneDiff, Nat.reduceLT, Nat.reduceLeDiff, Nat.reduceAdd, Nat.reduceMul, Nat.reduceSub, Nat.reduceEqDiff, reduceCtorEq, List.cons_append, List.nil_append, hm, f1, hwk] at hr; subst hr; refine callGK (hc) rfl rfl (by first | exact .inl rfl | exact .inr rfl) ?_ (.inl rfl) ?_) | fail)) <;> (try omega)
        exact ⟨(k + 1, U', true), by simp only [go_sem, Nat.reduceBEq, Nat.reduceBneDiff, Nat.reduceLT, Nat.reduceLeDiff, Nat.reduceAdd, Nat.reduceMul, Nat.reduceSub, Nat.reduceEqDiff, reduceCtorEq, List.cons_append, List.nil_append, hm] <;> exact rfl, ⟨hlt, hlU, fun h => (by cases h), fun _ => ⟨hU2.symm, hN⟩⟩, by simp only; omega⟩
      · have hd : decide (1048576 < U.length + c.flat.length) = false := by simpa using hb
        have htk2 : (U ++ c.flat).take 1048576 = U ++ c.flat := List.take_of_length_le (by rw [List.length_append]; omega)
        rw [hd, htk2] at hc
        have hl2 : (U ++ c.flat).length = U.length + c.flat.length := List.length_append
        have hU3 : U ++ c.flat = V ++ x :: Tr.flat.flatL (done ++ [c]) := by rw [hU1, flatL_app]; simp [Tr.flat.flatL]
        have hre : (done ++ [c]) ++ mkL T x mk (m - (k + 1)) (k + 1) (U ++ c.flat).length = ks := by rw [hl2, ← hrest]; simp
        have hl3 : (U ++ c.flat).length ≤ 1048576 := by omega
        clear hF2 htk2 hl2
        generalize U ++ c.flat = U' at *
        (repeat' (first
    | exact trivial
    | (with_reducible first | refine awA ?_ | refine awB ?_ | refine awC ?_ | refine awD ?_ | refine awE ?_ | refine awF ?_ | refine awG ?_ | refine awH ?_ | refine awI ?_ | refine awJ ?_ | refine awK ?_ | refine awL ?_ | refine awM (by decide) ?_)
    | (refine aw_draw (id := 4) (t := (.node [0, 1, 2, 3, 4, 5, 6, 7, 8, 9, 10] [])) (drR [10000] [] []) mixed (by kernel_rfl) (by kernel_rfl) (fun _ _ h => h) ?_)
    | (refine aw_draw (id := 5) (t := (.node [0, 1, 2, 3, 4, 5, 6, 7, 8, 9, 10, 11, 12] [])) (drR [10000] [43] []) mixed (by kernel_rfl) (by kernel_rfl) (fun _ _ h => h) ?_)
    | (refine aw_draw (id := 25) (t := (.node [0, 1, 2, 3, 4, 5, 6, 7, 8, 9, 10, 11] [])) (drR [5] [114] []) mixed (by kernel_rfl) (by kernel_rfl) (fun _ _ h => h) ?_)
    | (refine aw_draw (id := 27) (t := (.node [0, 1, 2, 3, 4, 5, 6, 7, 8, 9, 10] [])) (drR [6] [123] []) mixed (by kernel_rfl) (by kernel_rfl) (fun _ _ h => h) ?_)
    | (refine at_done (by simp only [List.filterMap_cons, List.filterMap_nil, List.getElem?_toArray, List.getElem?_cons_zero, List.getElem?_cons_succ]; exact rfl) ?_) | (refine at_alt (by simp only [List.filterMap_cons, List.filterMap_nil, List.getElem?_toArray, List.getElem?_cons_zero, List.getElem?_cons_succ]; exact rfl) ?_) | refine qalt_normal ?_ | refine ats_cons ?_ ?_ | exact ats_nil
    | ((with_reducible first | refine awN (tyOf_ok _) [] ?_ | refine awO (tyOf_ok _) [] ?_ | refine awP (tyOf_ok _) [] ?_ | refine awQ ?_ | refine awR ?_ | refine awS ?_ | refine awT ?_ | refine awU ?_); intro r hr; simp only [go_sem, Nat.reduceBEq, Nat.reduceBneDiff, Nat.reduceLT, Nat.reduceLeDiff, Nat.reduceAdd, Nat.reduceMul, Nat.reduceSub, Nat.reduceEqDiff, reduceCtorEq, List.cons_append, List.nil_append, hm, f1, hwk] at hr; subst hr; (first | refine caA (fun _ => hE) rfl ?_ ?_ ?_ | refine awV ?_ ?_ | refine awW ?_ ?_ | refine endK ?_ ?_ | refine endGK ?_ ?_ ?_ | (refine condK (fun h => ?_) (fun h => ?_) <;> (try simp only [go_sem, reduceCtorEq] at h) <;> (try (exfalso; omega)))))
    | (refine go_callGE [(10000, 10000), (15000, 15000)] [(10000, 10000), (15000, 15000)] [15000] [10000] ?_; intro r hr; simp only [go_sem, Nat.reduceBEq, Nat.reduceBneDiff, Nat.reduceLT, Nat.reduceLeDiff, Nat.reduceAdd, Nat.reduceMul, Nat.reduceSub, Nat.reduceEqDiff, reduceCtorEq, List.cons_append, List.nil_append, hm, f1, hwk] at hr; subst hr; refine callGK (hc) rfl rfl (by first | exact .inl rfl | exact .inr rfl) ?_ (.inl rfl) ?_) | fail)) <;> (try omega)
        exact ⟨(k + 1, U', false), by simp only [go_sem, Nat.reduceBEq, Nat.reduceBneDiff, Nat.reduceLT, Nat.reduceLeDiff, Nat.reduceAdd, Nat.reduceMul, Nat.reduceSub, Nat.reduceEqDiff, reduceCtorEq, List.cons_append, List.nil_append, hm] <;> exact rfl, ⟨hlt, hl3, fun _ => ⟨done ++ [c], hU3, hre⟩, fun h => (by cases h)⟩, by simp only; omega⟩
    · have f1 : ((k : Int) < m) = False := eq_false (by omega)
      rw [show m - k = 0 by omega, mkL, List.append_nil] at hrest
      subst hrest
      rw [hF] at hU1
      have hlF : V.length + (x :: F).length = U.length := by rw [hU1, List.length_append]
      have hd : decide (1048576 < V.length + (x :: F).length) = false := by rw [hlF]; simp; omega
      have htk2 : (V ++ x :: F).take 1048576 = U := by rw [← hU1]; exact List.take_of_length_le hU
      rw [hd, htk2]
      (repeat' (first
    | exact trivial
    | (with_reducible first | refine awA ?_ | refine awB ?_ | refine awC ?_ | refine awD ?_ | refine awE ?_ | refine awF ?_ | refine awG ?_ | refine awH ?_ | refine awI ?_ | refine awJ ?_ | refine awK ?_ | refine awL ?_ | refine awM (by decide) ?_)
    | (refine aw_draw (id := 4) (t := (.node [0, 1, 2, 3, 4, 5, 6, 7, 8, 9, 10] [])) (drR [10000] [] []) mixed (by kernel_rfl) (by kernel_rfl) (fun _ _ h => h) ?_)
    | (refine aw_draw (id := 5) (t := (.node [0, 1, 2, 3, 4, 5, 6, 7, 8, 9, 10, 11, 12] [])) (drR [10000] [43] []) mixed (by kernel_rfl) (by kernel_rfl) (fun _ _ h => h) ?_)
    | (refine aw_draw (id := 25) (t := (.node [0, 1, 2, 3, 4, 5, 6, 7, 8, 9, 10, 11] [])) (drR [5] [114] []) mixed (by kernel_rfl) (by kernel_rfl) (fun _ _ h => h) ?_)
    | (refine aw_draw (id := 27) (t := (.node [0, 1, 2, 3, 4, 5, 6, 7, 8, 9, 10] [])) (drR [6] [123] []) mixed (by kernel_rfl) (by kernel_rfl) (fun _ _ h => h) ?_)
    | (refine at_done (by simp only [List.filterMap_cons, List.filterMap_nil, List.getElem?_toArray, List.getElem?_cons_zero, List.getElem?_cons_succ]; exact rfl) ?_) | (refine at_alt (by simp only [List.filterMap_cons, List.filterMap_nil, List.getElem?_toArray, List.getElem?_cons_zero, List.getElem?_cons_succ]; exact rfl) ?_) | refine qalt_normal ?_ | refine ats_cons ?_ ?_ | exact ats_nil
    | ((with_reducible first | refine awN (tyOf_ok _) [] ?_ | refine awO (tyOf_ok _) [] ?_ | refine awP (tyOf_ok _) [] ?_ | refine awQ ?_ | refine awR ?_ | refine awS ?_ | refine awT ?_ | refine awU ?_); intro r hr; simp only [go_sem, Nat.reduceBEq, Nat.reduceBneDiff, Nat.reduceLT, Nat.reduceLeDiff, Nat.reduceAdd, Nat.reduceMul, Nat.reduceSub, Nat.reduceEqDiff, reduceCtorEq, List.cons_append, List.nil_append, hm, f1] at hr; subst hr; (first | refine awV ?_ ?_ | refine awW ?_ ?_ | refine endK ?_ ?_ | refine endGK ?_ ?_ ?_ | (refine condK (fun h => ?_) (fun h => ?_) <;> (try simp only [go_sem, reduceCtorEq] at h) <;> (try (exfalso; omega))))) | fail)) <;> (try omega)
      · exact AV.up_rfl _
      · exact obUp_cons rfl (obUp_cons rfl obUp_nil)
end Go.Proofs.Ytfgacgpicfknpaa
end
section
namespace Go.Proofs.Ytfgacgpicfknpaa
open Go.RowKit
set_option maxRecDepth 100000
set_option maxHeartbeats 8000000
theorem some_any {ts : List TypeM} {rs : List RootM} {ps : List Int} (W : MOK ts ps) : ∀ (f t : Nat), t < f → t < ts.length → SomeAt ts rs ps (mkT ts ps f) t
  | 0, _, h, _ => absurd h (Nat.not_lt_zero _)
  | f + 1, t, hf, ht => fun V hV => by
    have h := some_step (rs := rs) W (mkT ts ps f) t ht V hV _ rfl _ rfl fun t' ht' => some_any W f t' (by omega) (by omega)
    have he : mkT ts ps (f + 1) t V.length = .node (pickN ts[t] (pickAt ps V.length)) (mkL ts[t] (pickN ts[t] (pickAt ps V.length)) (mkT ts ps f) (pickN ts[t] (pickAt ps V.length)).kids.toNat 0 (V.length + 1)) := by
      rw [mkT, tyA_lt ht]
    rw [he]
    exact h
def madeT (ts : List TypeM) (ps : List Int) (t : Int) : Tr := mkT ts ps ts.length t.toNat 0
def someF (ts : List TypeM) (rs : List RootM) (t : Int) (ps : List Int) : List NodeM × Int :=
  if (checkF ts rs).1 ≠ 0 then ([], (checkF ts rs).1)
  else if t < 0 ∨ (ts.length : Int) ≤ t then ([], 3)
  else if 1048576 < (madeT ts ps t).flat.length then ([], 5) else ((madeT ts ps t).flat, 0)
theorem Some_any (ts : List TypeM) (rs : List RootM) (hts : ts.length ≤ 1000000000) (hrs : rs.length ≤ 1000000000) (hp : ∀ t ∈ ts, t.parts.length ≤ 1000000000) (hg : ∀ t ∈ ts, ∀ p ∈ t.parts, I64 p.tag) (t : Int) (ht : I64 t) (ps : List Int) (hps : ps.length ≤ 1000000000) :
    PCall Try.prog 61 [vSch ts rs, vI t, .lst 1 (v8 ps)] (fun r => r = .tup [.lst 3 (encNs (someF ts rs t ps).1), vI (someF ts rs t ps).2]) := by
  refine go_fnU (tyOf_ok _) Try.func61 rfl rfl (by rw [Try.results61]) Try.ntmps61 rfl fun E => ?_
  have hck := rcheck_any ts rs hts hrs hp
  unfold vF at hck
  by_cases h0 : (checkF ts rs).1 = 0
  case neg =>
    rw [someF, if_pos h0]
    have e1 : ((checkF ts rs).1 = 0) = False := eq_false h0
    generalize checkF ts rs = C at *
    (repeat' (first
    | exact trivial
    | (with_reducible first | refine awA ?_ | refine awB ?_ | refine awC ?_ | refine awD ?_ | refine awE ?_ | refine awF ?_ | refine awG ?_ | refine awH ?_ | refine awI ?_ | refine awJ ?_ | refine awK ?_ | refine awL ?_ | refine awM (by decide) ?_)
    | (refine aw_draw (id := 3) (t := (.node [0, 1, 2, 3] [])) (drR [8] [] []) mixed (by kernel_rfl) (by kernel_rfl) (fun _ _ h => h) ?_)
    | (refine at_done (by simp only [List.filterMap_cons, List.filterMap_nil, List.getElem?_toArray, List.getElem?_cons_zero, List.getElem?_cons_succ]; exact rfl) ?_) | (refine at_alt (by simp only [List.filterMap_cons, List.filterMap_nil, List.getElem?_toArray, List.getElem?_cons_zero, List.getElem?_cons_succ]; exact rfl) ?_) | refine qalt_normal ?_ | refine ats_cons ?_ ?_ | exact ats_nil
    | ((with_reducible first | refine awN (tyOf_ok _) [] ?_ | refine awO (tyOf_ok _) [] ?_ | refine awP (tyOf_ok _) [] ?_ | refine awQ ?_ | refine awR ?_ | refine awS ?_); intro r hr; simp only [go_sem, Nat.reduceBEq, Nat.reduceBneDiff, Nat.reduceLT, Nat.reduceLeDiff, Nat.reduceAdd, Nat.reduceMul, Nat.reduceSub, Nat.reduceEqDiff, reduceCtorEq, vSch, e1] at hr; subst hr; (first | refine caA (fun _ => hck) rfl ?_ ?_ ?_ | refine awV ?_ ?_ | refine awW ?_ ?_ | refine endK ?_ ?_ | (refine condK (fun h => ?_) (fun h => ?_) <;> (try simp only [go_sem, reduceCtorEq] at h) <;> (try (exfalso; omega))))) | fail)) <;> (try omega)
    exact AV.up_nil2 _ _
  have W : MOK ts ps := ⟨hts, hps, check_right h0, hp, hg⟩
  rw [h0] at hck
  rw [someF, if_neg (by omega)]
  generalize (checkF ts rs).2 = C2 at *
  by_cases h1 : t < 0
  · have e1 : (t < 0) = True := eq_true h1
    rw [if_pos (.inl h1)]
    (repeat' (first
    | exact trivial
    | (with_reducible first | refine awA ?_ | refine awB ?_ | refine awC ?_ | refine awD ?_ | refine awE ?_ | refine awF ?_ | refine awG ?_ | refine awH ?_ | refine awI ?_ | refine awJ ?_ | refine awK ?_ | refine awL ?_ | refine awM (by decide) ?_)
    | (refine aw_draw (id := 3) (t := (.node [0, 1, 2, 3] [])) (drR [8] [] []) mixed (by kernel_rfl) (by kernel_rfl) (fun _ _ h => h) ?_)
    | (refine at_done (by simp only [List.filterMap_cons, List.filterMap_nil, List.getElem?_toArray, List.getElem?_cons_zero, List.getElem?_cons_succ]; exact rfl) ?_) | (refine at_alt (by simp only [List.filterMap_cons, List.filterMap_nil, List.getElem?_toArray, List.getElem?_cons_zero, List.getElem?_cons_succ]; exact rfl) ?_) | refine qalt_normal ?_ | refine ats_cons ?_ ?_ | exact ats_nil
    | ((with_reducible first | refine awN (tyOf_ok _) [] ?_ | refine awO (tyOf_ok _) [] ?_ | refine awP (tyOf_ok _) [] ?_ | refine awQ ?_ | refine awR ?_ | refine awS ?_); intro r hr; simp only [go_sem, Nat.reduceBEq, Nat.reduceBneDiff, Nat.reduceLT, Nat.reduceLeDiff, Nat.reduceAdd, Nat.reduceMul, Nat.reduceSub, Nat.reduceEqDiff, reduceCtorEq, vSch, encTs_len, e1] at hr; subst hr; (first | refine caA (fun _ => hck) rfl ?_ ?_ ?_ | refine awV ?_ ?_ | refine awW ?_ ?_ | refine endK ?_ ?_ | (refine condK (fun h => ?_) (fun h => ?_) <;> (try simp only [go_sem, reduceCtorEq] at h) <;> (try (exfalso; omega))))) | fail)) <;> (try omega)
    exact AV.up_nil2 _ _
  have e1 : (t < 0) = False := eq_false h1
  by_cases h2 : (ts.length : Int) ≤ t
  · have e2 : ((ts.length : Int) ≤ t) = True := eq_true h2
    rw [if_pos (.inr h2)]
    (repeat' (first
    | exact trivial
    | (with_reducible first | refine awA ?_ | refine awB ?_ | refine awC ?_ | refine awD ?_ | refine awE ?_ | refine awF ?_ | refine awG ?_ | refine awH ?_ | refine awI ?_ | refine awJ ?_ | refine awK ?_ | refine awL ?_ | refine awM (by decide) ?_)
    | (refine aw_draw (id := 3) (t := (.node [0, 1, 2, 3] [])) (drR [8] [] []) mixed (by kernel_rfl) (by kernel_rfl) (fun _ _ h => h) ?_)
    | (refine at_done (by simp only [List.filterMap_cons, List.filterMap_nil, List.getElem?_toArray, List.getElem?_cons_zero, List.getElem?_cons_succ]; exact rfl) ?_) | (refine at_alt (by simp only [List.filterMap_cons, List.filterMap_nil, List.getElem?_toArray, List.getElem?_cons_zero, List.getElem?_cons_succ]; exact rfl) ?_) | refine qalt_normal ?_ | refine ats_cons ?_ ?_ | exact ats_nil
    | ((with_reducible first | refine awN (tyOf_ok _) [] ?_ | refine awO (tyOf_ok _) [] ?_ | refine awP (tyOf_ok _) [] ?_ | refine awQ ?_ | refine awR ?_ | refine awS ?_); intro r hr; simp only [go_sem, Nat.reduceBEq, Nat.reduceBneDiff, Nat.reduceLT, Nat.reduceLeDiff, Nat.reduceAdd, Nat.reduceMul, Nat.reduceSub, Nat.reduceEqDiff, reduceCtorEq, vSch, encTs_len, e1, e2] at hr; subst hr; (first | refine caA (fun _ => hck) rfl ?_ ?_ ?_ | refine awV ?_ ?_ | refine awW ?_ ?_ | refine endK ?_ ?_ | (refine condK (fun h => ?_) (fun h => ?_) <;> (try simp only [go_sem, reduceCtorEq] at h) <;> (try (exfalso; omega))))) | fail)) <;> (try omega)
    exact AV.up_nil2 _ _
  have e2 : ((ts.length : Int) ≤ t) = False := eq_false h2
  rw [if_neg (by omega)]
  have hw := some_any (rs := rs) W ts.length t.toNat (by omega) (by omega) [] (Nat.zero_le _)
  rw [Int.toNat_of_nonneg (by omega)] at hw
  simp only [List.nil_append, List.length_nil, Nat.zero_add] at hw
  change GCall _ _ _ _ _ (obM ts rs ps ((madeT ts ps t).flat.take 1048576) (decide (1048576 < (madeT ts ps t).flat.length))) at hw
  generalize (madeT ts ps t).flat = F at *
  have hnn : encNs [] = [] := rfl
  by_cases hb : 1048576 < F.length
  · have hd : decide (1048576 < F.length) = true := by simpa using hb
    rw [if_pos hb]
    rw [hd] at hw
    (repeat' (first
    | exact trivial
    | (refine aw_nilvar 29 3 72 3 8000 (cs := [_, _, _, .v (.slice none 0 0), _]) (.inl (by decide)) (by decide) rfl rfl ?_)
    | (with_reducible first | refine awA ?_ | refine awB ?_ | refine awC ?_ | refine awD ?_ | refine awE ?_ | refine awF ?_ | refine awG ?_ | refine awH ?_ | refine awI ?_ | refine awJ ?_ | refine awK ?_ | refine awL ?_ | refine awM (by decide) ?_)
    | (refine aw_draw (id := 3) (t := (.node [0, 1, 2, 3] [])) (drR [8] [] []) mixed (by kernel_rfl) (by kernel_rfl) (fun _ _ h => h) ?_)
    | (refine at_done (by simp only [List.filterMap_cons, List.filterMap_nil, List.getElem?_toArray, List.getElem?_cons_zero, List.getElem?_cons_succ]; exact rfl) ?_) | (refine at_alt (by simp only [List.filterMap_cons, List.filterMap_nil, List.getElem?_toArray, List.getElem?_cons_zero, List.getElem?_cons_succ]; exact rfl) ?_) | refine qalt_normal ?_ | refine ats_cons ?_ ?_ | exact ats_nil
    | ((with_reducible first | refine awN (tyOf_ok _) [] ?_ | refine awO (tyOf_ok _) [] ?_ | refine awP (tyOf_ok _) [] ?_ | refine awQ ?_ | refine awR ?_ | refine awS ?_); intro r hr; simp only [go_sem, Nat.reduceBEq, Nat.reduceBneDiff, Nat.reduceLT, Nat.reduceLeDiff, Nat.reduceAdd, Nat.reduceMul, Nat.reduceSub, Nat.reduceEqDiff, reduceCtorEq, AState.nilvar, List.set_cons_succ, List.set_cons_zero, vSch, encTs_len, e1, e2, hnn] at hr; subst hr; (first | refine caA (fun _ => hck) rfl ?_ ?_ ?_ | refine awV ?_ ?_ | refine awW ?_ ?_ | refine endK ?_ ?_ | (refine condK (fun h => ?_) (fun h => ?_) <;> (try simp only [go_sem, reduceCtorEq] at h) <;> (try (exfalso; omega)))))
    | (refine go_callGE [(29, 10000), (8000, 15000)] [(10000, 29), (15000, 8000)] [8000] [29] ?_; intro r hr; simp only [go_sem, Nat.reduceBEq, Nat.reduceBneDiff, Nat.reduceLT, Nat.reduceLeDiff, Nat.reduceAdd, Nat.reduceMul, Nat.reduceSub, Nat.reduceEqDiff, reduceCtorEq, AState.nilvar, List.set_cons_succ, List.set_cons_zero, vSch, encTs_len, e1, e2, hnn] at hr; subst hr; refine callGK (hw) rfl rfl (by first | exact .inl rfl | exact .inr rfl) ?_ (.inl rfl) ?_) | fail)) <;> (try omega)
    exact AV.up_nil2 _ _
  · have hd : decide (1048576 < F.length) = false := by simpa using hb
    have htk : F.take 1048576 = F := List.take_of_length_le (by omega)
    rw [if_neg hb]
    rw [hd, htk] at hw
    (repeat' (first
    | exact trivial
    | (refine aw_nilvar 29 3 72 3 8000 (cs := [_, _, _, .v (.slice none 0 0), _]) (.inl (by decide)) (by decide) rfl rfl ?_)
    | (with_reducible first | refine awA ?_ | refine awB ?_ | refine awC ?_ | refine awD ?_ | refine awE ?_ | refine awF ?_ | refine awG ?_ | refine awH ?_ | refine awI ?_ | refine awJ ?_ | refine awK ?_ | refine awL ?_ | refine awM (by decide) ?_)
    | (refine aw_draw (id := 3) (t := (.node [0, 1, 2, 3] [])) (drR [8] [] []) mixed (by kernel_rfl) (by kernel_rfl) (fun _ _ h => h) ?_)
    | (refine at_done (by simp only [List.filterMap_cons, List.filterMap_nil, List.getElem?_toArray, List.getElem?_cons_zero, List.getElem?_cons_succ]; exact rfl) ?_) | (refine at_alt (by simp only [List.filterMap_cons, List.filterMap_nil, List.getElem?_toArray, List.getElem?_cons_zero, List.getElem?_cons_succ]; exact rfl) ?_) | refine qalt_normal ?_ | refine ats_cons ?_ ?_ | exact ats_nil
    | ((with_reducible first | refine awN (tyOf_ok _) [] ?_ | refine awO (tyOf_ok _) [] ?_ | refine awP (tyOf_ok _) [] ?_ | refine awQ ?_ | refine awR ?_ | refine awS ?_); intro r hr; simp only [go_sem, Nat.reduceBEq, Nat.reduceBneDiff, Nat.reduceLT, Nat.reduceLeDiff, Nat.reduceAdd, Nat.reduceMul, Nat.reduceSub, Nat.reduceEqDiff, reduceCtorEq, AState.nilvar, List.set_cons_succ, List.set_cons_zero, vSch, encTs_len, e1, e2, hnn] at hr; subst hr; (first | refine caA (fun _ => hck) rfl ?_ ?_ ?_ | refine awV ?_ ?_ | refine awW ?_ ?_ | refine endK ?_ ?_ | (refine condK (fun h => ?_) (fun h => ?_) <;> (try simp only [go_sem, reduceCtorEq] at h) <;> (try (exfalso; omega)))))
    | (refine go_callGE [(29, 10000), (8000, 15000)] [(10000, 29), (15000, 8000)] [8000] [29] ?_; intro r hr; simp only [go_sem, Nat.reduceBEq, Nat.reduceBneDiff, Nat.reduceLT, Nat.reduceLeDiff, Nat.reduceAdd, Nat.reduceMul, Nat.reduceSub, Nat.reduceEqDiff, reduceCtorEq, AState.nilvar, List.set_cons_succ, List.set_cons_zero, vSch, encTs_len, e1, e2, hnn] at hr; subst hr; refine callGK (hw) rfl rfl (by first | exact .inl rfl | exact .inr rfl) ?_ (.inl rfl) ?_) | fail)) <;> (try omega)
    rw [take_len (by rw [encNs_len]; exact Nat.le_refl _)]
    exact AV.up_rfl _
end Go.Proofs.Ytfgacgpicfknpaa
end
section
namespace Go.Proofs.Ytfgacgpicfknpaa
open Go.RowKit
/-! Trees that are of a type. -/
def Tr.typed (ts : List TypeM) : Tr → Nat → Prop
  | .node x ks, t => t < ts.length ∧ fitsF (tyA ts t) x = 0 ∧ rightN x = true ∧ x.kids = ks.length ∧ typedL ts (tyA ts t) x.n ks 0
where typedL (ts : List TypeM) (T : TypeM) (n : Int) : List Tr → Nat → Prop
  | [], _ => True
  | c :: cs, k => c.typed ts (elemF T n k).toNat ∧ typedL ts T n cs (k + 1)
/-- each node's type -/
def Tr.types (ts : List TypeM) : Tr → Nat → List Int
  | .node x ks, t => (t : Int) :: typesL ts (tyA ts t) x.n ks 0
where typesL (ts : List TypeM) (T : TypeM) (n : Int) : List Tr → Nat → List Int
  | [], _ => []
  | c :: cs, k => c.types ts (elemF T n k).toNat ++ typesL ts T n cs (k + 1)
theorem typed_ok {ts : List TypeM} : ∀ (n : Nat) (c : Tr), c.flat.length ≤ n → ∀ t, c.typed ts t → c.ok
  | 0, c, h => absurd (flat_pos c) (by omega)
  | n + 1, .node x ks, h => fun t ⟨_, _, h3, h4, h5⟩ => by
    simp only [Tr.flat, List.length_cons] at h
    refine ⟨h3, h4, ?_⟩
    have hL : ∀ (l : List Tr), (∀ c ∈ l, c.flat.length ≤ n) → ∀ (T : TypeM) (m : Int) (k : Nat), Tr.typed.typedL ts T m l k → Tr.ok.okL l := by
      intro l
      induction l with
      | nil => intro _ _ _ _ _; trivial
      | cons c cs ih => exact fun hc T m k ⟨g1, g2⟩ => ⟨typed_ok n c (hc c (.head _)) _ g1, ih (fun d hd => hc d (.tail _ hd)) T m (k + 1) g2⟩
    exact hL ks (fun c hc => by have := flatL_mem hc; omega) _ _ _ h5
/-- a tree of the type: no fault, each node's type -/
theorem typed_walk {ts : List TypeM} : ∀ (n : Nat) (c : Tr), c.flat.length ≤ n → ∀ t, c.typed ts t → ∀ (p : Int) (out : List Int), c.walk ts t p out = (out ++ c.types ts t, p + c.flat.length, 0, 0)
  | 0, c, h => absurd (flat_pos c) (by omega)
  | n + 1, .node x ks, h => fun t ⟨h1, h2, h3, h4, h5⟩ p out => by
    simp only [Tr.flat, List.length_cons] at h
    have hL : ∀ (l : List Tr), (∀ c ∈ l, c.flat.length ≤ n) → ∀ (T : TypeM) (m : Int) (k : Nat), Tr.typed.typedL ts T m l k → ∀ (p : Int) (out : List Int), Tr.walk.walkL ts T m l k p out = (out ++ Tr.types.typesL ts T m l k, p + (Tr.flat.flatL l).length, 0, 0) := by
      intro l
      induction l with
      | nil => intro _ _ _ _ _ p out; simp [Tr.walk.walkL, Tr.types.typesL, Tr.flat.flatL]
      | cons c cs ih =>
        intro hc T m k ⟨g1, g2⟩ p out
        have e1 := typed_walk n c (hc c (.head _)) _ g1 p out
        rw [Tr.walk.walkL, e1, if_neg (by simp), ih (fun d hd => hc d (.tail _ hd)) T m (k + 1) g2]
        simp [Tr.types.typesL, Tr.flat.flatL, Int.add_assoc]
    rw [Tr.walk, if_neg (by omega), hL ks (fun c hc => by have := flatL_mem hc; omega) _ _ _ h5]
    simp [Tr.types, Tr.flat, Int.add_assoc, Int.add_comm]
theorem types_len {ts : List TypeM} : ∀ (n : Nat) (c : Tr), c.flat.length ≤ n → ∀ t, (c.types ts t).length = c.flat.length
  | 0, c, h => absurd (flat_pos c) (by omega)
  | n + 1, .node x ks, h => fun t => by
    simp only [Tr.flat, List.length_cons] at h
    have hL : ∀ (l : List Tr), (∀ c ∈ l, c.flat.length ≤ n) → ∀ (T : TypeM) (m : Int) (k : Nat), (Tr.types.typesL ts T m l k).length = (Tr.flat.flatL l).length := by
      intro l
      induction l with
      | nil => intro _ _ _ _; rfl
      | cons c cs ih => intro hc T m k; simp only [Tr.types.typesL, Tr.flat.flatL, List.length_append, types_len n c (hc c (.head _)), ih (fun d hd => hc d (.tail _ hd))]
    simp only [Tr.types, Tr.flat, List.length_cons, hL ks (fun c hc => by have := flatL_mem hc; omega)]
/-- what picks lead to is of the type -/
theorem mkT_typed {ts : List TypeM} {ps : List Int} (hr : ∀ (k : Nat) (h : k < ts.length), rightOK ts[k] k = true) : ∀ (f t : Nat), t < f → t < ts.length → ∀ pos, (mkT ts ps f t pos).typed ts t
  | 0, _, h, _ => absurd h (Nat.not_lt_zero _)
  | f + 1, t, hf, ht => fun pos => by
    have hrt := hr t ht
    obtain ⟨_, hxr, hxf⟩ := pick_ok hrt (pickAt_bd ps pos)
    rw [mkT, tyA_lt ht]
    generalize pickN ts[t] (pickAt ps pos) = x at *
    have hxk := rightN_kids hxr
    have hL : ∀ (m k : Nat), (k : Int) + m ≤ x.kids → ∀ pos, Tr.typed.typedL ts ts[t] x.n (mkL ts[t] x (mkT ts ps f) m k pos) k ∧ (mkL ts[t] x (mkT ts ps f) m k pos).length = m := by
      intro m
      induction m with
      | zero => intro k _ pos; exact ⟨trivial, rfl⟩
      | succ m ih =>
        intro k hk pos
        obtain ⟨he, _⟩ := elem_ok hrt hxr hxf (i := k) (by omega)
        obtain ⟨g1, g2⟩ := ih (k + 1) (by omega) (pos + (mkT ts ps f (elemF ts[t] x.n k).toNat pos).flat.length)
        exact ⟨⟨mkT_typed hr f _ (by omega) (by omega) pos, g1⟩, by simp only [mkL, List.length_cons, g2]⟩
    obtain ⟨g1, g2⟩ := hL x.kids.toNat 0 (by omega) (pos + 1)
    exact ⟨ht, by rw [tyA_lt ht]; exact hxf, hxr, by rw [g2]; omega, by rw [tyA_lt ht]; exact g1⟩
/-- each node may be -/
theorem mkT_node {ts : List TypeM} {ps : List Int} (hr : ∀ (k : Nat) (h : k < ts.length), rightOK ts[k] k = true) : ∀ (f t : Nat), t < f → t < ts.length → ∀ pos, ∀ x ∈ (mkT ts ps f t pos).flat, nodeOK x
  | 0, _, h, _ => absurd h (Nat.not_lt_zero _)
  | f + 1, t, hf, ht => fun pos => by
    have hrt := hr t ht
    obtain ⟨hxo, hxr, hxf⟩ := pick_ok hrt (pickAt_bd ps pos)
    rw [mkT, tyA_lt ht]
    generalize pickN ts[t] (pickAt ps pos) = x at *
    have hxk := rightN_kids hxr
    have hL : ∀ (m k : Nat), (k : Int) + m ≤ x.kids → ∀ pos, ∀ y ∈ Tr.flat.flatL (mkL ts[t] x (mkT ts ps f) m k pos), nodeOK y := by
      intro m
      induction m with
      | zero => intro k _ pos y hy; cases hy
      | succ m ih =>
        intro k hk pos y hy
        obtain ⟨he, _⟩ := elem_ok hrt hxr hxf (i := k) (by omega)
        simp only [mkL, Tr.flat.flatL, List.mem_append] at hy
        rcases hy with hy | hy
        · exact mkT_node hr f _ (by omega) (by omega) pos y hy
        · exact ih (k + 1) (by omega) _ y hy
    intro y hy
    simp only [Tr.flat, List.mem_cons] at hy
    rcases hy with rfl | hy
    · exact hxo
    · exact hL x.kids.toNat 0 (by omega) (pos + 1) y hy
end Go.Proofs.Ytfgacgpicfknpaa
end
section
namespace Go.Proofs.Ytfgacgpicfknpaa
open Go.RowKit
/-! Sizes: what is greater of what is greater. -/
theorem plus2 {a b : Int} (ha : 0 ≤ a ∧ a ≤ 4611686018427387904) (hb : 0 ≤ b ∧ b ≤ 4611686018427387904) : plusL [a, b] = min (a + b) 4611686018427387904 := by
  simp only [plusL, List.foldl, addS, sz]; omega
theorem withinM_ge {f : Bool} {b : Int} (h : 0 ≤ b ∧ b ≤ 4611686018427387904) : b ≤ withinM f b := by
  unfold withinM
  split
  · exact Int.le_refl _
  · rw [plus2 (by omega) h]; omega
theorem withinM_mono {f : Bool} {a b : Int} (ha : 0 ≤ a ∧ a ≤ 4611686018427387904) (hb : 0 ≤ b ∧ b ≤ 4611686018427387904) (h : a ≤ b) : withinM f a ≤ withinM f b := by
  unfold withinM
  split
  · exact h
  · rw [plus2 (by omega) ha, plus2 (by omega) hb]; omega
theorem sz_mono {a b : Int} (h : a ≤ b) : sz a ≤ sz b := by unfold sz; omega
theorem timesS_mono {a b c d : Int} (h1 : a ≤ b) (h2 : c ≤ d) : timesS a c ≤ timesS b d := by
  have h : sz a * sz c ≤ sz b * sz d := Int.mul_le_mul (sz_mono h1) (sz_mono h2) (sz_lo c) (sz_lo b)
  unfold timesS; omega
def extG (e : ExtM) : Prop := 0 ≤ e.least ∧ e.least ≤ e.most ∧ e.most ≤ 4611686018427387904 ∧ 1 ≤ e.depth
theorem uni_good {L : List ExtM} : ∀ (l : List PartM) (x : Int × Int × Int), (∀ p ∈ l, extG (atE L p.ty)) → 0 ≤ x.1 ∧ x.1 ≤ 4611686018427387904 → 0 ≤ x.2.1 ∧ x.2.1 ≤ 4611686018427387904 →
    ((uni L l x).1 ≤ x.1 ∧ x.2.1 ≤ (uni L l x).2.1 ∧ x.2.2 ≤ (uni L l x).2.2 ∧ 0 ≤ (uni L l x).1 ∧ (uni L l x).2.1 ≤ 4611686018427387904) ∧ ∀ p ∈ l, (uni L l x).1 ≤ (atE L p.ty).least ∧ plusL [1, (atE L p.ty).most] ≤ (uni L l x).2.1 ∧ 1 + (atE L p.ty).depth ≤ (uni L l x).2.2
  | [], x, _, h1, h2 => ⟨⟨Int.le_refl _, Int.le_refl _, Int.le_refl _, h1.1, h2.2⟩, fun p hp => by cases hp⟩
  | q :: l, x, h, h1, h2 => by
    have hq := h q (.head _)
    have hpl := plusL_bd [1, (atE L q.ty).most]
    unfold extG at hq
    have ih := uni_good l (min x.1 (atE L q.ty).least, max x.2.1 (plusL [1, (atE L q.ty).most]), max x.2.2 (1 + (atE L q.ty).depth)) (fun p hp => h p (.tail _ hp)) ⟨by simp only; omega, by simp only; omega⟩ ⟨by simp only; omega, by simp only; omega⟩
    have hu : uni L (q :: l) x = uni L l (min x.1 (atE L q.ty).least, max x.2.1 (plusL [1, (atE L q.ty).most]), max x.2.2 (1 + (atE L q.ty).depth)) := rfl
    rw [hu]
    obtain ⟨⟨g1, g2, g3, g4, g5⟩, g6⟩ := ih
    simp only at g1 g2 g3
    refine ⟨⟨by omega, by omega, by omega, g4, g5⟩, fun p hp => ?_⟩
    rcases List.mem_cons.1 hp with rfl | hp
    · exact ⟨by omega, by omega, by omega⟩
    · exact g6 p hp
def stepS (L : List ExtM) (x : ExtM) (p : PartM) : ExtM := ⟨x.fixed && (atE L p.ty).fixed, plusL [x.least, withinM (atE L p.ty).fixed (atE L p.ty).least], plusL [x.most, withinM (atE L p.ty).fixed (atE L p.ty).most], max x.depth (1 + (atE L p.ty).depth)⟩
theorem str_snoc (L : List ExtM) (l : List PartM) (p : PartM) (x : ExtM) : str L (l ++ [p]) x = stepS L (str L l x) p := by
  rw [str, List.foldl_append]; rfl
theorem step_ge {L : List ExtM} {x : ExtM} {p : PartM} (h : extG (atE L p.ty)) (h1 : 0 ≤ x.least ∧ x.least ≤ x.most ∧ x.most ≤ 4611686018427387904) :
    (0 ≤ (stepS L x p).least ∧ (stepS L x p).least ≤ (stepS L x p).most ∧ (stepS L x p).most ≤ 4611686018427387904) ∧ x.least ≤ (stepS L x p).least ∧ x.most ≤ (stepS L x p).most ∧ x.depth ≤ (stepS L x p).depth ∧ ((stepS L x p).fixed = true → x.fixed = true) ∧
    (atE L p.ty).most ≤ (stepS L x p).most ∧ (atE L p.ty).depth < (stepS L x p).depth ∧ ((stepS L x p).fixed = true → (atE L p.ty).fixed = true) := by
  unfold extG at h
  have a1 := withinM_bd (f := (atE L p.ty).fixed) (b := (atE L p.ty).least) (by omega)
  have a2 := withinM_bd (f := (atE L p.ty).fixed) (b := (atE L p.ty).most) (by omega)
  have a3 := withinM_mono (f := (atE L p.ty).fixed) (a := (atE L p.ty).least) (b := (atE L p.ty).most) (by omega) (by omega) h.2.1
  have a4 := withinM_ge (f := (atE L p.ty).fixed) (b := (atE L p.ty).most) (by omega)
  have a5 := plus2 (a := x.least) (b := withinM (atE L p.ty).fixed (atE L p.ty).least) (by omega) a1
  have a6 := plus2 (a := x.most) (b := withinM (atE L p.ty).fixed (atE L p.ty).most) (by omega) a2
  simp only [stepS]
  rw [a5, a6]
  refine ⟨⟨by omega, by omega, by omega⟩, by omega, by omega, by omega, fun h => ?_, by omega, by omega, fun h => ?_⟩
  · rw [Bool.and_eq_true] at h; exact h.1
  · rw [Bool.and_eq_true] at h; exact h.2
theorem str_good {L : List ExtM} : ∀ (l : List PartM) (x : ExtM), (∀ p ∈ l, extG (atE L p.ty)) → 0 ≤ x.least ∧ x.least ≤ x.most ∧ x.most ≤ 4611686018427387904 →
    (0 ≤ (str L l x).least ∧ (str L l x).least ≤ (str L l x).most ∧ (str L l x).most ≤ 4611686018427387904) ∧ x.least ≤ (str L l x).least ∧ x.most ≤ (str L l x).most ∧ x.depth ≤ (str L l x).depth ∧ ((str L l x).fixed = true → x.fixed = true) ∧
    ∀ p ∈ l, (atE L p.ty).most ≤ (str L l x).most ∧ (atE L p.ty).depth < (str L l x).depth ∧ ((str L l x).fixed = true → (atE L p.ty).fixed = true)
  | [], x, _, h1 => ⟨h1, Int.le_refl _, Int.le_refl _, Int.le_refl _, id, fun p hp => by cases hp⟩
  | q :: l, x, h, h1 => by
    obtain ⟨s1, s2, s3, s4, s5, s6, s7, s8⟩ := step_ge (h q (.head _)) h1
    obtain ⟨g1, g2, g3, g4, g5, g6⟩ := str_good l (stepS L x q) (fun p hp => h p (.tail _ hp)) s1
    have hu : str L (q :: l) x = str L l (stepS L x q) := rfl
    rw [hu]
    refine ⟨g1, by omega, by omega, by omega, fun h => s5 (g5 h), fun p hp => ?_⟩
    rcases List.mem_cons.1 hp with rfl | hp
    · exact ⟨by omega, by omega, fun h => s8 (g5 h)⟩
    · exact g6 p hp
theorem extM_good {t : TypeM} {L : List ExtM} (hr : rightOK t L.length = true) (hL : ∀ e ∈ L, extG e) :
    extG (extM t L) ∧ ∀ p ∈ t.parts, (atE L p.ty).most ≤ (extM t L).most ∧ (atE L p.ty).depth < (extM t L).depth ∧ ((extM t L).fixed = true → (atE L p.ty).fixed = true) := by
  have hty := rightOK_ty hr
  have hat : ∀ i : Int, 0 ≤ i → i < L.length → extG (atE L i) := fun i h0 h1 => by
    have hlt : i.toNat < L.length := by omega
    rw [atE, List.getElem?_eq_getElem hlt]
    exact hL _ (List.getElem_mem hlt)
  have hpe : t.kind ≠ 7 → t.kind ≠ 8 → t.parts = [] := fun h7 h8 => by
    rw [rightOK, Bool.and_eq_true] at hr
    have := hr.2
    split at this
    · simp only [Bool.and_eq_true, decide_eq_true_eq] at this
      exact List.eq_nil_of_length_eq_zero (by omega)
    · split at this
      · simp only [Bool.and_eq_true, decide_eq_true_eq] at this
        exact List.eq_nil_of_length_eq_zero (by omega)
      · split at this
        · omega
        · cases this
  have hno : t.kind ≠ 7 → t.kind ≠ 8 → ∀ q : PartM → Prop, ∀ p ∈ t.parts, q p := fun h7 h8 q p hp => by rw [hpe h7 h8] at hp; cases hp
  rcases rightOK_kind hr with hk | hk | hk
  · rcases hk with hk | hk | hk
    · have := right_1 hr hk
      unfold extM
      rw [if_pos hk]
      exact ⟨⟨by simp only; omega, Int.le_refl _, by simp only; omega, by simp⟩, hno (by omega) (by omega) _⟩
    · unfold extM
      rw [if_neg (by omega), if_pos hk]
      exact ⟨⟨by decide, by decide, by decide, by decide⟩, hno (by omega) (by omega) _⟩
    · unfold extM
      rw [if_neg (by omega), if_neg (by omega), if_pos hk]
      exact ⟨⟨by decide, by decide, by decide, by decide⟩, hno (by omega) (by omega) _⟩
  · have hn := rightOK_n hr hk
    have he := hat t.elem (hty.1 hk).1 (hty.1 hk).2
    unfold extG at he
    rcases hk with hk | hk | hk
    · unfold extM
      rw [if_neg (by omega), if_neg (by omega), if_neg (by omega), if_pos hk]
      exact ⟨⟨(timesS_bd _ _).1, timesS_mono (Int.le_refl _) (withinM_mono (by omega) (by omega) he.2.1), (timesS_bd _ _).2, by simp only; omega⟩, hno (by omega) (by omega) _⟩
    · unfold extM
      rw [if_neg (by omega), if_neg (by omega), if_neg (by omega), if_neg (by omega), if_pos hk]
      exact ⟨⟨Int.le_refl _, (timesS_bd _ _).1, (timesS_bd _ _).2, by simp only; omega⟩, hno (by omega) (by omega) _⟩
    · unfold extM
      rw [if_neg (by omega), if_neg (by omega), if_neg (by omega), if_neg (by omega), if_neg (by omega), if_pos hk]
      have := plus2 (a := 1) (b := (atE L t.elem).most) (by omega) (by omega)
      exact ⟨⟨by simp only; omega, by simp only; omega, (plusL_bd _).2, by simp only; omega⟩, hno (by omega) (by omega) _⟩
  · have hp := right_parts hr hk
    have hps : ∀ p ∈ t.parts, extG (atE L p.ty) := fun p hp => hat _ (hty.2 p hp).1 (hty.2 p hp).2
    rcases hk with hk | hk
    · unfold extM
      rw [if_neg (by omega), if_neg (by omega), if_neg (by omega), if_neg (by omega), if_neg (by omega), if_neg (by omega), if_pos hk]
      obtain ⟨⟨g1, g2, g3, g4, g5⟩, g6⟩ := uni_good t.parts (4611686018427387904, 0, 1) hps (by decide) (by decide)
      simp only at g1 g2 g3 ⊢
      obtain ⟨q, hq⟩ : ∃ q, q ∈ t.parts := ⟨t.parts[0]'(by omega), List.getElem_mem _⟩
      have hq1 := g6 q hq
      have hq2 := hps q hq
      unfold extG at hq2
      have a1 := plus2 (a := 1) (b := (uni L t.parts (4611686018427387904, 0, 1)).1) (by omega) (by omega)
      have a2 := plus2 (a := 1) (b := (atE L q.ty).most) (by omega) (by omega)
      refine ⟨⟨(plusL_bd _).1, by simp only; omega, g5, by simp only; omega⟩, fun p hp => ?_⟩
      have hp1 := g6 p hp
      have hp2 := hps p hp
      unfold extG at hp2
      have a3 := plus2 (a := 1) (b := (atE L p.ty).most) (by omega) (by omega)
      exact ⟨by omega, by omega, fun h => by cases h⟩
    · unfold extM
      rw [if_neg (by omega), if_neg (by omega), if_neg (by omega), if_neg (by omega), if_neg (by omega), if_neg (by omega), if_neg (by omega)]
      obtain ⟨⟨g1, g2, g3⟩, _, _, g4, _, g6⟩ := str_good t.parts ⟨true, 0, 0, 1⟩ hps (by decide)
      exact ⟨⟨g1, g2, g3, g4⟩, g6⟩
/-- a greater number, a part more -/
theorem more_n {t : TypeM} {L : List ExtM} (hk : t.kind = 4 ∨ t.kind = 5) {n : Int} (hn : t.n ≤ n) :
    (extM t L).most ≤ (extM ⟨t.kind, n, t.elem, t.parts⟩ L).most ∧ (extM t L).least ≤ (extM ⟨t.kind, n, t.elem, t.parts⟩ L).least ∧ ((extM ⟨t.kind, n, t.elem, t.parts⟩ L).fixed = true → (extM t L).fixed = true) := by
  unfold extM
  rcases hk with hk | hk
  · simp only [hk]
    exact ⟨timesS_mono hn (Int.le_refl _), timesS_mono hn (Int.le_refl _), id⟩
  · simp only [hk]
    exact ⟨timesS_mono hn (Int.le_refl _), Int.le_refl _, id⟩
theorem more_p {t : TypeM} {L : List ExtM} (hk : t.kind = 8) {p : PartM} (hps : ∀ q ∈ t.parts, extG (atE L q.ty)) (hp : extG (atE L p.ty)) :
    (extM t L).most ≤ (extM ⟨t.kind, t.n, t.elem, t.parts ++ [p]⟩ L).most ∧ (extM t L).least ≤ (extM ⟨t.kind, t.n, t.elem, t.parts ++ [p]⟩ L).least ∧ ((extM ⟨t.kind, t.n, t.elem, t.parts ++ [p]⟩ L).fixed = true → (extM t L).fixed = true) := by
  have e1 : extM t L = str L t.parts ⟨true, 0, 0, 1⟩ := by unfold extM; simp only [hk]; rfl
  have e2 : extM ⟨t.kind, t.n, t.elem, t.parts ++ [p]⟩ L = stepS L (str L t.parts ⟨true, 0, 0, 1⟩) p := by unfold extM; simp only [hk]; exact str_snoc _ _ _ _
  rw [e1, e2]
  obtain ⟨g1, _⟩ := str_good t.parts ⟨true, 0, 0, 1⟩ hps (by decide)
  obtain ⟨_, s2, s3, _, s5, _⟩ := step_ge hp g1
  exact ⟨s3, s2, s5⟩
end Go.Proofs.Ytfgacgpicfknpaa
end
section
namespace Go.Proofs.Ytfgacgpicfknpaa
open Go.RowKit
theorem exts_take' (ts : List TypeM) : ∀ k, k ≤ ts.length → (exts ts).take k = exts (ts.take k) := by
  have h : ∀ (l m : List TypeM), ∃ r, exts (l ++ m) = exts l ++ r := by
    intro l m
    induction m generalizing l with
    | nil => exact ⟨[], by simp⟩
    | cons x m ih =>
      obtain ⟨r, hr⟩ := ih (l ++ [x])
      have h1 : exts (l ++ [x]) = exts l ++ [extM x (exts l)] := by rw [exts, List.foldl_append]; rfl
      exact ⟨extM x (exts l) :: r, by rw [show l ++ x :: m = (l ++ [x]) ++ m by simp, hr, h1]; simp⟩
  intro k hk
  obtain ⟨r, hr⟩ := h (ts.take k) (ts.drop k)
  rw [List.take_append_drop] at hr
  have hl := exts_len ts k hk
  rw [hr, List.take_append_of_le_length (by omega), List.take_of_length_le (by omega)]
theorem exts_length (ts : List TypeM) : (exts ts).length = ts.length := by
  have := exts_len ts ts.length (Nat.le_refl _)
  rwa [List.take_length] at this
theorem exts_at {ts : List TypeM} {k : Nat} (h : k < ts.length) : (exts ts)[k]'(by rw [exts_length]; exact h) = extM ts[k] (exts (ts.take k)) := by
  have h1 := exts_succ h
  have h2 := exts_take' ts (k + 1) h
  have hl := exts_len ts k (by omega)
  have h3 : (exts ts)[k]? = some (extM ts[k] (exts (ts.take k))) := by
    rw [← List.getElem?_take_of_lt (show k < k + 1 by omega), h2, h1, List.getElem?_append_right (by omega), hl]
    simp
  rw [List.getElem?_eq_getElem (by rw [exts_length]; exact h)] at h3
  exact Option.some.inj h3
theorem exts_good {ts : List TypeM} (hr : ∀ (k : Nat) (h : k < ts.length), rightOK ts[k] k = true) : ∀ k, k ≤ ts.length → ∀ e ∈ exts (ts.take k), extG e
  | 0, _ => fun e he => by cases he
  | k + 1, hk => fun e he => by
    have ih := exts_good hr k (by omega)
    rw [exts_succ (by omega)] at he
    rcases List.mem_append.1 he with he | he
    · exact ih e he
    · rw [List.mem_singleton] at he
      subst he
      exact (extM_good (by rw [exts_len ts k (by omega)]; exact hr k (by omega)) ih).1
theorem atE_front {ts : List TypeM} {k : Nat} (hk : k ≤ ts.length) {i : Int} (h0 : 0 ≤ i) (h1 : i < k) : atE (exts (ts.take k)) i = atE (exts ts) i := by
  rw [← exts_take' ts k hk, atE, atE, List.getElem?_take_of_lt (by omega)]
theorem atE_get {L : List ExtM} {i : Int} (h1 : i.toNat < L.length) : atE L i = L[i.toNat] := by
  rw [atE, List.getElem?_eq_getElem h1]; rfl
/-- what is said of each extent -/
theorem exts_said {ts : List TypeM} (hr : ∀ (k : Nat) (h : k < ts.length), rightOK ts[k] k = true) {k : Nat} (hk : k < ts.length) :
    extG ((exts ts)[k]'(by rw [exts_length]; exact hk)) ∧ ∀ p ∈ ts[k].parts, (0 ≤ p.ty ∧ p.ty < k) ∧ (atE (exts ts) p.ty).most ≤ ((exts ts)[k]'(by rw [exts_length]; exact hk)).most ∧
      (atE (exts ts) p.ty).depth < ((exts ts)[k]'(by rw [exts_length]; exact hk)).depth ∧ (((exts ts)[k]'(by rw [exts_length]; exact hk)).fixed = true → (atE (exts ts) p.ty).fixed = true) := by
  rw [exts_at hk]
  obtain ⟨g1, g2⟩ := extM_good (t := ts[k]) (L := exts (ts.take k)) (by rw [exts_len ts k (by omega)]; exact hr k hk) (exts_good hr k (by omega))
  refine ⟨g1, fun p hp => ?_⟩
  have ht := (rightOK_ty (hr k hk)).2 p hp
  rw [← atE_front (by omega : k ≤ ts.length) ht.1 ht.2]
  exact ⟨ht, g2 p hp⟩
theorem atE_nat {L : List ExtM} {k : Nat} (h : k < L.length) : atE L (k : Int) = L[k] := by
  rw [atE, Int.toNat_natCast, List.getElem?_eq_getElem h]; rfl
theorem exts_told {ts : List TypeM} (hr : ∀ (k : Nat) (h : k < ts.length), rightOK ts[k] k = true) {k : Nat} (hk : k < ts.length) :
    extG (atE (exts ts) k) ∧ ∀ p ∈ ts[k].parts, (0 ≤ p.ty ∧ p.ty < k) ∧ (atE (exts ts) p.ty).most ≤ (atE (exts ts) k).most ∧
      (atE (exts ts) p.ty).depth < (atE (exts ts) k).depth ∧ ((atE (exts ts) k).fixed = true → (atE (exts ts) p.ty).fixed = true) := by
  rw [atE_nat (by rw [exts_length]; exact hk)]; exact exts_said hr hk
theorem encEs_at {L : List ExtM} {k : Nat} (h : k < L.length) : (encEs L)[k]? = some [vB (atE L k).fixed, vI (atE L k).least, vI (atE L k).most, vI (atE L k).depth] := by
  rw [encEs_get h, atE_nat h]
theorem encEs_atI {L : List ExtM} {i : Int} (h0 : 0 ≤ i) (h : i < L.length) : (encEs L)[i.toNat]? = some [vB (atE L i).fixed, vI (atE L i).least, vI (atE L i).most, vI (atE L i).depth] := by
  rw [encEs_at (by omega), Int.toNat_of_nonneg h0]
theorem exts_set {ts : List TypeM} {k : Nat} (h : k < ts.length) (y : TypeM) : (exts (ts.set k y))[k]'(by rw [exts_length, List.length_set]; exact h) = extM y (exts (ts.take k)) := by
  rw [exts_at (by rw [List.length_set]; exact h), List.getElem_set_self, List.take_set_of_le (Nat.le_refl _)]
end Go.Proofs.Ytfgacgpicfknpaa
end

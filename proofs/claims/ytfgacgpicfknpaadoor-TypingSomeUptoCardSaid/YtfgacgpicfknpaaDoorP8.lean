import Derived.Test.YtfgacgpicfknpaaDoorP7
set_option linter.all false
section
namespace Go.Proofs.YtfgacgpicfknpaaDoor
open Go.RowKit
/-! Trees that are of a type. -/
def Tr.typed (ts : List TypeM) : Tr → Nat → Prop
  | .node x ks, t => t < ts.length ∧ fitsF (tyA ts t) x = 0 ∧ rightN x = true ∧ x.kids = ks.length ∧ typedL ts (tyA ts t) x.n ks 0
where typedL (ts : List TypeM) (T : TypeM) (n : Int) : List Tr → Nat → Prop
  | [], _ => True
  | c :: cs, k => c.typed ts (elemF T n k).toNat ∧ typedL ts T n cs (k + 1)
/-- each node's type -/
def Tr.types (ts : List TypeM) : Tr → Nat → List Int
  | .node x ks, t => (t : Int) :: typesL ts (tyA ts t) x.n ks 0
where typesL (ts : List TypeM) (T : TypeM) (n : Int) : List Tr → Nat → List Int
  | [], _ => []
  | c :: cs, k => c.types ts (elemF T n k).toNat ++ typesL ts T n cs (k + 1)
theorem typed_ok {ts : List TypeM} : ∀ (n : Nat) (c : Tr), c.flat.length ≤ n → ∀ t, c.typed ts t → c.ok
  | 0, c, h => absurd (flat_pos c) (by omega)
  | n + 1, .node x ks, h => fun t ⟨_, _, h3, h4, h5⟩ => by
    simp only [Tr.flat, List.length_cons] at h
    refine ⟨h3, h4, ?_⟩
    have hL : ∀ (l : List Tr), (∀ c ∈ l, c.flat.length ≤ n) → ∀ (T : TypeM) (m : Int) (k : Nat), Tr.typed.typedL ts T m l k → Tr.ok.okL l := by
      intro l
      induction l with
      | nil => intro _ _ _ _ _; trivial
      | cons c cs ih => exact fun hc T m k ⟨g1, g2⟩ => ⟨typed_ok n c (hc c (.head _)) _ g1, ih (fun d hd => hc d (.tail _ hd)) T m (k + 1) g2⟩
    exact hL ks (fun c hc => by have := flatL_mem hc; omega) _ _ _ h5
/-- a tree of the type: no fault, each node's type -/
theorem typed_walk {ts : List TypeM} : ∀ (n : Nat) (c : Tr), c.flat.length ≤ n → ∀ t, c.typed ts t → ∀ (p : Int) (out : List Int), c.walk ts t p out = (out ++ c.types ts t, p + c.flat.length, 0, 0)
  | 0, c, h => absurd (flat_pos c) (by omega)
  | n + 1, .node x ks, h => fun t ⟨h1, h2, h3, h4, h5⟩ p out => by
    simp only [Tr.flat, List.length_cons] at h
    have hL : ∀ (l : List Tr), (∀ c ∈ l, c.flat.length ≤ n) → ∀ (T : TypeM) (m : Int) (k : Nat), Tr.typed.typedL ts T m l k → ∀ (p : Int) (out : List Int), Tr.walk.walkL ts T m l k p out = (out ++ Tr.types.typesL ts T m l k, p + (Tr.flat.flatL l).length, 0, 0) := by
      intro l
      induction l with
      | nil => intro _ _ _ _ _ p out; simp [Tr.walk.walkL, Tr.types.typesL, Tr.flat.flatL]
      | cons c cs ih =>
        intro hc T m k ⟨g1, g2⟩ p out
        have e1 := typed_walk n c (hc c (.head _)) _ g1 p out
        rw [Tr.walk.walkL, e1, if_neg (by simp), ih (fun d hd => hc d (.tail _ hd)) T m (k + 1) g2]
        simp [Tr.types.typesL, Tr.flat.flatL, Int.add_assoc]
    rw [Tr.walk, if_neg (by omega), hL ks (fun c hc => by have := flatL_mem hc; omega) _ _ _ h5]
    simp [Tr.types, Tr.flat, Int.add_assoc, Int.add_comm]
theorem types_len {ts : List TypeM} : ∀ (n : Nat) (c : Tr), c.flat.length ≤ n → ∀ t, (c.types ts t).length = c.flat.length
  | 0, c, h => absurd (flat_pos c) (by omega)
  | n + 1, .node x ks, h => fun t => by
    simp only [Tr.flat, List.length_cons] at h
    have hL : ∀ (l : List Tr), (∀ c ∈ l, c.flat.length ≤ n) → ∀ (T : TypeM) (m : Int) (k : Nat), (Tr.types.typesL ts T m l k).length = (Tr.flat.flatL l).length := by
      intro l
      induction l with
      | nil => intro _ _ _ _; rfl
      | cons c cs ih => intro hc T m k; simp only [Tr.types.typesL, Tr.flat.flatL, List.length_append, types_len n c (hc c (.head _)), ih (fun d hd => hc d (.tail _ hd))]
    simp only [Tr.types, Tr.flat, List.length_cons, hL ks (fun c hc => by have := flatL_mem hc; omega)]
/-- what picks lead to is of the type -/
theorem mkT_typed {ts : List TypeM} {ps : List Int} (hr : ∀ (k : Nat) (h : k < ts.length), rightOK ts[k] k = true) : ∀ (f t : Nat), t < f → t < ts.length → ∀ pos, (mkT ts ps f t pos).typed ts t
  | 0, _, h, _ => absurd h (Nat.not_lt_zero _)
  | f + 1, t, hf, ht => fun pos => by
    have hrt := hr t ht
    obtain ⟨_, hxr, hxf⟩ := pick_ok hrt (pickAt_bd ps pos)
    rw [mkT, tyA_lt ht]
    generalize pickN ts[t] (pickAt ps pos) = x at *
    have hxk := rightN_kids hxr
    have hL : ∀ (m k : Nat), (k : Int) + m ≤ x.kids → ∀ pos, Tr.typed.typedL ts ts[t] x.n (mkL ts[t] x (mkT ts ps f) m k pos) k ∧ (mkL ts[t] x (mkT ts ps f) m k pos).length = m := by
      intro m
      induction m with
      | zero => intro k _ pos; exact ⟨trivial, rfl⟩
      | succ m ih =>
        intro k hk pos
        obtain ⟨he, _⟩ := elem_ok hrt hxr hxf (i := k) (by omega)
        obtain ⟨g1, g2⟩ := ih (k + 1) (by omega) (pos + (mkT ts ps f (elemF ts[t] x.n k).toNat pos).flat.length)
        exact ⟨⟨mkT_typed hr f _ (by omega) (by omega) pos, g1⟩, by simp only [mkL, List.length_cons, g2]⟩
    obtain ⟨g1, g2⟩ := hL x.kids.toNat 0 (by omega) (pos + 1)
    exact ⟨ht, by rw [tyA_lt ht]; exact hxf, hxr, by rw [g2]; omega, by rw [tyA_lt ht]; exact g1⟩
/-- each node may be -/
theorem mkT_node {ts : List TypeM} {ps : List Int} (hr : ∀ (k : Nat) (h : k < ts.length), rightOK ts[k] k = true) : ∀ (f t : Nat), t < f → t < ts.length → ∀ pos, ∀ x ∈ (mkT ts ps f t pos).flat, nodeOK x
  | 0, _, h, _ => absurd h (Nat.not_lt_zero _)
  | f + 1, t, hf, ht => fun pos => by
    have hrt := hr t ht
    obtain ⟨hxo, hxr, hxf⟩ := pick_ok hrt (pickAt_bd ps pos)
    rw [mkT, tyA_lt ht]
    generalize pickN ts[t] (pickAt ps pos) = x at *
    have hxk := rightN_kids hxr
    have hL : ∀ (m k : Nat), (k : Int) + m ≤ x.kids → ∀ pos, ∀ y ∈ Tr.flat.flatL (mkL ts[t] x (mkT ts ps f) m k pos), nodeOK y := by
      intro m
      induction m with
      | zero => intro k _ pos y hy; cases hy
      | succ m ih =>
        intro k hk pos y hy
        obtain ⟨he, _⟩ := elem_ok hrt hxr hxf (i := k) (by omega)
        simp only [mkL, Tr.flat.flatL, List.mem_append] at hy
        rcases hy with hy | hy
        · exact mkT_node hr f _ (by omega) (by omega) pos y hy
        · exact ih (k + 1) (by omega) _ y hy
    intro y hy
    simp only [Tr.flat, List.mem_cons] at hy
    rcases hy with rfl | hy
    · exact hxo
    · exact hL x.kids.toNat 0 (by omega) (pos + 1) y hy
theorem right_zero {x : NodeM} (h : rightN x = true) (hk : x.kind = 1 ∨ x.kind = 2) : x.kids = 0 ∧ (x.kind = 2 → x.n ≤ 1) := by
  rw [rightN, Bool.and_eq_true] at h
  obtain ⟨h1, h2⟩ := h
  rw [if_neg (by omega), if_neg (by omega), if_neg (by omega), if_neg (by omega), decide_eq_true_eq] at h2
  refine ⟨h2, fun hk2 => ?_⟩
  rw [numberN, if_neg (by omega), if_pos hk2, decide_eq_true_eq] at h1
  exact h1
theorem right_seq {x : NodeM} (h : rightN x = true) (hk : x.kind = 3 ∨ x.kind = 4 ∨ x.kind = 5) : x.n = 0 := by
  rw [rightN, Bool.and_eq_true, numberN] at h
  have h1 := h.1
  rw [if_neg (by omega), if_neg (by omega), if_neg (by omega), Bool.and_eq_true, decide_eq_true_eq] at h1
  exact h1.1
theorem right_opt {x : NodeM} (h : rightN x = true) (hk : x.kind = 5) : x.kids = 0 ∨ x.kids = 1 := by
  rw [rightN, Bool.and_eq_true] at h
  have h2 := h.2
  rw [if_neg (by omega), if_neg (by omega), if_pos hk] at h2
  simpa using h2
theorem right_uni {x : NodeM} (h : rightN x = true) (hk : x.kind = 6) : x.kids = 1 := by
  rw [rightN, Bool.and_eq_true] at h
  have h2 := h.2
  rw [if_neg (by omega), if_neg (by omega), if_neg (by omega), if_pos hk, decide_eq_true_eq] at h2
  exact h2
theorem fits_parts {T : TypeM} {x : NodeM} (h : fitsF T x = 0) : x.kind = nkOf T.kind ∧ (T.kind = 1 → fitsB x.n T.n = true) ∧ (T.kind = 4 → x.kids = T.n) ∧ (T.kind = 5 → x.kids ≤ T.n) ∧ (T.kind = 8 → x.kids = T.parts.length) ∧ (T.kind = 7 → armOf T.parts x.n ≠ none) := by
  unfold fitsF at h
  split at h
  · cases h
  · rename_i h1
    split at h
    · cases h
    · rename_i h2
      split at h
      · cases h
      · rename_i h3
        split at h
        · cases h
        · rename_i h4
          refine ⟨by omega, fun hk => ?_, fun hk => by omega, fun hk => by omega, fun hk => by omega, fun hk hn => h4 ⟨hk, hn⟩⟩
          cases hb : fitsB x.n T.n with
          | true => rfl
          | false => exact absurd ⟨hk, hb⟩ h2
end Go.Proofs.YtfgacgpicfknpaaDoor
end
section
namespace Go.Proofs.YtfgacgpicfknpaaDoor
open Go.RowKit
set_option maxHeartbeats 4000000
/-! Forests: what is still to come, on a stack. -/
/-- the types of a node's kids -/
def kidsT (T : TypeM) (n : Int) (k m : Nat) : List Int := (List.range' k m).map fun i => elemF T n i
theorem kidsT_succ (T : TypeM) (n : Int) (k m : Nat) : kidsT T n k (m + 1) = elemF T n k :: kidsT T n (k + 1) m := by simp [kidsT, List.range'_succ]
theorem kidsT_len (T : TypeM) (n : Int) (k m : Nat) : (kidsT T n k m).length = m := by simp [kidsT]
/-- the types of the nodes of trees, by the types on a stack (the next one first) -/
def walkS (ts : List TypeM) : List Tr → List Int → Int → List Int → WR
  | [], _, p, out => (out, p, 0, 0)
  | c :: cs, L, p, out => if (c.walk ts (L.headD 0).toNat p out).2.2.1 ≠ 0 then ([], 0, (c.walk ts (L.headD 0).toNat p out).2.2.1, (c.walk ts (L.headD 0).toNat p out).2.2.2)
    else walkS ts cs L.tail (c.walk ts (L.headD 0).toNat p out).2.1 (c.walk ts (L.headD 0).toNat p out).1
section
variable {ts : List TypeM}
theorem walkL_S (T : TypeM) (n : Int) (L : List Int) : ∀ (ks : List Tr) (k : Nat) (p : Int) (out : List Int), Tr.walk.walkL ts T n ks k p out = walkS ts ks (kidsT T n k ks.length ++ L) p out
  | [], _, _, _ => rfl
  | c :: cs, k, p, out => by
    rw [Tr.walk.walkL, List.length_cons, kidsT_succ, walkS, walkL_S T n L cs (k + 1)]
    rfl
theorem walkS_app : ∀ (ks cs : List Tr) (l L : List Int) (p : Int) (out : List Int), l.length = ks.length →
    walkS ts (ks ++ cs) (l ++ L) p out = if (walkS ts ks (l ++ L) p out).2.2.1 ≠ 0 then ([], 0, (walkS ts ks (l ++ L) p out).2.2.1, (walkS ts ks (l ++ L) p out).2.2.2) else walkS ts cs L (walkS ts ks (l ++ L) p out).2.1 (walkS ts ks (l ++ L) p out).1
  | [], cs, l, L, p, out, h => by
    have : l = [] := List.eq_nil_of_length_eq_zero h
    subst this
    simp [walkS]
  | k :: ks, cs, a :: l, L, p, out, h => by
    have ih := walkS_app ks cs l L (k.walk ts a.toNat p out).2.1 (k.walk ts a.toNat p out).1 (by simpa using h)
    by_cases hw : (k.walk ts a.toNat p out).2.2.1 = 0
    · simp only [List.cons_append, walkS, List.headD_cons, List.tail_cons, hw, ne_eq, not_true_eq_false, if_false]
      exact ih
    · simp [walkS, hw]
/-- one node of it -/
theorem walkS_node (x : NodeM) (ks cs : List Tr) (t : Nat) (L : List Int) (p : Int) (out : List Int) :
    walkS ts (.node x ks :: cs) ((t : Int) :: L) p out = if fitsF (tyA ts t) x ≠ 0 then ([], 0, fitsF (tyA ts t) x, p) else walkS ts (ks ++ cs) (kidsT (tyA ts t) x.n 0 ks.length ++ L) (p + 1) (out ++ [(t : Int)]) := by
  have h1 := walkS_app (ts := ts) ks cs (kidsT (tyA ts t) x.n 0 ks.length) L (p + 1) (out ++ [(t : Int)]) (kidsT_len _ _ _ _)
  have h2 := walkL_S (ts := ts) (tyA ts t) x.n L ks 0 (p + 1) (out ++ [(t : Int)])
  rw [← h2] at h1
  by_cases hf : fitsF (tyA ts t) x = 0
  · simp only [walkS, Tr.walk, List.headD_cons, Int.toNat_natCast, List.tail_cons, hf, ne_eq, not_true_eq_false, if_false]
    rw [h1]
  · simp [walkS, Tr.walk, hf]
/-- a tree that is not at fault: nothing but its types is told -/
theorem walk_err {ts : List TypeM} : ∀ (n : Nat) (c : Tr), c.flat.length ≤ n → ∀ (t : Nat) (p : Int) (out : List Int), (c.walk ts t p out).2.2.1 = 0 → (c.walk ts t p out).2.2.2 = 0
  | 0, c, h => absurd (flat_pos c) (by omega)
  | n + 1, .node x ks, h => fun t p out hw => by
    simp only [Tr.flat, List.length_cons] at h
    have hL : ∀ (l : List Tr), (∀ c ∈ l, c.flat.length ≤ n) → ∀ (T : TypeM) (m : Int) (k : Nat) (p : Int) (out : List Int), (Tr.walk.walkL ts T m l k p out).2.2.1 = 0 → (Tr.walk.walkL ts T m l k p out).2.2.2 = 0 := by
      intro l
      induction l with
      | nil => intro _ _ _ _ _ _ _; rfl
      | cons c cs ih =>
        intro hc T m k p out
        by_cases hcw : (c.walk ts (elemF T m k).toNat p out).2.2.1 = 0
        · simp only [Tr.walk.walkL, hcw, ne_eq, not_true_eq_false, if_false]
          exact fun h => ih (fun d hd => hc d (.tail _ hd)) _ _ _ _ _ h
        · simp only [Tr.walk.walkL, ne_eq, hcw, not_false_eq_true, if_true]
          exact fun h => h.elim
    by_cases hf : fitsF (tyA ts t) x = 0
    · simp only [Tr.walk, hf, ne_eq, not_true_eq_false, if_false] at hw ⊢
      exact hL ks (fun c hc => by have := flatL_mem hc; omega) _ _ _ _ _ hw
    · simp only [Tr.walk, ne_eq, hf, not_false_eq_true, if_true] at hw
theorem walk_nil {ts : List TypeM} : ∀ (n : Nat) (c : Tr), c.flat.length ≤ n → ∀ (t : Nat) (p : Int) (out : List Int), (c.walk ts t p out).2.2.1 ≠ 0 → (c.walk ts t p out).1 = []
  | 0, c, h => absurd (flat_pos c) (by omega)
  | n + 1, .node x ks, h => fun t p out hw => by
    simp only [Tr.flat, List.length_cons] at h
    have hL : ∀ (l : List Tr), (∀ c ∈ l, c.flat.length ≤ n) → ∀ (T : TypeM) (m : Int) (k : Nat) (p : Int) (out : List Int), (Tr.walk.walkL ts T m l k p out).2.2.1 ≠ 0 → (Tr.walk.walkL ts T m l k p out).1 = [] := by
      intro l
      induction l with
      | nil => intro _ _ _ _ _ _ h; exact absurd rfl h
      | cons c cs ih =>
        intro hc T m k p out
        by_cases hcw : (c.walk ts (elemF T m k).toNat p out).2.2.1 = 0
        · simp only [Tr.walk.walkL, hcw, ne_eq, not_true_eq_false, if_false]
          exact fun h => ih (fun d hd => hc d (.tail _ hd)) _ _ _ _ _ h
        · simp only [Tr.walk.walkL, ne_eq, hcw, not_false_eq_true, if_true]
          exact fun _ => trivial
    by_cases hf : fitsF (tyA ts t) x = 0
    · simp only [Tr.walk, hf, ne_eq, not_true_eq_false, if_false] at hw ⊢
      exact hL ks (fun c hc => by have := flatL_mem hc; omega) _ _ _ _ _ hw
    · simp only [Tr.walk, ne_eq, hf, not_false_eq_true, if_true]
theorem walkS_one (c : Tr) (t : Nat) (p : Int) (out : List Int) : (walkS ts [c] [(t : Int)] p out).2.2 = (c.walk ts t p out).2.2 ∧ ((c.walk ts t p out).2.2.1 = 0 → (walkS ts [c] [(t : Int)] p out).1 = (c.walk ts t p out).1) := by
  by_cases hw : (c.walk ts t p out).2.2.1 = 0
  · have h2 := walk_err _ c (Nat.le_refl _) t p out hw
    simp only [walkS, List.headD_cons, Int.toNat_natCast, hw, ne_eq, not_true_eq_false, if_false]
    exact ⟨Prod.ext hw.symm h2.symm, fun _ => trivial⟩
  · simp only [walkS, List.headD_cons, Int.toNat_natCast, hw, ne_eq, not_false_eq_true, if_true]
    exact ⟨trivial, fun h => h.elim⟩
end
end Go.Proofs.YtfgacgpicfknpaaDoor
end
section
namespace Go.Proofs.YtfgacgpicfknpaaDoor
open Go.RowKit
set_option maxRecDepth 100000
set_option maxHeartbeats 8000000
/-! What package typing says of a node. -/
def vP (p : PartM) : AV := .agg [.v (.string p.label), vI p.tag, vI p.ty]
def armP (l : List PartM) (n : Int) : PartM := match armOf l n with | some p => p | none => ⟨ByteArray.empty, 0, 0⟩
theorem arm_any (T : TypeM) (hl : T.parts.length ≤ 1000000000) (n : Int) :
    PCall Tryd.prog 46 [.agg [vI T.kind, vI T.n, vI T.elem, .lst 3 (encPs T.parts)], .v (.int .u64 n)] (fun r => r = .tup [vP (armP T.parts n), vB (armOf T.parts n).isSome]) := by
  refine go_fn (tyOf_ok _) Tryd.func46 rfl rfl (by rw [Tryd.results46]) Tryd.ntmps46 rfl fun E => ?_
  (repeat' (first
    | exact trivial
    | (with_reducible first | refine awA ?_ | refine awB ?_ | refine awC ?_ | refine awD ?_ | refine awE ?_ | refine awF ?_ | refine awG ?_ | refine awH ?_ | refine awI ?_ | refine awJ ?_ | refine awK ?_ | refine awL ?_ | refine awM (by decide) ?_)
    | ((with_reducible first | refine awN (tyOf_ok _) [] ?_ | refine awO (tyOf_ok _) [] ?_ | refine awP (tyOf_ok _) [] ?_ | refine awQ ?_ | refine awR ?_ | refine awS ?_); intro r hr; simp only [go_sem, Nat.reduceBEq, Nat.reduceBneDiff, Nat.reduceLT, Nat.reduceLeDiff, Nat.reduceAdd, Nat.reduceMul, Nat.reduceSub, Nat.reduceEqDiff, reduceCtorEq, encPs_len] at hr; subst hr; (first | refine awV ?_ ?_ | refine awW ?_ ?_ | refine endK ?_ ?_ | (refine condK (fun h => ?_) (fun h => ?_) <;> (try simp only [go_sem, reduceCtorEq] at h) <;> (try (exfalso; omega))))) | fail)) <;> (try omega)
  generalize hA : armOf T.parts n = A
  generalize hB : armP T.parts n = B
  refine go_loop [1, 2, 4, 5, 9, 10, 11] [2, 4] (fun k : Nat => ⟨[(1, true, .v (.int .u64 n)), (2, true, .ptr 1 2 0 0), (4, true, .ptr 1 4 0 0), (5, true, vB false), (9, true, .lst 3 (encPs T.parts)), (10, true, vI T.parts.length), (11, true, vI k)],
    [(2, .var [vI T.kind, vI T.n, vI T.elem, .lst 3 (encPs T.parts)]), (4, .var [.v (.string ByteArray.empty), vI 0, vI 0])]⟩) (fun k => k ≤ T.parts.length ∧ armOf (T.parts.drop k) n = A) (fun k => T.parts.length - k) 0 (by simp only [go_sem, Nat.reduceBEq, Nat.reduceBneDiff, Nat.reduceLT, Nat.reduceLeDiff, Nat.reduceAdd, Nat.reduceMul, Nat.reduceSub, Nat.reduceEqDiff, reduceCtorEq]; exact rfl) ⟨Nat.zero_le _, hA⟩ ?_
  intro k ⟨hk, hkA⟩
  have hw := wrap_i64 (n := (k : Int) + 1) (by omega)
  by_cases hlt : k < T.parts.length
  · have e1 : ((k : Int) < T.parts.length) = True := eq_true (by omega)
    have g1 := encPs_get hlt
    rw [List.drop_eq_getElem_cons hlt, armOf, List.find?_cons] at hkA
    have hcv : IntKind.u64.wrap T.parts[k].tag = T.parts[k].tag % 18446744073709551616 := IntKind.wrap_u64 _
    by_cases hm : T.parts[k].tag % 18446744073709551616 = n
    · have f1 : (T.parts[k].tag % 18446744073709551616 = n) = True := eq_true hm
      rw [decide_eq_true hm] at hkA
      simp only at hkA
      have hBp : B = T.parts[k] := by rw [← hB, armP, hA, ← hkA]
      subst hkA
      subst hBp
      (repeat' (first
    | exact trivial
    | (with_reducible first | refine awA ?_ | refine awB ?_ | refine awC ?_ | refine awD ?_ | refine awE ?_ | refine awF ?_ | refine awG ?_ | refine awH ?_ | refine awI ?_ | refine awJ ?_ | refine awK ?_ | refine awL ?_ | refine awM (by decide) ?_)
    | ((with_reducible first | refine awN (tyOf_ok _) [] ?_ | refine awO (tyOf_ok _) [] ?_ | refine awP (tyOf_ok _) [] ?_ | refine awQ ?_ | refine awR ?_ | refine awS ?_); intro r hr; simp only [go_sem, Nat.reduceBEq, Nat.reduceBneDiff, Nat.reduceLT, Nat.reduceLeDiff, Nat.reduceAdd, Nat.reduceMul, Nat.reduceSub, Nat.reduceEqDiff, reduceCtorEq, hw, e1, g1, hcv, f1] at hr; subst hr; (first | refine awV ?_ ?_ | refine awW ?_ ?_ | refine endK ?_ ?_ | (refine condK (fun h => ?_) (fun h => ?_) <;> (try simp only [go_sem, reduceCtorEq] at h) <;> (try (exfalso; omega))))) | fail)) <;> (try omega)
      rw [vP]; exact rfl
    · have f1 : (T.parts[k].tag % 18446744073709551616 = n) = False := eq_false hm
      rw [decide_eq_false hm] at hkA
      (repeat' (first
    | exact trivial
    | (with_reducible first | refine awA ?_ | refine awB ?_ | refine awC ?_ | refine awD ?_ | refine awE ?_ | refine awF ?_ | refine awG ?_ | refine awH ?_ | refine awI ?_ | refine awJ ?_ | refine awK ?_ | refine awL ?_ | refine awM (by decide) ?_)
    | ((with_reducible first | refine awN (tyOf_ok _) [] ?_ | refine awO (tyOf_ok _) [] ?_ | refine awP (tyOf_ok _) [] ?_ | refine awQ ?_ | refine awR ?_ | refine awS ?_); intro r hr; simp only [go_sem, Nat.reduceBEq, Nat.reduceBneDiff, Nat.reduceLT, Nat.reduceLeDiff, Nat.reduceAdd, Nat.reduceMul, Nat.reduceSub, Nat.reduceEqDiff, reduceCtorEq, hw, e1, g1, hcv, f1] at hr; subst hr; (first | refine awV ?_ ?_ | refine awW ?_ ?_ | refine endK ?_ ?_ | (refine condK (fun h => ?_) (fun h => ?_) <;> (try simp only [go_sem, reduceCtorEq] at h) <;> (try (exfalso; omega))))) | fail)) <;> (try omega)
      exact ⟨k + 1, by simp only [go_sem, Nat.reduceBEq, Nat.reduceBneDiff, Nat.reduceLT, Nat.reduceLeDiff, Nat.reduceAdd, Nat.reduceMul, Nat.reduceSub, Nat.reduceEqDiff, reduceCtorEq]; exact rfl, ⟨hlt, hkA⟩, by omega⟩
  · have e1 : ((k : Int) < T.parts.length) = False := eq_false (by omega)
    rw [List.drop_eq_nil_of_le (by omega)] at hkA
    have hBp : B = ⟨ByteArray.empty, 0, 0⟩ := by rw [← hB, armP, hA, ← hkA]; rfl
    subst hkA
    subst hBp
    (repeat' (first
    | exact trivial
    | (with_reducible first | refine awA ?_ | refine awB ?_ | refine awC ?_ | refine awD ?_ | refine awE ?_ | refine awF ?_ | refine awG ?_ | refine awH ?_ | refine awI ?_ | refine awJ ?_ | refine awK ?_ | refine awL ?_ | refine awM (by decide) ?_)
    | ((with_reducible first | refine awN (tyOf_ok _) [] ?_ | refine awO (tyOf_ok _) [] ?_ | refine awP (tyOf_ok _) [] ?_ | refine awQ ?_ | refine awR ?_ | refine awS ?_); intro r hr; simp only [go_sem, Nat.reduceBEq, Nat.reduceBneDiff, Nat.reduceLT, Nat.reduceLeDiff, Nat.reduceAdd, Nat.reduceMul, Nat.reduceSub, Nat.reduceEqDiff, reduceCtorEq, hw, e1] at hr; subst hr; (first | refine awV ?_ ?_ | refine awW ?_ ?_ | refine endK ?_ ?_ | (refine condK (fun h => ?_) (fun h => ?_) <;> (try simp only [go_sem, reduceCtorEq] at h) <;> (try (exfalso; omega))))) | fail)) <;> (try omega)
    exact rfl
theorem hold_8 {n : Int} : decide (n.fdiv (2 ^ min (Int.toNat 8) 64) = 0) = decide (0 ≤ n ∧ n < 256) := by
  have e : (2 : Int) ^ min (Int.toNat 8) 64 = 256 := by decide
  rw [e, Int.fdiv_eq_ediv_of_nonneg _ (by decide), Bool.eq_iff_iff]; simp; omega
theorem hold_16 {n : Int} : decide (n.fdiv (2 ^ min (Int.toNat 16) 64) = 0) = decide (0 ≤ n ∧ n < 65536) := by
  have e : (2 : Int) ^ min (Int.toNat 16) 64 = 65536 := by decide
  rw [e, Int.fdiv_eq_ediv_of_nonneg _ (by decide), Bool.eq_iff_iff]; simp; omega
theorem hold_32 {n : Int} : decide (n.fdiv (2 ^ min (Int.toNat 32) 64) = 0) = decide (0 ≤ n ∧ n < 4294967296) := by
  have e : (2 : Int) ^ min (Int.toNat 32) 64 = 4294967296 := by decide
  rw [e, Int.fdiv_eq_ediv_of_nonneg _ (by decide), Bool.eq_iff_iff]; simp; omega
theorem holds_any (n : Int) (h0 : 0 ≤ n) (h1 : n < 18446744073709551616) (k : Int) (hk : k = 1 ∨ k = 2 ∨ k = 4 ∨ k = 8) : PCall Tryd.prog 45 [.v (.int .u64 n), vI k] (fun r => r = vB (fitsB n k)) := by
  refine go_fn (tyOf_ok _) Tryd.func45 rfl rfl (by rw [Tryd.results45]) Tryd.ntmps45 rfl fun E => ?_
  have w8 : IntKind.i64.wrap 8 = 8 := by decide
  have w16 : IntKind.i64.wrap 16 = 16 := by decide
  have w32 : IntKind.i64.wrap 32 = 32 := by decide
  have w64 : IntKind.i64.wrap 64 = 64 := by decide
  rcases hk with rfl | rfl | rfl | rfl
  · (repeat' (first
    | exact trivial
    | (with_reducible first | refine awA ?_ | refine awB ?_ | refine awC ?_ | refine awD ?_ | refine awE ?_ | refine awF ?_ | refine awG ?_ | refine awH ?_ | refine awI ?_ | refine awJ ?_ | refine awK ?_ | refine awL ?_ | refine awM (by decide) ?_)
    | ((with_reducible first | refine awN (tyOf_ok _) [] ?_ | refine awO (tyOf_ok _) [] ?_ | refine awP (tyOf_ok _) [] ?_ | refine awQ ?_ | refine awR ?_ | refine awS ?_); intro r hr; simp only [go_sem, Nat.reduceBEq, Nat.reduceBneDiff, Nat.reduceLT, Nat.reduceLeDiff, Nat.reduceAdd, Nat.reduceMul, Nat.reduceSub, Nat.reduceEqDiff, reduceCtorEq, Int.reduceEq, Int.reduceMul, decide_true, decide_false, w8] at hr; subst hr; (first | refine awV ?_ ?_ | refine awW ?_ ?_ | refine endK ?_ ?_ | (refine condK (fun h => ?_) (fun h => ?_) <;> (try simp only [go_sem, reduceCtorEq] at h) <;> (try (exfalso; omega))))) | fail)) <;> (try omega)
    all_goals exact congrArg (fun b => AV.v (.bool b)) (hold_8.trans (by simp [fitsB, h0]))
  · (repeat' (first
    | exact trivial
    | (with_reducible first | refine awA ?_ | refine awB ?_ | refine awC ?_ | refine awD ?_ | refine awE ?_ | refine awF ?_ | refine awG ?_ | refine awH ?_ | refine awI ?_ | refine awJ ?_ | refine awK ?_ | refine awL ?_ | refine awM (by decide) ?_)
    | ((with_reducible first | refine awN (tyOf_ok _) [] ?_ | refine awO (tyOf_ok _) [] ?_ | refine awP (tyOf_ok _) [] ?_ | refine awQ ?_ | refine awR ?_ | refine awS ?_); intro r hr; simp only [go_sem, Nat.reduceBEq, Nat.reduceBneDiff, Nat.reduceLT, Nat.reduceLeDiff, Nat.reduceAdd, Nat.reduceMul, Nat.reduceSub, Nat.reduceEqDiff, reduceCtorEq, Int.reduceEq, Int.reduceMul, decide_true, decide_false, w16] at hr; subst hr; (first | refine awV ?_ ?_ | refine awW ?_ ?_ | refine endK ?_ ?_ | (refine condK (fun h => ?_) (fun h => ?_) <;> (try simp only [go_sem, reduceCtorEq] at h) <;> (try (exfalso; omega))))) | fail)) <;> (try omega)
    all_goals exact congrArg (fun b => AV.v (.bool b)) (hold_16.trans (by have e : (256 : Int) ^ (2 : Int).toNat = 65536 := by decide
                                                                          simp [fitsB, h0, e]))
  · (repeat' (first
    | exact trivial
    | (with_reducible first | refine awA ?_ | refine awB ?_ | refine awC ?_ | refine awD ?_ | refine awE ?_ | refine awF ?_ | refine awG ?_ | refine awH ?_ | refine awI ?_ | refine awJ ?_ | refine awK ?_ | refine awL ?_ | refine awM (by decide) ?_)
    | ((with_reducible first | refine awN (tyOf_ok _) [] ?_ | refine awO (tyOf_ok _) [] ?_ | refine awP (tyOf_ok _) [] ?_ | refine awQ ?_ | refine awR ?_ | refine awS ?_); intro r hr; simp only [go_sem, Nat.reduceBEq, Nat.reduceBneDiff, Nat.reduceLT, Nat.reduceLeDiff, Nat.reduceAdd, Nat.reduceMul, Nat.reduceSub, Nat.reduceEqDiff, reduceCtorEq, Int.reduceEq, Int.reduceMul, decide_true, decide_false, w32] at hr; subst hr; (first | refine awV ?_ ?_ | refine awW ?_ ?_ | refine endK ?_ ?_ | (refine condK (fun h => ?_) (fun h => ?_) <;> (try simp only [go_sem, reduceCtorEq] at h) <;> (try (exfalso; omega))))) | fail)) <;> (try omega)
    all_goals exact congrArg (fun b => AV.v (.bool b)) (hold_32.trans (by have e : (256 : Int) ^ (4 : Int).toNat = 4294967296 := by decide
                                                                          simp [fitsB, h0, e]))
  · (repeat' (first
    | exact trivial
    | (with_reducible first | refine awA ?_ | refine awB ?_ | refine awC ?_ | refine awD ?_ | refine awE ?_ | refine awF ?_ | refine awG ?_ | refine awH ?_ | refine awI ?_ | refine awJ ?_ | refine awK ?_ | refine awL ?_ | refine awM (by decide) ?_)
    | ((with_reducible first | refine awN (tyOf_ok _) [] ?_ | refine awO (tyOf_ok _) [] ?_ | refine awP (tyOf_ok _) [] ?_ | refine awQ ?_ | refine awR ?_ | refine awS ?_); intro r hr; simp only [go_sem, Nat.reduceBEq, Nat.reduceBneDiff, Nat.reduceLT, Nat.reduceLeDiff, Nat.reduceAdd, Nat.reduceMul, Nat.reduceSub, Nat.reduceEqDiff, reduceCtorEq, Int.reduceEq, Int.reduceMul, decide_true, decide_false, w64] at hr; subst hr; (first | refine awV ?_ ?_ | refine awW ?_ ?_ | refine endK ?_ ?_ | (refine condK (fun h => ?_) (fun h => ?_) <;> (try simp only [go_sem, reduceCtorEq] at h) <;> (try (exfalso; omega))))) | fail)) <;> (try omega)
    all_goals exact congrArg (fun b => AV.v (.bool b)) (by have e : (256 : Int) ^ (8 : Int).toNat = 18446744073709551616 := by decide
                                                           simp [fitsB, e, h1])
theorem tfits_any (T : TypeM) (k : Nat) (hr : rightOK T k = true) (x : NodeM) (hx : nodeOK x) :
    PCall Tryd.prog 34 [.agg [vI T.kind, vI T.n, vI T.elem, .lst 3 (encPs T.parts)], .agg [vI x.kind, .v (.int .u64 x.n), vI x.kids]] (fun r => r = vI (fitsF T x)) := by
  refine go_fn (tyOf_ok _) Tryd.func34 rfl rfl (by rw [Tryd.results34]) Tryd.ntmps34 rfl fun E => ?_
  have hkc : T.kind = 1 ∨ T.kind = 2 ∨ T.kind = 3 ∨ T.kind = 4 ∨ T.kind = 5 ∨ T.kind = 6 ∨ T.kind = 7 ∨ T.kind = 8 := by rcases rightOK_kind hr with h | h | h <;> omega
  rcases hkc with h | h | h | h | h | h | h | h
  · have hh := holds_any x.n hx.2.2.1 hx.2.2.2 T.n (right_1n hr h)
    (repeat' (first
    | exact trivial
    | (with_reducible first | refine awA ?_ | refine awB ?_ | refine awC ?_ | refine awD ?_ | refine awE ?_ | refine awF ?_ | refine awG ?_ | refine awH ?_ | refine awI ?_ | refine awJ ?_ | refine awK ?_ | refine awL ?_ | refine awM (by decide) ?_)
    | (refine aw_draw (id := 1) (t := (.node [0, 1, 2, 3, 4, 5, 6] [])) (drR [3, 2] [12] []) mixed (by kernel_rfl) (by kernel_rfl) (fun _ _ h => h) ?_)
    | (refine at_done (by simp only [List.filterMap_cons, List.filterMap_nil, List.getElem?_toArray, List.getElem?_cons_zero, List.getElem?_cons_succ]; exact rfl) ?_) | (refine at_alt (by simp only [List.filterMap_cons, List.filterMap_nil, List.getElem?_toArray, List.getElem?_cons_zero, List.getElem?_cons_succ]; exact rfl) ?_) | refine qalt_normal ?_ | refine ats_cons ?_ ?_ | exact ats_nil
    | ((with_reducible first | refine awN (tyOf_ok _) [] ?_ | refine awO (tyOf_ok _) [] ?_ | refine awP (tyOf_ok _) [] ?_ | refine awQ ?_ | refine awR ?_ | refine awS ?_); intro r hr; simp only [go_sem, Nat.reduceBEq, Nat.reduceBneDiff, Nat.reduceLT, Nat.reduceLeDiff, Nat.reduceAdd, Nat.reduceMul, Nat.reduceSub, Nat.reduceEqDiff, reduceCtorEq, h, Int.cast_ofNat_Int, Int.reduceToNat, Int.reduceEq, Int.reduceLT, Int.reduceLE, Int.reduceNe, ne_eq] at hr; subst hr; (first | refine caA (fun _ => hh) rfl ?_ ?_ ?_ | refine awV ?_ ?_ | refine awW ?_ ?_ | refine endK ?_ ?_ | (refine condK (fun h => ?_) (fun h => ?_) <;> (try simp only [go_sem, reduceCtorEq] at h) <;> (try (exfalso; omega))))) | fail)) <;> (try omega)
    all_goals (refine congrArg (fun z => AV.v (.int .i64 z)) ?_; simp_all [fitsF, nkOf])
  · (repeat' (first
    | exact trivial
    | (with_reducible first | refine awA ?_ | refine awB ?_ | refine awC ?_ | refine awD ?_ | refine awE ?_ | refine awF ?_ | refine awG ?_ | refine awH ?_ | refine awI ?_ | refine awJ ?_ | refine awK ?_ | refine awL ?_ | refine awM (by decide) ?_)
    | (refine aw_draw (id := 1) (t := (.node [0, 1, 2, 3, 4, 5, 6] [])) (drR [3, 2] [12] []) mixed (by kernel_rfl) (by kernel_rfl) (fun _ _ h => h) ?_)
    | (refine at_done (by simp only [List.filterMap_cons, List.filterMap_nil, List.getElem?_toArray, List.getElem?_cons_zero, List.getElem?_cons_succ]; exact rfl) ?_) | (refine at_alt (by simp only [List.filterMap_cons, List.filterMap_nil, List.getElem?_toArray, List.getElem?_cons_zero, List.getElem?_cons_succ]; exact rfl) ?_) | refine qalt_normal ?_ | refine ats_cons ?_ ?_ | exact ats_nil
    | ((with_reducible first | refine awN (tyOf_ok _) [] ?_ | refine awO (tyOf_ok _) [] ?_ | refine awP (tyOf_ok _) [] ?_ | refine awQ ?_ | refine awR ?_ | refine awS ?_); intro r hr; simp only [go_sem, Nat.reduceBEq, Nat.reduceBneDiff, Nat.reduceLT, Nat.reduceLeDiff, Nat.reduceAdd, Nat.reduceMul, Nat.reduceSub, Nat.reduceEqDiff, reduceCtorEq, h, Int.cast_ofNat_Int, Int.reduceToNat, Int.reduceEq, Int.reduceLT, Int.reduceLE, Int.reduceNe, ne_eq] at hr; subst hr; (first | refine awV ?_ ?_ | refine awW ?_ ?_ | refine endK ?_ ?_ | (refine condK (fun h => ?_) (fun h => ?_) <;> (try simp only [go_sem, reduceCtorEq] at h) <;> (try (exfalso; omega))))) | fail)) <;> (try omega)
    all_goals (refine congrArg (fun z => AV.v (.int .i64 z)) ?_; simp_all [fitsF, nkOf])
  · (repeat' (first
    | exact trivial
    | (with_reducible first | refine awA ?_ | refine awB ?_ | refine awC ?_ | refine awD ?_ | refine awE ?_ | refine awF ?_ | refine awG ?_ | refine awH ?_ | refine awI ?_ | refine awJ ?_ | refine awK ?_ | refine awL ?_ | refine awM (by decide) ?_)
    | (refine aw_draw (id := 1) (t := (.node [0, 1, 2, 3, 4, 5, 6] [])) (drR [3, 2] [12] []) mixed (by kernel_rfl) (by kernel_rfl) (fun _ _ h => h) ?_)
    | (refine at_done (by simp only [List.filterMap_cons, List.filterMap_nil, List.getElem?_toArray, List.getElem?_cons_zero, List.getElem?_cons_succ]; exact rfl) ?_) | (refine at_alt (by simp only [List.filterMap_cons, List.filterMap_nil, List.getElem?_toArray, List.getElem?_cons_zero, List.getElem?_cons_succ]; exact rfl) ?_) | refine qalt_normal ?_ | refine ats_cons ?_ ?_ | exact ats_nil
    | ((with_reducible first | refine awN (tyOf_ok _) [] ?_ | refine awO (tyOf_ok _) [] ?_ | refine awP (tyOf_ok _) [] ?_ | refine awQ ?_ | refine awR ?_ | refine awS ?_); intro r hr; simp only [go_sem, Nat.reduceBEq, Nat.reduceBneDiff, Nat.reduceLT, Nat.reduceLeDiff, Nat.reduceAdd, Nat.reduceMul, Nat.reduceSub, Nat.reduceEqDiff, reduceCtorEq, h, Int.cast_ofNat_Int, Int.reduceToNat, Int.reduceEq, Int.reduceLT, Int.reduceLE, Int.reduceNe, ne_eq] at hr; subst hr; (first | refine awV ?_ ?_ | refine awW ?_ ?_ | refine endK ?_ ?_ | (refine condK (fun h => ?_) (fun h => ?_) <;> (try simp only [go_sem, reduceCtorEq] at h) <;> (try (exfalso; omega))))) | fail)) <;> (try omega)
    all_goals (refine congrArg (fun z => AV.v (.int .i64 z)) ?_; simp_all [fitsF, nkOf])
  · (repeat' (first
    | exact trivial
    | (with_reducible first | refine awA ?_ | refine awB ?_ | refine awC ?_ | refine awD ?_ | refine awE ?_ | refine awF ?_ | refine awG ?_ | refine awH ?_ | refine awI ?_ | refine awJ ?_ | refine awK ?_ | refine awL ?_ | refine awM (by decide) ?_)
    | (refine aw_draw (id := 1) (t := (.node [0, 1, 2, 3, 4, 5, 6] [])) (drR [3, 2] [12] []) mixed (by kernel_rfl) (by kernel_rfl) (fun _ _ h => h) ?_)
    | (refine at_done (by simp only [List.filterMap_cons, List.filterMap_nil, List.getElem?_toArray, List.getElem?_cons_zero, List.getElem?_cons_succ]; exact rfl) ?_) | (refine at_alt (by simp only [List.filterMap_cons, List.filterMap_nil, List.getElem?_toArray, List.getElem?_cons_zero, List.getElem?_cons_succ]; exact rfl) ?_) | refine qalt_normal ?_ | refine ats_cons ?_ ?_ | exact ats_nil
    | ((with_reducible first | refine awN (tyOf_ok _) [] ?_ | refine awO (tyOf_ok _) [] ?_ | refine awP (tyOf_ok _) [] ?_ | refine awQ ?_ | refine awR ?_ | refine awS ?_); intro r hr; simp only [go_sem, Nat.reduceBEq, Nat.reduceBneDiff, Nat.reduceLT, Nat.reduceLeDiff, Nat.reduceAdd, Nat.reduceMul, Nat.reduceSub, Nat.reduceEqDiff, reduceCtorEq, h, Int.cast_ofNat_Int, Int.reduceToNat, Int.reduceEq, Int.reduceLT, Int.reduceLE, Int.reduceNe, ne_eq] at hr; subst hr; (first | refine awV ?_ ?_ | refine awW ?_ ?_ | refine endK ?_ ?_ | (refine condK (fun h => ?_) (fun h => ?_) <;> (try simp only [go_sem, reduceCtorEq] at h) <;> (try (exfalso; omega))))) | fail)) <;> (try omega)
    all_goals (refine congrArg (fun z => AV.v (.int .i64 z)) ?_; simp_all [fitsF, nkOf])
  · (repeat' (first
    | exact trivial
    | (with_reducible first | refine awA ?_ | refine awB ?_ | refine awC ?_ | refine awD ?_ | refine awE ?_ | refine awF ?_ | refine awG ?_ | refine awH ?_ | refine awI ?_ | refine awJ ?_ | refine awK ?_ | refine awL ?_ | refine awM (by decide) ?_)
    | (refine aw_draw (id := 1) (t := (.node [0, 1, 2, 3, 4, 5, 6] [])) (drR [3, 2] [12] []) mixed (by kernel_rfl) (by kernel_rfl) (fun _ _ h => h) ?_)
    | (refine at_done (by simp only [List.filterMap_cons, List.filterMap_nil, List.getElem?_toArray, List.getElem?_cons_zero, List.getElem?_cons_succ]; exact rfl) ?_) | (refine at_alt (by simp only [List.filterMap_cons, List.filterMap_nil, List.getElem?_toArray, List.getElem?_cons_zero, List.getElem?_cons_succ]; exact rfl) ?_) | refine qalt_normal ?_ | refine ats_cons ?_ ?_ | exact ats_nil
    | ((with_reducible first | refine awN (tyOf_ok _) [] ?_ | refine awO (tyOf_ok _) [] ?_ | refine awP (tyOf_ok _) [] ?_ | refine awQ ?_ | refine awR ?_ | refine awS ?_); intro r hr; simp only [go_sem, Nat.reduceBEq, Nat.reduceBneDiff, Nat.reduceLT, Nat.reduceLeDiff, Nat.reduceAdd, Nat.reduceMul, Nat.reduceSub, Nat.reduceEqDiff, reduceCtorEq, h, Int.cast_ofNat_Int, Int.reduceToNat, Int.reduceEq, Int.reduceLT, Int.reduceLE, Int.reduceNe, ne_eq] at hr; subst hr; (first | refine awV ?_ ?_ | refine awW ?_ ?_ | refine endK ?_ ?_ | (refine condK (fun h => ?_) (fun h => ?_) <;> (try simp only [go_sem, reduceCtorEq] at h) <;> (try (exfalso; omega))))) | fail)) <;> (try omega)
    all_goals (refine congrArg (fun z => AV.v (.int .i64 z)) ?_; simp_all [fitsF, nkOf])
  · (repeat' (first
    | exact trivial
    | (with_reducible first | refine awA ?_ | refine awB ?_ | refine awC ?_ | refine awD ?_ | refine awE ?_ | refine awF ?_ | refine awG ?_ | refine awH ?_ | refine awI ?_ | refine awJ ?_ | refine awK ?_ | refine awL ?_ | refine awM (by decide) ?_)
    | (refine aw_draw (id := 1) (t := (.node [0, 1, 2, 3, 4, 5, 6] [])) (drR [3, 2] [12] []) mixed (by kernel_rfl) (by kernel_rfl) (fun _ _ h => h) ?_)
    | (refine at_done (by simp only [List.filterMap_cons, List.filterMap_nil, List.getElem?_toArray, List.getElem?_cons_zero, List.getElem?_cons_succ]; exact rfl) ?_) | (refine at_alt (by simp only [List.filterMap_cons, List.filterMap_nil, List.getElem?_toArray, List.getElem?_cons_zero, List.getElem?_cons_succ]; exact rfl) ?_) | refine qalt_normal ?_ | refine ats_cons ?_ ?_ | exact ats_nil
    | ((with_reducible first | refine awN (tyOf_ok _) [] ?_ | refine awO (tyOf_ok _) [] ?_ | refine awP (tyOf_ok _) [] ?_ | refine awQ ?_ | refine awR ?_ | refine awS ?_); intro r hr; simp only [go_sem, Nat.reduceBEq, Nat.reduceBneDiff, Nat.reduceLT, Nat.reduceLeDiff, Nat.reduceAdd, Nat.reduceMul, Nat.reduceSub, Nat.reduceEqDiff, reduceCtorEq, h, Int.cast_ofNat_Int, Int.reduceToNat, Int.reduceEq, Int.reduceLT, Int.reduceLE, Int.reduceNe, ne_eq] at hr; subst hr; (first | refine awV ?_ ?_ | refine awW ?_ ?_ | refine endK ?_ ?_ | (refine condK (fun h => ?_) (fun h => ?_) <;> (try simp only [go_sem, reduceCtorEq] at h) <;> (try (exfalso; omega))))) | fail)) <;> (try omega)
    all_goals (refine congrArg (fun z => AV.v (.int .i64 z)) ?_; simp_all [fitsF, nkOf])
  · have hpl := right_parts hr (.inl h)
    have ha := arm_any T (by omega) x.n
    unfold vP at ha
    rw [h] at ha
    cases hA : armOf T.parts x.n with
    | none =>
      rw [hA] at ha
      (repeat' (first
    | exact trivial
    | (with_reducible first | refine awA ?_ | refine awB ?_ | refine awC ?_ | refine awD ?_ | refine awE ?_ | refine awF ?_ | refine awG ?_ | refine awH ?_ | refine awI ?_ | refine awJ ?_ | refine awK ?_ | refine awL ?_ | refine awM (by decide) ?_)
    | (refine aw_draw (id := 1) (t := (.node [0, 1, 2, 3, 4, 5, 6] [])) (drR [3, 2] [12] []) mixed (by kernel_rfl) (by kernel_rfl) (fun _ _ h => h) ?_)
    | (refine at_done (by simp only [List.filterMap_cons, List.filterMap_nil, List.getElem?_toArray, List.getElem?_cons_zero, List.getElem?_cons_succ]; exact rfl) ?_) | (refine at_alt (by simp only [List.filterMap_cons, List.filterMap_nil, List.getElem?_toArray, List.getElem?_cons_zero, List.getElem?_cons_succ]; exact rfl) ?_) | refine qalt_normal ?_ | refine ats_cons ?_ ?_ | exact ats_nil
    | ((with_reducible first | refine awN (tyOf_ok _) [] ?_ | refine awO (tyOf_ok _) [] ?_ | refine awP (tyOf_ok _) [] ?_ | refine awQ ?_ | refine awR ?_ | refine awS ?_); intro r hr; simp only [go_sem, Nat.reduceBEq, Nat.reduceBneDiff, Nat.reduceLT, Nat.reduceLeDiff, Nat.reduceAdd, Nat.reduceMul, Nat.reduceSub, Nat.reduceEqDiff, reduceCtorEq, h, Int.cast_ofNat_Int, Int.reduceToNat, Int.reduceEq, Int.reduceLT, Int.reduceLE, Int.reduceNe, ne_eq, Option.isSome_none] at hr; subst hr; (first | refine caA (fun _ => ha) rfl ?_ ?_ ?_ | refine awV ?_ ?_ | refine awW ?_ ?_ | refine endK ?_ ?_ | (refine condK (fun h => ?_) (fun h => ?_) <;> (try simp only [go_sem, reduceCtorEq] at h) <;> (try (exfalso; omega))))) | fail)) <;> (try omega)
      all_goals (refine congrArg (fun z => AV.v (.int .i64 z)) ?_; simp_all [fitsF, nkOf])
    | some p =>
      rw [hA] at ha
      (repeat' (first
    | exact trivial
    | (with_reducible first | refine awA ?_ | refine awB ?_ | refine awC ?_ | refine awD ?_ | refine awE ?_ | refine awF ?_ | refine awG ?_ | refine awH ?_ | refine awI ?_ | refine awJ ?_ | refine awK ?_ | refine awL ?_ | refine awM (by decide) ?_)
    | (refine aw_draw (id := 1) (t := (.node [0, 1, 2, 3, 4, 5, 6] [])) (drR [3, 2] [12] []) mixed (by kernel_rfl) (by kernel_rfl) (fun _ _ h => h) ?_)
    | (refine at_done (by simp only [List.filterMap_cons, List.filterMap_nil, List.getElem?_toArray, List.getElem?_cons_zero, List.getElem?_cons_succ]; exact rfl) ?_) | (refine at_alt (by simp only [List.filterMap_cons, List.filterMap_nil, List.getElem?_toArray, List.getElem?_cons_zero, List.getElem?_cons_succ]; exact rfl) ?_) | refine qalt_normal ?_ | refine ats_cons ?_ ?_ | exact ats_nil
    | ((with_reducible first | refine awN (tyOf_ok _) [] ?_ | refine awO (tyOf_ok _) [] ?_ | refine awP (tyOf_ok _) [] ?_ | refine awQ ?_ | refine awR ?_ | refine awS ?_); intro r hr; simp only [go_sem, Nat.reduceBEq, Nat.reduceBneDiff, Nat.reduceLT, Nat.reduceLeDiff, Nat.reduceAdd, Nat.reduceMul, Nat.reduceSub, Nat.reduceEqDiff, reduceCtorEq, h, Int.cast_ofNat_Int, Int.reduceToNat, Int.reduceEq, Int.reduceLT, Int.reduceLE, Int.reduceNe, ne_eq, Option.isSome_some] at hr; subst hr; (first | refine caA (fun _ => ha) rfl ?_ ?_ ?_ | refine awV ?_ ?_ | refine awW ?_ ?_ | refine endK ?_ ?_ | (refine condK (fun h => ?_) (fun h => ?_) <;> (try simp only [go_sem, reduceCtorEq] at h) <;> (try (exfalso; omega))))) | fail)) <;> (try omega)
      all_goals (refine congrArg (fun z => AV.v (.int .i64 z)) ?_; simp_all [fitsF, nkOf])
  · (repeat' (first
    | exact trivial
    | (with_reducible first | refine awA ?_ | refine awB ?_ | refine awC ?_ | refine awD ?_ | refine awE ?_ | refine awF ?_ | refine awG ?_ | refine awH ?_ | refine awI ?_ | refine awJ ?_ | refine awK ?_ | refine awL ?_ | refine awM (by decide) ?_)
    | (refine aw_draw (id := 1) (t := (.node [0, 1, 2, 3, 4, 5, 6] [])) (drR [3, 2] [12] []) mixed (by kernel_rfl) (by kernel_rfl) (fun _ _ h => h) ?_)
    | (refine at_done (by simp only [List.filterMap_cons, List.filterMap_nil, List.getElem?_toArray, List.getElem?_cons_zero, List.getElem?_cons_succ]; exact rfl) ?_) | (refine at_alt (by simp only [List.filterMap_cons, List.filterMap_nil, List.getElem?_toArray, List.getElem?_cons_zero, List.getElem?_cons_succ]; exact rfl) ?_) | refine qalt_normal ?_ | refine ats_cons ?_ ?_ | exact ats_nil
    | ((with_reducible first | refine awN (tyOf_ok _) [] ?_ | refine awO (tyOf_ok _) [] ?_ | refine awP (tyOf_ok _) [] ?_ | refine awQ ?_ | refine awR ?_ | refine awS ?_); intro r hr; simp only [go_sem, Nat.reduceBEq, Nat.reduceBneDiff, Nat.reduceLT, Nat.reduceLeDiff, Nat.reduceAdd, Nat.reduceMul, Nat.reduceSub, Nat.reduceEqDiff, reduceCtorEq, h, Int.cast_ofNat_Int, Int.reduceToNat, Int.reduceEq, Int.reduceLT, Int.reduceLE, Int.reduceNe, ne_eq, encPs_len] at hr; subst hr; (first | refine awV ?_ ?_ | refine awW ?_ ?_ | refine endK ?_ ?_ | (refine condK (fun h => ?_) (fun h => ?_) <;> (try simp only [go_sem, reduceCtorEq] at h) <;> (try (exfalso; omega))))) | fail)) <;> (try omega)
    all_goals (refine congrArg (fun z => AV.v (.int .i64 z)) ?_; simp_all [fitsF, nkOf])
end Go.Proofs.YtfgacgpicfknpaaDoor
end
section
namespace Go.Proofs.YtfgacgpicfknpaaDoor
open Go.RowKit
set_option maxRecDepth 100000
set_option maxHeartbeats 8000000
/-! The types that are still to come: a stack. -/
def obT (st : List Int) : List (Nat × AObj) := [(10000, .var [.ref 3 1 15000 0 st.length]), (15000, .row 3 1 (v8 st))]
theorem next_G (st : List Int) (t : Int) (hst : st.length ≤ 1000000000) : GCall Tryd.prog 33 [.ptr 1 10000 0 0] (obT (st ++ [t])) (vI t) (obT st) := by
  refine go_fnG (tyOf_ok _) Tryd.func33 rfl rfl (by rw [Tryd.results33]) Tryd.ntmps33 rfl fun E => ?_
  have hl : (st ++ [t]).length = st.length + 1 := by simp
  have hw : IntKind.i64.wrap (((st.length + 1 : Nat) : Int) - 1) = st.length := by rw [wrap_i64 (by omega)]; omega
  have hz : ((st.length : Int)).toNat = st.length := by omega
  have hg : (v8 (st ++ [t]))[st.length]? = some [vI t] := by rw [v8_get (by simp)]; simp
  (repeat' (first
    | exact trivial
    | (with_reducible first | refine awA ?_ | refine awB ?_ | refine awC ?_ | refine awD ?_ | refine awE ?_ | refine awF ?_ | refine awG ?_ | refine awH ?_ | refine awI ?_ | refine awJ ?_ | refine awK ?_ | refine awL ?_ | refine awM (by decide) ?_)
    | (refine aw_draw (id := 1) (t := (.node [0, 1, 2, 3, 4, 5, 6, 7, 8, 9, 10, 11, 12] [])) (drR [10000] [15] []) mixed (by kernel_rfl) (by kernel_rfl) (fun _ _ h => h) ?_)
    | (refine aw_draw (id := 2) (t := (.node [0, 1, 2, 3, 4, 5, 6, 7, 8, 9, 10, 11, 12, 13, 14] [])) (drR [] [20, 24] []) mixed (by kernel_rfl) (by kernel_rfl) (fun _ _ h => h) ?_)
    | (refine at_done (by simp only [List.filterMap_cons, List.filterMap_nil, List.getElem?_toArray, List.getElem?_cons_zero, List.getElem?_cons_succ]; exact rfl) ?_) | (refine at_alt (by simp only [List.filterMap_cons, List.filterMap_nil, List.getElem?_toArray, List.getElem?_cons_zero, List.getElem?_cons_succ]; exact rfl) ?_) | refine qalt_normal ?_ | refine ats_cons ?_ ?_ | exact ats_nil
    | ((with_reducible first | refine awN (tyOf_ok _) [] ?_ | refine awO (tyOf_ok _) [] ?_ | refine awP (tyOf_ok _) [] ?_ | refine awQ ?_ | refine awR ?_ | refine awS ?_ | refine awT ?_ | refine awU ?_); intro r hr; simp only [go_sem, Nat.reduceBEq, Nat.reduceBneDiff, Nat.reduceLT, Nat.reduceLeDiff, Nat.reduceAdd, Nat.reduceMul, Nat.reduceSub, Nat.reduceEqDiff, reduceCtorEq, obT, hl, hw, hz, hg, Int.toNat_zero, Nat.zero_add, Nat.sub_zero] at hr; subst hr; (first | refine awV ?_ ?_ | refine awW ?_ ?_ | refine endK ?_ ?_ | refine endGK ?_ ?_ ?_ | (refine condK (fun h => ?_) (fun h => ?_) <;> (try simp only [go_sem, reduceCtorEq] at h) <;> (try (exfalso; omega))))) | fail)) <;> (try omega)
  all_goals first | exact AV.up_rfl _ | skip
  all_goals (rw [show obT st = [(10000, .var [.ref 3 1 15000 0 st.length]), (15000, .row 3 1 ((v8 (st ++ [t])).take st.length))] by simp [obT, v8]]; exact obUp_cons rfl (obUp_take rfl obUp_nil))
theorem kidsT_parts {T : TypeM} (h8 : T.kind = 8) (n : Int) : kidsT T n 0 T.parts.length = T.parts.map (·.ty) := by
  apply List.ext_getElem
  · simp [kidsT]
  · intro i h1 h2
    have hi : i < T.parts.length := by simpa [kidsT] using h1
    simp [kidsT, elem8 h8 hi]
theorem kidsT_rep {T : TypeM} {e n : Int} (he : ∀ k : Nat, elemF T n k = e) (m : Nat) : kidsT T n 0 m = List.replicate m e := by
  apply List.ext_getElem
  · simp [kidsT]
  · intro i h1 h2
    simp [kidsT, he]
theorem kids_G (T : TypeM) (k : Nat) (hr : rightOK T k = true) (x : NodeM) (hx : nodeOK x) (hxr : rightN x = true) (hf : fitsF T x = 0) (st : List Int) (hst : st.length ≤ 1000000000) :
    GCall Tryd.prog 35 [.ptr 1 10000 0 0, .agg [vI T.kind, vI T.n, vI T.elem, .lst 3 (encPs T.parts)], .agg [vI x.kind, .v (.int .u64 x.n), vI x.kids]] (obT st) (.tup []) (obT (st ++ (kidsT T x.n 0 x.kids.toNat).reverse)) := by
  refine go_fnG (tyOf_ok _) Tryd.func35 rfl rfl (by rw [Tryd.results35]) Tryd.ntmps35 rfl fun E => ?_
  have hxk := rightN_kids hxr
  have hfp := fits_parts hf
  have htk : ∀ l : List Int, (v8 l).take l.length = v8 l := fun l => take_len (by rw [v8_len]; exact Nat.le_refl _)
  by_cases h7 : T.kind = 7
  · have k7 : (T.kind = 7) = True := eq_true h7
    have hpl := right_parts hr (.inl h7)
    have ha := arm_any T (by omega) x.n
    have hxk1 : x.kids = 1 := by
      have hkn : x.kind = 6 := by rw [hfp.1, h7]; rfl
      exact right_uni hxr hkn
    have hsome : ∃ p, armOf T.parts x.n = some p := by
      cases h : armOf T.parts x.n with
      | none => exact absurd h (hfp.2.2.2.2.2 h7)
      | some p => exact ⟨p, rfl⟩
    obtain ⟨p, hp⟩ := hsome
    have hel : kidsT T x.n 0 x.kids.toNat = [p.ty] := by rw [hxk1]; simp [kidsT, elemF, h7, hp]
    rw [hel]
    have hap : armP T.parts x.n = p := by rw [armP, hp]
    rw [hap, hp] at ha
    unfold vP at ha
    have hl : (st ++ [p.ty]).length = st.length + 1 := by simp
    rw [show [p.ty].reverse = [p.ty] from rfl]
    (repeat' (first
    | exact trivial
    | (with_reducible first | refine awA ?_ | refine awB ?_ | refine awC ?_ | refine awD ?_ | refine awE ?_ | refine awF ?_ | refine awG ?_ | refine awH ?_ | refine awI ?_ | refine awJ ?_ | refine awK ?_ | refine awL ?_ | refine awM (by decide) ?_)
    | (refine aw_draw (id := 8) (t := (.node [0, 1, 2, 3, 4, 5, 6, 7, 8, 9, 10, 11] [])) (drR [6] [40] []) mixed (by kernel_rfl) (by kernel_rfl) (fun _ _ h => h) ?_)
    | (refine aw_draw (id := 13) (t := (.node [0, 1, 2, 3, 4, 5, 6, 7, 8, 9, 10, 11, 12, 13, 14, 15] [])) (drR [4] [61, 67] []) mixed (by kernel_rfl) (by kernel_rfl) (fun _ _ h => h) ?_)
    | (refine aw_draw (id := 4) (t := (.node [0, 1, 2, 3, 4, 5, 6, 7, 8, 9, 10, 11] [])) (drR [4] [19] []) mixed (by kernel_rfl) (by kernel_rfl) (fun _ _ h => h) ?_)
    | (refine at_done (by simp only [List.filterMap_cons, List.filterMap_nil, List.getElem?_toArray, List.getElem?_cons_zero, List.getElem?_cons_succ]; exact rfl) ?_) | (refine at_alt (by simp only [List.filterMap_cons, List.filterMap_nil, List.getElem?_toArray, List.getElem?_cons_zero, List.getElem?_cons_succ]; exact rfl) ?_) | refine qalt_normal ?_ | refine ats_cons ?_ ?_ | exact ats_nil
    | ((with_reducible first | refine awN (tyOf_ok _) [] ?_ | refine awO (tyOf_ok _) [] ?_ | refine awP (tyOf_ok _) [] ?_ | refine awQ ?_ | refine awR ?_ | refine awS ?_ | refine awT ?_ | refine awU ?_); intro r hr; simp only [go_sem, Nat.reduceBEq, Nat.reduceBneDiff, Nat.reduceLT, Nat.reduceLeDiff, Nat.reduceAdd, Nat.reduceMul, Nat.reduceSub, Nat.reduceEqDiff, reduceCtorEq, obT, k7, htk, hl, List.reverse_cons, List.reverse_nil, List.nil_append, v8_app] at hr; subst hr; (first | refine caA (fun _ => ha) rfl ?_ ?_ ?_ | refine awV ?_ ?_ | refine awW ?_ ?_ | refine endK ?_ ?_ | refine endGK ?_ ?_ ?_ | (refine condK (fun h => ?_) (fun h => ?_) <;> (try simp only [go_sem, reduceCtorEq] at h) <;> (try (exfalso; omega))))) | fail)) <;> (try omega)
    · exact AV.up_rfl _
    · rw [show obT (st ++ [p.ty]) = [(10000, .var [.ref 3 1 15000 0 (st.length + 1)]), (15000, .row 3 1 (v8 (st ++ [p.ty])))] by simp [obT]]
      exact obUp_cons rfl (obUp_cons rfl obUp_nil)
  have k7 : (T.kind = 7) = False := eq_false h7
  by_cases h8 : T.kind = 8
  · have k8 : (T.kind = 8) = True := eq_true h8
    have hpl := right_parts hr (.inr h8)
    have hxk8 : x.kids = T.parts.length := hfp.2.2.2.2.1 h8
    have hel : kidsT T x.n 0 x.kids.toNat = T.parts.map (·.ty) := by rw [hxk8, Int.toNat_natCast, kidsT_parts h8]
    rw [hel]
    generalize hR : (T.parts.map (·.ty)).reverse = R
    have hRl : R.length = T.parts.length := by rw [← hR]; simp
    have hw0 : IntKind.i64.wrap ((T.parts.length : Int) - 1) = (T.parts.length : Int) - 1 := wrap_i64 (by omega)
    (repeat' (first
    | exact trivial
    | (with_reducible first | refine awA ?_ | refine awB ?_ | refine awC ?_ | refine awD ?_ | refine awE ?_ | refine awF ?_ | refine awG ?_ | refine awH ?_ | refine awI ?_ | refine awJ ?_ | refine awK ?_ | refine awL ?_ | refine awM (by decide) ?_)
    | (refine aw_draw (id := 8) (t := (.node [0, 1, 2, 3, 4, 5, 6, 7, 8, 9, 10, 11] [])) (drR [6] [40] []) mixed (by kernel_rfl) (by kernel_rfl) (fun _ _ h => h) ?_)
    | (refine aw_draw (id := 13) (t := (.node [0, 1, 2, 3, 4, 5, 6, 7, 8, 9, 10, 11, 12, 13, 14, 15] [])) (drR [4] [61, 67] []) mixed (by kernel_rfl) (by kernel_rfl) (fun _ _ h => h) ?_)
    | (refine aw_draw (id := 4) (t := (.node [0, 1, 2, 3, 4, 5, 6, 7, 8, 9, 10, 11] [])) (drR [4] [19] []) mixed (by kernel_rfl) (by kernel_rfl) (fun _ _ h => h) ?_)
    | (refine at_done (by simp only [List.filterMap_cons, List.filterMap_nil, List.getElem?_toArray, List.getElem?_cons_zero, List.getElem?_cons_succ]; exact rfl) ?_) | (refine at_alt (by simp only [List.filterMap_cons, List.filterMap_nil, List.getElem?_toArray, List.getElem?_cons_zero, List.getElem?_cons_succ]; exact rfl) ?_) | refine qalt_normal ?_ | refine ats_cons ?_ ?_ | exact ats_nil
    | ((with_reducible first | refine awN (tyOf_ok _) [] ?_ | refine awO (tyOf_ok _) [] ?_ | refine awP (tyOf_ok _) [] ?_ | refine awQ ?_ | refine awR ?_ | refine awS ?_ | refine awT ?_ | refine awU ?_); intro r hr; simp only [go_sem, Nat.reduceBEq, Nat.reduceBneDiff, Nat.reduceLT, Nat.reduceLeDiff, Nat.reduceAdd, Nat.reduceMul, Nat.reduceSub, Nat.reduceEqDiff, reduceCtorEq, obT, k7, k8, hw0] at hr; subst hr; (first | refine awV ?_ ?_ | refine awW ?_ ?_ | refine endK ?_ ?_ | refine endGK ?_ ?_ ?_ | (refine condK (fun h => ?_) (fun h => ?_) <;> (try simp only [go_sem, reduceCtorEq] at h) <;> (try (exfalso; omega))))) | fail)) <;> (try omega)
    refine go_loop [0, 4, 5, 8] [4, 5, 10000, 15000] (fun j : Nat => ⟨[(0, true, .ptr 1 10000 0 0), (4, true, .ptr 1 4 0 0), (5, true, .ptr 1 5 0 0), (8, true, vI ((T.parts.length : Int) - 1 - j))],
      [(4, .var [vI T.kind, vI T.n, vI T.elem, .lst 3 (encPs T.parts)]), (5, .var [vI x.kind, .v (.int .u64 x.n), vI x.kids]), (10000, .var [.ref 3 1 15000 0 (st ++ R.take j).length]), (15000, .row 3 1 (v8 (st ++ R.take j)))]⟩)
      (fun j => j ≤ T.parts.length) (fun j => T.parts.length - j) 0 (by simp only [go_sem, Nat.reduceBEq, Nat.reduceBneDiff, Nat.reduceLT, Nat.reduceLeDiff, Nat.reduceAdd, Nat.reduceMul, Nat.reduceSub, Nat.reduceEqDiff, reduceCtorEq, List.take_zero, List.append_nil, Int.natCast_zero, Int.sub_zero] <;> exact rfl) (Nat.zero_le _) ?_
    intro j hj
    by_cases hlt : j < T.parts.length
    · obtain ⟨i, hi⟩ : ∃ i : Nat, (T.parts.length : Int) - 1 - j = i := ⟨T.parts.length - 1 - j, by omega⟩
      have hlti : i < T.parts.length := by omega
      have f1 : (0 ≤ (i : Int)) = True := eq_true (by omega)
      have g1 := encPs_get hlti
      have zi : ((i : Int)).toNat = i := by omega
      have hnx : R.take (j + 1) = R.take j ++ [T.parts[i].ty] := by
        rw [List.take_succ_eq_append_getElem (by omega)]
        congr 2
        simp only [← hR]
        rw [List.getElem_reverse, List.getElem_map]
        congr 2
        simp; omega
      have hwi : IntKind.i64.wrap ((i : Int) - 1) = (T.parts.length : Int) - 1 - ((j + 1 : Nat) : Int) := by rw [wrap_i64 (by omega)]; omega
      have hl : (st ++ R.take (j + 1)).length = (st ++ R.take j).length + 1 := by rw [hnx]; simp; omega
      have hap : v8 (st ++ R.take j) ++ [[vI T.parts[i].ty]] = v8 (st ++ R.take (j + 1)) := by rw [v8_app, hnx, List.append_assoc]
      have hlb : (st ++ R.take j).length ≤ 1000000100 := by simp; omega
      have htj := htk (st ++ R.take j)
      rw [hi]
      (repeat' (first
    | exact trivial
    | (with_reducible first | refine awA ?_ | refine awB ?_ | refine awC ?_ | refine awD ?_ | refine awE ?_ | refine awF ?_ | refine awG ?_ | refine awH ?_ | refine awI ?_ | refine awJ ?_ | refine awK ?_ | refine awL ?_ | refine awM (by decide) ?_)
    | (refine aw_draw (id := 8) (t := (.node [0, 1, 2, 3, 4, 5, 6, 7, 8, 9, 10, 11] [])) (drR [6] [40] []) mixed (by kernel_rfl) (by kernel_rfl) (fun _ _ h => h) ?_)
    | (refine aw_draw (id := 13) (t := (.node [0, 1, 2, 3, 4, 5, 6, 7, 8, 9, 10, 11, 12, 13, 14, 15] [])) (drR [4] [61, 67] []) mixed (by kernel_rfl) (by kernel_rfl) (fun _ _ h => h) ?_)
    | (refine aw_draw (id := 4) (t := (.node [0, 1, 2, 3, 4, 5, 6, 7, 8, 9, 10, 11] [])) (drR [4] [19] []) mixed (by kernel_rfl) (by kernel_rfl) (fun _ _ h => h) ?_)
    | (refine at_done (by simp only [List.filterMap_cons, List.filterMap_nil, List.getElem?_toArray, List.getElem?_cons_zero, List.getElem?_cons_succ]; exact rfl) ?_) | (refine at_alt (by simp only [List.filterMap_cons, List.filterMap_nil, List.getElem?_toArray, List.getElem?_cons_zero, List.getElem?_cons_succ]; exact rfl) ?_) | refine qalt_normal ?_ | refine ats_cons ?_ ?_ | exact ats_nil
    | ((with_reducible first | refine awN (tyOf_ok _) [] ?_ | refine awO (tyOf_ok _) [] ?_ | refine awP (tyOf_ok _) [] ?_ | refine awQ ?_ | refine awR ?_ | refine awS ?_ | refine awT ?_ | refine awU ?_); intro r hr; simp only [go_sem, Nat.reduceBEq, Nat.reduceBneDiff, Nat.reduceLT, Nat.reduceLeDiff, Nat.reduceAdd, Nat.reduceMul, Nat.reduceSub, Nat.reduceEqDiff, reduceCtorEq, f1, g1, zi, htj, hap, hl, hwi] at hr; subst hr; (first | refine awV ?_ ?_ | refine awW ?_ ?_ | refine endK ?_ ?_ | refine endGK ?_ ?_ ?_ | (refine condK (fun h => ?_) (fun h => ?_) <;> (try simp only [go_sem, reduceCtorEq] at h) <;> (try (exfalso; omega))))) | fail)) <;> (try omega)
      all_goals exact ⟨j + 1, by simp only [go_sem, Nat.reduceBEq, Nat.reduceBneDiff, Nat.reduceLT, Nat.reduceLeDiff, Nat.reduceAdd, Nat.reduceMul, Nat.reduceSub, Nat.reduceEqDiff, reduceCtorEq, hl] <;> exact rfl, hlt, by omega⟩
    · have f1 : (0 ≤ (T.parts.length : Int) - 1 - j) = False := eq_false (by omega)
      have hje : R.take j = R := take_len (by omega)
      rw [hje]
      (repeat' (first
    | exact trivial
    | (with_reducible first | refine awA ?_ | refine awB ?_ | refine awC ?_ | refine awD ?_ | refine awE ?_ | refine awF ?_ | refine awG ?_ | refine awH ?_ | refine awI ?_ | refine awJ ?_ | refine awK ?_ | refine awL ?_ | refine awM (by decide) ?_)
    | (refine aw_draw (id := 8) (t := (.node [0, 1, 2, 3, 4, 5, 6, 7, 8, 9, 10, 11] [])) (drR [6] [40] []) mixed (by kernel_rfl) (by kernel_rfl) (fun _ _ h => h) ?_)
    | (refine aw_draw (id := 13) (t := (.node [0, 1, 2, 3, 4, 5, 6, 7, 8, 9, 10, 11, 12, 13, 14, 15] [])) (drR [4] [61, 67] []) mixed (by kernel_rfl) (by kernel_rfl) (fun _ _ h => h) ?_)
    | (refine aw_draw (id := 4) (t := (.node [0, 1, 2, 3, 4, 5, 6, 7, 8, 9, 10, 11] [])) (drR [4] [19] []) mixed (by kernel_rfl) (by kernel_rfl) (fun _ _ h => h) ?_)
    | (refine at_done (by simp only [List.filterMap_cons, List.filterMap_nil, List.getElem?_toArray, List.getElem?_cons_zero, List.getElem?_cons_succ]; exact rfl) ?_) | (refine at_alt (by simp only [List.filterMap_cons, List.filterMap_nil, List.getElem?_toArray, List.getElem?_cons_zero, List.getElem?_cons_succ]; exact rfl) ?_) | refine qalt_normal ?_ | refine ats_cons ?_ ?_ | exact ats_nil
    | ((with_reducible first | refine awN (tyOf_ok _) [] ?_ | refine awO (tyOf_ok _) [] ?_ | refine awP (tyOf_ok _) [] ?_ | refine awQ ?_ | refine awR ?_ | refine awS ?_ | refine awT ?_ | refine awU ?_); intro r hr; simp only [go_sem, Nat.reduceBEq, Nat.reduceBneDiff, Nat.reduceLT, Nat.reduceLeDiff, Nat.reduceAdd, Nat.reduceMul, Nat.reduceSub, Nat.reduceEqDiff, reduceCtorEq, f1] at hr; subst hr; (first | refine awV ?_ ?_ | refine awW ?_ ?_ | refine endK ?_ ?_ | refine endGK ?_ ?_ ?_ | (refine condK (fun h => ?_) (fun h => ?_) <;> (try simp only [go_sem, reduceCtorEq] at h) <;> (try (exfalso; omega))))) | fail)) <;> (try omega)
      · exact AV.up_rfl _
      · exact obUp_cons rfl (obUp_cons rfl obUp_nil)
  have k8 : (T.kind = 8) = False := eq_false h8
  obtain ⟨m, hm⟩ : ∃ m : Nat, x.kids = m := ⟨x.kids.toNat, by omega⟩
  have hel : kidsT T x.n 0 x.kids.toNat = List.replicate m T.elem := by
    rcases rightOK_kind hr with h | h | h
    · have : x.kids = 0 := by
        have hkn : x.kind = 1 ∨ x.kind = 2 := by rw [hfp.1]; rcases h with h | h | h <;> simp [h, nkOf]
        exact (right_zero hxr hkn).1
      have : m = 0 := by omega
      subst this
      rw [hm]; rfl
    · rw [hm, Int.toNat_natCast]
      exact kidsT_rep (fun k => by simp [elemF, h]) m
    · omega
  rw [hel, List.reverse_replicate]
  obtain ⟨f, hff⟩ : ∃ f : Nat → List Int, ∀ j, f j = List.replicate j T.elem := ⟨fun j => List.replicate j T.elem, fun _ => rfl⟩
  have hf0 : f 0 = [] := by rw [hff]; rfl
  have hfs : ∀ j, f (j + 1) = f j ++ [T.elem] := fun j => by rw [hff, hff, List.replicate_succ']
  have hfl : ∀ j, (f j).length = j := fun j => by rw [hff]; simp
  rw [← hff]
  (repeat' (first
    | exact trivial
    | (with_reducible first | refine awA ?_ | refine awB ?_ | refine awC ?_ | refine awD ?_ | refine awE ?_ | refine awF ?_ | refine awG ?_ | refine awH ?_ | refine awI ?_ | refine awJ ?_ | refine awK ?_ | refine awL ?_ | refine awM (by decide) ?_)
    | (refine aw_draw (id := 8) (t := (.node [0, 1, 2, 3, 4, 5, 6, 7, 8, 9, 10, 11] [])) (drR [6] [40] []) mixed (by kernel_rfl) (by kernel_rfl) (fun _ _ h => h) ?_)
    | (refine aw_draw (id := 13) (t := (.node [0, 1, 2, 3, 4, 5, 6, 7, 8, 9, 10, 11, 12, 13, 14, 15] [])) (drR [4] [61, 67] []) mixed (by kernel_rfl) (by kernel_rfl) (fun _ _ h => h) ?_)
    | (refine aw_draw (id := 4) (t := (.node [0, 1, 2, 3, 4, 5, 6, 7, 8, 9, 10, 11] [])) (drR [4] [19] []) mixed (by kernel_rfl) (by kernel_rfl) (fun _ _ h => h) ?_)
    | (refine at_done (by simp only [List.filterMap_cons, List.filterMap_nil, List.getElem?_toArray, List.getElem?_cons_zero, List.getElem?_cons_succ]; exact rfl) ?_) | (refine at_alt (by simp only [List.filterMap_cons, List.filterMap_nil, List.getElem?_toArray, List.getElem?_cons_zero, List.getElem?_cons_succ]; exact rfl) ?_) | refine qalt_normal ?_ | refine ats_cons ?_ ?_ | exact ats_nil
    | ((with_reducible first | refine awN (tyOf_ok _) [] ?_ | refine awO (tyOf_ok _) [] ?_ | refine awP (tyOf_ok _) [] ?_ | refine awQ ?_ | refine awR ?_ | refine awS ?_ | refine awT ?_ | refine awU ?_); intro r hr; simp only [go_sem, Nat.reduceBEq, Nat.reduceBneDiff, Nat.reduceLT, Nat.reduceLeDiff, Nat.reduceAdd, Nat.reduceMul, Nat.reduceSub, Nat.reduceEqDiff, reduceCtorEq, obT, k7, k8] at hr; subst hr; (first | refine awV ?_ ?_ | refine awW ?_ ?_ | refine endK ?_ ?_ | refine endGK ?_ ?_ ?_ | (refine condK (fun h => ?_) (fun h => ?_) <;> (try simp only [go_sem, reduceCtorEq] at h) <;> (try (exfalso; omega))))) | fail)) <;> (try omega)
  refine go_loop [0, 4, 5, 12, 13] [4, 5, 10000, 15000] (fun j : Nat => ⟨[(0, true, .ptr 1 10000 0 0), (4, true, .ptr 1 4 0 0), (5, true, .ptr 1 5 0 0), (12, true, vI x.kids), (13, true, vI j)],
    [(4, .var [vI T.kind, vI T.n, vI T.elem, .lst 3 (encPs T.parts)]), (5, .var [vI x.kind, .v (.int .u64 x.n), vI x.kids]), (10000, .var [.ref 3 1 15000 0 (st ++ f j).length]), (15000, .row 3 1 (v8 (st ++ f j)))]⟩)
    (fun j => j ≤ m) (fun j => m - j) 0 (by simp only [go_sem, Nat.reduceBEq, Nat.reduceBneDiff, Nat.reduceLT, Nat.reduceLeDiff, Nat.reduceAdd, Nat.reduceMul, Nat.reduceSub, Nat.reduceEqDiff, reduceCtorEq, hf0, List.append_nil]; exact rfl) (Nat.zero_le _) ?_
  intro j hj
  have hwj := wrap_i64 (n := (j : Int) + 1) (by omega)
  by_cases hlt : j < m
  · have f1 : ((j : Int) < m) = True := eq_true (by omega)
    have hl : (st ++ f (j + 1)).length = (st ++ f j).length + 1 := by simp [hfl]; omega
    have hap : v8 (st ++ f j) ++ [[vI T.elem]] = v8 (st ++ f (j + 1)) := by rw [v8_app, hfs, List.append_assoc]
    have hlb : (st ++ f j).length ≤ 1002000000 := by simp [hfl]; omega
    have htj := htk (st ++ f j)
    (repeat' (first
    | exact trivial
    | (with_reducible first | refine awA ?_ | refine awB ?_ | refine awC ?_ | refine awD ?_ | refine awE ?_ | refine awF ?_ | refine awG ?_ | refine awH ?_ | refine awI ?_ | refine awJ ?_ | refine awK ?_ | refine awL ?_ | refine awM (by decide) ?_)
    | (refine aw_draw (id := 8) (t := (.node [0, 1, 2, 3, 4, 5, 6, 7, 8, 9, 10, 11] [])) (drR [6] [40] []) mixed (by kernel_rfl) (by kernel_rfl) (fun _ _ h => h) ?_)
    | (refine aw_draw (id := 13) (t := (.node [0, 1, 2, 3, 4, 5, 6, 7, 8, 9, 10, 11, 12, 13, 14, 15] [])) (drR [4] [61, 67] []) mixed (by kernel_rfl) (by kernel_rfl) (fun _ _ h => h) ?_)
    | (refine aw_draw (id := 4) (t := (.node [0, 1, 2, 3, 4, 5, 6, 7, 8, 9, 10, 11] [])) (drR [4] [19] []) mixed (by kernel_rfl) (by kernel_rfl) (fun _ _ h => h) ?_)
    | (refine at_done (by simp only [List.filterMap_cons, List.filterMap_nil, List.getElem?_toArray, List.getElem?_cons_zero, List.getElem?_cons_succ]; exact rfl) ?_) | (refine at_alt (by simp only [List.filterMap_cons, List.filterMap_nil, List.getElem?_toArray, List.getElem?_cons_zero, List.getElem?_cons_succ]; exact rfl) ?_) | refine qalt_normal ?_ | refine ats_cons ?_ ?_ | exact ats_nil
    | ((with_reducible first | refine awN (tyOf_ok _) [] ?_ | refine awO (tyOf_ok _) [] ?_ | refine awP (tyOf_ok _) [] ?_ | refine awQ ?_ | refine awR ?_ | refine awS ?_ | refine awT ?_ | refine awU ?_); intro r hr; simp only [go_sem, Nat.reduceBEq, Nat.reduceBneDiff, Nat.reduceLT, Nat.reduceLeDiff, Nat.reduceAdd, Nat.reduceMul, Nat.reduceSub, Nat.reduceEqDiff, reduceCtorEq, f1, hm, htj, hap, hl, hwj] at hr; subst hr; (first | refine awV ?_ ?_ | refine awW ?_ ?_ | refine endK ?_ ?_ | refine endGK ?_ ?_ ?_ | (refine condK (fun h => ?_) (fun h => ?_) <;> (try simp only [go_sem, reduceCtorEq] at h) <;> (try (exfalso; omega))))) | fail)) <;> (try omega)
    all_goals exact ⟨j + 1, by simp only [go_sem, Nat.reduceBEq, Nat.reduceBneDiff, Nat.reduceLT, Nat.reduceLeDiff, Nat.reduceAdd, Nat.reduceMul, Nat.reduceSub, Nat.reduceEqDiff, reduceCtorEq, hl, hm] <;> exact rfl, hlt, by omega⟩
  · have f1 : ((j : Int) < m) = False := eq_false (by omega)
    obtain rfl : j = m := by omega
    (repeat' (first
    | exact trivial
    | (with_reducible first | refine awA ?_ | refine awB ?_ | refine awC ?_ | refine awD ?_ | refine awE ?_ | refine awF ?_ | refine awG ?_ | refine awH ?_ | refine awI ?_ | refine awJ ?_ | refine awK ?_ | refine awL ?_ | refine awM (by decide) ?_)
    | (refine aw_draw (id := 8) (t := (.node [0, 1, 2, 3, 4, 5, 6, 7, 8, 9, 10, 11] [])) (drR [6] [40] []) mixed (by kernel_rfl) (by kernel_rfl) (fun _ _ h => h) ?_)
    | (refine aw_draw (id := 13) (t := (.node [0, 1, 2, 3, 4, 5, 6, 7, 8, 9, 10, 11, 12, 13, 14, 15] [])) (drR [4] [61, 67] []) mixed (by kernel_rfl) (by kernel_rfl) (fun _ _ h => h) ?_)
    | (refine aw_draw (id := 4) (t := (.node [0, 1, 2, 3, 4, 5, 6, 7, 8, 9, 10, 11] [])) (drR [4] [19] []) mixed (by kernel_rfl) (by kernel_rfl) (fun _ _ h => h) ?_)
    | (refine at_done (by simp only [List.filterMap_cons, List.filterMap_nil, List.getElem?_toArray, List.getElem?_cons_zero, List.getElem?_cons_succ]; exact rfl) ?_) | (refine at_alt (by simp only [List.filterMap_cons, List.filterMap_nil, List.getElem?_toArray, List.getElem?_cons_zero, List.getElem?_cons_succ]; exact rfl) ?_) | refine qalt_normal ?_ | refine ats_cons ?_ ?_ | exact ats_nil
    | ((with_reducible first | refine awN (tyOf_ok _) [] ?_ | refine awO (tyOf_ok _) [] ?_ | refine awP (tyOf_ok _) [] ?_ | refine awQ ?_ | refine awR ?_ | refine awS ?_ | refine awT ?_ | refine awU ?_); intro r hr; simp only [go_sem, Nat.reduceBEq, Nat.reduceBneDiff, Nat.reduceLT, Nat.reduceLeDiff, Nat.reduceAdd, Nat.reduceMul, Nat.reduceSub, Nat.reduceEqDiff, reduceCtorEq, f1, hm] at hr; subst hr; (first | refine awV ?_ ?_ | refine awW ?_ ?_ | refine endK ?_ ?_ | refine endGK ?_ ?_ ?_ | (refine condK (fun h => ?_) (fun h => ?_) <;> (try simp only [go_sem, reduceCtorEq] at h) <;> (try (exfalso; omega))))) | fail)) <;> (try omega)
    · exact AV.up_rfl _
    · exact obUp_cons rfl (obUp_cons rfl obUp_nil)
end Go.Proofs.YtfgacgpicfknpaaDoor
end
section
namespace Go.Proofs.YtfgacgpicfknpaaDoor
open Go.RowKit
set_option maxRecDepth 100000
set_option maxHeartbeats 8000000
/-! What package value says of nodes. -/
def leastN (k : Int) : Int := if k = 4 ∨ k = 6 then 1 else 0
def mostN (k : Int) : Int := if k = 3 then 1048576 else if k = 4 then 64 else if k = 5 ∨ k = 6 then 1 else 0
theorem kidsV_any (k : Int) : PCall Tryd.prog 57 [vI k] (fun r => r = .tup [vI (leastN k), vI (mostN k)]) := by
  refine go_fn (tyOf_ok _) Tryd.func57 rfl rfl (by rw [Tryd.results57]) Tryd.ntmps57 rfl fun E => ?_
  (repeat' (first
    | exact trivial
    | (with_reducible first | refine awA ?_ | refine awB ?_ | refine awC ?_ | refine awD ?_ | refine awE ?_ | refine awF ?_ | refine awG ?_ | refine awH ?_ | refine awI ?_ | refine awJ ?_ | refine awK ?_ | refine awL ?_ | refine awM (by decide) ?_)
    | ((with_reducible first | refine awN (tyOf_ok _) [] ?_ | refine awO (tyOf_ok _) [] ?_ | refine awP (tyOf_ok _) [] ?_ | refine awQ ?_ | refine awR ?_ | refine awS ?_); intro r hr; simp only [go_sem, Nat.reduceBEq, Nat.reduceBneDiff, Nat.reduceLT, Nat.reduceLeDiff, Nat.reduceAdd, Nat.reduceMul, Nat.reduceSub, Nat.reduceEqDiff, reduceCtorEq] at hr; subst hr; (first | refine awV ?_ ?_ | refine awW ?_ ?_ | refine endK ?_ ?_ | (refine condK (fun h => ?_) (fun h => ?_) <;> (try simp only [go_sem, reduceCtorEq] at h) <;> (try (exfalso; omega))))) | fail)) <;> (try omega)
  all_goals (show AV.tup _ = _; simp [leastN, mostN, *])
theorem numberV_any (k n : Int) : PCall Tryd.prog 58 [vI k, .v (.int .u64 n)] (fun r => r = vB (numberN k n)) := by
  refine go_fn (tyOf_ok _) Tryd.func58 rfl rfl (by rw [Tryd.results58]) Tryd.ntmps58 rfl fun E => ?_
  (repeat' (first
    | exact trivial
    | (with_reducible first | refine awA ?_ | refine awB ?_ | refine awC ?_ | refine awD ?_ | refine awE ?_ | refine awF ?_ | refine awG ?_ | refine awH ?_ | refine awI ?_ | refine awJ ?_ | refine awK ?_ | refine awL ?_ | refine awM (by decide) ?_)
    | ((with_reducible first | refine awN (tyOf_ok _) [] ?_ | refine awO (tyOf_ok _) [] ?_ | refine awP (tyOf_ok _) [] ?_ | refine awQ ?_ | refine awR ?_ | refine awS ?_); intro r hr; simp only [go_sem, Nat.reduceBEq, Nat.reduceBneDiff, Nat.reduceLT, Nat.reduceLeDiff, Nat.reduceAdd, Nat.reduceMul, Nat.reduceSub, Nat.reduceEqDiff, reduceCtorEq] at hr; subst hr; (first | refine awV ?_ ?_ | refine awW ?_ ?_ | refine endK ?_ ?_ | (refine condK (fun h => ?_) (fun h => ?_) <;> (try simp only [go_sem, reduceCtorEq] at h) <;> (try (exfalso; omega))))) | fail)) <;> (try omega)
  all_goals exact congrArg (fun b => AV.v (.bool b)) (by simp [numberN, *])
theorem rightV_eq (x : NodeM) : rightN x = (numberN x.kind x.n && decide (leastN x.kind ≤ x.kids) && decide (x.kids ≤ mostN x.kind)) := by
  by_cases hn : numberN x.kind x.n = true
  · rw [rightN, hn, Bool.true_and, Bool.true_and]
    have hk : x.kind = 1 ∨ x.kind = 2 ∨ x.kind = 3 ∨ x.kind = 4 ∨ x.kind = 5 ∨ x.kind = 6 := by
      unfold numberN at hn
      split at hn
      · omega
      · split at hn
        · omega
        · split at hn
          · omega
          · simp at hn; omega
    rcases hk with h | h | h | h | h | h <;> simp [h, leastN, mostN] <;> (try omega)
    all_goals (rw [Bool.eq_iff_iff]; simp; omega)
  · have : numberN x.kind x.n = false := by simpa using hn
    rw [rightN, this]; rfl
theorem rightV_any (x : NodeM) : PCall Tryd.prog 44 [.agg [vI x.kind, .v (.int .u64 x.n), vI x.kids]] (fun r => r = vB (rightN x)) := by
  refine go_fn (tyOf_ok _) Tryd.func44 rfl rfl (by rw [Tryd.results44]) Tryd.ntmps44 rfl fun E => ?_
  have h1 := kidsV_any x.kind
  have h2 := numberV_any x.kind x.n
  rw [rightV_eq]
  generalize numberN x.kind x.n = b at *
  cases b
  · (repeat' (first
    | exact trivial
    | (with_reducible first | refine awA ?_ | refine awB ?_ | refine awC ?_ | refine awD ?_ | refine awE ?_ | refine awF ?_ | refine awG ?_ | refine awH ?_ | refine awI ?_ | refine awJ ?_ | refine awK ?_ | refine awL ?_ | refine awM (by decide) ?_)
    | ((with_reducible first | refine awN (tyOf_ok _) [] ?_ | refine awO (tyOf_ok _) [] ?_ | refine awP (tyOf_ok _) [] ?_ | refine awQ ?_ | refine awR ?_ | refine awS ?_); intro r hr; simp only [go_sem, Nat.reduceBEq, Nat.reduceBneDiff, Nat.reduceLT, Nat.reduceLeDiff, Nat.reduceAdd, Nat.reduceMul, Nat.reduceSub, Nat.reduceEqDiff, reduceCtorEq] at hr; subst hr; (first | refine caA (fun _ => h1) rfl ?_ ?_ ?_ | refine caA (fun _ => h2) rfl ?_ ?_ ?_ | refine awV ?_ ?_ | refine awW ?_ ?_ | refine endK ?_ ?_ | (refine condK (fun h => ?_) (fun h => ?_) <;> (try simp only [go_sem, reduceCtorEq] at h) <;> (try (exfalso; omega))))) | fail)) <;> (try omega)
    all_goals exact rfl
  · (repeat' (first
    | exact trivial
    | (with_reducible first | refine awA ?_ | refine awB ?_ | refine awC ?_ | refine awD ?_ | refine awE ?_ | refine awF ?_ | refine awG ?_ | refine awH ?_ | refine awI ?_ | refine awJ ?_ | refine awK ?_ | refine awL ?_ | refine awM (by decide) ?_)
    | ((with_reducible first | refine awN (tyOf_ok _) [] ?_ | refine awO (tyOf_ok _) [] ?_ | refine awP (tyOf_ok _) [] ?_ | refine awQ ?_ | refine awR ?_ | refine awS ?_); intro r hr; simp only [go_sem, Nat.reduceBEq, Nat.reduceBneDiff, Nat.reduceLT, Nat.reduceLeDiff, Nat.reduceAdd, Nat.reduceMul, Nat.reduceSub, Nat.reduceEqDiff, reduceCtorEq] at hr; subst hr; (first | refine caA (fun _ => h1) rfl ?_ ?_ ?_ | refine caA (fun _ => h2) rfl ?_ ?_ ?_ | refine awV ?_ ?_ | refine awW ?_ ?_ | refine endK ?_ ?_ | (refine condK (fun h => ?_) (fun h => ?_) <;> (try simp only [go_sem, reduceCtorEq] at h) <;> (try (exfalso; omega))))) | fail)) <;> (try omega)
    all_goals exact rfl
theorem checkV_any (l : List NodeM) (hl : l.length ≤ 1000000000) : PCall Tryd.prog 32 [.lst 3 (encNs l)] (fun r => r = .agg [vI (chkN l).1, vI (chkN l).2]) := by
  refine go_fn (tyOf_ok _) Tryd.func32 rfl rfl (by rw [Tryd.results32]) Tryd.ntmps32 rfl fun E => ?_
  generalize hC : chkN l = C
  unfold chkN at hC
  (repeat' (first
    | exact trivial
    | (with_reducible first | refine awA ?_ | refine awB ?_ | refine awC ?_ | refine awD ?_ | refine awE ?_ | refine awF ?_ | refine awG ?_ | refine awH ?_ | refine awI ?_ | refine awJ ?_ | refine awK ?_ | refine awL ?_ | refine awM (by decide) ?_)
    | ((with_reducible first | refine awN (tyOf_ok _) [] ?_ | refine awO (tyOf_ok _) [] ?_ | refine awP (tyOf_ok _) [] ?_ | refine awQ ?_ | refine awR ?_ | refine awS ?_); intro r hr; simp only [go_sem, Nat.reduceBEq, Nat.reduceBneDiff, Nat.reduceLT, Nat.reduceLeDiff, Nat.reduceAdd, Nat.reduceMul, Nat.reduceSub, Nat.reduceEqDiff, reduceCtorEq, encNs_len] at hr; subst hr; (first | refine awV ?_ ?_ | refine awW ?_ ?_ | refine endK ?_ ?_ | (refine condK (fun h => ?_) (fun h => ?_) <;> (try simp only [go_sem, reduceCtorEq] at h) <;> (try (exfalso; omega))))) | fail)) <;> (try omega)
  refine go_loop [0, 2, 3, 6, 7, 8] [2] (fun p : Nat × Int => ⟨[(0, true, .lst 3 (encNs l)), (2, true, .ptr 1 2 0 0), (3, true, vI p.2), (6, true, .lst 3 (encNs l)), (7, true, vI l.length), (8, true, vI p.1)], [(2, .var [vI 0, vI 0])]⟩) (fun p => p.1 ≤ l.length ∧ C = chkL (l.drop p.1) p.2 p.1 ∧ 0 ≤ p.2 ∧ p.2 ≤ 1 + (p.1 : Int) * 1048576) (fun p => l.length - p.1) (0, 1) (by simp only [go_sem, Nat.reduceBEq, Nat.reduceBneDiff, Nat.reduceLT, Nat.reduceLeDiff, Nat.reduceAdd, Nat.reduceMul, Nat.reduceSub, Nat.reduceEqDiff, reduceCtorEq]; exact rfl)
    ⟨Nat.zero_le _, by rw [← hC]; rfl, by decide, by decide⟩ ?_
  intro ⟨i, w⟩ ⟨hi, heq, hw0, hw1⟩
  simp only at hi heq hw0 hw1
  clear hC
  have hwi := wrap_i64 (n := (i : Int) + 1) (by omega)
  by_cases hlt : i < l.length
  · have e1 : ((i : Int) < l.length) = True := eq_true (by omega)
    have g1 := encNs_get hlt
    have hR := rightV_any l[i]
    have hk := rightN_kids (x := l[i])
    rw [List.drop_eq_getElem_cons hlt, chkL] at heq
    by_cases hz : w = 0
    · have e2 : (w = 0) = True := eq_true hz
      rw [if_pos (.inl hz)] at heq
      subst heq
      (repeat' (first
    | exact trivial
    | (with_reducible first | refine awA ?_ | refine awB ?_ | refine awC ?_ | refine awD ?_ | refine awE ?_ | refine awF ?_ | refine awG ?_ | refine awH ?_ | refine awI ?_ | refine awJ ?_ | refine awK ?_ | refine awL ?_ | refine awM (by decide) ?_)
    | ((with_reducible first | refine awN (tyOf_ok _) [] ?_ | refine awO (tyOf_ok _) [] ?_ | refine awP (tyOf_ok _) [] ?_ | refine awQ ?_ | refine awR ?_ | refine awS ?_); intro r hr; simp only [go_sem, Nat.reduceBEq, Nat.reduceBneDiff, Nat.reduceLT, Nat.reduceLeDiff, Nat.reduceAdd, Nat.reduceMul, Nat.reduceSub, Nat.reduceEqDiff, reduceCtorEq, encNs_len, hwi, e1, g1, e2, vU] at hr; subst hr; (first | refine caB 44 (vB true) ?_ ?_ ?_ | refine awV ?_ ?_ | refine awW ?_ ?_ | refine endK ?_ ?_ | (refine condK (fun h => ?_) (fun h => ?_) <;> (try simp only [go_sem, reduceCtorEq] at h) <;> (try (exfalso; omega))))) | fail)) <;> (try omega)
      exact rfl
    have e2 : (w = 0) = False := eq_false hz
    by_cases hr : rightN l[i] = true
    · rw [if_neg (by rintro (h | h); (· exact hz h); rw [hr] at h; cases h)] at heq
      have := hk hr
      have hwa := wrap_i64 (n := l[i].kids - 1) (by omega)
      have hwb := wrap_i64 (n := w + (l[i].kids - 1)) (by omega)
      rw [hr] at hR
      (repeat' (first
    | exact trivial
    | (with_reducible first | refine awA ?_ | refine awB ?_ | refine awC ?_ | refine awD ?_ | refine awE ?_ | refine awF ?_ | refine awG ?_ | refine awH ?_ | refine awI ?_ | refine awJ ?_ | refine awK ?_ | refine awL ?_ | refine awM (by decide) ?_)
    | ((with_reducible first | refine awN (tyOf_ok _) [] ?_ | refine awO (tyOf_ok _) [] ?_ | refine awP (tyOf_ok _) [] ?_ | refine awQ ?_ | refine awR ?_ | refine awS ?_); intro r hr; simp only [go_sem, Nat.reduceBEq, Nat.reduceBneDiff, Nat.reduceLT, Nat.reduceLeDiff, Nat.reduceAdd, Nat.reduceMul, Nat.reduceSub, Nat.reduceEqDiff, reduceCtorEq, encNs_len, hwi, e1, g1, e2, hwa, hwb, vU] at hr; subst hr; (first | refine caA (fun _ => hR) rfl ?_ ?_ ?_ | refine awV ?_ ?_ | refine awW ?_ ?_ | refine endK ?_ ?_ | (refine condK (fun h => ?_) (fun h => ?_) <;> (try simp only [go_sem, reduceCtorEq] at h) <;> (try (exfalso; omega))))) | fail)) <;> (try omega)
      exact ⟨(i + 1, w + (l[i].kids - 1)), by simp only [go_sem, Nat.reduceBEq, Nat.reduceBneDiff, Nat.reduceLT, Nat.reduceLeDiff, Nat.reduceAdd, Nat.reduceMul, Nat.reduceSub, Nat.reduceEqDiff, reduceCtorEq]; exact rfl, ⟨hlt, by rw [heq]; simp only; congr 1; omega, by simp only; omega, by simp only; omega⟩, by simp only; omega⟩
    · have hr' : rightN l[i] = false := by simpa using hr
      rw [if_pos (.inr hr')] at heq
      rw [hr'] at hR
      subst heq
      (repeat' (first
    | exact trivial
    | (with_reducible first | refine awA ?_ | refine awB ?_ | refine awC ?_ | refine awD ?_ | refine awE ?_ | refine awF ?_ | refine awG ?_ | refine awH ?_ | refine awI ?_ | refine awJ ?_ | refine awK ?_ | refine awL ?_ | refine awM (by decide) ?_)
    | ((with_reducible first | refine awN (tyOf_ok _) [] ?_ | refine awO (tyOf_ok _) [] ?_ | refine awP (tyOf_ok _) [] ?_ | refine awQ ?_ | refine awR ?_ | refine awS ?_); intro r hr; simp only [go_sem, Nat.reduceBEq, Nat.reduceBneDiff, Nat.reduceLT, Nat.reduceLeDiff, Nat.reduceAdd, Nat.reduceMul, Nat.reduceSub, Nat.reduceEqDiff, reduceCtorEq, encNs_len, hwi, e1, g1, e2, vU] at hr; subst hr; (first | refine caA (fun _ => hR) rfl ?_ ?_ ?_ | refine awV ?_ ?_ | refine awW ?_ ?_ | refine endK ?_ ?_ | (refine condK (fun h => ?_) (fun h => ?_) <;> (try simp only [go_sem, reduceCtorEq] at h) <;> (try (exfalso; omega))))) | fail)) <;> (try omega)
      exact rfl
  · have e1 : ((i : Int) < l.length) = False := eq_false (by omega)
    have hil : i = l.length := by omega
    rw [List.drop_eq_nil_of_le (by omega), chkL] at heq
    by_cases hz : 0 < w
    · have e2 : (0 < w) = True := eq_true hz
      rw [if_pos hz, hil] at heq
      subst heq
      (repeat' (first
    | exact trivial
    | (with_reducible first | refine awA ?_ | refine awB ?_ | refine awC ?_ | refine awD ?_ | refine awE ?_ | refine awF ?_ | refine awG ?_ | refine awH ?_ | refine awI ?_ | refine awJ ?_ | refine awK ?_ | refine awL ?_ | refine awM (by decide) ?_)
    | ((with_reducible first | refine awN (tyOf_ok _) [] ?_ | refine awO (tyOf_ok _) [] ?_ | refine awP (tyOf_ok _) [] ?_ | refine awQ ?_ | refine awR ?_ | refine awS ?_); intro r hr; simp only [go_sem, Nat.reduceBEq, Nat.reduceBneDiff, Nat.reduceLT, Nat.reduceLeDiff, Nat.reduceAdd, Nat.reduceMul, Nat.reduceSub, Nat.reduceEqDiff, reduceCtorEq, encNs_len, hwi, e1, e2] at hr; subst hr; (first | refine awV ?_ ?_ | refine awW ?_ ?_ | refine endK ?_ ?_ | (refine condK (fun h => ?_) (fun h => ?_) <;> (try simp only [go_sem, reduceCtorEq] at h) <;> (try (exfalso; omega))))) | fail)) <;> (try omega)
      exact rfl
    · have e2 : (0 < w) = False := eq_false hz
      rw [if_neg hz] at heq
      subst heq
      (repeat' (first
    | exact trivial
    | (with_reducible first | refine awA ?_ | refine awB ?_ | refine awC ?_ | refine awD ?_ | refine awE ?_ | refine awF ?_ | refine awG ?_ | refine awH ?_ | refine awI ?_ | refine awJ ?_ | refine awK ?_ | refine awL ?_ | refine awM (by decide) ?_)
    | ((with_reducible first | refine awN (tyOf_ok _) [] ?_ | refine awO (tyOf_ok _) [] ?_ | refine awP (tyOf_ok _) [] ?_ | refine awQ ?_ | refine awR ?_ | refine awS ?_); intro r hr; simp only [go_sem, Nat.reduceBEq, Nat.reduceBneDiff, Nat.reduceLT, Nat.reduceLeDiff, Nat.reduceAdd, Nat.reduceMul, Nat.reduceSub, Nat.reduceEqDiff, reduceCtorEq, encNs_len, hwi, e1, e2] at hr; subst hr; (first | refine awV ?_ ?_ | refine awW ?_ ?_ | refine endK ?_ ?_ | (refine condK (fun h => ?_) (fun h => ?_) <;> (try simp only [go_sem, reduceCtorEq] at h) <;> (try (exfalso; omega))))) | fail)) <;> (try omega)
      exact rfl
end Go.Proofs.YtfgacgpicfknpaaDoor
end
section
namespace Go.Proofs.YtfgacgpicfknpaaDoor
open Go.RowKit
set_option maxRecDepth 100000
set_option maxHeartbeats 8000000
/-! typing.Types. -/
theorem okL_appT : ∀ {a b : List Tr}, Tr.ok.okL a → Tr.ok.okL b → Tr.ok.okL (a ++ b)
  | [], _, _, h => h
  | _ :: _, _, h, h' => ⟨h.1, okL_appT h.2 h'⟩
abbrev nilS0 : AV := .v (.slice none 0 0)
def askedF (ts : List TypeM) (rs : List RootM) (t : Int) : Int × Int := if (checkF ts rs).1 ≠ 0 then checkF ts rs else if t < 0 ∨ (ts.length : Int) ≤ t then (3, 0) else (0, 0)
theorem asked_any (ts : List TypeM) (rs : List RootM) (hts : ts.length ≤ 1000000000) (hrs : rs.length ≤ 1000000000) (hp : ∀ t ∈ ts, t.parts.length ≤ 1000000000) (t : Int) :
    PCall Tryd.prog 31 [vSch ts rs, vI t] (fun r => r = .agg [vI (askedF ts rs t).1, vI (askedF ts rs t).2]) := by
  refine go_fn (tyOf_ok _) Tryd.func31 rfl rfl (by rw [Tryd.results31]) Tryd.ntmps31 rfl fun E => ?_
  have hck := check_any ts rs hts hrs hp
  unfold vF at hck
  by_cases h0 : (checkF ts rs).1 = 0
  case neg =>
    have e1 : ((checkF ts rs).1 = 0) = False := eq_false h0
    rw [askedF, if_pos h0]
    generalize checkF ts rs = C at *
    (repeat' (first
    | exact trivial
    | (with_reducible first | refine awA ?_ | refine awB ?_ | refine awC ?_ | refine awD ?_ | refine awE ?_ | refine awF ?_ | refine awG ?_ | refine awH ?_ | refine awI ?_ | refine awJ ?_ | refine awK ?_ | refine awL ?_ | refine awM (by decide) ?_)
    | ((with_reducible first | refine awN (tyOf_ok _) [] ?_ | refine awO (tyOf_ok _) [] ?_ | refine awP (tyOf_ok _) [] ?_ | refine awQ ?_ | refine awR ?_ | refine awS ?_); intro r hr; simp only [go_sem, Nat.reduceBEq, Nat.reduceBneDiff, Nat.reduceLT, Nat.reduceLeDiff, Nat.reduceAdd, Nat.reduceMul, Nat.reduceSub, Nat.reduceEqDiff, reduceCtorEq, vSch, e1] at hr; subst hr; (first | refine caA (fun _ => hck) rfl ?_ ?_ ?_ | refine awV ?_ ?_ | refine awW ?_ ?_ | refine endK ?_ ?_ | (refine condK (fun h => ?_) (fun h => ?_) <;> (try simp only [go_sem, reduceCtorEq] at h) <;> (try (exfalso; omega))))) | fail)) <;> (try omega)
    exact rfl
  rw [askedF, if_neg (by omega)]
  rw [h0] at hck
  generalize (checkF ts rs).2 = C2 at *
  by_cases h1 : t < 0
  · have e1 : (t < 0) = True := eq_true h1
    rw [if_pos (.inl h1)]
    (repeat' (first
    | exact trivial
    | (with_reducible first | refine awA ?_ | refine awB ?_ | refine awC ?_ | refine awD ?_ | refine awE ?_ | refine awF ?_ | refine awG ?_ | refine awH ?_ | refine awI ?_ | refine awJ ?_ | refine awK ?_ | refine awL ?_ | refine awM (by decide) ?_)
    | ((with_reducible first | refine awN (tyOf_ok _) [] ?_ | refine awO (tyOf_ok _) [] ?_ | refine awP (tyOf_ok _) [] ?_ | refine awQ ?_ | refine awR ?_ | refine awS ?_); intro r hr; simp only [go_sem, Nat.reduceBEq, Nat.reduceBneDiff, Nat.reduceLT, Nat.reduceLeDiff, Nat.reduceAdd, Nat.reduceMul, Nat.reduceSub, Nat.reduceEqDiff, reduceCtorEq, vSch, encTs_len, e1] at hr; subst hr; (first | refine caA (fun _ => hck) rfl ?_ ?_ ?_ | refine awV ?_ ?_ | refine awW ?_ ?_ | refine endK ?_ ?_ | (refine condK (fun h => ?_) (fun h => ?_) <;> (try simp only [go_sem, reduceCtorEq] at h) <;> (try (exfalso; omega))))) | fail)) <;> (try omega)
    exact rfl
  have e1 : (t < 0) = False := eq_false h1
  by_cases h2 : (ts.length : Int) ≤ t
  · have e2 : ((ts.length : Int) ≤ t) = True := eq_true h2
    rw [if_pos (.inr h2)]
    (repeat' (first
    | exact trivial
    | (with_reducible first | refine awA ?_ | refine awB ?_ | refine awC ?_ | refine awD ?_ | refine awE ?_ | refine awF ?_ | refine awG ?_ | refine awH ?_ | refine awI ?_ | refine awJ ?_ | refine awK ?_ | refine awL ?_ | refine awM (by decide) ?_)
    | ((with_reducible first | refine awN (tyOf_ok _) [] ?_ | refine awO (tyOf_ok _) [] ?_ | refine awP (tyOf_ok _) [] ?_ | refine awQ ?_ | refine awR ?_ | refine awS ?_); intro r hr; simp only [go_sem, Nat.reduceBEq, Nat.reduceBneDiff, Nat.reduceLT, Nat.reduceLeDiff, Nat.reduceAdd, Nat.reduceMul, Nat.reduceSub, Nat.reduceEqDiff, reduceCtorEq, vSch, encTs_len, e1, e2] at hr; subst hr; (first | refine caA (fun _ => hck) rfl ?_ ?_ ?_ | refine awV ?_ ?_ | refine awW ?_ ?_ | refine endK ?_ ?_ | (refine condK (fun h => ?_) (fun h => ?_) <;> (try simp only [go_sem, reduceCtorEq] at h) <;> (try (exfalso; omega))))) | fail)) <;> (try omega)
    exact rfl
  have e2 : ((ts.length : Int) ≤ t) = False := eq_false h2
  rw [if_neg (by omega)]
  (repeat' (first
    | exact trivial
    | (with_reducible first | refine awA ?_ | refine awB ?_ | refine awC ?_ | refine awD ?_ | refine awE ?_ | refine awF ?_ | refine awG ?_ | refine awH ?_ | refine awI ?_ | refine awJ ?_ | refine awK ?_ | refine awL ?_ | refine awM (by decide) ?_)
    | ((with_reducible first | refine awN (tyOf_ok _) [] ?_ | refine awO (tyOf_ok _) [] ?_ | refine awP (tyOf_ok _) [] ?_ | refine awQ ?_ | refine awR ?_ | refine awS ?_); intro r hr; simp only [go_sem, Nat.reduceBEq, Nat.reduceBneDiff, Nat.reduceLT, Nat.reduceLeDiff, Nat.reduceAdd, Nat.reduceMul, Nat.reduceSub, Nat.reduceEqDiff, reduceCtorEq, vSch, encTs_len, e1, e2] at hr; subst hr; (first | refine caA (fun _ => hck) rfl ?_ ?_ ?_ | refine awV ?_ ?_ | refine awW ?_ ?_ | refine endK ?_ ?_ | (refine condK (fun h => ?_) (fun h => ?_) <;> (try simp only [go_sem, reduceCtorEq] at h) <;> (try (exfalso; omega))))) | fail)) <;> (try omega)
  exact rfl
theorem tflatL_len : ∀ cs : List Tr, cs.length ≤ (Tr.flat.flatL cs).length
  | [] => Nat.le_refl _
  | c :: cs => by
    have := tflatL_len cs
    have := flat_pos c
    simp only [Tr.flat.flatL, List.length_append, List.length_cons]; omega
theorem up_nT (e a : Int) : (AV.tup [.v (.slice none 0 0), .agg [vI e, vI a]]).up (.tup [.ref 3 1 29 0 0, .agg [vI e, vI a]]) := AV.up_tup (AV.up_cons (AV.up_nilref _ _ _ _) (AV.up_cons (AV.up_rfl _) AV.up_nilL))
theorem tTypes_G (ts : List TypeM) (rs : List RootM) (hts : ts.length ≤ 1000000000) (hrs : rs.length ≤ 1000000000) (hp : ∀ t ∈ ts, t.parts.length ≤ 1000000000) (t : Int) (V : List NodeM) (hV : V.length ≤ 100000000) (hv : ∀ x ∈ V, nodeOK x)
    (c : Tr) (hc : (chkN V).1 = 0 → c.flat = V ∧ c.ok) :
    GCall Tryd.prog 12 [vSch ts rs, vI t, .lst 3 (encNs V)] [] (.tup [.ref 3 1 29 0 (typesF ts rs t V c).1.length, .agg [vI (typesF ts rs t V c).2.1, vI (typesF ts rs t V c).2.2]]) [(29, .row 3 1 (v8 (typesF ts rs t V c).1))] := by
  refine go_fnG (tyOf_ok _) Tryd.func12 rfl rfl (by rw [Tryd.results12]) Tryd.ntmps12 rfl fun E => ?_
  have hA := asked_any ts rs hts hrs hp t
  have hC := checkV_any V (by omega)
  unfold vSch at hA
  by_cases ha : (askedF ts rs t).1 = 0
  case neg =>
    have e1 : ((askedF ts rs t).1 = 0) = False := eq_false ha
    have hT : typesF ts rs t V c = ([], askedF ts rs t) := by
      by_cases g : (checkF ts rs).1 = 0
      · by_cases g2 : t < 0 ∨ (ts.length : Int) ≤ t
        · simp [typesF, askedF, g, g2]
        · exact absurd (by simp [askedF, g, g2]) ha
      · simp [typesF, askedF, g]
    rw [hT]
    generalize askedF ts rs t = A at *
    (repeat' (first
    | exact trivial
    | (with_reducible first | refine awA ?_ | refine awB ?_ | refine awC ?_ | refine awD ?_ | refine awE ?_ | refine awF ?_ | refine awG ?_ | refine awH ?_ | refine awI ?_ | refine awJ ?_ | refine awK ?_ | refine awL ?_ | refine awM (by decide) ?_)
    | (refine aw_draw (id := 5) (t := (.node [0, 1, 2] [])) (drR [8] [] []) mixed (by kernel_rfl) (by kernel_rfl) (fun _ _ h => h) ?_)
    | (refine aw_draw (id := 12) (t := (.node [0, 1, 2, 3, 4, 5, 6, 7] [])) (drR [3, 12] [45] []) mixed (by kernel_rfl) (by kernel_rfl) (fun _ _ h => h) ?_)
    | (refine aw_draw (id := 16) (t := (.node [0, 1, 2, 3, 4, 5, 6] [])) (drR [3, 12] [61] [63]) mixed (by kernel_rfl) (by kernel_rfl) (fun _ _ h => h) ?_)
    | (refine at_done (by simp only [List.filterMap_cons, List.filterMap_nil, List.getElem?_toArray, List.getElem?_cons_zero, List.getElem?_cons_succ]; exact rfl) ?_) | (refine at_alt (by simp only [List.filterMap_cons, List.filterMap_nil, List.getElem?_toArray, List.getElem?_cons_zero, List.getElem?_cons_succ]; exact rfl) ?_) | refine qalt_normal ?_ | refine ats_cons ?_ ?_ | exact ats_nil
    | ((with_reducible first | refine awN (tyOf_ok _) [] ?_ | refine awO (tyOf_ok _) [] ?_ | refine awP (tyOf_ok _) [] ?_ | refine awQ ?_ | refine awR ?_ | refine awS ?_ | refine awT ?_ | refine awU ?_); intro r hr; simp only [go_sem, Nat.reduceBEq, Nat.reduceBneDiff, Nat.reduceLT, Nat.reduceLeDiff, Nat.reduceAdd, Nat.reduceMul, Nat.reduceSub, Nat.reduceEqDiff, reduceCtorEq, vSch, e1] at hr; subst hr; (first | refine caA (fun _ => hA) rfl ?_ ?_ ?_ | refine caA (fun _ => hC) rfl ?_ ?_ ?_ | refine awV ?_ ?_ | refine awW ?_ ?_ | refine endK ?_ ?_ | refine endGK ?_ ?_ ?_ | (refine condK (fun h => ?_) (fun h => ?_) <;> (try simp only [go_sem, reduceCtorEq] at h) <;> (try (exfalso; omega))))) | fail)) <;> (try omega)
    all_goals first | exact up_nT _ _ | exact obUp_row0 obUp_nil
  have h0 : (checkF ts rs).1 = 0 := by
    unfold askedF at ha
    split at ha
    · rename_i h; exact absurd ha h
    · omega
  have h1 : ¬(t < 0 ∨ (ts.length : Int) ≤ t) := fun h => by
    unfold askedF at ha; rw [if_neg (by omega), if_pos h] at ha; cases ha
  have hAe : askedF ts rs t = (0, 0) := by unfold askedF; rw [if_neg (by omega), if_neg h1]
  rw [hAe] at hA
  simp only at hA
  unfold typesF
  rw [if_neg (by omega), if_neg h1]
  by_cases h3 : (chkN V).1 = 0
  case neg =>
    have e3 : ((chkN V).1 = 0) = False := eq_false h3
    rw [if_pos h3]
    generalize chkN V = D at *
    (repeat' (first
    | exact trivial
    | (with_reducible first | refine awA ?_ | refine awB ?_ | refine awC ?_ | refine awD ?_ | refine awE ?_ | refine awF ?_ | refine awG ?_ | refine awH ?_ | refine awI ?_ | refine awJ ?_ | refine awK ?_ | refine awL ?_ | refine awM (by decide) ?_)
    | (refine aw_draw (id := 5) (t := (.node [0, 1, 2] [])) (drR [8] [] []) mixed (by kernel_rfl) (by kernel_rfl) (fun _ _ h => h) ?_)
    | (refine aw_draw (id := 12) (t := (.node [0, 1, 2, 3, 4, 5, 6, 7] [])) (drR [3, 12] [45] []) mixed (by kernel_rfl) (by kernel_rfl) (fun _ _ h => h) ?_)
    | (refine aw_draw (id := 16) (t := (.node [0, 1, 2, 3, 4, 5, 6] [])) (drR [3, 12] [61] [63]) mixed (by kernel_rfl) (by kernel_rfl) (fun _ _ h => h) ?_)
    | (refine at_done (by simp only [List.filterMap_cons, List.filterMap_nil, List.getElem?_toArray, List.getElem?_cons_zero, List.getElem?_cons_succ]; exact rfl) ?_) | (refine at_alt (by simp only [List.filterMap_cons, List.filterMap_nil, List.getElem?_toArray, List.getElem?_cons_zero, List.getElem?_cons_succ]; exact rfl) ?_) | refine qalt_normal ?_ | refine ats_cons ?_ ?_ | exact ats_nil
    | ((with_reducible first | refine awN (tyOf_ok _) [] ?_ | refine awO (tyOf_ok _) [] ?_ | refine awP (tyOf_ok _) [] ?_ | refine awQ ?_ | refine awR ?_ | refine awS ?_ | refine awT ?_ | refine awU ?_); intro r hr; simp only [go_sem, Nat.reduceBEq, Nat.reduceBneDiff, Nat.reduceLT, Nat.reduceLeDiff, Nat.reduceAdd, Nat.reduceMul, Nat.reduceSub, Nat.reduceEqDiff, reduceCtorEq, vSch, e3] at hr; subst hr; (first | refine caA (fun _ => hA) rfl ?_ ?_ ?_ | refine caA (fun _ => hC) rfl ?_ ?_ ?_ | refine awV ?_ ?_ | refine awW ?_ ?_ | refine endK ?_ ?_ | refine endGK ?_ ?_ ?_ | (refine condK (fun h => ?_) (fun h => ?_) <;> (try simp only [go_sem, reduceCtorEq] at h) <;> (try (exfalso; omega))))) | fail)) <;> (try omega)
    all_goals first | exact up_nT _ _ | exact obUp_row0 obUp_nil
  obtain ⟨hc1, hc2⟩ := hc h3
  have h3b := chkL_at V 1 0 h3
  rw [h3] at hC
  change (chkN V).2 = 0 at h3b
  rw [h3b] at hC
  rw [if_neg (by omega)]
  have hr := check_right h0
  obtain ⟨tn, rfl⟩ : ∃ tn : Nat, t = tn := ⟨t.toNat, by omega⟩
  rw [Int.toNat_natCast]
  obtain ⟨hS1, hS2⟩ := walkS_one (ts := ts) c tn 0 []
  have hwe : (c.walk ts tn 0 []).2.2.1 ≠ 0 → (c.walk ts tn 0 []).1 = [] := walk_nil _ c (Nat.le_refl _) tn 0 []
  generalize hR : walkS ts [c] [(tn : Int)] 0 [] = R at *
  generalize c.walk ts tn 0 [] = Wk at *
  (repeat' (first
    | exact trivial
    | (with_reducible first | refine awA ?_ | refine awB ?_ | refine awC ?_ | refine awD ?_ | refine awE ?_ | refine awF ?_ | refine awG ?_ | refine awH ?_ | refine awI ?_ | refine awJ ?_ | refine awK ?_ | refine awL ?_ | refine awM (by decide) ?_)
    | (refine aw_draw (id := 5) (t := (.node [0, 1, 2] [])) (drR [8] [] []) mixed (by kernel_rfl) (by kernel_rfl) (fun _ _ h => h) ?_)
    | (refine aw_draw (id := 12) (t := (.node [0, 1, 2, 3, 4, 5, 6, 7] [])) (drR [3, 12] [45] []) mixed (by kernel_rfl) (by kernel_rfl) (fun _ _ h => h) ?_)
    | (refine aw_draw (id := 16) (t := (.node [0, 1, 2, 3, 4, 5, 6] [])) (drR [3, 12] [61] [63]) mixed (by kernel_rfl) (by kernel_rfl) (fun _ _ h => h) ?_)
    | (refine at_done (by simp only [List.filterMap_cons, List.filterMap_nil, List.getElem?_toArray, List.getElem?_cons_zero, List.getElem?_cons_succ]; exact rfl) ?_) | (refine at_alt (by simp only [List.filterMap_cons, List.filterMap_nil, List.getElem?_toArray, List.getElem?_cons_zero, List.getElem?_cons_succ]; exact rfl) ?_) | refine qalt_normal ?_ | refine ats_cons ?_ ?_ | exact ats_nil
    | ((with_reducible first | refine awN (tyOf_ok _) [31] ?_ | refine awO (tyOf_ok _) [31] ?_ | refine awP (tyOf_ok _) [31] ?_ | refine awQ ?_ | refine awR ?_ | refine awS ?_ | refine awT ?_ | refine awU ?_); intro r hr; simp only [go_sem, Nat.reduceBEq, Nat.reduceBneDiff, Nat.reduceLT, Nat.reduceLeDiff, Nat.reduceAdd, Nat.reduceMul, Nat.reduceSub, Nat.reduceEqDiff, reduceCtorEq, vSch, encNs_len, Int.toNat_zero, List.replicate_zero] at hr; subst hr; (first | refine caA (fun _ => hA) rfl ?_ ?_ ?_ | refine caA (fun _ => hC) rfl ?_ ?_ ?_ | refine awV ?_ ?_ | refine awW ?_ ?_ | refine endK ?_ ?_ | refine endGK ?_ ?_ ?_ | (refine condK (fun h => ?_) (fun h => ?_) <;> (try simp only [go_sem, reduceCtorEq] at h) <;> (try (exfalso; omega))))) | fail)) <;> (try omega)
  have hv1 : [[vI (tn : Int)]] = v8 [(tn : Int)] := rfl
  refine go_loop [3, 6, 7, 9, 10, 33, 34, 35] [3, 7, 10, 29, 31] (fun q : Nat × List Int × List Int => ⟨[(3, true, .ptr 1 3 0 0), (6, true, nilS0), (7, true, .ptr 1 7 0 0), (9, true, .ref 3 1 29 0 q.2.1.length), (10, true, .ptr 1 10 0 0), (33, true, .lst 3 (encNs V)), (34, true, vI V.length), (35, true, vI q.1)],
      [(3, .var [.lst 4 (encTs ts), .lst 2 (encRs rs)]), (7, .var [vI 0, vI 0]), (10, .var [.ref 3 1 31 0 q.2.2.length]), (29, .row 3 1 (v8 q.2.1)), (31, .row 3 1 (v8 q.2.2))]⟩)
    (fun q => q.1 ≤ V.length ∧ q.2.1.length = q.1 ∧ ∃ (cs : List Tr) (L : List Int), q.2.2 = L.reverse ∧ cs.length = L.length ∧ V.drop q.1 = Tr.flat.flatL cs ∧ Tr.ok.okL cs ∧ (∀ z ∈ L, 0 ≤ z ∧ z < ts.length) ∧ walkS ts cs L q.1 q.2.1 = R) (fun q => V.length - q.1) (0, [], [(tn : Int)])
    (by simp only [go_sem, Nat.reduceBEq, Nat.reduceBneDiff, Nat.reduceLT, Nat.reduceLeDiff, Nat.reduceAdd, Nat.reduceMul, Nat.reduceSub, Nat.reduceEqDiff, reduceCtorEq, hv1, nilS0]; exact rfl) ⟨Nat.zero_le _, rfl, [c], [(tn : Int)], rfl, rfl, by simp [Tr.flat.flatL, hc1], ⟨hc2, trivial⟩, fun z hz => by rw [List.mem_singleton] at hz; subst hz; omega, hR⟩ ?_
  clear hR hA hC hc
  intro ⟨k, out, st⟩ ⟨hk, hol, cs, L, hst, hcl, hdr, hok, hL, hw⟩
  simp only at hk hol hst hcl hdr hok hL hw
  have hwk := wrap_i64 (n := (k : Int) + 1) (by omega)
  by_cases hlt : k < V.length
  · have e1 : ((k : Int) < V.length) = True := eq_true (by omega)
    have g1 := encNs_get hlt
    rw [List.drop_eq_getElem_cons hlt] at hdr
    have hxo := hv _ (List.getElem_mem hlt)
    cases cs with
    | nil => cases hdr
    | cons cc cs =>
    cases cc with
    | node x ks =>
    cases L with
    | nil => cases hcl
    | cons z L =>
    have hz := hL z (.head _)
    obtain ⟨zn, rfl⟩ : ∃ zn : Nat, z = zn := ⟨z.toNat, by omega⟩
    simp only [Tr.flat.flatL, Tr.flat, List.cons_append] at hdr
    injection hdr with hx hdr
    rw [hx] at g1 hxo
    obtain ⟨⟨o1, o2, o3⟩, o4⟩ := hok
    rw [walkS_node] at hw
    have hzt : zn < ts.length := by omega
    have hT := tyA_lt (ts := ts) hzt
    rw [hT] at hw
    have hrz := hr zn hzt
    have hgt := encTs_get hzt
    have hfit := tfits_any ts[zn] zn hrz x hxo
    have hst' : st = L.reverse ++ [(zn : Int)] := by rw [hst]; simp
    subst hst'
    have hlL : L.length ≤ 100000000 := by
      have h2 := tflatL_len cs
      have h3 : (V.drop (k + 1)).length = ks.length * 0 + (V.length - (k + 1)) := by simp
      rw [hdr, List.length_append] at h3
      simp only [List.length_cons] at hcl
      omega
    have hN := next_G L.reverse zn (by simp; omega)
    have zz : ((zn : Int)).toNat = zn := by omega
    unfold obT at hN
    have hso : out.length ≤ 100000000 := by omega
    by_cases hf : fitsF ts[zn] x = 0
    · have f1 : (fitsF ts[zn] x = 0) = True := eq_true hf
      rw [if_neg (by omega)] at hw
      have hK := kids_G ts[zn] zn hrz x hxo o1 hf L.reverse (by simp; omega)
      rw [o2, Int.toNat_natCast] at hK
      have hel : ∀ y ∈ kidsT ts[zn] x.n 0 ks.length, 0 ≤ y ∧ y < ts.length := fun y hy => by
        obtain ⟨i, hi, rfl⟩ := List.mem_map.1 hy
        have hi2 : i < ks.length := by simpa using hi
        have := (elem_ok hrz o1 hf (i := i) (by omega)).1
        omega
      have hst2 : L.reverse ++ (kidsT ts[zn] x.n 0 ks.length).reverse = (kidsT ts[zn] x.n 0 ks.length ++ L).reverse := by simp
      rw [hst2] at hK
      have hkl := kidsT_len ts[zn] x.n 0 ks.length
      generalize hKT : kidsT ts[zn] x.n 0 ks.length = KT at *
      unfold obT at hK
      rw [o2] at g1
      rw [o2] at hfit
      generalize hTz : ts[zn] = Tz at *
      have hto : (v8 out).take out.length = v8 out := take_len (by rw [v8_len]; exact Nat.le_refl _)
      have hlo : (out ++ [(zn : Int)]).length = out.length + 1 := by simp
      (repeat' (first
    | exact trivial
    | (with_reducible first | refine awA ?_ | refine awB ?_ | refine awC ?_ | refine awD ?_ | refine awE ?_ | refine awF ?_ | refine awG ?_ | refine awH ?_ | refine awI ?_ | refine awJ ?_ | refine awK ?_ | refine awL ?_ | refine awM (by decide) ?_)
    | (refine aw_draw (id := 5) (t := (.node [0, 1, 2] [])) (drR [8] [] []) mixed (by kernel_rfl) (by kernel_rfl) (fun _ _ h => h) ?_)
    | (refine aw_draw (id := 12) (t := (.node [0, 1, 2, 3, 4, 5, 6, 7] [])) (drR [3, 12] [45] []) mixed (by kernel_rfl) (by kernel_rfl) (fun _ _ h => h) ?_)
    | (refine aw_draw (id := 16) (t := (.node [0, 1, 2, 3, 4, 5, 6] [])) (drR [3, 12] [61] [63]) mixed (by kernel_rfl) (by kernel_rfl) (fun _ _ h => h) ?_)
    | (refine at_done (by simp only [List.filterMap_cons, List.filterMap_nil, List.getElem?_toArray, List.getElem?_cons_zero, List.getElem?_cons_succ]; exact rfl) ?_) | (refine at_alt (by simp only [List.filterMap_cons, List.filterMap_nil, List.getElem?_toArray, List.getElem?_cons_zero, List.getElem?_cons_succ]; exact rfl) ?_) | refine qalt_normal ?_ | refine ats_cons ?_ ?_ | exact ats_nil
    | ((with_reducible first | refine awN (tyOf_ok _) [] ?_ | refine awO (tyOf_ok _) [] ?_ | refine awP (tyOf_ok _) [] ?_ | refine awQ ?_ | refine awR ?_ | refine awS ?_ | refine awT ?_ | refine awU ?_); intro r hr; simp only [go_sem, Nat.reduceBEq, Nat.reduceBneDiff, Nat.reduceLT, Nat.reduceLeDiff, Nat.reduceAdd, Nat.reduceMul, Nat.reduceSub, Nat.reduceEqDiff, reduceCtorEq, e1, g1, hgt, zz, hwk, f1, hto, hlo, v8_app, vU] at hr; subst hr; (first | refine caA (fun _ => hfit) rfl ?_ ?_ ?_ | refine awV ?_ ?_ | refine awW ?_ ?_ | refine endK ?_ ?_ | refine endGK ?_ ?_ ?_ | (refine condK (fun h => ?_) (fun h => ?_) <;> (try simp only [go_sem, reduceCtorEq] at h) <;> (try (exfalso; omega)))))
    | (refine go_callGd 40 rfl [(10, 10000), (31, 15000)] [(10000, 10), (15000, 31)] [31] [10] (by simp only [go_sem, Nat.reduceBEq, Nat.reduceBneDiff, Nat.reduceLT, Nat.reduceLeDiff, Nat.reduceAdd, Nat.reduceMul, Nat.reduceSub, Nat.reduceEqDiff, reduceCtorEq, e1, g1, hgt, zz, hwk, f1, hto, hlo, v8_app, vU]; exact rfl) ?_ rfl rfl (by first | exact .inl rfl | exact .inr rfl) (by simp only [go_sem, Nat.reduceBEq, Nat.reduceBneDiff, Nat.reduceLT, Nat.reduceLeDiff, Nat.reduceAdd, Nat.reduceMul, Nat.reduceSub, Nat.reduceEqDiff, reduceCtorEq, e1, g1, hgt, zz, hwk, f1, hto, hlo, v8_app, vU] <;> exact rfl) (hN) (.inl rfl) ?_)
    | (refine go_callGd 63 rfl [(10, 10000), (31, 15000)] [(10000, 10), (15000, 31)] [31] [10] (by simp only [go_sem, Nat.reduceBEq, Nat.reduceBneDiff, Nat.reduceLT, Nat.reduceLeDiff, Nat.reduceAdd, Nat.reduceMul, Nat.reduceSub, Nat.reduceEqDiff, reduceCtorEq, e1, g1, hgt, zz, hwk, f1, hto, hlo, v8_app, vU]; exact rfl) ?_ rfl rfl (by first | exact .inl rfl | exact .inr rfl) (by simp only [go_sem, Nat.reduceBEq, Nat.reduceBneDiff, Nat.reduceLT, Nat.reduceLeDiff, Nat.reduceAdd, Nat.reduceMul, Nat.reduceSub, Nat.reduceEqDiff, reduceCtorEq, e1, g1, hgt, zz, hwk, f1, hto, hlo, v8_app, vU] <;> exact rfl) (hK) (.inl rfl) ?_) | fail)) <;> (try omega)
      all_goals exact ⟨(k + 1, out ++ [(zn : Int)], (KT ++ L).reverse), by simp only [go_sem, Nat.reduceBEq, Nat.reduceBneDiff, Nat.reduceLT, Nat.reduceLeDiff, Nat.reduceAdd, Nat.reduceMul, Nat.reduceSub, Nat.reduceEqDiff, reduceCtorEq, hlo] <;> exact rfl, ⟨hlt, by simp only; omega, ks ++ cs, KT ++ L, rfl, by simp only [List.length_append, List.length_cons] at hcl ⊢; omega, by rw [flatL_app]; exact hdr, okL_appT o3 o4, fun y hy => by rcases List.mem_append.1 hy with h | h; (· exact hel y h); exact hL y (.tail _ h), hw⟩, by simp only; omega⟩
    · have f1 : (fitsF ts[zn] x = 0) = False := eq_false hf
      rw [if_pos hf] at hw
      subst hw
      obtain ⟨w1, w2, w3, w4⟩ := Wk
      simp only [Prod.mk.injEq] at hS1 hwe
      obtain ⟨rfl, rfl⟩ := hS1
      have hw1 := hwe hf
      subst hw1
      generalize hTz : ts[zn] = Tz at *
      (repeat' (first
    | exact trivial
    | (with_reducible first | refine awA ?_ | refine awB ?_ | refine awC ?_ | refine awD ?_ | refine awE ?_ | refine awF ?_ | refine awG ?_ | refine awH ?_ | refine awI ?_ | refine awJ ?_ | refine awK ?_ | refine awL ?_ | refine awM (by decide) ?_)
    | (refine aw_draw (id := 5) (t := (.node [0, 1, 2] [])) (drR [8] [] []) mixed (by kernel_rfl) (by kernel_rfl) (fun _ _ h => h) ?_)
    | (refine aw_draw (id := 12) (t := (.node [0, 1, 2, 3, 4, 5, 6, 7] [])) (drR [3, 12] [45] []) mixed (by kernel_rfl) (by kernel_rfl) (fun _ _ h => h) ?_)
    | (refine aw_draw (id := 16) (t := (.node [0, 1, 2, 3, 4, 5, 6] [])) (drR [3, 12] [61] [63]) mixed (by kernel_rfl) (by kernel_rfl) (fun _ _ h => h) ?_)
    | (refine at_done (by simp only [List.filterMap_cons, List.filterMap_nil, List.getElem?_toArray, List.getElem?_cons_zero, List.getElem?_cons_succ]; exact rfl) ?_) | (refine at_alt (by simp only [List.filterMap_cons, List.filterMap_nil, List.getElem?_toArray, List.getElem?_cons_zero, List.getElem?_cons_succ]; exact rfl) ?_) | refine qalt_normal ?_ | refine ats_cons ?_ ?_ | exact ats_nil
    | ((with_reducible first | refine awN (tyOf_ok _) [] ?_ | refine awO (tyOf_ok _) [] ?_ | refine awP (tyOf_ok _) [] ?_ | refine awQ ?_ | refine awR ?_ | refine awS ?_ | refine awT ?_ | refine awU ?_); intro r hr; simp only [go_sem, Nat.reduceBEq, Nat.reduceBneDiff, Nat.reduceLT, Nat.reduceLeDiff, Nat.reduceAdd, Nat.reduceMul, Nat.reduceSub, Nat.reduceEqDiff, reduceCtorEq, e1, g1, hgt, zz, hwk, f1, vU, nilS0] at hr; subst hr; (first | refine caA (fun _ => hfit) rfl ?_ ?_ ?_ | refine awV ?_ ?_ | refine awW ?_ ?_ | refine endK ?_ ?_ | refine endGK ?_ ?_ ?_ | (refine condK (fun h => ?_) (fun h => ?_) <;> (try simp only [go_sem, reduceCtorEq] at h) <;> (try (exfalso; omega)))))
    | (refine go_callGd 40 rfl [(10, 10000), (31, 15000)] [(10000, 10), (15000, 31)] [31] [10] (by simp only [go_sem, Nat.reduceBEq, Nat.reduceBneDiff, Nat.reduceLT, Nat.reduceLeDiff, Nat.reduceAdd, Nat.reduceMul, Nat.reduceSub, Nat.reduceEqDiff, reduceCtorEq, e1, g1, hgt, zz, hwk, f1, vU, nilS0]; exact rfl) ?_ rfl rfl (by first | exact .inl rfl | exact .inr rfl) (by simp only [go_sem, Nat.reduceBEq, Nat.reduceBneDiff, Nat.reduceLT, Nat.reduceLeDiff, Nat.reduceAdd, Nat.reduceMul, Nat.reduceSub, Nat.reduceEqDiff, reduceCtorEq, e1, g1, hgt, zz, hwk, f1, vU, nilS0] <;> exact rfl) (hN) (.inl rfl) ?_) | fail)) <;> (try omega)
      all_goals first | exact up_nT _ _ | exact obUp_row0 obUp_nil
  · have e1 : ((k : Int) < V.length) = False := eq_false (by omega)
    have hcs : cs = [] := by
      cases cs with
      | nil => rfl
      | cons d ds =>
        have h1 := flat_pos d
        rw [List.drop_eq_nil_of_le (by omega)] at hdr
        have h2 := congrArg List.length hdr
        simp only [Tr.flat.flatL, List.length_append, List.length_nil] at h2
        omega
    subst hcs
    rw [walkS] at hw
    subst hw
    obtain ⟨w1, w2, w3, w4⟩ := Wk
    simp only [Prod.mk.injEq] at hS1 hS2
    obtain ⟨rfl, rfl⟩ := hS1
    have hw1 := hS2 rfl
    subst hw1
    (repeat' (first
    | exact trivial
    | (with_reducible first | refine awA ?_ | refine awB ?_ | refine awC ?_ | refine awD ?_ | refine awE ?_ | refine awF ?_ | refine awG ?_ | refine awH ?_ | refine awI ?_ | refine awJ ?_ | refine awK ?_ | refine awL ?_ | refine awM (by decide) ?_)
    | (refine aw_draw (id := 5) (t := (.node [0, 1, 2] [])) (drR [8] [] []) mixed (by kernel_rfl) (by kernel_rfl) (fun _ _ h => h) ?_)
    | (refine aw_draw (id := 12) (t := (.node [0, 1, 2, 3, 4, 5, 6, 7] [])) (drR [3, 12] [45] []) mixed (by kernel_rfl) (by kernel_rfl) (fun _ _ h => h) ?_)
    | (refine aw_draw (id := 16) (t := (.node [0, 1, 2, 3, 4, 5, 6] [])) (drR [3, 12] [61] [63]) mixed (by kernel_rfl) (by kernel_rfl) (fun _ _ h => h) ?_)
    | (refine at_done (by simp only [List.filterMap_cons, List.filterMap_nil, List.getElem?_toArray, List.getElem?_cons_zero, List.getElem?_cons_succ]; exact rfl) ?_) | (refine at_alt (by simp only [List.filterMap_cons, List.filterMap_nil, List.getElem?_toArray, List.getElem?_cons_zero, List.getElem?_cons_succ]; exact rfl) ?_) | refine qalt_normal ?_ | refine ats_cons ?_ ?_ | exact ats_nil
    | ((with_reducible first | refine awN (tyOf_ok _) [] ?_ | refine awO (tyOf_ok _) [] ?_ | refine awP (tyOf_ok _) [] ?_ | refine awQ ?_ | refine awR ?_ | refine awS ?_ | refine awT ?_ | refine awU ?_); intro r hr; simp only [go_sem, Nat.reduceBEq, Nat.reduceBneDiff, Nat.reduceLT, Nat.reduceLeDiff, Nat.reduceAdd, Nat.reduceMul, Nat.reduceSub, Nat.reduceEqDiff, reduceCtorEq, e1, nilS0] at hr; subst hr; (first | refine awV ?_ ?_ | refine awW ?_ ?_ | refine endK ?_ ?_ | refine endGK ?_ ?_ ?_ | (refine condK (fun h => ?_) (fun h => ?_) <;> (try simp only [go_sem, reduceCtorEq] at h) <;> (try (exfalso; omega))))) | fail)) <;> (try omega)
    all_goals (first | exact AV.up_rfl _ | (repeat first | exact obUp_nil | refine obUp_cons rfl ?_))
/-- the first fault -/
theorem tCheck_any (ts : List TypeM) (rs : List RootM) (hts : ts.length ≤ 1000000000) (hrs : rs.length ≤ 1000000000) (hp : ∀ t ∈ ts, t.parts.length ≤ 1000000000) (t : Int) (V : List NodeM) (hV : V.length ≤ 100000000) (hv : ∀ x ∈ V, nodeOK x)
    (c : Tr) (hc : (chkN V).1 = 0 → c.flat = V ∧ c.ok) :
    PCall Tryd.prog 11 [vSch ts rs, vI t, .lst 3 (encNs V)] (fun r => r = .agg [vI (typesF ts rs t V c).2.1, vI (typesF ts rs t V c).2.2]) := by
  refine go_fn (tyOf_ok _) Tryd.func11 rfl rfl (by rw [Tryd.results11]) Tryd.ntmps11 rfl fun E => ?_
  have h := (tTypes_G ts rs hts hrs hp t V hV hv c hc).toP (by simp [AV.snapOK, AV.snapOK.snapOKL, lk, v8_len])
  generalize typesF ts rs t V c = q at *
  unfold vSch at h
  (repeat' (first
    | exact trivial
    | (with_reducible first | refine awA ?_ | refine awB ?_ | refine awC ?_ | refine awD ?_ | refine awE ?_ | refine awF ?_ | refine awG ?_ | refine awH ?_ | refine awI ?_ | refine awJ ?_ | refine awK ?_ | refine awL ?_ | refine awM (by decide) ?_)
    | ((with_reducible first | refine awN (tyOf_ok _) [] ?_ | refine awO (tyOf_ok _) [] ?_ | refine awP (tyOf_ok _) [] ?_ | refine awQ ?_ | refine awR ?_ | refine awS ?_); intro r hr; simp only [go_sem, Nat.reduceBEq, Nat.reduceBneDiff, Nat.reduceLT, Nat.reduceLeDiff, Nat.reduceAdd, Nat.reduceMul, Nat.reduceSub, Nat.reduceEqDiff, reduceCtorEq, vSch] at hr; subst hr; (first | refine caC (h) rfl ?_ ?_ ?_ | refine awV ?_ ?_ | refine awW ?_ ?_ | refine endK ?_ ?_ | (refine condK (fun h => ?_) (fun h => ?_) <;> (try simp only [go_sem, reduceCtorEq] at h) <;> (try (exfalso; omega))))) | fail)) <;> (try omega)
  exact rfl
end Go.Proofs.YtfgacgpicfknpaaDoor
end

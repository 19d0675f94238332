import Derived.Laws.BitsLemmas
import Derived.Test.YtfgacgpicfknpaaDoorP7
set_option linter.all false
section
namespace Go.Proofs.YtfgacgpicfknpaaDoor
open Go.RowKit
/-! Trees that are of a type. -/
def Tr.typed (ts : List TypeM) : Tr → Nat → Prop
  | .node x ks, t => t < ts.length ∧ fitsF (tyA ts t) x = 0 ∧ rightN x = true ∧ x.kids = ks.length ∧ typedL ts (tyA ts t) x.n ks 0
where typedL (ts : List TypeM) (T : TypeM) (n : Int) : List Tr → Nat → Prop
  | [], _ => True
  | c :: cs, k => c.typed ts (elemF T n k).toNat ∧ typedL ts T n cs (k + 1)
/-- each node's type -/
def Tr.types (ts : List TypeM) : Tr → Nat → List Int
  | .node x ks, t => (t : Int) :: typesL ts (tyA ts t) x.n ks 0
where typesL (ts : List TypeM) (T : TypeM) (n : Int) : List Tr → Nat → List Int
  | [], _ => []
  | c :: cs, k => c.types ts (elemF T n k).toNat ++ typesL ts T n cs (k + 1)
theorem typed_ok {ts : List TypeM} : ∀ (n : Nat) (c : Tr), c.flat.length ≤ n → ∀ t, c.typed ts t → c.ok
  | 0, c, h => absurd (flat_pos c) (by omega)
  | n + 1, .node x ks, h => fun t ⟨_, _, h3, h4, h5⟩ => by
    simp only [Tr.flat, List.length_cons] at h
    refine ⟨h3, h4, ?_⟩
    have hL : ∀ (l : List Tr), (∀ c ∈ l, c.flat.length ≤ n) → ∀ (T : TypeM) (m : Int) (k : Nat), Tr.typed.typedL ts T m l k → Tr.ok.okL l := by
      intro l
      induction l with
      | nil => intro _ _ _ _ _; trivial
      | cons c cs ih => exact fun hc T m k ⟨g1, g2⟩ => ⟨typed_ok n c (hc c (.head _)) _ g1, ih (fun d hd => hc d (.tail _ hd)) T m (k + 1) g2⟩
    exact hL ks (fun c hc => by have := flatL_mem hc; omega) _ _ _ h5
/-- a tree of the type: no fault, each node's type -/
theorem typed_walk {ts : List TypeM} : ∀ (n : Nat) (c : Tr), c.flat.length ≤ n → ∀ t, c.typed ts t → ∀ (p : Int) (out : List Int), c.walk ts t p out = (out ++ c.types ts t, p + c.flat.length, 0, 0)
  | 0, c, h => absurd (flat_pos c) (by omega)
  | n + 1, .node x ks, h => fun t ⟨h1, h2, h3, h4, h5⟩ p out => by
    simp only [Tr.flat, List.length_cons] at h
    have hL : ∀ (l : List Tr), (∀ c ∈ l, c.flat.length ≤ n) → ∀ (T : TypeM) (m : Int) (k : Nat), Tr.typed.typedL ts T m l k → ∀ (p : Int) (out : List Int), Tr.walk.walkL ts T m l k p out = (out ++ Tr.types.typesL ts T m l k, p + (Tr.flat.flatL l).length, 0, 0) := by
      intro l
      induction l with
      | nil => intro _ _ _ _ _ p out; simp [Tr.walk.walkL, Tr.types.typesL, Tr.flat.flatL]
      | cons c cs ih =>
        intro hc T m k ⟨g1, g2⟩ p out
        have e1 := typed_walk n c (hc c (.head _)) _ g1 p out
        rw [Tr.walk.walkL, e1, if_neg (by simp), ih (fun d hd => hc d (.tail _ hd)) T m (k + 1) g2]
        simp [Tr.types.typesL, Tr.flat.flatL, Int.add_assoc]
    rw [Tr.walk, if_neg (by omega), hL ks (fun c hc => by have := flatL_mem hc; omega) _ _ _ h5]
    simp [Tr.types, Tr.flat, Int.add_assoc, Int.add_comm]
theorem types_len {ts : List TypeM} : ∀ (n : Nat) (c : Tr), c.flat.length ≤ n → ∀ t, (c.types ts t).length = c.flat.length
  | 0, c, h => absurd (flat_pos c) (by omega)
  | n + 1, .node x ks, h => fun t => by
    simp only [Tr.flat, List.length_cons] at h
    have hL : ∀ (l : List Tr), (∀ c ∈ l, c.flat.length ≤ n) → ∀ (T : TypeM) (m : Int) (k : Nat), (Tr.types.typesL ts T m l k).length = (Tr.flat.flatL l).length := by
      intro l
      induction l with
      | nil => intro _ _ _ _; rfl
      | cons c cs ih => intro hc T m k; simp only [Tr.types.typesL, Tr.flat.flatL, List.length_append, types_len n c (hc c (.head _)), ih (fun d hd => hc d (.tail _ hd))]
    simp only [Tr.types, Tr.flat, List.length_cons, hL ks (fun c hc => by have := flatL_mem hc; omega)]
/-- what picks lead to is of the type -/
theorem mkT_typed {ts : List TypeM} {ps : List Int} (hr : ∀ (k : Nat) (h : k < ts.length), rightOK ts[k] k = true) : ∀ (f t : Nat), t < f → t < ts.length → ∀ pos, (mkT ts ps f t pos).typed ts t
  | 0, _, h, _ => absurd h (Nat.not_lt_zero _)
  | f + 1, t, hf, ht => fun pos => by
    have hrt := hr t ht
    obtain ⟨_, hxr, hxf⟩ := pick_ok hrt (pickAt_bd ps pos)
    rw [mkT, tyA_lt ht]
    generalize pickN ts[t] (pickAt ps pos) = x at *
    have hxk := rightN_kids hxr
    have hL : ∀ (m k : Nat), (k : Int) + m ≤ x.kids → ∀ pos, Tr.typed.typedL ts ts[t] x.n (mkL ts[t] x (mkT ts ps f) m k pos) k ∧ (mkL ts[t] x (mkT ts ps f) m k pos).length = m := by
      intro m
      induction m with
      | zero => intro k _ pos; exact ⟨trivial, rfl⟩
      | succ m ih =>
        intro k hk pos
        obtain ⟨he, _⟩ := elem_ok hrt hxr hxf (i := k) (by omega)
        obtain ⟨g1, g2⟩ := ih (k + 1) (by omega) (pos + (mkT ts ps f (elemF ts[t] x.n k).toNat pos).flat.length)
        exact ⟨⟨mkT_typed hr f _ (by omega) (by omega) pos, g1⟩, by simp only [mkL, List.length_cons, g2]⟩
    obtain ⟨g1, g2⟩ := hL x.kids.toNat 0 (by omega) (pos + 1)
    exact ⟨ht, by rw [tyA_lt ht]; exact hxf, hxr, by rw [g2]; omega, by rw [tyA_lt ht]; exact g1⟩
/-- each node may be -/
theorem mkT_node {ts : List TypeM} {ps : List Int} (hr : ∀ (k : Nat) (h : k < ts.length), rightOK ts[k] k = true) : ∀ (f t : Nat), t < f → t < ts.length → ∀ pos, ∀ x ∈ (mkT ts ps f t pos).flat, nodeOK x
  | 0, _, h, _ => absurd h (Nat.not_lt_zero _)
  | f + 1, t, hf, ht => fun pos => by
    have hrt := hr t ht
    obtain ⟨hxo, hxr, hxf⟩ := pick_ok hrt (pickAt_bd ps pos)
    rw [mkT, tyA_lt ht]
    generalize pickN ts[t] (pickAt ps pos) = x at *
    have hxk := rightN_kids hxr
    have hL : ∀ (m k : Nat), (k : Int) + m ≤ x.kids → ∀ pos, ∀ y ∈ Tr.flat.flatL (mkL ts[t] x (mkT ts ps f) m k pos), nodeOK y := by
      intro m
      induction m with
      | zero => intro k _ pos y hy; cases hy
      | succ m ih =>
        intro k hk pos y hy
        obtain ⟨he, _⟩ := elem_ok hrt hxr hxf (i := k) (by omega)
        simp only [mkL, Tr.flat.flatL, List.mem_append] at hy
        rcases hy with hy | hy
        · exact mkT_node hr f _ (by omega) (by omega) pos y hy
        · exact ih (k + 1) (by omega) _ y hy
    intro y hy
    simp only [Tr.flat, List.mem_cons] at hy
    rcases hy with rfl | hy
    · exact hxo
    · exact hL x.kids.toNat 0 (by omega) (pos + 1) y hy
theorem right_zero {x : NodeM} (h : rightN x = true) (hk : x.kind = 1 ∨ x.kind = 2) : x.kids = 0 ∧ (x.kind = 2 → x.n ≤ 1) := by
  rw [rightN, Bool.and_eq_true] at h
  obtain ⟨h1, h2⟩ := h
  rw [if_neg (by omega), if_neg (by omega), if_neg (by omega), if_neg (by omega), decide_eq_true_eq] at h2
  refine ⟨h2, fun hk2 => ?_⟩
  rw [numberN, if_neg (by omega), if_pos hk2, decide_eq_true_eq] at h1
  exact h1
theorem right_seq {x : NodeM} (h : rightN x = true) (hk : x.kind = 3 ∨ x.kind = 4 ∨ x.kind = 5) : x.n = 0 := by
  rw [rightN, Bool.and_eq_true, numberN] at h
  have h1 := h.1
  rw [if_neg (by omega), if_neg (by omega), if_neg (by omega), Bool.and_eq_true, decide_eq_true_eq] at h1
  exact h1.1
theorem right_opt {x : NodeM} (h : rightN x = true) (hk : x.kind = 5) : x.kids = 0 ∨ x.kids = 1 := by
  rw [rightN, Bool.and_eq_true] at h
  have h2 := h.2
  rw [if_neg (by omega), if_neg (by omega), if_pos hk] at h2
  simpa using h2
theorem right_uni {x : NodeM} (h : rightN x = true) (hk : x.kind = 6) : x.kids = 1 := by
  rw [rightN, Bool.and_eq_true] at h
  have h2 := h.2
  rw [if_neg (by omega), if_neg (by omega), if_neg (by omega), if_pos hk, decide_eq_true_eq] at h2
  exact h2
theorem fits_parts {T : TypeM} {x : NodeM} (h : fitsF T x = 0) : x.kind = nkOf T.kind ∧ (T.kind = 1 → fitsB x.n T.n = true) ∧ (T.kind = 4 → x.kids = T.n) ∧ (T.kind = 5 → x.kids ≤ T.n) ∧ (T.kind = 8 → x.kids = T.parts.length) ∧ (T.kind = 7 → armOf T.parts x.n ≠ none) := by
  unfold fitsF at h
  split at h
  · cases h
  · rename_i h1
    split at h
    · cases h
    · rename_i h2
      split at h
      · cases h
      · rename_i h3
        split at h
        · cases h
        · rename_i h4
          refine ⟨by omega, fun hk => ?_, fun hk => by omega, fun hk => by omega, fun hk => by omega, fun hk hn => h4 ⟨hk, hn⟩⟩
          cases hb : fitsB x.n T.n with
          | true => rfl
          | false => exact absurd ⟨hk, hb⟩ h2
end Go.Proofs.YtfgacgpicfknpaaDoor
end
section
namespace Go.Proofs.YtfgacgpicfknpaaDoor
open Go.RowKit
set_option maxRecDepth 100000
set_option maxHeartbeats 4000000
/-! The picks that stand in a value. -/
def tagP (n : Int) (p : PartM) : Bool := decide (p.tag % 18446744073709551616 = n)
def pickOf (T : TypeM) (x : NodeM) : Int :=
  if T.kind = 1 ∨ T.kind = 3 ∨ T.kind = 2 then IntKind.i64.wrap x.n
  else if T.kind = 5 ∨ T.kind = 6 then x.kids
  else if T.kind = 7 then ((T.parts.findIdx (tagP x.n) : Nat) : Int) else 0
theorem arm_idx {l : List PartM} {n : Int} (h : armOf l n ≠ none) : l.findIdx (tagP n) < l.length ∧ ∀ (g : l.findIdx (tagP n) < l.length), u64 (l[l.findIdx (tagP n)]).tag = n := by
  have h1 : l.findIdx (tagP n) < l.length := by
    rw [List.findIdx_lt_length]
    cases hf : armOf l n with
    | none => exact absurd hf h
    | some p => exact ⟨p, List.mem_of_find?_eq_some hf, List.find?_some hf⟩
  refine ⟨h1, fun g => ?_⟩
  have := List.findIdx_getElem (w := h1)
  unfold tagP at this
  rw [decide_eq_true_eq] at this
  exact this
theorem u64_id {n : Int} (h : 0 ≤ n) (h' : n < 18446744073709551616) : u64 n = n := by unfold u64; omega
/-- it leads to the node again -/
theorem pick_back {T : TypeM} {k : Nat} (hr : rightOK T k = true) {x : NodeM} (hx : nodeOK x) (hxr : rightN x = true) (hf : fitsF T x = 0) : pickN T (u64 (pickOf T x)) = x := by
  obtain ⟨f1, f2, f3, f4, f5, f6⟩ := fits_parts hf
  have hb := hx.2.2
  have hw : u64 (IntKind.i64.wrap x.n) = x.n := by rw [IntKind.wrap_i64]; unfold u64; omega
  have hkc : T.kind = 1 ∨ T.kind = 2 ∨ T.kind = 3 ∨ T.kind = 4 ∨ T.kind = 5 ∨ T.kind = 6 ∨ T.kind = 7 ∨ T.kind = 8 := by rcases rightOK_kind hr with h | h | h <;> omega
  obtain ⟨xk, xn, xm⟩ := x
  simp only at *
  rcases hkc with h | h | h | h | h | h | h | h
  · have hk : xk = 1 := by rw [f1, h]; rfl
    subst hk
    have h0 := (right_zero hxr (.inl rfl)).1
    simp only at h0
    have hP : pickOf T ⟨1, xn, xm⟩ = IntKind.i64.wrap xn := by rw [pickOf, if_pos (.inl h)]
    rw [hP, hw, pickN, if_pos h]
    have hfb := f2 h
    simp only [fitsB, Bool.and_eq_true, decide_eq_true_eq] at hfb
    have hm0 := Int.emod_eq_of_lt hb.1 hfb.2
    by_cases h8 : T.n < 8
    · rw [if_pos h8, hm0, h0]
    · rw [if_neg h8, h0]
  · have hk : xk = 2 := by rw [f1, h]; rfl
    subst hk
    have h0 := right_zero hxr (.inr rfl)
    have h2 := h0.2 rfl
    have hP : pickOf T ⟨2, xn, xm⟩ = IntKind.i64.wrap xn := by rw [pickOf, if_pos (.inr (.inr h))]
    rw [hP, hw, pickN, if_neg (by omega), if_neg (by omega), if_pos h]
    simp only at h0 h2
    rw [Int.emod_eq_of_lt hb.1 (by omega), h0.1]
  · have hk : xk = 1 := by rw [f1, h]; rfl
    subst hk
    have h0 := (right_zero hxr (.inl rfl)).1
    simp only at h0
    have hP : pickOf T ⟨1, xn, xm⟩ = IntKind.i64.wrap xn := by rw [pickOf, if_pos (.inr (.inl h))]
    rw [hP, hw, pickN, if_neg (by omega), if_pos h, h0]
  · have hk : xk = 3 := by rw [f1, h]; rfl
    subst hk
    have h0 := right_seq hxr (.inl rfl)
    simp only at h0
    rw [pickN, if_neg (by omega), if_neg (by omega), if_neg (by omega), if_pos h, h0, ← f3 h]
  · have hk : xk = 3 := by rw [f1, h]; rfl
    subst hk
    have h0 := right_seq hxr (.inl rfl)
    have hkk := rightN_kids hxr
    have h4 := f4 h
    simp only at h0 hkk
    have hP : pickOf T ⟨3, xn, xm⟩ = xm := by rw [pickOf, if_neg (by omega), if_pos (.inl h)]
    rw [hP, u64_id hkk.1 (by omega), pickN, if_neg (by omega), if_neg (by omega), if_neg (by omega), if_neg (by omega), if_pos h, Int.emod_eq_of_lt hkk.1 (by omega), h0]
  · have hk : xk = 5 := by rw [f1, h]; rfl
    subst hk
    have h0 := right_seq hxr (.inr (.inr rfl))
    have h4 := right_opt hxr rfl
    simp only at h0 h4
    have hP : pickOf T ⟨5, xn, xm⟩ = xm := by rw [pickOf, if_neg (by omega), if_pos (.inr h)]
    rw [hP, u64_id (by omega) (by omega), pickN, if_neg (by omega), if_neg (by omega), if_neg (by omega), if_neg (by omega), if_neg (by omega), if_pos h, Int.emod_eq_of_lt (by omega) (by omega), h0]
  · have hk : xk = 6 := by rw [f1, h]; rfl
    subst hk
    have h4 := right_uni hxr rfl
    simp only at h4
    obtain ⟨g1, g2⟩ := arm_idx (f6 h)
    have hpl := right_parts hr (.inl h)
    have hP : pickOf T ⟨6, xn, xm⟩ = ((T.parts.findIdx (tagP xn) : Nat) : Int) := by rw [pickOf, if_neg (by omega), if_neg (by omega), if_pos h]
    have g3 := g2 g1
    rw [hP, u64_id (by omega) (by omega), pickN, if_neg (by omega), if_neg (by omega), if_neg (by omega), if_neg (by omega), if_neg (by omega), if_neg (by omega), if_pos h, Int.emod_eq_of_lt (by omega) (by omega), Int.toNat_natCast, List.getElem?_eq_getElem g1, Option.getD_some, g3, h4]
  · have hk : xk = 4 := by rw [f1, h]; rfl
    subst hk
    have h0 := right_seq hxr (.inr (.inl rfl))
    simp only at h0
    rw [pickN, if_neg (by omega), if_neg (by omega), if_neg (by omega), if_neg (by omega), if_neg (by omega), if_neg (by omega), if_neg (by omega), h0, ← f5 h]
/-- the picks of a list of nodes, by their types -/
def picksL (ts : List TypeM) : List NodeM → List Int → List Int
  | x :: V, t :: l => pickOf (tyA ts t.toNat) x :: picksL ts V l
  | _, _ => []
theorem picksL_app (ts : List TypeM) : ∀ (V : List NodeM) (l : List Int) (V' : List NodeM) (l' : List Int), V.length = l.length → picksL ts (V ++ V') (l ++ l') = picksL ts V l ++ picksL ts V' l'
  | [], [], _, _, _ => rfl
  | [], _ :: _, _, _, h => by cases h
  | _ :: _, [], _, _, h => by cases h
  | x :: V, t :: l, V', l', h => by
    simp only [List.cons_append, picksL, picksL_app ts V l V' l' (by simpa using h)]
theorem picksL_len (ts : List TypeM) : ∀ (V : List NodeM) (l : List Int), V.length = l.length → (picksL ts V l).length = V.length
  | [], [], _ => rfl
  | [], _ :: _, h => by cases h
  | _ :: _, [], h => by cases h
  | x :: V, t :: l, h => by simp only [picksL, List.length_cons, picksL_len ts V l (by simpa using h)]
theorem picksL_get (ts : List TypeM) : ∀ (V : List NodeM) (l : List Int) (h : V.length = l.length) (i : Nat) (hi : i < V.length), (picksL ts V l)[i]'(by rw [picksL_len ts V l h]; exact hi) = pickOf (tyA ts (l[i]'(by omega)).toNat) V[i]
  | [], _, _, _, hi => absurd hi (Nat.not_lt_zero _)
  | _ :: _, [], h, _, _ => by cases h
  | x :: V, t :: l, h, 0, _ => rfl
  | x :: V, t :: l, h, i + 1, hi => by
    simp only [picksL, List.getElem_cons_succ]
    exact picksL_get ts V l (by simpa using h) i (by simpa using hi)
theorem typesL_len (ts : List TypeM) (T : TypeM) (m : Int) : ∀ (l : List Tr) (k : Nat), (Tr.types.typesL ts T m l k).length = (Tr.flat.flatL l).length
  | [], _ => rfl
  | c :: cs, k => by simp only [Tr.types.typesL, Tr.flat.flatL, List.length_append, types_len _ c (Nat.le_refl _), typesL_len ts T m cs (k + 1)]
/-- picks that lead to a tree of the type lead to it -/
theorem mkT_back {ts : List TypeM} {ps : List Int} (hr : ∀ (k : Nat) (h : k < ts.length), rightOK ts[k] k = true) : ∀ (f t : Nat), t < f → t < ts.length → ∀ (c : Tr), c.typed ts t → (∀ x ∈ c.flat, nodeOK x) → ∀ pos : Nat, (∀ i (hi : i < c.flat.length), pickAt ps (pos + i) = u64 ((picksL ts c.flat (c.types ts t))[i]'(by rw [picksL_len _ _ _ (types_len _ c (Nat.le_refl _) t).symm]; exact hi))) → mkT ts ps f t pos = c
  | 0, _, h, _ => absurd h (Nat.not_lt_zero _)
  | f + 1, t, hf, ht => fun c hc hn pos hp => by
    obtain ⟨x, ks⟩ := c
    obtain ⟨hc1, hc2, hc3, hc4, hc5⟩ := hc
    have hrt := hr t ht
    have h0 := hp 0 (by simp [Tr.flat])
    simp only [Tr.flat, Tr.types, picksL, Int.toNat_natCast, List.getElem_cons_zero, Nat.add_zero] at h0
    rw [tyA_lt ht] at hc2 hc5 h0
    have hxn : nodeOK x := hn x (by simp [Tr.flat])
    have hpk : pickN ts[t] (pickAt ps pos) = x := by rw [h0]; exact pick_back hrt hxn hc3 hc2
    rw [mkT, tyA_lt ht, hpk]
    congr 1
    have hkn : x.kids.toNat = ks.length := by omega
    rw [hkn]
    have hp' : ∀ i (hi : i < (Tr.flat.flatL ks).length), pickAt ps (pos + 1 + i) = u64 ((picksL ts (Tr.flat.flatL ks) (Tr.types.typesL ts ts[t] x.n ks 0))[i]'(by rw [picksL_len _ _ _ (typesL_len ts _ _ ks 0).symm]; exact hi)) := fun i hi => by
      have := hp (i + 1) (by simp only [Tr.flat, List.length_cons]; omega)
      simp only [Tr.flat, Tr.types, picksL, List.getElem_cons_succ, tyA_lt ht] at this
      rw [← this]; congr 1; omega
    have hn' : ∀ y ∈ Tr.flat.flatL ks, nodeOK y := fun y hy => hn y (by simp only [Tr.flat, List.mem_cons]; exact .inr hy)
    have hL : ∀ (l : List Tr) (k pos : Nat), (k : Int) + l.length ≤ x.kids → Tr.typed.typedL ts ts[t] x.n l k → (∀ y ∈ Tr.flat.flatL l, nodeOK y) →
        (∀ i (hi : i < (Tr.flat.flatL l).length), pickAt ps (pos + i) = u64 ((picksL ts (Tr.flat.flatL l) (Tr.types.typesL ts ts[t] x.n l k))[i]'(by rw [picksL_len _ _ _ (typesL_len ts _ _ l k).symm]; exact hi))) → mkL ts[t] x (mkT ts ps f) l.length k pos = l := by
      intro l
      induction l with
      | nil => intro _ _ _ _ _ _; rfl
      | cons c cs ih =>
        intro k pos hk ⟨g1, g2⟩ hny hpi
        simp only [List.length_cons] at hk
        obtain ⟨he, _⟩ := elem_ok hrt hc3 hc2 (i := k) (by omega)
        have hlen := types_len _ c (Nat.le_refl _) (ts := ts) (elemF ts[t] x.n k).toNat
        have hx1 : picksL ts (Tr.flat.flatL (c :: cs)) (Tr.types.typesL ts ts[t] x.n (c :: cs) k) = picksL ts c.flat (c.types ts (elemF ts[t] x.n k).toNat) ++ picksL ts (Tr.flat.flatL cs) (Tr.types.typesL ts ts[t] x.n cs (k + 1)) := picksL_app ts _ _ _ _ hlen.symm
        have hl1 := picksL_len ts c.flat (c.types ts (elemF ts[t] x.n k).toNat) hlen.symm
        have hmc := mkT_back hr f _ (by omega) (by omega) c g1 (fun y hy => hny y (by simp only [Tr.flat.flatL, List.mem_append]; exact .inl hy)) pos fun i hi => by
          rw [hpi i (by simp only [Tr.flat.flatL, List.length_append]; omega)]
          congr 1
          simp only [hx1]
          rw [List.getElem_append_left]
        have hmr := ih (k + 1) (pos + c.flat.length) (by omega) g2 (fun y hy => hny y (by simp only [Tr.flat.flatL, List.mem_append]; exact .inr hy)) fun i hi => by
          have := hpi (c.flat.length + i) (by simp only [Tr.flat.flatL, List.length_append]; omega)
          rw [Nat.add_assoc, this]
          congr 1
          simp only [hx1]
          rw [List.getElem_append_right (by omega)]
          congr 1
          omega
        rw [List.length_cons, mkL, hmc, hmr]
    exact hL ks 0 (pos + 1) (by omega) hc5 hn' hp'
theorem types_rng {ts : List TypeM} : ∀ (n : Nat) (c : Tr), c.flat.length ≤ n → ∀ t, c.typed ts t → ∀ z ∈ c.types ts t, 0 ≤ z ∧ z < ts.length
  | 0, c, h => absurd (flat_pos c) (by omega)
  | n + 1, .node x ks, h => fun t ⟨h1, _, _, _, h5⟩ z hz => by
    simp only [Tr.flat, List.length_cons] at h
    have hL : ∀ (l : List Tr), (∀ c ∈ l, c.flat.length ≤ n) → ∀ (T : TypeM) (m : Int) (k : Nat), Tr.typed.typedL ts T m l k → ∀ z ∈ Tr.types.typesL ts T m l k, 0 ≤ z ∧ z < ts.length := by
      intro l
      induction l with
      | nil => intro _ _ _ _ _ z hz; cases hz
      | cons c cs ih =>
        intro hc T m k ⟨g1, g2⟩ z hz
        simp only [Tr.types.typesL, List.mem_append] at hz
        rcases hz with hz | hz
        · exact types_rng n c (hc c (.head _)) _ g1 z hz
        · exact ih (fun d hd => hc d (.tail _ hd)) T m (k + 1) g2 z hz
    simp only [Tr.types, List.mem_cons] at hz
    rcases hz with rfl | hz
    · omega
    · exact hL ks (fun c hc => by have := flatL_mem hc; omega) _ _ _ h5 z hz
/-- each node of a tree of the type fits its type -/
theorem typed_fits {ts : List TypeM} : ∀ (n : Nat) (c : Tr), c.flat.length ≤ n → ∀ t, c.typed ts t → ∀ (i : Nat) (x : NodeM) (z : Int), c.flat[i]? = some x → (c.types ts t)[i]? = some z → fitsF (tyA ts z.toNat) x = 0 ∧ rightN x = true
  | 0, c, h => absurd (flat_pos c) (by omega)
  | n + 1, .node y ks, h => fun t ⟨h1, h2, h3, _, h5⟩ i x z hx hz => by
    simp only [Tr.flat, List.length_cons] at h
    have hL : ∀ (l : List Tr), (∀ c ∈ l, c.flat.length ≤ n) → ∀ (T : TypeM) (m : Int) (k : Nat), Tr.typed.typedL ts T m l k → ∀ (i : Nat) (x : NodeM) (z : Int), (Tr.flat.flatL l)[i]? = some x → (Tr.types.typesL ts T m l k)[i]? = some z → fitsF (tyA ts z.toNat) x = 0 ∧ rightN x = true := by
      intro l
      induction l with
      | nil => intro _ _ _ _ _ i x z hx; simp [Tr.flat.flatL] at hx
      | cons c cs ih =>
        intro hc T m k ⟨g1, g2⟩ i x z hx hz
        have hlen := types_len _ c (Nat.le_refl _) (ts := ts) (elemF T m k).toNat
        simp only [Tr.types.typesL, Tr.flat.flatL, List.getElem?_append, hlen] at hx hz
        split at hx
        · rename_i hlt
          rw [if_pos hlt] at hz
          exact typed_fits n c (hc c (.head _)) _ g1 i x z hx hz
        · rename_i hlt
          rw [if_neg hlt] at hz
          exact ih (fun d hd => hc d (.tail _ hd)) T m (k + 1) g2 _ x z hx hz
    cases i with
    | zero =>
      simp only [Tr.flat, Tr.types, List.getElem?_cons_zero, Option.some.injEq] at hx hz
      subst hx; subst hz
      exact ⟨by rw [Int.toNat_natCast]; exact h2, h3⟩
    | succ i =>
      simp only [Tr.flat, Tr.types, List.getElem?_cons_succ] at hx hz
      exact hL ks (fun c hc => by have := flatL_mem hc; omega) _ _ _ h5 i x z hx hz
theorem chk_flat11 {c : Tr} (h : c.ok) : (chkN c.flat).1 = 0 := by
  have main : ∀ (n : Nat) (c : Tr), c.flat.length ≤ n → c.ok → ∀ (l : List NodeM) (w i : Int), 0 ≤ w → ∃ j, chkL (c.flat ++ l) (w + 1) i = chkL l w j := by
    intro n
    induction n with
    | zero => intro c hc; exact absurd (flat_pos c) (by omega)
    | succ n ih =>
      intro c hc hok l w i hw
      obtain ⟨x, ks⟩ := c
      obtain ⟨h1, h2, h3⟩ := hok
      simp only [Tr.flat, List.length_cons] at hc
      have hL : ∀ (ks : List Tr), (∀ c ∈ ks, c.flat.length ≤ n) → Tr.ok.okL ks → ∀ (l : List NodeM) (w i : Int), 0 ≤ w → ∃ j, chkL (Tr.flat.flatL ks ++ l) (w + ks.length) i = chkL l w j := by
        intro ks
        induction ks with
        | nil => intro _ _ l w i _; exact ⟨i, by simp [Tr.flat.flatL]⟩
        | cons c cs ih2 =>
          intro hcs hok l w i hw
          obtain ⟨j1, e1⟩ := ih c (hcs c (.head _)) hok.1 (Tr.flat.flatL cs ++ l) (w + cs.length) i (by omega)
          obtain ⟨j2, e2⟩ := ih2 (fun d hd => hcs d (.tail _ hd)) hok.2 l w j1 hw
          refine ⟨j2, ?_⟩
          rw [← e2, ← e1]
          simp only [Tr.flat.flatL, List.append_assoc, List.length_cons]
          congr 1
          omega
      obtain ⟨j, e⟩ := hL ks (fun d hd => by have := flatL_mem hd; omega) h3 l w (i + 1) hw
      refine ⟨j, ?_⟩
      rw [← e]
      simp only [Tr.flat, List.cons_append]
      rw [chkL, if_neg (by rw [h1]; simp; omega)]
      congr 1
      omega
  obtain ⟨j, e⟩ := main _ c (Nat.le_refl _) h [] 0 0 (by omega)
  rw [List.append_nil] at e
  unfold chkN
  rw [show (1 : Int) = 0 + 1 by omega, e]
  rfl
end Go.Proofs.YtfgacgpicfknpaaDoor
end
section
namespace Go.Proofs.YtfgacgpicfknpaaDoor
open Go.RowKit
set_option maxRecDepth 100000
set_option maxHeartbeats 8000000
/-! mortiseref11.Types, Picks. -/
theorem rTypes11_any (ts : List TypeM) (rs : List RootM) (hts : ts.length ≤ 1000000000) (hrs : rs.length ≤ 1000000000) (hp : ∀ t ∈ ts, t.parts.length ≤ 1000000000) (hg : ∀ t ∈ ts, ∀ p ∈ t.parts, I64 p.tag) (t : Int) (ht : I64 t) (V : List NodeM) (hV : V.length ≤ 1000000000) (hv : ∀ x ∈ V, nodeOK x)
    (c : Tr) (hc : (chkN V).1 = 0 → c.flat = V ∧ c.ok) :
    PCall Tryd.prog 13 [vSch ts rs, vI t, .lst 3 (encNs V)] (fun r => r = .tup [.lst 1 (v8 (typesF ts rs t V c).1), .agg [vI (typesF ts rs t V c).2.1, vI (typesF ts rs t V c).2.2]]) := by
  refine go_fn (tyOf_ok _) Tryd.func13 rfl rfl (by rw [Tryd.results13]) Tryd.ntmps13 rfl fun E => ?_
  have h := Types_any ts rs hts hrs hp hg t ht V hV hv c hc
  generalize typesF ts rs t V c = q at *
  unfold vSch at h
  (repeat' (first
    | exact trivial
    | (with_reducible first | refine awA ?_ | refine awB ?_ | refine awC ?_ | refine awD ?_ | refine awE ?_ | refine awF ?_ | refine awG ?_ | refine awH ?_ | refine awI ?_ | refine awJ ?_ | refine awK ?_ | refine awL ?_ | refine awM (by decide) ?_)
    | ((with_reducible first | refine awN (tyOf_ok _) [] ?_ | refine awO (tyOf_ok _) [] ?_ | refine awP (tyOf_ok _) [] ?_ | refine awQ ?_ | refine awR ?_ | refine awS ?_); intro r hr; simp only [go_sem, Nat.reduceBEq, Nat.reduceBneDiff, Nat.reduceLT, Nat.reduceLeDiff, Nat.reduceAdd, Nat.reduceMul, Nat.reduceSub, Nat.reduceEqDiff, reduceCtorEq, vSch] at hr; subst hr; (first | refine caC (h) rfl ?_ ?_ ?_ | refine awV ?_ ?_ | refine awW ?_ ?_ | refine endK ?_ ?_ | (refine condK (fun h => ?_) (fun h => ?_) <;> (try simp only [go_sem, reduceCtorEq] at h) <;> (try (exfalso; omega))))) | fail)) <;> (try omega)
  exact rfl
theorem typesF_typed {ts : List TypeM} {rs : List RootM} (h0 : (checkF ts rs).1 = 0) {t : Nat} {c : Tr} (hc : c.typed ts t) : typesF ts rs t c.flat c = (c.types ts t, 0, 0) := by
  have hok := typed_ok _ c (Nat.le_refl _) t hc
  have htl : t < ts.length := by cases c; exact hc.1
  unfold typesF
  rw [if_neg (by omega), if_neg (by omega), if_neg (by have := chk_flat11 hok; omega), Int.toNat_natCast, typed_walk _ c (Nat.le_refl _) t hc]
  rfl
theorem picks11_any (ts : List TypeM) (rs : List RootM) (hts : ts.length ≤ 1000000) (hrs : rs.length ≤ 1000000000) (hp : ∀ t ∈ ts, t.parts.length ≤ 1000000000) (hg : ∀ t ∈ ts, ∀ p ∈ t.parts, I64 p.tag) (h0 : (checkF ts rs).1 = 0) (t : Nat)
    (V : List NodeM) (hV : V.length ≤ 1000000000) (hv : ∀ x ∈ V, nodeOK x) (c : Tr) (hcV : c.flat = V) (hc : c.typed ts t) :
    PCall Tryd.prog 25 [vSch ts rs, vI t, .lst 3 (encNs V)] (fun r => r = .lst 1 (v8 (picksL ts V (c.types ts t)))) := by
  refine go_fnU (tyOf_ok _) Tryd.func25 rfl rfl (by rw [Tryd.results25]) Tryd.ntmps25 rfl fun E => ?_
  have htl : t < ts.length := by cases c; exact hc.1
  have hT := rTypes11_any ts rs (by omega) hrs hp hg t (by unfold I64; omega) V hV hv c fun _ => ⟨hcV, typed_ok _ c (Nat.le_refl _) t hc⟩
  have htF := typesF_typed h0 hc
  rw [hcV] at htF
  rw [htF] at hT
  have hr := check_right h0
  have hlen := types_len _ c (Nat.le_refl _) (ts := ts) t
  rw [hcV] at hlen
  have hrng := types_rng _ c (Nat.le_refl _) t hc
  have hfit := typed_fits _ c (Nat.le_refl _) t hc
  rw [hcV] at hfit
  clear htF
  generalize c.types ts t = l at *
  unfold vSch at hT
  simp only at hT
  (repeat' (first
    | exact trivial
    | (with_reducible first | refine awA ?_ | refine awB ?_ | refine awC ?_ | refine awD ?_ | refine awE ?_ | refine awF ?_ | refine awG ?_ | refine awH ?_ | refine awI ?_ | refine awJ ?_ | refine awK ?_ | refine awL ?_ | refine awM (by decide) ?_)
    | (refine aw_draw (id := 6) (t := (.node [0, 1, 2, 3, 4, 5, 6, 7, 8, 9] [])) (drR [3] [31, 33] []) mixed (by kernel_rfl) (by kernel_rfl) (fun _ _ h => h) ?_)
    | (refine aw_draw (id := 17) (t := (.node [0, 1, 2, 3, 4, 5, 6, 7, 8, 9, 10, 11, 12] [])) (drR [11] [61, 67] []) mixed (by kernel_rfl) (by kernel_rfl) (fun _ _ h => h) ?_)
    | (refine at_done (by simp only [List.filterMap_cons, List.filterMap_nil, List.getElem?_toArray, List.getElem?_cons_zero, List.getElem?_cons_succ]; exact rfl) ?_) | (refine at_alt (by simp only [List.filterMap_cons, List.filterMap_nil, List.getElem?_toArray, List.getElem?_cons_zero, List.getElem?_cons_succ]; exact rfl) ?_) | refine qalt_normal ?_ | refine ats_cons ?_ ?_ | exact ats_nil
    | ((with_reducible first | refine awN (tyOf_ok _) [] ?_ | refine awO (tyOf_ok _) [] ?_ | refine awP (tyOf_ok _) [] ?_ | refine awQ ?_ | refine awR ?_ | refine awS ?_); intro r hr; simp only [go_sem, Nat.reduceBEq, Nat.reduceBneDiff, Nat.reduceLT, Nat.reduceLeDiff, Nat.reduceAdd, Nat.reduceMul, Nat.reduceSub, Nat.reduceEqDiff, reduceCtorEq, vSch] at hr; subst hr; (first | refine caC (hT) rfl ?_ ?_ ?_ | refine awV ?_ ?_ | refine awW ?_ ?_ | refine endK ?_ ?_ | (refine condK (fun h => ?_) (fun h => ?_) <;> (try simp only [go_sem, reduceCtorEq] at h) <;> (try (exfalso; omega))))) | fail)) <;> (try omega)
  refine aw_nilrow 9 3 1 8000 (.inl (by decide)) (by simp only [go_sem, Nat.reduceBEq, Nat.reduceBneDiff, Nat.reduceLT, Nat.reduceLeDiff, Nat.reduceAdd, Nat.reduceMul, Nat.reduceSub, Nat.reduceEqDiff, reduceCtorEq]) ?_
  have hPl := picksL_len ts V l hlen.symm
  have hPg : ∀ (i : Nat) (hi : i < V.length) (z : Int), l[i]? = some z → (picksL ts V l)[i]? = some (pickOf (tyA ts z.toNat) V[i]) := fun i hi z hz => by
    rw [List.getElem?_eq_getElem (by omega)] at hz
    injection hz with hz
    rw [List.getElem?_eq_getElem (by omega), picksL_get ts V l hlen.symm i hi, hz]
  generalize picksL ts V l = P at *
  refine go_loop [2, 3, 6, 7, 9, 10] [3, 8000] (fun k : Nat => ⟨[(2, true, .lst 3 (encNs V)), (3, true, .ptr 1 3 0 0), (6, true, .v (.slice none 0 0)), (7, true, .lst 1 (v8 l)), (9, true, .ref 3 1 8000 0 k), (10, true, vI k)], [(3, .var [.lst 4 (encTs ts), .lst 2 (encRs rs)]), (8000, .row 3 1 (v8 (P.take k)))]⟩)
    (fun k => k ≤ V.length) (fun k => V.length - k) 0 (by simp only [AState.nilrow, go_sem, Nat.reduceBEq, Nat.reduceBneDiff, Nat.reduceLT, Nat.reduceLeDiff, Nat.reduceAdd, Nat.reduceMul, Nat.reduceSub, Nat.reduceEqDiff, reduceCtorEq] <;> exact rfl) (Nat.zero_le _) ?_
  intro k hk
  have hw1 := wrap_i64 (n := (k : Int) + 1) (by omega)
  have hkl : (v8 (P.take k)).length = k := by rw [v8_len, List.length_take]; omega
  have htk : (v8 (P.take k)).take k = v8 (P.take k) := take_len (by omega)
  by_cases hlt : k < V.length
  case neg =>
    have f1 : ((k : Int) < V.length) = False := eq_false (by omega)
    have hke : P.take k = P := List.take_of_length_le (by omega)
    rw [hke] at htk ⊢
    (repeat' (first
    | exact trivial
    | (with_reducible first | refine awA ?_ | refine awB ?_ | refine awC ?_ | refine awD ?_ | refine awE ?_ | refine awF ?_ | refine awG ?_ | refine awH ?_ | refine awI ?_ | refine awJ ?_ | refine awK ?_ | refine awL ?_ | refine awM (by decide) ?_)
    | (refine aw_draw (id := 6) (t := (.node [0, 1, 2, 3, 4, 5, 6, 7, 8, 9] [])) (drR [3] [31, 33] []) mixed (by kernel_rfl) (by kernel_rfl) (fun _ _ h => h) ?_)
    | (refine aw_draw (id := 17) (t := (.node [0, 1, 2, 3, 4, 5, 6, 7, 8, 9, 10, 11, 12] [])) (drR [11] [61, 67] []) mixed (by kernel_rfl) (by kernel_rfl) (fun _ _ h => h) ?_)
    | (refine at_done (by simp only [List.filterMap_cons, List.filterMap_nil, List.getElem?_toArray, List.getElem?_cons_zero, List.getElem?_cons_succ]; exact rfl) ?_) | (refine at_alt (by simp only [List.filterMap_cons, List.filterMap_nil, List.getElem?_toArray, List.getElem?_cons_zero, List.getElem?_cons_succ]; exact rfl) ?_) | refine qalt_normal ?_ | refine ats_cons ?_ ?_ | exact ats_nil
    | ((with_reducible first | refine awN (tyOf_ok _) [] ?_ | refine awO (tyOf_ok _) [] ?_ | refine awP (tyOf_ok _) [] ?_ | refine awQ ?_ | refine awR ?_ | refine awS ?_); intro r hr; simp only [go_sem, Nat.reduceBEq, Nat.reduceBneDiff, Nat.reduceLT, Nat.reduceLeDiff, Nat.reduceAdd, Nat.reduceMul, Nat.reduceSub, Nat.reduceEqDiff, reduceCtorEq, f1, htk] at hr; subst hr; (first | refine awV ?_ ?_ | refine awW ?_ ?_ | refine endK ?_ ?_ | (refine condK (fun h => ?_) (fun h => ?_) <;> (try simp only [go_sem, reduceCtorEq] at h) <;> (try (exfalso; omega))))) | fail)) <;> (try omega)
    exact AV.up_rfl _
  have f1 : ((k : Int) < V.length) = True := eq_true (by omega)
  have hkl2 : k < l.length := by omega
  have g1 := v8_get hkl2
  have g3 := encNs_get hlt
  have hb := hrng _ (List.getElem_mem hkl2)
  have hft := hfit k V[k] l[k] (List.getElem?_eq_getElem hlt) (List.getElem?_eq_getElem hkl2)
  have hxo := hv _ (List.getElem_mem hlt)
  have hPk := hPg k hlt l[k] (List.getElem?_eq_getElem hkl2)
  obtain ⟨tn, htn⟩ : ∃ tn : Nat, l[k] = tn := ⟨l[k].toNat, by omega⟩
  rw [htn] at g1 hft hPk hb
  rw [Int.toNat_natCast] at hft hPk
  have htn2 : tn < ts.length := by omega
  have g2 := encTs_get htn2
  have hrt := hr tn htn2
  rw [tyA_lt htn2] at hft hPk
  have hppl := hp _ (List.getElem_mem htn2)
  have zt : ((tn : Int)).toNat = tn := by omega
  have hnext : v8 (P.take k) ++ [[vI (pickOf ts[tn] V[k])]] = v8 (P.take (k + 1)) := by rw [List.take_succ, hPk]; simp [v8]
  have hkl1 : (v8 (P.take (k + 1))).length = k + 1 := by rw [v8_len, List.length_take]; omega
  generalize V[k] = x at *
  generalize ts[tn] = T at *
  clear hPk hPg hrng hfit
  (repeat' (first
    | exact trivial
    | (refine go_cutK 2 [2, 3, 6, 7, 9, 10, 12] [3, 8000] (fun y : Int => ⟨[(2, true, .lst 3 (encNs V)), (3, true, .ptr 1 3 0 0), (6, true, .v (.slice none 0 0)), (7, true, .lst 1 (v8 l)), (9, true, .ref 3 1 8000 0 k), (10, true, vI k), (12, true, vI y)], [(3, .var [.lst 4 (encTs ts), .lst 2 (encRs rs)]), (8000, .row 3 1 (v8 (P.take k)))]⟩) (fun y => y = pickOf T x) (hold ?_) ?_)
    | (with_reducible first | refine awA ?_ | refine awB ?_ | refine awC ?_ | refine awD ?_ | refine awE ?_ | refine awF ?_ | refine awG ?_ | refine awH ?_ | refine awI ?_ | refine awJ ?_ | refine awK ?_ | refine awL ?_ | refine awM (by decide) ?_)
    | (refine aw_draw (id := 6) (t := (.node [0, 1, 2, 3, 4, 5, 6, 7, 8, 9] [])) (drR [3] [31, 33] []) mixed (by kernel_rfl) (by kernel_rfl) (fun _ _ h => h) ?_)
    | (refine aw_draw (id := 17) (t := (.node [0, 1, 2, 3, 4, 5, 6, 7, 8, 9, 10, 11, 12] [])) (drR [11] [61, 67] []) mixed (by kernel_rfl) (by kernel_rfl) (fun _ _ h => h) ?_)
    | (refine at_done (by simp only [List.filterMap_cons, List.filterMap_nil, List.getElem?_toArray, List.getElem?_cons_zero, List.getElem?_cons_succ]; exact rfl) ?_) | (refine at_alt (by simp only [List.filterMap_cons, List.filterMap_nil, List.getElem?_toArray, List.getElem?_cons_zero, List.getElem?_cons_succ]; exact rfl) ?_) | refine qalt_normal ?_ | refine ats_cons ?_ ?_ | exact ats_nil
    | ((with_reducible first | refine awN (tyOf_ok _) [] ?_ | refine awO (tyOf_ok _) [] ?_ | refine awP (tyOf_ok _) [] ?_ | refine awQ ?_ | refine awR ?_ | refine awS ?_); intro r hr; simp only [go_sem, Nat.reduceBEq, Nat.reduceBneDiff, Nat.reduceLT, Nat.reduceLeDiff, Nat.reduceAdd, Nat.reduceMul, Nat.reduceSub, Nat.reduceEqDiff, reduceCtorEq, f1, g1, g2, zt] at hr; subst hr; (first | refine awV ?_ ?_ | refine awW ?_ ?_ | refine endK ?_ ?_ | (refine condK (fun h => ?_) (fun h => ?_) <;> (try simp only [go_sem, reduceCtorEq] at h) <;> (try (exfalso; omega))))) | fail)) <;> (try omega)
  · refine ⟨?_⟩
    have zk : ((k : Int)).toNat = k := by omega
    by_cases h1 : T.kind = 1
    · have e1 : (T.kind = 1) = True := eq_true h1
      (repeat' (first
    | exact trivial
    | (with_reducible first | refine awA ?_ | refine awB ?_ | refine awC ?_ | refine awD ?_ | refine awE ?_ | refine awF ?_ | refine awG ?_ | refine awH ?_ | refine awI ?_ | refine awJ ?_ | refine awK ?_ | refine awL ?_ | refine awM (by decide) ?_)
    | (refine aw_draw (id := 6) (t := (.node [0, 1, 2, 3, 4, 5, 6, 7, 8, 9] [])) (drR [3] [31, 33] []) mixed (by kernel_rfl) (by kernel_rfl) (fun _ _ h => h) ?_)
    | (refine aw_draw (id := 17) (t := (.node [0, 1, 2, 3, 4, 5, 6, 7, 8, 9, 10, 11, 12] [])) (drR [11] [61, 67] []) mixed (by kernel_rfl) (by kernel_rfl) (fun _ _ h => h) ?_)
    | (refine at_done (by simp only [List.filterMap_cons, List.filterMap_nil, List.getElem?_toArray, List.getElem?_cons_zero, List.getElem?_cons_succ]; exact rfl) ?_) | (refine at_alt (by simp only [List.filterMap_cons, List.filterMap_nil, List.getElem?_toArray, List.getElem?_cons_zero, List.getElem?_cons_succ]; exact rfl) ?_) | refine qalt_normal ?_ | refine ats_cons ?_ ?_ | exact ats_nil
    | ((with_reducible first | refine awN (tyOf_ok _) [] ?_ | refine awO (tyOf_ok _) [] ?_ | refine awP (tyOf_ok _) [] ?_ | refine awQ ?_ | refine awR ?_ | refine awS ?_); intro r hr; simp only [go_sem, Nat.reduceBEq, Nat.reduceBneDiff, Nat.reduceLT, Nat.reduceLeDiff, Nat.reduceAdd, Nat.reduceMul, Nat.reduceSub, Nat.reduceEqDiff, reduceCtorEq, e1, g3, zk] at hr; subst hr; (first | refine awV ?_ ?_ | refine awW ?_ ?_ | refine endK ?_ ?_ | (refine condK (fun h => ?_) (fun h => ?_) <;> (try simp only [go_sem, reduceCtorEq] at h) <;> (try (exfalso; omega))))) | fail)) <;> (try omega)
      exact ⟨_, by simp only [go_sem, Nat.reduceBEq, Nat.reduceBneDiff, Nat.reduceLT, Nat.reduceLeDiff, Nat.reduceAdd, Nat.reduceMul, Nat.reduceSub, Nat.reduceEqDiff, reduceCtorEq] <;> exact rfl, by rw [pickOf, if_pos (.inl h1)]⟩
    have e1 : (T.kind = 1) = False := eq_false h1
    by_cases h3 : T.kind = 3
    · have e3 : (T.kind = 3) = True := eq_true h3
      (repeat' (first
    | exact trivial
    | (with_reducible first | refine awA ?_ | refine awB ?_ | refine awC ?_ | refine awD ?_ | refine awE ?_ | refine awF ?_ | refine awG ?_ | refine awH ?_ | refine awI ?_ | refine awJ ?_ | refine awK ?_ | refine awL ?_ | refine awM (by decide) ?_)
    | (refine aw_draw (id := 6) (t := (.node [0, 1, 2, 3, 4, 5, 6, 7, 8, 9] [])) (drR [3] [31, 33] []) mixed (by kernel_rfl) (by kernel_rfl) (fun _ _ h => h) ?_)
    | (refine aw_draw (id := 17) (t := (.node [0, 1, 2, 3, 4, 5, 6, 7, 8, 9, 10, 11, 12] [])) (drR [11] [61, 67] []) mixed (by kernel_rfl) (by kernel_rfl) (fun _ _ h => h) ?_)
    | (refine at_done (by simp only [List.filterMap_cons, List.filterMap_nil, List.getElem?_toArray, List.getElem?_cons_zero, List.getElem?_cons_succ]; exact rfl) ?_) | (refine at_alt (by simp only [List.filterMap_cons, List.filterMap_nil, List.getElem?_toArray, List.getElem?_cons_zero, List.getElem?_cons_succ]; exact rfl) ?_) | refine qalt_normal ?_ | refine ats_cons ?_ ?_ | exact ats_nil
    | ((with_reducible first | refine awN (tyOf_ok _) [] ?_ | refine awO (tyOf_ok _) [] ?_ | refine awP (tyOf_ok _) [] ?_ | refine awQ ?_ | refine awR ?_ | refine awS ?_); intro r hr; simp only [go_sem, Nat.reduceBEq, Nat.reduceBneDiff, Nat.reduceLT, Nat.reduceLeDiff, Nat.reduceAdd, Nat.reduceMul, Nat.reduceSub, Nat.reduceEqDiff, reduceCtorEq, e1, e3, g3, zk] at hr; subst hr; (first | refine awV ?_ ?_ | refine awW ?_ ?_ | refine endK ?_ ?_ | (refine condK (fun h => ?_) (fun h => ?_) <;> (try simp only [go_sem, reduceCtorEq] at h) <;> (try (exfalso; omega))))) | fail)) <;> (try omega)
      exact ⟨_, by simp only [go_sem, Nat.reduceBEq, Nat.reduceBneDiff, Nat.reduceLT, Nat.reduceLeDiff, Nat.reduceAdd, Nat.reduceMul, Nat.reduceSub, Nat.reduceEqDiff, reduceCtorEq] <;> exact rfl, by rw [pickOf, if_pos (.inr (.inl h3))]⟩
    have e3 : (T.kind = 3) = False := eq_false h3
    by_cases h2 : T.kind = 2
    · have e2 : (T.kind = 2) = True := eq_true h2
      (repeat' (first
    | exact trivial
    | (with_reducible first | refine awA ?_ | refine awB ?_ | refine awC ?_ | refine awD ?_ | refine awE ?_ | refine awF ?_ | refine awG ?_ | refine awH ?_ | refine awI ?_ | refine awJ ?_ | refine awK ?_ | refine awL ?_ | refine awM (by decide) ?_)
    | (refine aw_draw (id := 6) (t := (.node [0, 1, 2, 3, 4, 5, 6, 7, 8, 9] [])) (drR [3] [31, 33] []) mixed (by kernel_rfl) (by kernel_rfl) (fun _ _ h => h) ?_)
    | (refine aw_draw (id := 17) (t := (.node [0, 1, 2, 3, 4, 5, 6, 7, 8, 9, 10, 11, 12] [])) (drR [11] [61, 67] []) mixed (by kernel_rfl) (by kernel_rfl) (fun _ _ h => h) ?_)
    | (refine at_done (by simp only [List.filterMap_cons, List.filterMap_nil, List.getElem?_toArray, List.getElem?_cons_zero, List.getElem?_cons_succ]; exact rfl) ?_) | (refine at_alt (by simp only [List.filterMap_cons, List.filterMap_nil, List.getElem?_toArray, List.getElem?_cons_zero, List.getElem?_cons_succ]; exact rfl) ?_) | refine qalt_normal ?_ | refine ats_cons ?_ ?_ | exact ats_nil
    | ((with_reducible first | refine awN (tyOf_ok _) [] ?_ | refine awO (tyOf_ok _) [] ?_ | refine awP (tyOf_ok _) [] ?_ | refine awQ ?_ | refine awR ?_ | refine awS ?_); intro r hr; simp only [go_sem, Nat.reduceBEq, Nat.reduceBneDiff, Nat.reduceLT, Nat.reduceLeDiff, Nat.reduceAdd, Nat.reduceMul, Nat.reduceSub, Nat.reduceEqDiff, reduceCtorEq, e1, e3, e2, g3, zk] at hr; subst hr; (first | refine awV ?_ ?_ | refine awW ?_ ?_ | refine endK ?_ ?_ | (refine condK (fun h => ?_) (fun h => ?_) <;> (try simp only [go_sem, reduceCtorEq] at h) <;> (try (exfalso; omega))))) | fail)) <;> (try omega)
      exact ⟨_, by simp only [go_sem, Nat.reduceBEq, Nat.reduceBneDiff, Nat.reduceLT, Nat.reduceLeDiff, Nat.reduceAdd, Nat.reduceMul, Nat.reduceSub, Nat.reduceEqDiff, reduceCtorEq] <;> exact rfl, by rw [pickOf, if_pos (.inr (.inr h2))]⟩
    have e2 : (T.kind = 2) = False := eq_false h2
    by_cases h5 : T.kind = 5
    · have e5 : (T.kind = 5) = True := eq_true h5
      (repeat' (first
    | exact trivial
    | (with_reducible first | refine awA ?_ | refine awB ?_ | refine awC ?_ | refine awD ?_ | refine awE ?_ | refine awF ?_ | refine awG ?_ | refine awH ?_ | refine awI ?_ | refine awJ ?_ | refine awK ?_ | refine awL ?_ | refine awM (by decide) ?_)
    | (refine aw_draw (id := 6) (t := (.node [0, 1, 2, 3, 4, 5, 6, 7, 8, 9] [])) (drR [3] [31, 33] []) mixed (by kernel_rfl) (by kernel_rfl) (fun _ _ h => h) ?_)
    | (refine aw_draw (id := 17) (t := (.node [0, 1, 2, 3, 4, 5, 6, 7, 8, 9, 10, 11, 12] [])) (drR [11] [61, 67] []) mixed (by kernel_rfl) (by kernel_rfl) (fun _ _ h => h) ?_)
    | (refine at_done (by simp only [List.filterMap_cons, List.filterMap_nil, List.getElem?_toArray, List.getElem?_cons_zero, List.getElem?_cons_succ]; exact rfl) ?_) | (refine at_alt (by simp only [List.filterMap_cons, List.filterMap_nil, List.getElem?_toArray, List.getElem?_cons_zero, List.getElem?_cons_succ]; exact rfl) ?_) | refine qalt_normal ?_ | refine ats_cons ?_ ?_ | exact ats_nil
    | ((with_reducible first | refine awN (tyOf_ok _) [] ?_ | refine awO (tyOf_ok _) [] ?_ | refine awP (tyOf_ok _) [] ?_ | refine awQ ?_ | refine awR ?_ | refine awS ?_); intro r hr; simp only [go_sem, Nat.reduceBEq, Nat.reduceBneDiff, Nat.reduceLT, Nat.reduceLeDiff, Nat.reduceAdd, Nat.reduceMul, Nat.reduceSub, Nat.reduceEqDiff, reduceCtorEq, e1, e3, e2, e5, g3, zk] at hr; subst hr; (first | refine awV ?_ ?_ | refine awW ?_ ?_ | refine endK ?_ ?_ | (refine condK (fun h => ?_) (fun h => ?_) <;> (try simp only [go_sem, reduceCtorEq] at h) <;> (try (exfalso; omega))))) | fail)) <;> (try omega)
      exact ⟨_, by simp only [go_sem, Nat.reduceBEq, Nat.reduceBneDiff, Nat.reduceLT, Nat.reduceLeDiff, Nat.reduceAdd, Nat.reduceMul, Nat.reduceSub, Nat.reduceEqDiff, reduceCtorEq] <;> exact rfl, by rw [pickOf, if_neg (by omega), if_pos (.inl h5)]⟩
    have e5 : (T.kind = 5) = False := eq_false h5
    by_cases h6 : T.kind = 6
    · have e6 : (T.kind = 6) = True := eq_true h6
      (repeat' (first
    | exact trivial
    | (with_reducible first | refine awA ?_ | refine awB ?_ | refine awC ?_ | refine awD ?_ | refine awE ?_ | refine awF ?_ | refine awG ?_ | refine awH ?_ | refine awI ?_ | refine awJ ?_ | refine awK ?_ | refine awL ?_ | refine awM (by decide) ?_)
    | (refine aw_draw (id := 6) (t := (.node [0, 1, 2, 3, 4, 5, 6, 7, 8, 9] [])) (drR [3] [31, 33] []) mixed (by kernel_rfl) (by kernel_rfl) (fun _ _ h => h) ?_)
    | (refine aw_draw (id := 17) (t := (.node [0, 1, 2, 3, 4, 5, 6, 7, 8, 9, 10, 11, 12] [])) (drR [11] [61, 67] []) mixed (by kernel_rfl) (by kernel_rfl) (fun _ _ h => h) ?_)
    | (refine at_done (by simp only [List.filterMap_cons, List.filterMap_nil, List.getElem?_toArray, List.getElem?_cons_zero, List.getElem?_cons_succ]; exact rfl) ?_) | (refine at_alt (by simp only [List.filterMap_cons, List.filterMap_nil, List.getElem?_toArray, List.getElem?_cons_zero, List.getElem?_cons_succ]; exact rfl) ?_) | refine qalt_normal ?_ | refine ats_cons ?_ ?_ | exact ats_nil
    | ((with_reducible first | refine awN (tyOf_ok _) [] ?_ | refine awO (tyOf_ok _) [] ?_ | refine awP (tyOf_ok _) [] ?_ | refine awQ ?_ | refine awR ?_ | refine awS ?_); intro r hr; simp only [go_sem, Nat.reduceBEq, Nat.reduceBneDiff, Nat.reduceLT, Nat.reduceLeDiff, Nat.reduceAdd, Nat.reduceMul, Nat.reduceSub, Nat.reduceEqDiff, reduceCtorEq, e1, e3, e2, e5, e6, g3, zk] at hr; subst hr; (first | refine awV ?_ ?_ | refine awW ?_ ?_ | refine endK ?_ ?_ | (refine condK (fun h => ?_) (fun h => ?_) <;> (try simp only [go_sem, reduceCtorEq] at h) <;> (try (exfalso; omega))))) | fail)) <;> (try omega)
      exact ⟨_, by simp only [go_sem, Nat.reduceBEq, Nat.reduceBneDiff, Nat.reduceLT, Nat.reduceLeDiff, Nat.reduceAdd, Nat.reduceMul, Nat.reduceSub, Nat.reduceEqDiff, reduceCtorEq] <;> exact rfl, by rw [pickOf, if_neg (by omega), if_pos (.inr h6)]⟩
    have e6 : (T.kind = 6) = False := eq_false h6
    by_cases h7 : T.kind = 7
    · have e7 : (T.kind = 7) = True := eq_true h7
      obtain ⟨a1, a2⟩ := arm_idx ((fits_parts hft.1).2.2.2.2.2 h7)
      have hP : pickOf T x = ((T.parts.findIdx (tagP x.n) : Nat) : Int) := by rw [pickOf, if_neg (by omega), if_neg (by omega), if_pos h7]
      rw [hP]
      have hnot : ∀ j, j < T.parts.findIdx (tagP x.n) → (h : j < T.parts.length) → tagP x.n T.parts[j] = false := fun j hj h => by
        have := List.not_of_lt_findIdx hj
        simpa using this
      have hyes : ∀ j, j = T.parts.findIdx (tagP x.n) → (h : j < T.parts.length) → tagP x.n T.parts[j] = true := fun j hj h => by
        subst hj
        exact List.findIdx_getElem (w := h)
      generalize T.parts.findIdx (tagP x.n) = ix at *
      (repeat' (first
    | exact trivial
    | (with_reducible first | refine awA ?_ | refine awB ?_ | refine awC ?_ | refine awD ?_ | refine awE ?_ | refine awF ?_ | refine awG ?_ | refine awH ?_ | refine awI ?_ | refine awJ ?_ | refine awK ?_ | refine awL ?_ | refine awM (by decide) ?_)
    | (refine aw_draw (id := 6) (t := (.node [0, 1, 2, 3, 4, 5, 6, 7, 8, 9] [])) (drR [3] [31, 33] []) mixed (by kernel_rfl) (by kernel_rfl) (fun _ _ h => h) ?_)
    | (refine aw_draw (id := 17) (t := (.node [0, 1, 2, 3, 4, 5, 6, 7, 8, 9, 10, 11, 12] [])) (drR [11] [61, 67] []) mixed (by kernel_rfl) (by kernel_rfl) (fun _ _ h => h) ?_)
    | (refine at_done (by simp only [List.filterMap_cons, List.filterMap_nil, List.getElem?_toArray, List.getElem?_cons_zero, List.getElem?_cons_succ]; exact rfl) ?_) | (refine at_alt (by simp only [List.filterMap_cons, List.filterMap_nil, List.getElem?_toArray, List.getElem?_cons_zero, List.getElem?_cons_succ]; exact rfl) ?_) | refine qalt_normal ?_ | refine ats_cons ?_ ?_ | exact ats_nil
    | ((with_reducible first | refine awN (tyOf_ok _) [] ?_ | refine awO (tyOf_ok _) [] ?_ | refine awP (tyOf_ok _) [] ?_ | refine awQ ?_ | refine awR ?_ | refine awS ?_); intro r hr; simp only [go_sem, Nat.reduceBEq, Nat.reduceBneDiff, Nat.reduceLT, Nat.reduceLeDiff, Nat.reduceAdd, Nat.reduceMul, Nat.reduceSub, Nat.reduceEqDiff, reduceCtorEq, e1, e3, e2, e5, e6, e7] at hr; subst hr; (first | refine awV ?_ ?_ | refine awW ?_ ?_ | refine endK ?_ ?_ | (refine condK (fun h => ?_) (fun h => ?_) <;> (try simp only [go_sem, reduceCtorEq] at h) <;> (try (exfalso; omega))))) | fail)) <;> (try omega)
      refine go_loop [2, 3, 6, 7, 9, 10, 11, 12] [3, 11, 8000] (fun j : Nat => ⟨[(2, true, .lst 3 (encNs V)), (3, true, .ptr 1 3 0 0), (6, true, .v (.slice none 0 0)), (7, true, .lst 1 (v8 l)), (9, true, .ref 3 1 8000 0 k), (10, true, vI k), (11, true, .ptr 1 11 0 0), (12, true, vI j)], [(3, .var [.lst 4 (encTs ts), .lst 2 (encRs rs)]), (11, .var [vI T.kind, vI T.n, vI T.elem, .lst 3 (encPs T.parts)]), (8000, .row 3 1 (v8 (P.take k)))]⟩)
        (fun j => j ≤ ix) (fun j => ix - j) 0 (by simp only [go_sem, Nat.reduceBEq, Nat.reduceBneDiff, Nat.reduceLT, Nat.reduceLeDiff, Nat.reduceAdd, Nat.reduceMul, Nat.reduceSub, Nat.reduceEqDiff, reduceCtorEq, h7] <;> exact rfl) (Nat.zero_le _) ?_
      intro j hj
      have hwj := wrap_i64 (n := (j : Int) + 1) (by omega)
      have g4 := encPs_get (show j < T.parts.length by omega)
      have hcv : IntKind.u64.wrap (T.parts[j]'(by omega)).tag = (T.parts[j]'(by omega)).tag % 18446744073709551616 := IntKind.wrap_u64 _
      have zj : ((j : Int)).toNat = j := by omega
      have hjl : j < T.parts.length := by omega
      by_cases hje : j = ix
      · have hy := hyes j hje hjl
        rw [tagP, decide_eq_true_eq] at hy
        generalize T.parts[j] = pp at *
        have f2 : (pp.tag % 18446744073709551616 = x.n) = True := eq_true hy
        (repeat' (first
    | exact trivial
    | (with_reducible first | refine awA ?_ | refine awB ?_ | refine awC ?_ | refine awD ?_ | refine awE ?_ | refine awF ?_ | refine awG ?_ | refine awH ?_ | refine awI ?_ | refine awJ ?_ | refine awK ?_ | refine awL ?_ | refine awM (by decide) ?_)
    | (refine aw_draw (id := 6) (t := (.node [0, 1, 2, 3, 4, 5, 6, 7, 8, 9] [])) (drR [3] [31, 33] []) mixed (by kernel_rfl) (by kernel_rfl) (fun _ _ h => h) ?_)
    | (refine aw_draw (id := 17) (t := (.node [0, 1, 2, 3, 4, 5, 6, 7, 8, 9, 10, 11, 12] [])) (drR [11] [61, 67] []) mixed (by kernel_rfl) (by kernel_rfl) (fun _ _ h => h) ?_)
    | (refine at_done (by simp only [List.filterMap_cons, List.filterMap_nil, List.getElem?_toArray, List.getElem?_cons_zero, List.getElem?_cons_succ]; exact rfl) ?_) | (refine at_alt (by simp only [List.filterMap_cons, List.filterMap_nil, List.getElem?_toArray, List.getElem?_cons_zero, List.getElem?_cons_succ]; exact rfl) ?_) | refine qalt_normal ?_ | refine ats_cons ?_ ?_ | exact ats_nil
    | ((with_reducible first | refine awN (tyOf_ok _) [] ?_ | refine awO (tyOf_ok _) [] ?_ | refine awP (tyOf_ok _) [] ?_ | refine awQ ?_ | refine awR ?_ | refine awS ?_); intro r hr; simp only [go_sem, Nat.reduceBEq, Nat.reduceBneDiff, Nat.reduceLT, Nat.reduceLeDiff, Nat.reduceAdd, Nat.reduceMul, Nat.reduceSub, Nat.reduceEqDiff, reduceCtorEq, encPs_len, g3, g4, zk, zj, hcv, f2] at hr; subst hr; (first | refine awV ?_ ?_ | refine awW ?_ ?_ | refine endK ?_ ?_ | (refine condK (fun h => ?_) (fun h => ?_) <;> (try simp only [go_sem, reduceCtorEq] at h) <;> (try (exfalso; omega))))) | fail)) <;> (try omega)
        all_goals first | exact ⟨_, by simp only [go_sem, Nat.reduceBEq, Nat.reduceBneDiff, Nat.reduceLT, Nat.reduceLeDiff, Nat.reduceAdd, Nat.reduceMul, Nat.reduceSub, Nat.reduceEqDiff, reduceCtorEq] <;> exact rfl, by rw [hje]⟩ | omega
      · have hy := hnot j (by omega) hjl
        rw [tagP, decide_eq_false_iff_not] at hy
        generalize T.parts[j] = pp at *
        have f2 : (pp.tag % 18446744073709551616 = x.n) = False := eq_false hy
        (repeat' (first
    | exact trivial
    | (with_reducible first | refine awA ?_ | refine awB ?_ | refine awC ?_ | refine awD ?_ | refine awE ?_ | refine awF ?_ | refine awG ?_ | refine awH ?_ | refine awI ?_ | refine awJ ?_ | refine awK ?_ | refine awL ?_ | refine awM (by decide) ?_)
    | (refine aw_draw (id := 6) (t := (.node [0, 1, 2, 3, 4, 5, 6, 7, 8, 9] [])) (drR [3] [31, 33] []) mixed (by kernel_rfl) (by kernel_rfl) (fun _ _ h => h) ?_)
    | (refine aw_draw (id := 17) (t := (.node [0, 1, 2, 3, 4, 5, 6, 7, 8, 9, 10, 11, 12] [])) (drR [11] [61, 67] []) mixed (by kernel_rfl) (by kernel_rfl) (fun _ _ h => h) ?_)
    | (refine at_done (by simp only [List.filterMap_cons, List.filterMap_nil, List.getElem?_toArray, List.getElem?_cons_zero, List.getElem?_cons_succ]; exact rfl) ?_) | (refine at_alt (by simp only [List.filterMap_cons, List.filterMap_nil, List.getElem?_toArray, List.getElem?_cons_zero, List.getElem?_cons_succ]; exact rfl) ?_) | refine qalt_normal ?_ | refine ats_cons ?_ ?_ | exact ats_nil
    | ((with_reducible first | refine awN (tyOf_ok _) [] ?_ | refine awO (tyOf_ok _) [] ?_ | refine awP (tyOf_ok _) [] ?_ | refine awQ ?_ | refine awR ?_ | refine awS ?_); intro r hr; simp only [go_sem, Nat.reduceBEq, Nat.reduceBneDiff, Nat.reduceLT, Nat.reduceLeDiff, Nat.reduceAdd, Nat.reduceMul, Nat.reduceSub, Nat.reduceEqDiff, reduceCtorEq, encPs_len, g3, g4, zk, zj, hcv, f2, hwj] at hr; subst hr; (first | refine awV ?_ ?_ | refine awW ?_ ?_ | refine endK ?_ ?_ | (refine condK (fun h => ?_) (fun h => ?_) <;> (try simp only [go_sem, reduceCtorEq] at h) <;> (try (exfalso; omega))))) | fail)) <;> (try omega)
        all_goals first | exact ⟨j + 1, by simp only [go_sem, Nat.reduceBEq, Nat.reduceBneDiff, Nat.reduceLT, Nat.reduceLeDiff, Nat.reduceAdd, Nat.reduceMul, Nat.reduceSub, Nat.reduceEqDiff, reduceCtorEq] <;> exact rfl, by omega, by omega⟩ | omega
    have e7 : (T.kind = 7) = False := eq_false h7
    (repeat' (first
    | exact trivial
    | (with_reducible first | refine awA ?_ | refine awB ?_ | refine awC ?_ | refine awD ?_ | refine awE ?_ | refine awF ?_ | refine awG ?_ | refine awH ?_ | refine awI ?_ | refine awJ ?_ | refine awK ?_ | refine awL ?_ | refine awM (by decide) ?_)
    | (refine aw_draw (id := 6) (t := (.node [0, 1, 2, 3, 4, 5, 6, 7, 8, 9] [])) (drR [3] [31, 33] []) mixed (by kernel_rfl) (by kernel_rfl) (fun _ _ h => h) ?_)
    | (refine aw_draw (id := 17) (t := (.node [0, 1, 2, 3, 4, 5, 6, 7, 8, 9, 10, 11, 12] [])) (drR [11] [61, 67] []) mixed (by kernel_rfl) (by kernel_rfl) (fun _ _ h => h) ?_)
    | (refine at_done (by simp only [List.filterMap_cons, List.filterMap_nil, List.getElem?_toArray, List.getElem?_cons_zero, List.getElem?_cons_succ]; exact rfl) ?_) | (refine at_alt (by simp only [List.filterMap_cons, List.filterMap_nil, List.getElem?_toArray, List.getElem?_cons_zero, List.getElem?_cons_succ]; exact rfl) ?_) | refine qalt_normal ?_ | refine ats_cons ?_ ?_ | exact ats_nil
    | ((with_reducible first | refine awN (tyOf_ok _) [] ?_ | refine awO (tyOf_ok _) [] ?_ | refine awP (tyOf_ok _) [] ?_ | refine awQ ?_ | refine awR ?_ | refine awS ?_); intro r hr; simp only [go_sem, Nat.reduceBEq, Nat.reduceBneDiff, Nat.reduceLT, Nat.reduceLeDiff, Nat.reduceAdd, Nat.reduceMul, Nat.reduceSub, Nat.reduceEqDiff, reduceCtorEq, e1, e3, e2, e5, e6, e7] at hr; subst hr; (first | refine awV ?_ ?_ | refine awW ?_ ?_ | refine endK ?_ ?_ | (refine condK (fun h => ?_) (fun h => ?_) <;> (try simp only [go_sem, reduceCtorEq] at h) <;> (try (exfalso; omega))))) | fail)) <;> (try omega)
    exact ⟨_, by simp only [go_sem, Nat.reduceBEq, Nat.reduceBneDiff, Nat.reduceLT, Nat.reduceLeDiff, Nat.reduceAdd, Nat.reduceMul, Nat.reduceSub, Nat.reduceEqDiff, reduceCtorEq] <;> exact rfl, by rw [pickOf, if_neg (by omega), if_neg (by omega), if_neg h7]⟩
  intro y hy
  subst hy
  (repeat' (first
    | exact trivial
    | (with_reducible first | refine awA ?_ | refine awB ?_ | refine awC ?_ | refine awD ?_ | refine awE ?_ | refine awF ?_ | refine awG ?_ | refine awH ?_ | refine awI ?_ | refine awJ ?_ | refine awK ?_ | refine awL ?_ | refine awM (by decide) ?_)
    | (refine aw_draw (id := 6) (t := (.node [0, 1, 2, 3, 4, 5, 6, 7, 8, 9] [])) (drR [3] [31, 33] []) mixed (by kernel_rfl) (by kernel_rfl) (fun _ _ h => h) ?_)
    | (refine aw_draw (id := 17) (t := (.node [0, 1, 2, 3, 4, 5, 6, 7, 8, 9, 10, 11, 12] [])) (drR [11] [61, 67] []) mixed (by kernel_rfl) (by kernel_rfl) (fun _ _ h => h) ?_)
    | (refine at_done (by simp only [List.filterMap_cons, List.filterMap_nil, List.getElem?_toArray, List.getElem?_cons_zero, List.getElem?_cons_succ]; exact rfl) ?_) | (refine at_alt (by simp only [List.filterMap_cons, List.filterMap_nil, List.getElem?_toArray, List.getElem?_cons_zero, List.getElem?_cons_succ]; exact rfl) ?_) | refine qalt_normal ?_ | refine ats_cons ?_ ?_ | exact ats_nil
    | ((with_reducible first | refine awN (tyOf_ok _) [] ?_ | refine awO (tyOf_ok _) [] ?_ | refine awP (tyOf_ok _) [] ?_ | refine awQ ?_ | refine awR ?_ | refine awS ?_); intro r hr; simp only [go_sem, Nat.reduceBEq, Nat.reduceBneDiff, Nat.reduceLT, Nat.reduceLeDiff, Nat.reduceAdd, Nat.reduceMul, Nat.reduceSub, Nat.reduceEqDiff, reduceCtorEq, hkl, htk, hnext, hkl1, hw1] at hr; subst hr; (first | refine awV ?_ ?_ | refine awW ?_ ?_ | refine endK ?_ ?_ | (refine condK (fun h => ?_) (fun h => ?_) <;> (try simp only [go_sem, reduceCtorEq] at h) <;> (try (exfalso; omega))))) | fail)) <;> (try omega)
  all_goals exact ⟨k + 1, by simp only [go_sem, Nat.reduceBEq, Nat.reduceBneDiff, Nat.reduceLT, Nat.reduceLeDiff, Nat.reduceAdd, Nat.reduceMul, Nat.reduceSub, Nat.reduceEqDiff, reduceCtorEq] <;> exact rfl, hlt, by omega⟩
end Go.Proofs.YtfgacgpicfknpaaDoor
end
section
namespace Go.Proofs.YtfgacgpicfknpaaDoor
open Go.RowKit
/-! Trees with one node put in another's place. -/
def Tr.put : Tr → Nat → NodeM → Tr
  | .node _ ks, 0, x => .node x ks
  | .node y ks, k + 1, x => .node y (putL ks k x)
where putL : List Tr → Nat → NodeM → List Tr
  | [], _, _ => []
  | c :: cs, k, x => if k < c.flat.length then c.put k x :: cs else c :: putL cs (k - c.flat.length) x
theorem put_flat : ∀ (n : Nat) (c : Tr), c.flat.length ≤ n → ∀ (k : Nat) (x : NodeM), (c.put k x).flat = c.flat.set k x
  | 0, c, h => absurd (flat_pos c) (by omega)
  | n + 1, .node y ks, h => fun k x => by
    simp only [Tr.flat, List.length_cons] at h
    have hL : ∀ (l : List Tr), (∀ c ∈ l, c.flat.length ≤ n) → ∀ k, Tr.flat.flatL (Tr.put.putL l k x) = (Tr.flat.flatL l).set k x := by
      intro l
      induction l with
      | nil => intro _ k; rfl
      | cons c cs ih =>
        intro hc k
        unfold Tr.put.putL
        split
        · rename_i hk
          simp only [Tr.flat.flatL]
          rw [put_flat n c (hc c (.head _)), List.set_append_left _ _ hk]
        · rename_i hk
          simp only [Tr.flat.flatL]
          rw [ih (fun d hd => hc d (.tail _ hd)), List.set_append_right _ _ (by omega)]
    cases k with
    | zero => simp [Tr.put, Tr.flat]
    | succ k => simp only [Tr.put, Tr.flat, List.set_cons_succ]; rw [hL ks (fun c hc => by have := flatL_mem hc; omega)]
theorem put_len (c : Tr) (k : Nat) (x : NodeM) : (c.put k x).flat.length = c.flat.length := by rw [put_flat _ c (Nat.le_refl _), List.length_set]
theorem putL_len : ∀ (l : List Tr) (k : Nat) (x : NodeM), (Tr.put.putL l k x).length = l.length
  | [], _, _ => rfl
  | c :: cs, k, x => by
    unfold Tr.put.putL
    split
    · rfl
    · simp only [List.length_cons, putL_len cs]
/-- a node as good, with as many kids -/
theorem put_ok : ∀ (n : Nat) (c : Tr), c.flat.length ≤ n → c.ok → ∀ (k : Nat) (x : NodeM), rightN x = true → (∀ y, c.flat[k]? = some y → x.kids = y.kids) → (c.put k x).ok
  | 0, c, h => absurd (flat_pos c) (by omega)
  | n + 1, .node y ks, h => fun ⟨h1, h2, h3⟩ k x hx hk => by
    simp only [Tr.flat, List.length_cons] at h
    have hL : ∀ (l : List Tr), (∀ c ∈ l, c.flat.length ≤ n) → Tr.ok.okL l → ∀ k, (∀ y, (Tr.flat.flatL l)[k]? = some y → x.kids = y.kids) → Tr.ok.okL (Tr.put.putL l k x) := by
      intro l
      induction l with
      | nil => intro _ _ k _; trivial
      | cons c cs ih =>
        intro hc ho k hk
        simp only [Tr.flat.flatL] at hk
        unfold Tr.put.putL
        split
        · rename_i hlt
          exact ⟨put_ok n c (hc c (.head _)) ho.1 k x hx (fun y hy => hk y (by rw [List.getElem?_append_left hlt]; exact hy)), ho.2⟩
        · rename_i hlt
          exact ⟨ho.1, ih (fun d hd => hc d (.tail _ hd)) ho.2 _ (fun y hy => hk y (by rw [List.getElem?_append_right (by omega)]; exact hy))⟩
    cases k with
    | zero => exact ⟨hx, by rw [hk y rfl, h2], h3⟩
    | succ k =>
      refine ⟨h1, by rw [putL_len]; exact h2, hL ks (fun c hc => by have := flatL_mem hc; omega) h3 k fun z hz => hk z ?_⟩
      simpa [Tr.flat] using hz
/-- the look from one node on -/
theorem chkL_set : ∀ (l : List NodeM) (k : Nat) (x : NodeM) (w i : Int), (chkL l w i).1 = 0 → (∀ y, l[k]? = some y → x.kids = y.kids) → k < l.length → chkL (l.set k x) w i = if rightN x = true then (0, 0) else (40, i + k)
  | [], k, x, w, i, h, hk, hl => by cases hl
  | y :: l, k, x, w, i, h, hk, hl => by
    have h' := chkL_at _ _ _ h
    unfold chkL at h h'
    split at h
    · cases h
    · rename_i hn
      rw [if_neg hn] at h'
      cases k with
      | zero =>
        rw [List.set_cons_zero, chkL]
        have hxy := hk y rfl
        have hw : ¬ w = 0 := fun e => hn (.inl e)
        cases hr : rightN x with
        | true =>
          rw [if_neg (by simp [hw]), if_pos rfl, hxy]
          exact Prod.ext h h'
        | false => rw [if_pos (.inr rfl)]; simp
      | succ k =>
        rw [List.set_cons_succ, chkL, if_neg hn, chkL_set l k x _ _ h (fun z hz => hk z (by simpa using hz)) (by simp at hl; omega)]
        split
        · rfl
        · rw [Prod.mk.injEq]; exact ⟨rfl, by omega⟩
theorem walkL_cons (ts : List TypeM) (T : TypeM) (m : Int) (c : Tr) (cs : List Tr) (k : Nat) (p : Int) (o : List Int) : Tr.walk.walkL ts T m (c :: cs) k p o = if (c.walk ts (elemF T m k).toNat p o).2.2.1 ≠ 0 then ([], 0, (c.walk ts (elemF T m k).toNat p o).2.2.1, (c.walk ts (elemF T m k).toNat p o).2.2.2)
    else Tr.walk.walkL ts T m cs (k + 1) (c.walk ts (elemF T m k).toNat p o).2.1 (c.walk ts (elemF T m k).toNat p o).1 := rfl
theorem walk_node (ts : List TypeM) (x : NodeM) (ks : List Tr) (t : Nat) (p : Int) (o : List Int) : (Tr.node x ks).walk ts t p o = if fitsF (tyA ts t) x ≠ 0 then ([], 0, fitsF (tyA ts t) x, p) else Tr.walk.walkL ts (tyA ts t) x.n ks 0 (p + 1) (o ++ [(t : Int)]) := rfl
/-- where the fault is does not hang on what has been told before -/
theorem walk_out {ts : List TypeM} : ∀ (n : Nat) (c : Tr), c.flat.length ≤ n → ∀ (t : Nat) (p q : Int) (o1 o2 : List Int), (c.walk ts t p o1).2.2.1 = (c.walk ts t q o2).2.2.1 ∧ ((c.walk ts t p o1).2.2.1 ≠ 0 → (c.walk ts t p o1).2.2.2 - p = (c.walk ts t q o2).2.2.2 - q ∧ p ≤ (c.walk ts t p o1).2.2.2 ∧ (c.walk ts t p o1).2.2.2 < p + c.flat.length)
  | 0, c, h => absurd (flat_pos c) (by omega)
  | n + 1, .node x ks, h => fun t p q o1 o2 => by
    simp only [Tr.flat, List.length_cons] at h
    have hL : ∀ (l : List Tr), (∀ c ∈ l, c.flat.length ≤ n) → ∀ (T : TypeM) (m : Int) (k : Nat) (p q : Int) (o1 o2 : List Int), (Tr.walk.walkL ts T m l k p o1).2.2.1 = (Tr.walk.walkL ts T m l k q o2).2.2.1 ∧ ((Tr.walk.walkL ts T m l k p o1).2.2.1 ≠ 0 → (Tr.walk.walkL ts T m l k p o1).2.2.2 - p = (Tr.walk.walkL ts T m l k q o2).2.2.2 - q ∧ p ≤ (Tr.walk.walkL ts T m l k p o1).2.2.2 ∧ (Tr.walk.walkL ts T m l k p o1).2.2.2 < p + (Tr.flat.flatL l).length) := by
      intro l
      induction l with
      | nil => intro _ T m k p q o1 o2; exact ⟨rfl, fun h => absurd rfl h⟩
      | cons c cs ih =>
        intro hc T m k p q o1 o2
        have h1 := walk_out (ts := ts) n c (hc c (.head _)) (elemF T m k).toNat p q o1 o2
        simp only [Tr.flat.flatL, List.length_append]
        rw [walkL_cons, walkL_cons]
        by_cases he : (c.walk ts (elemF T m k).toNat p o1).2.2.1 = 0
        · have he2 := h1.1 ▸ he
          have l1 := walk_len ts n c (hc c (.head _)) (elemF T m k).toNat p o1 he
          have l2 := walk_len ts n c (hc c (.head _)) (elemF T m k).toNat q o2 he2
          rw [if_neg (by omega), if_neg (by omega), l1.1, l2.1]
          have h2 := ih (fun d hd => hc d (.tail _ hd)) T m (k + 1) (p + c.flat.length) (q + c.flat.length) (c.walk ts (elemF T m k).toNat p o1).1 (c.walk ts (elemF T m k).toNat q o2).1
          refine ⟨h2.1, fun hn => ?_⟩
          have h3 := h2.2 hn
          exact ⟨by omega, by omega, by omega⟩
        · have he2 := h1.1 ▸ he
          rw [if_pos he, if_pos he2]
          refine ⟨h1.1, fun hn => ?_⟩
          have h3 := h1.2 hn
          exact ⟨h3.1, h3.2.1, by simp only; omega⟩
    simp only [Tr.flat, List.length_cons]
    rw [walk_node, walk_node]
    split
    · exact ⟨rfl, fun _ => ⟨by simp only; omega, by simp only; omega, by simp only; omega⟩⟩
    · have h2 := hL ks (fun c hc => by have := flatL_mem hc; omega) (tyA ts t) x.n 0 (p + 1) (q + 1) (o1 ++ [(t : Int)]) (o2 ++ [(t : Int)])
      refine ⟨h2.1, fun hn => ?_⟩
      have h3 := h2.2 hn
      exact ⟨by omega, by omega, by omega⟩
/-- a node behind the fault may be another one -/
theorem walk_put {ts : List TypeM} : ∀ (n : Nat) (c : Tr), c.flat.length ≤ n → ∀ (t j : Nat) (y : NodeM) (p : Int) (o : List Int), (c.walk ts t p o).2.2.1 ≠ 0 → (c.walk ts t p o).2.2.2 < p + j → ((c.put j y).walk ts t p o).2.2 = (c.walk ts t p o).2.2
  | 0, c, h => absurd (flat_pos c) (by omega)
  | n + 1, .node x ks, h => fun t j y p o h1 h2 => by
    have hb := ((walk_out (ts := ts) _ (.node x ks) (Nat.le_refl _) t p p o o).2 h1).2.1
    simp only [Tr.flat, List.length_cons] at h
    have hL : ∀ (l : List Tr), (∀ c ∈ l, c.flat.length ≤ n) → ∀ (T : TypeM) (m : Int) (k j : Nat) (p : Int) (o : List Int), (Tr.walk.walkL ts T m l k p o).2.2.1 ≠ 0 → (Tr.walk.walkL ts T m l k p o).2.2.2 < p + j → (Tr.walk.walkL ts T m (Tr.put.putL l j y) k p o).2.2 = (Tr.walk.walkL ts T m l k p o).2.2 := by
      intro l
      induction l with
      | nil => intro _ T m k j p o h; exact absurd rfl h
      | cons c cs ih =>
        intro hc T m k j p o h1 h2
        unfold Tr.put.putL
        rw [walkL_cons] at h1 h2 ⊢
        by_cases he : (c.walk ts (elemF T m k).toNat p o).2.2.1 = 0
        · have l1 := walk_len ts n c (hc c (.head _)) (elemF T m k).toNat p o he
          have hne : ¬ ((c.walk ts (elemF T m k).toNat p o).2.2.1 ≠ 0) := by omega
          rw [if_neg hne] at h1 h2 ⊢
          rw [l1.1] at h1 h2 ⊢
          have hb2 : ∀ (l : List Tr) (T : TypeM) (m : Int) (k : Nat) (p : Int) (o : List Int), (Tr.walk.walkL ts T m l k p o).2.2.1 ≠ 0 → p ≤ (Tr.walk.walkL ts T m l k p o).2.2.2 := by
            intro l
            induction l with
            | nil => intro _ _ _ _ _ h; exact absurd rfl h
            | cons d ds ihd =>
              intro T m k p o h
              rw [walkL_cons] at h ⊢
              by_cases hd : (d.walk ts (elemF T m k).toNat p o).2.2.1 = 0
              · have l2 := walk_len ts _ d (Nat.le_refl _) (elemF T m k).toNat p o hd
                rw [if_neg (by omega)] at h ⊢
                rw [l2.1] at h ⊢
                have := ihd _ _ _ _ _ h
                omega
              · rw [if_pos hd]
                exact ((walk_out (ts := ts) _ d (Nat.le_refl _) (elemF T m k).toNat p p o o).2 hd).2.1
          have h3 := hb2 _ _ _ _ _ _ h1
          rw [if_neg (show ¬ j < c.flat.length by omega)]
          rw [walkL_cons]
          rw [if_neg (by omega), l1.1]
          exact ih (fun d hd => hc d (.tail _ hd)) T m (k + 1) (j - c.flat.length) _ _ h1 (by omega)
        · rw [if_pos he] at h1 h2 ⊢
          by_cases hj : j < c.flat.length
          · rw [if_pos hj]
            rw [walkL_cons]
            have h3 := walk_put n c (hc c (.head _)) (elemF T m k).toNat j y p o he h2
            rw [if_pos (by rw [h3]; exact he), h3]
          · rw [if_neg hj]
            rw [walkL_cons]
            rw [if_pos he]
    cases j with
    | zero => exact absurd h2 (by omega)
    | succ j =>
      rw [Tr.put]
      rw [walk_node] at h1 h2 ⊢
      rw [walk_node]
      by_cases hf : fitsF (tyA ts t) x = 0
      · have hne : ¬ (fitsF (tyA ts t) x ≠ 0) := by omega
        rw [if_neg hne] at h1 h2 ⊢
        rw [if_neg hne]
        exact hL ks (fun c hc => by have := flatL_mem hc; omega) _ _ 0 j _ _ h1 (by omega)
      · rw [if_pos hf, if_pos hf]
end Go.Proofs.YtfgacgpicfknpaaDoor
end
section
namespace Go.Proofs.YtfgacgpicfknpaaDoor
open Go.RowKit
set_option maxHeartbeats 4000000
/-! Forests: what is still to come, on a stack. -/
/-- the types of a node's kids -/
def kidsT (T : TypeM) (n : Int) (k m : Nat) : List Int := (List.range' k m).map fun i => elemF T n i
theorem kidsT_succ (T : TypeM) (n : Int) (k m : Nat) : kidsT T n k (m + 1) = elemF T n k :: kidsT T n (k + 1) m := by simp [kidsT, List.range'_succ]
theorem kidsT_len (T : TypeM) (n : Int) (k m : Nat) : (kidsT T n k m).length = m := by simp [kidsT]
/-- the types of the nodes of trees, by the types on a stack (the next one first) -/
def walkS (ts : List TypeM) : List Tr → List Int → Int → List Int → WR
  | [], _, p, out => (out, p, 0, 0)
  | c :: cs, L, p, out => if (c.walk ts (L.headD 0).toNat p out).2.2.1 ≠ 0 then ([], 0, (c.walk ts (L.headD 0).toNat p out).2.2.1, (c.walk ts (L.headD 0).toNat p out).2.2.2)
    else walkS ts cs L.tail (c.walk ts (L.headD 0).toNat p out).2.1 (c.walk ts (L.headD 0).toNat p out).1
section
variable {ts : List TypeM}
theorem walkL_S (T : TypeM) (n : Int) (L : List Int) : ∀ (ks : List Tr) (k : Nat) (p : Int) (out : List Int), Tr.walk.walkL ts T n ks k p out = walkS ts ks (kidsT T n k ks.length ++ L) p out
  | [], _, _, _ => rfl
  | c :: cs, k, p, out => by
    rw [Tr.walk.walkL, List.length_cons, kidsT_succ, walkS, walkL_S T n L cs (k + 1)]
    rfl
theorem walkS_app : ∀ (ks cs : List Tr) (l L : List Int) (p : Int) (out : List Int), l.length = ks.length →
    walkS ts (ks ++ cs) (l ++ L) p out = if (walkS ts ks (l ++ L) p out).2.2.1 ≠ 0 then ([], 0, (walkS ts ks (l ++ L) p out).2.2.1, (walkS ts ks (l ++ L) p out).2.2.2) else walkS ts cs L (walkS ts ks (l ++ L) p out).2.1 (walkS ts ks (l ++ L) p out).1
  | [], cs, l, L, p, out, h => by
    have : l = [] := List.eq_nil_of_length_eq_zero h
    subst this
    simp [walkS]
  | k :: ks, cs, a :: l, L, p, out, h => by
    have ih := walkS_app ks cs l L (k.walk ts a.toNat p out).2.1 (k.walk ts a.toNat p out).1 (by simpa using h)
    by_cases hw : (k.walk ts a.toNat p out).2.2.1 = 0
    · simp only [List.cons_append, walkS, List.headD_cons, List.tail_cons, hw, ne_eq, not_true_eq_false, if_false]
      exact ih
    · simp [walkS, hw]
/-- one node of it -/
theorem walkS_node (x : NodeM) (ks cs : List Tr) (t : Nat) (L : List Int) (p : Int) (out : List Int) :
    walkS ts (.node x ks :: cs) ((t : Int) :: L) p out = if fitsF (tyA ts t) x ≠ 0 then ([], 0, fitsF (tyA ts t) x, p) else walkS ts (ks ++ cs) (kidsT (tyA ts t) x.n 0 ks.length ++ L) (p + 1) (out ++ [(t : Int)]) := by
  have h1 := walkS_app (ts := ts) ks cs (kidsT (tyA ts t) x.n 0 ks.length) L (p + 1) (out ++ [(t : Int)]) (kidsT_len _ _ _ _)
  have h2 := walkL_S (ts := ts) (tyA ts t) x.n L ks 0 (p + 1) (out ++ [(t : Int)])
  rw [← h2] at h1
  by_cases hf : fitsF (tyA ts t) x = 0
  · simp only [walkS, Tr.walk, List.headD_cons, Int.toNat_natCast, List.tail_cons, hf, ne_eq, not_true_eq_false, if_false]
    rw [h1]
  · simp [walkS, Tr.walk, hf]
/-- a tree that is not at fault: nothing but its types is told -/
theorem walk_err {ts : List TypeM} : ∀ (n : Nat) (c : Tr), c.flat.length ≤ n → ∀ (t : Nat) (p : Int) (out : List Int), (c.walk ts t p out).2.2.1 = 0 → (c.walk ts t p out).2.2.2 = 0
  | 0, c, h => absurd (flat_pos c) (by omega)
  | n + 1, .node x ks, h => fun t p out hw => by
    simp only [Tr.flat, List.length_cons] at h
    have hL : ∀ (l : List Tr), (∀ c ∈ l, c.flat.length ≤ n) → ∀ (T : TypeM) (m : Int) (k : Nat) (p : Int) (out : List Int), (Tr.walk.walkL ts T m l k p out).2.2.1 = 0 → (Tr.walk.walkL ts T m l k p out).2.2.2 = 0 := by
      intro l
      induction l with
      | nil => intro _ _ _ _ _ _ _; rfl
      | cons c cs ih =>
        intro hc T m k p out
        by_cases hcw : (c.walk ts (elemF T m k).toNat p out).2.2.1 = 0
        · simp only [Tr.walk.walkL, hcw, ne_eq, not_true_eq_false, if_false]
          exact fun h => ih (fun d hd => hc d (.tail _ hd)) _ _ _ _ _ h
        · simp only [Tr.walk.walkL, ne_eq, hcw, not_false_eq_true, if_true]
          exact fun h => h.elim
    by_cases hf : fitsF (tyA ts t) x = 0
    · simp only [Tr.walk, hf, ne_eq, not_true_eq_false, if_false] at hw ⊢
      exact hL ks (fun c hc => by have := flatL_mem hc; omega) _ _ _ _ _ hw
    · simp only [Tr.walk, ne_eq, hf, not_false_eq_true, if_true] at hw
theorem walk_nil {ts : List TypeM} : ∀ (n : Nat) (c : Tr), c.flat.length ≤ n → ∀ (t : Nat) (p : Int) (out : List Int), (c.walk ts t p out).2.2.1 ≠ 0 → (c.walk ts t p out).1 = []
  | 0, c, h => absurd (flat_pos c) (by omega)
  | n + 1, .node x ks, h => fun t p out hw => by
    simp only [Tr.flat, List.length_cons] at h
    have hL : ∀ (l : List Tr), (∀ c ∈ l, c.flat.length ≤ n) → ∀ (T : TypeM) (m : Int) (k : Nat) (p : Int) (out : List Int), (Tr.walk.walkL ts T m l k p out).2.2.1 ≠ 0 → (Tr.walk.walkL ts T m l k p out).1 = [] := by
      intro l
      induction l with
      | nil => intro _ _ _ _ _ _ h; exact absurd rfl h
      | cons c cs ih =>
        intro hc T m k p out
        by_cases hcw : (c.walk ts (elemF T m k).toNat p out).2.2.1 = 0
        · simp only [Tr.walk.walkL, hcw, ne_eq, not_true_eq_false, if_false]
          exact fun h => ih (fun d hd => hc d (.tail _ hd)) _ _ _ _ _ h
        · simp only [Tr.walk.walkL, ne_eq, hcw, not_false_eq_true, if_true]
          exact fun _ => trivial
    by_cases hf : fitsF (tyA ts t) x = 0
    · simp only [Tr.walk, hf, ne_eq, not_true_eq_false, if_false] at hw ⊢
      exact hL ks (fun c hc => by have := flatL_mem hc; omega) _ _ _ _ _ hw
    · simp only [Tr.walk, ne_eq, hf, not_false_eq_true, if_true]
theorem walkS_one (c : Tr) (t : Nat) (p : Int) (out : List Int) : (walkS ts [c] [(t : Int)] p out).2.2 = (c.walk ts t p out).2.2 ∧ ((c.walk ts t p out).2.2.1 = 0 → (walkS ts [c] [(t : Int)] p out).1 = (c.walk ts t p out).1) := by
  by_cases hw : (c.walk ts t p out).2.2.1 = 0
  · have h2 := walk_err _ c (Nat.le_refl _) t p out hw
    simp only [walkS, List.headD_cons, Int.toNat_natCast, hw, ne_eq, not_true_eq_false, if_false]
    exact ⟨Prod.ext hw.symm h2.symm, fun _ => trivial⟩
  · simp only [walkS, List.headD_cons, Int.toNat_natCast, hw, ne_eq, not_false_eq_true, if_true]
    exact ⟨trivial, fun h => h.elim⟩
end
end Go.Proofs.YtfgacgpicfknpaaDoor
end
section
namespace Go.Proofs.YtfgacgpicfknpaaDoor
open Go.RowKit
set_option maxRecDepth 100000
set_option maxHeartbeats 8000000
/-! What package typing says of a node. -/
def vP (p : PartM) : AV := .agg [.v (.string p.label), vI p.tag, vI p.ty]
def armP (l : List PartM) (n : Int) : PartM := match armOf l n with | some p => p | none => ⟨ByteArray.empty, 0, 0⟩
theorem arm_any (T : TypeM) (hl : T.parts.length ≤ 1000000000) (n : Int) :
    PCall Tryd.prog 46 [.agg [vI T.kind, vI T.n, vI T.elem, .lst 3 (encPs T.parts)], .v (.int .u64 n)] (fun r => r = .tup [vP (armP T.parts n), vB (armOf T.parts n).isSome]) := by
  refine go_fn (tyOf_ok _) Tryd.func46 rfl rfl (by rw [Tryd.results46]) Tryd.ntmps46 rfl fun E => ?_
  (repeat' (first
    | exact trivial
    | (with_reducible first | refine awA ?_ | refine awB ?_ | refine awC ?_ | refine awD ?_ | refine awE ?_ | refine awF ?_ | refine awG ?_ | refine awH ?_ | refine awI ?_ | refine awJ ?_ | refine awK ?_ | refine awL ?_ | refine awM (by decide) ?_)
    | ((with_reducible first | refine awN (tyOf_ok _) [] ?_ | refine awO (tyOf_ok _) [] ?_ | refine awP (tyOf_ok _) [] ?_ | refine awQ ?_ | refine awR ?_ | refine awS ?_); intro r hr; simp only [go_sem, Nat.reduceBEq, Nat.reduceBneDiff, Nat.reduceLT, Nat.reduceLeDiff, Nat.reduceAdd, Nat.reduceMul, Nat.reduceSub, Nat.reduceEqDiff, reduceCtorEq, encPs_len] at hr; subst hr; (first | refine awV ?_ ?_ | refine awW ?_ ?_ | refine endK ?_ ?_ | (refine condK (fun h => ?_) (fun h => ?_) <;> (try simp only [go_sem, reduceCtorEq] at h) <;> (try (exfalso; omega))))) | fail)) <;> (try omega)
  generalize hA : armOf T.parts n = A
  generalize hB : armP T.parts n = B
  refine go_loop [1, 2, 4, 5, 9, 10, 11] [2, 4] (fun k : Nat => ⟨[(1, true, .v (.int .u64 n)), (2, true, .ptr 1 2 0 0), (4, true, .ptr 1 4 0 0), (5, true, vB false), (9, true, .lst 3 (encPs T.parts)), (10, true, vI T.parts.length), (11, true, vI k)],
    [(2, .var [vI T.kind, vI T.n, vI T.elem, .lst 3 (encPs T.parts)]), (4, .var [.v (.string ByteArray.empty), vI 0, vI 0])]⟩) (fun k => k ≤ T.parts.length ∧ armOf (T.parts.drop k) n = A) (fun k => T.parts.length - k) 0 (by simp only [go_sem, Nat.reduceBEq, Nat.reduceBneDiff, Nat.reduceLT, Nat.reduceLeDiff, Nat.reduceAdd, Nat.reduceMul, Nat.reduceSub, Nat.reduceEqDiff, reduceCtorEq]; exact rfl) ⟨Nat.zero_le _, hA⟩ ?_
  intro k ⟨hk, hkA⟩
  have hw := wrap_i64 (n := (k : Int) + 1) (by omega)
  by_cases hlt : k < T.parts.length
  · have e1 : ((k : Int) < T.parts.length) = True := eq_true (by omega)
    have g1 := encPs_get hlt
    rw [List.drop_eq_getElem_cons hlt, armOf, List.find?_cons] at hkA
    have hcv : IntKind.u64.wrap T.parts[k].tag = T.parts[k].tag % 18446744073709551616 := IntKind.wrap_u64 _
    by_cases hm : T.parts[k].tag % 18446744073709551616 = n
    · have f1 : (T.parts[k].tag % 18446744073709551616 = n) = True := eq_true hm
      rw [decide_eq_true hm] at hkA
      simp only at hkA
      have hBp : B = T.parts[k] := by rw [← hB, armP, hA, ← hkA]
      subst hkA
      subst hBp
      (repeat' (first
    | exact trivial
    | (with_reducible first | refine awA ?_ | refine awB ?_ | refine awC ?_ | refine awD ?_ | refine awE ?_ | refine awF ?_ | refine awG ?_ | refine awH ?_ | refine awI ?_ | refine awJ ?_ | refine awK ?_ | refine awL ?_ | refine awM (by decide) ?_)
    | ((with_reducible first | refine awN (tyOf_ok _) [] ?_ | refine awO (tyOf_ok _) [] ?_ | refine awP (tyOf_ok _) [] ?_ | refine awQ ?_ | refine awR ?_ | refine awS ?_); intro r hr; simp only [go_sem, Nat.reduceBEq, Nat.reduceBneDiff, Nat.reduceLT, Nat.reduceLeDiff, Nat.reduceAdd, Nat.reduceMul, Nat.reduceSub, Nat.reduceEqDiff, reduceCtorEq, hw, e1, g1, hcv, f1] at hr; subst hr; (first | refine awV ?_ ?_ | refine awW ?_ ?_ | refine endK ?_ ?_ | (refine condK (fun h => ?_) (fun h => ?_) <;> (try simp only [go_sem, reduceCtorEq] at h) <;> (try (exfalso; omega))))) | fail)) <;> (try omega)
      rw [vP]; exact rfl
    · have f1 : (T.parts[k].tag % 18446744073709551616 = n) = False := eq_false hm
      rw [decide_eq_false hm] at hkA
      (repeat' (first
    | exact trivial
    | (with_reducible first | refine awA ?_ | refine awB ?_ | refine awC ?_ | refine awD ?_ | refine awE ?_ | refine awF ?_ | refine awG ?_ | refine awH ?_ | refine awI ?_ | refine awJ ?_ | refine awK ?_ | refine awL ?_ | refine awM (by decide) ?_)
    | ((with_reducible first | refine awN (tyOf_ok _) [] ?_ | refine awO (tyOf_ok _) [] ?_ | refine awP (tyOf_ok _) [] ?_ | refine awQ ?_ | refine awR ?_ | refine awS ?_); intro r hr; simp only [go_sem, Nat.reduceBEq, Nat.reduceBneDiff, Nat.reduceLT, Nat.reduceLeDiff, Nat.reduceAdd, Nat.reduceMul, Nat.reduceSub, Nat.reduceEqDiff, reduceCtorEq, hw, e1, g1, hcv, f1] at hr; subst hr; (first | refine awV ?_ ?_ | refine awW ?_ ?_ | refine endK ?_ ?_ | (refine condK (fun h => ?_) (fun h => ?_) <;> (try simp only [go_sem, reduceCtorEq] at h) <;> (try (exfalso; omega))))) | fail)) <;> (try omega)
      exact ⟨k + 1, by simp only [go_sem, Nat.reduceBEq, Nat.reduceBneDiff, Nat.reduceLT, Nat.reduceLeDiff, Nat.reduceAdd, Nat.reduceMul, Nat.reduceSub, Nat.reduceEqDiff, reduceCtorEq]; exact rfl, ⟨hlt, hkA⟩, by omega⟩
  · have e1 : ((k : Int) < T.parts.length) = False := eq_false (by omega)
    rw [List.drop_eq_nil_of_le (by omega)] at hkA
    have hBp : B = ⟨ByteArray.empty, 0, 0⟩ := by rw [← hB, armP, hA, ← hkA]; rfl
    subst hkA
    subst hBp
    (repeat' (first
    | exact trivial
    | (with_reducible first | refine awA ?_ | refine awB ?_ | refine awC ?_ | refine awD ?_ | refine awE ?_ | refine awF ?_ | refine awG ?_ | refine awH ?_ | refine awI ?_ | refine awJ ?_ | refine awK ?_ | refine awL ?_ | refine awM (by decide) ?_)
    | ((with_reducible first | refine awN (tyOf_ok _) [] ?_ | refine awO (tyOf_ok _) [] ?_ | refine awP (tyOf_ok _) [] ?_ | refine awQ ?_ | refine awR ?_ | refine awS ?_); intro r hr; simp only [go_sem, Nat.reduceBEq, Nat.reduceBneDiff, Nat.reduceLT, Nat.reduceLeDiff, Nat.reduceAdd, Nat.reduceMul, Nat.reduceSub, Nat.reduceEqDiff, reduceCtorEq, hw, e1] at hr; subst hr; (first | refine awV ?_ ?_ | refine awW ?_ ?_ | refine endK ?_ ?_ | (refine condK (fun h => ?_) (fun h => ?_) <;> (try simp only [go_sem, reduceCtorEq] at h) <;> (try (exfalso; omega))))) | fail)) <;> (try omega)
    exact rfl
theorem hold_8 {n : Int} : decide (n.fdiv (2 ^ min (Int.toNat 8) 64) = 0) = decide (0 ≤ n ∧ n < 256) := by
  have e : (2 : Int) ^ min (Int.toNat 8) 64 = 256 := by decide
  rw [e, Int.fdiv_eq_ediv_of_nonneg _ (by decide), Bool.eq_iff_iff]; simp; omega
theorem hold_16 {n : Int} : decide (n.fdiv (2 ^ min (Int.toNat 16) 64) = 0) = decide (0 ≤ n ∧ n < 65536) := by
  have e : (2 : Int) ^ min (Int.toNat 16) 64 = 65536 := by decide
  rw [e, Int.fdiv_eq_ediv_of_nonneg _ (by decide), Bool.eq_iff_iff]; simp; omega
theorem hold_32 {n : Int} : decide (n.fdiv (2 ^ min (Int.toNat 32) 64) = 0) = decide (0 ≤ n ∧ n < 4294967296) := by
  have e : (2 : Int) ^ min (Int.toNat 32) 64 = 4294967296 := by decide
  rw [e, Int.fdiv_eq_ediv_of_nonneg _ (by decide), Bool.eq_iff_iff]; simp; omega
theorem holds_any (n : Int) (h0 : 0 ≤ n) (h1 : n < 18446744073709551616) (k : Int) (hk : k = 1 ∨ k = 2 ∨ k = 4 ∨ k = 8) : PCall Tryd.prog 45 [.v (.int .u64 n), vI k] (fun r => r = vB (fitsB n k)) := by
  refine go_fn (tyOf_ok _) Tryd.func45 rfl rfl (by rw [Tryd.results45]) Tryd.ntmps45 rfl fun E => ?_
  have w8 : IntKind.i64.wrap 8 = 8 := by decide
  have w16 : IntKind.i64.wrap 16 = 16 := by decide
  have w32 : IntKind.i64.wrap 32 = 32 := by decide
  have w64 : IntKind.i64.wrap 64 = 64 := by decide
  rcases hk with rfl | rfl | rfl | rfl
  · (repeat' (first
    | exact trivial
    | (with_reducible first | refine awA ?_ | refine awB ?_ | refine awC ?_ | refine awD ?_ | refine awE ?_ | refine awF ?_ | refine awG ?_ | refine awH ?_ | refine awI ?_ | refine awJ ?_ | refine awK ?_ | refine awL ?_ | refine awM (by decide) ?_)
    | ((with_reducible first | refine awN (tyOf_ok _) [] ?_ | refine awO (tyOf_ok _) [] ?_ | refine awP (tyOf_ok _) [] ?_ | refine awQ ?_ | refine awR ?_ | refine awS ?_); intro r hr; simp only [go_sem, Nat.reduceBEq, Nat.reduceBneDiff, Nat.reduceLT, Nat.reduceLeDiff, Nat.reduceAdd, Nat.reduceMul, Nat.reduceSub, Nat.reduceEqDiff, reduceCtorEq, Int.reduceEq, Int.reduceMul, decide_true, decide_false, w8] at hr; subst hr; (first | refine awV ?_ ?_ | refine awW ?_ ?_ | refine endK ?_ ?_ | (refine condK (fun h => ?_) (fun h => ?_) <;> (try simp only [go_sem, reduceCtorEq] at h) <;> (try (exfalso; omega))))) | fail)) <;> (try omega)
    all_goals exact congrArg (fun b => AV.v (.bool b)) (hold_8.trans (by simp [fitsB, h0]))
  · (repeat' (first
    | exact trivial
    | (with_reducible first | refine awA ?_ | refine awB ?_ | refine awC ?_ | refine awD ?_ | refine awE ?_ | refine awF ?_ | refine awG ?_ | refine awH ?_ | refine awI ?_ | refine awJ ?_ | refine awK ?_ | refine awL ?_ | refine awM (by decide) ?_)
    | ((with_reducible first | refine awN (tyOf_ok _) [] ?_ | refine awO (tyOf_ok _) [] ?_ | refine awP (tyOf_ok _) [] ?_ | refine awQ ?_ | refine awR ?_ | refine awS ?_); intro r hr; simp only [go_sem, Nat.reduceBEq, Nat.reduceBneDiff, Nat.reduceLT, Nat.reduceLeDiff, Nat.reduceAdd, Nat.reduceMul, Nat.reduceSub, Nat.reduceEqDiff, reduceCtorEq, Int.reduceEq, Int.reduceMul, decide_true, decide_false, w16] at hr; subst hr; (first | refine awV ?_ ?_ | refine awW ?_ ?_ | refine endK ?_ ?_ | (refine condK (fun h => ?_) (fun h => ?_) <;> (try simp only [go_sem, reduceCtorEq] at h) <;> (try (exfalso; omega))))) | fail)) <;> (try omega)
    all_goals exact congrArg (fun b => AV.v (.bool b)) (hold_16.trans (by have e : (256 : Int) ^ (2 : Int).toNat = 65536 := by decide
                                                                          simp [fitsB, h0, e]))
  · (repeat' (first
    | exact trivial
    | (with_reducible first | refine awA ?_ | refine awB ?_ | refine awC ?_ | refine awD ?_ | refine awE ?_ | refine awF ?_ | refine awG ?_ | refine awH ?_ | refine awI ?_ | refine awJ ?_ | refine awK ?_ | refine awL ?_ | refine awM (by decide) ?_)
    | ((with_reducible first | refine awN (tyOf_ok _) [] ?_ | refine awO (tyOf_ok _) [] ?_ | refine awP (tyOf_ok _) [] ?_ | refine awQ ?_ | refine awR ?_ | refine awS ?_); intro r hr; simp only [go_sem, Nat.reduceBEq, Nat.reduceBneDiff, Nat.reduceLT, Nat.reduceLeDiff, Nat.reduceAdd, Nat.reduceMul, Nat.reduceSub, Nat.reduceEqDiff, reduceCtorEq, Int.reduceEq, Int.reduceMul, decide_true, decide_false, w32] at hr; subst hr; (first | refine awV ?_ ?_ | refine awW ?_ ?_ | refine endK ?_ ?_ | (refine condK (fun h => ?_) (fun h => ?_) <;> (try simp only [go_sem, reduceCtorEq] at h) <;> (try (exfalso; omega))))) | fail)) <;> (try omega)
    all_goals exact congrArg (fun b => AV.v (.bool b)) (hold_32.trans (by have e : (256 : Int) ^ (4 : Int).toNat = 4294967296 := by decide
                                                                          simp [fitsB, h0, e]))
  · (repeat' (first
    | exact trivial
    | (with_reducible first | refine awA ?_ | refine awB ?_ | refine awC ?_ | refine awD ?_ | refine awE ?_ | refine awF ?_ | refine awG ?_ | refine awH ?_ | refine awI ?_ | refine awJ ?_ | refine awK ?_ | refine awL ?_ | refine awM (by decide) ?_)
    | ((with_reducible first | refine awN (tyOf_ok _) [] ?_ | refine awO (tyOf_ok _) [] ?_ | refine awP (tyOf_ok _) [] ?_ | refine awQ ?_ | refine awR ?_ | refine awS ?_); intro r hr; simp only [go_sem, Nat.reduceBEq, Nat.reduceBneDiff, Nat.reduceLT, Nat.reduceLeDiff, Nat.reduceAdd, Nat.reduceMul, Nat.reduceSub, Nat.reduceEqDiff, reduceCtorEq, Int.reduceEq, Int.reduceMul, decide_true, decide_false, w64] at hr; subst hr; (first | refine awV ?_ ?_ | refine awW ?_ ?_ | refine endK ?_ ?_ | (refine condK (fun h => ?_) (fun h => ?_) <;> (try simp only [go_sem, reduceCtorEq] at h) <;> (try (exfalso; omega))))) | fail)) <;> (try omega)
    all_goals exact congrArg (fun b => AV.v (.bool b)) (by have e : (256 : Int) ^ (8 : Int).toNat = 18446744073709551616 := by decide
                                                           simp [fitsB, e, h1])
theorem tfits_any (T : TypeM) (k : Nat) (hr : rightOK T k = true) (x : NodeM) (hx : nodeOK x) :
    PCall Tryd.prog 34 [.agg [vI T.kind, vI T.n, vI T.elem, .lst 3 (encPs T.parts)], .agg [vI x.kind, .v (.int .u64 x.n), vI x.kids]] (fun r => r = vI (fitsF T x)) := by
  refine go_fn (tyOf_ok _) Tryd.func34 rfl rfl (by rw [Tryd.results34]) Tryd.ntmps34 rfl fun E => ?_
  have hkc : T.kind = 1 ∨ T.kind = 2 ∨ T.kind = 3 ∨ T.kind = 4 ∨ T.kind = 5 ∨ T.kind = 6 ∨ T.kind = 7 ∨ T.kind = 8 := by rcases rightOK_kind hr with h | h | h <;> omega
  rcases hkc with h | h | h | h | h | h | h | h
  · have hh := holds_any x.n hx.2.2.1 hx.2.2.2 T.n (right_1n hr h)
    (repeat' (first
    | exact trivial
    | (with_reducible first | refine awA ?_ | refine awB ?_ | refine awC ?_ | refine awD ?_ | refine awE ?_ | refine awF ?_ | refine awG ?_ | refine awH ?_ | refine awI ?_ | refine awJ ?_ | refine awK ?_ | refine awL ?_ | refine awM (by decide) ?_)
    | (refine aw_draw (id := 1) (t := (.node [0, 1, 2, 3, 4, 5, 6] [])) (drR [3, 2] [12] []) mixed (by kernel_rfl) (by kernel_rfl) (fun _ _ h => h) ?_)
    | (refine at_done (by simp only [List.filterMap_cons, List.filterMap_nil, List.getElem?_toArray, List.getElem?_cons_zero, List.getElem?_cons_succ]; exact rfl) ?_) | (refine at_alt (by simp only [List.filterMap_cons, List.filterMap_nil, List.getElem?_toArray, List.getElem?_cons_zero, List.getElem?_cons_succ]; exact rfl) ?_) | refine qalt_normal ?_ | refine ats_cons ?_ ?_ | exact ats_nil
    | ((with_reducible first | refine awN (tyOf_ok _) [] ?_ | refine awO (tyOf_ok _) [] ?_ | refine awP (tyOf_ok _) [] ?_ | refine awQ ?_ | refine awR ?_ | refine awS ?_); intro r hr; simp only [go_sem, Nat.reduceBEq, Nat.reduceBneDiff, Nat.reduceLT, Nat.reduceLeDiff, Nat.reduceAdd, Nat.reduceMul, Nat.reduceSub, Nat.reduceEqDiff, reduceCtorEq, h, Int.cast_ofNat_Int, Int.reduceToNat, Int.reduceEq, Int.reduceLT, Int.reduceLE, Int.reduceNe, ne_eq] at hr; subst hr; (first | refine caA (fun _ => hh) rfl ?_ ?_ ?_ | refine awV ?_ ?_ | refine awW ?_ ?_ | refine endK ?_ ?_ | (refine condK (fun h => ?_) (fun h => ?_) <;> (try simp only [go_sem, reduceCtorEq] at h) <;> (try (exfalso; omega))))) | fail)) <;> (try omega)
    all_goals (refine congrArg (fun z => AV.v (.int .i64 z)) ?_; simp_all [fitsF, nkOf])
  · (repeat' (first
    | exact trivial
    | (with_reducible first | refine awA ?_ | refine awB ?_ | refine awC ?_ | refine awD ?_ | refine awE ?_ | refine awF ?_ | refine awG ?_ | refine awH ?_ | refine awI ?_ | refine awJ ?_ | refine awK ?_ | refine awL ?_ | refine awM (by decide) ?_)
    | (refine aw_draw (id := 1) (t := (.node [0, 1, 2, 3, 4, 5, 6] [])) (drR [3, 2] [12] []) mixed (by kernel_rfl) (by kernel_rfl) (fun _ _ h => h) ?_)
    | (refine at_done (by simp only [List.filterMap_cons, List.filterMap_nil, List.getElem?_toArray, List.getElem?_cons_zero, List.getElem?_cons_succ]; exact rfl) ?_) | (refine at_alt (by simp only [List.filterMap_cons, List.filterMap_nil, List.getElem?_toArray, List.getElem?_cons_zero, List.getElem?_cons_succ]; exact rfl) ?_) | refine qalt_normal ?_ | refine ats_cons ?_ ?_ | exact ats_nil
    | ((with_reducible first | refine awN (tyOf_ok _) [] ?_ | refine awO (tyOf_ok _) [] ?_ | refine awP (tyOf_ok _) [] ?_ | refine awQ ?_ | refine awR ?_ | refine awS ?_); intro r hr; simp only [go_sem, Nat.reduceBEq, Nat.reduceBneDiff, Nat.reduceLT, Nat.reduceLeDiff, Nat.reduceAdd, Nat.reduceMul, Nat.reduceSub, Nat.reduceEqDiff, reduceCtorEq, h, Int.cast_ofNat_Int, Int.reduceToNat, Int.reduceEq, Int.reduceLT, Int.reduceLE, Int.reduceNe, ne_eq] at hr; subst hr; (first | refine awV ?_ ?_ | refine awW ?_ ?_ | refine endK ?_ ?_ | (refine condK (fun h => ?_) (fun h => ?_) <;> (try simp only [go_sem, reduceCtorEq] at h) <;> (try (exfalso; omega))))) | fail)) <;> (try omega)
    all_goals (refine congrArg (fun z => AV.v (.int .i64 z)) ?_; simp_all [fitsF, nkOf])
  · (repeat' (first
    | exact trivial
    | (with_reducible first | refine awA ?_ | refine awB ?_ | refine awC ?_ | refine awD ?_ | refine awE ?_ | refine awF ?_ | refine awG ?_ | refine awH ?_ | refine awI ?_ | refine awJ ?_ | refine awK ?_ | refine awL ?_ | refine awM (by decide) ?_)
    | (refine aw_draw (id := 1) (t := (.node [0, 1, 2, 3, 4, 5, 6] [])) (drR [3, 2] [12] []) mixed (by kernel_rfl) (by kernel_rfl) (fun _ _ h => h) ?_)
    | (refine at_done (by simp only [List.filterMap_cons, List.filterMap_nil, List.getElem?_toArray, List.getElem?_cons_zero, List.getElem?_cons_succ]; exact rfl) ?_) | (refine at_alt (by simp only [List.filterMap_cons, List.filterMap_nil, List.getElem?_toArray, List.getElem?_cons_zero, List.getElem?_cons_succ]; exact rfl) ?_) | refine qalt_normal ?_ | refine ats_cons ?_ ?_ | exact ats_nil
    | ((with_reducible first | refine awN (tyOf_ok _) [] ?_ | refine awO (tyOf_ok _) [] ?_ | refine awP (tyOf_ok _) [] ?_ | refine awQ ?_ | refine awR ?_ | refine awS ?_); intro r hr; simp only [go_sem, Nat.reduceBEq, Nat.reduceBneDiff, Nat.reduceLT, Nat.reduceLeDiff, Nat.reduceAdd, Nat.reduceMul, Nat.reduceSub, Nat.reduceEqDiff, reduceCtorEq, h, Int.cast_ofNat_Int, Int.reduceToNat, Int.reduceEq, Int.reduceLT, Int.reduceLE, Int.reduceNe, ne_eq] at hr; subst hr; (first | refine awV ?_ ?_ | refine awW ?_ ?_ | refine endK ?_ ?_ | (refine condK (fun h => ?_) (fun h => ?_) <;> (try simp only [go_sem, reduceCtorEq] at h) <;> (try (exfalso; omega))))) | fail)) <;> (try omega)
    all_goals (refine congrArg (fun z => AV.v (.int .i64 z)) ?_; simp_all [fitsF, nkOf])
  · (repeat' (first
    | exact trivial
    | (with_reducible first | refine awA ?_ | refine awB ?_ | refine awC ?_ | refine awD ?_ | refine awE ?_ | refine awF ?_ | refine awG ?_ | refine awH ?_ | refine awI ?_ | refine awJ ?_ | refine awK ?_ | refine awL ?_ | refine awM (by decide) ?_)
    | (refine aw_draw (id := 1) (t := (.node [0, 1, 2, 3, 4, 5, 6] [])) (drR [3, 2] [12] []) mixed (by kernel_rfl) (by kernel_rfl) (fun _ _ h => h) ?_)
    | (refine at_done (by simp only [List.filterMap_cons, List.filterMap_nil, List.getElem?_toArray, List.getElem?_cons_zero, List.getElem?_cons_succ]; exact rfl) ?_) | (refine at_alt (by simp only [List.filterMap_cons, List.filterMap_nil, List.getElem?_toArray, List.getElem?_cons_zero, List.getElem?_cons_succ]; exact rfl) ?_) | refine qalt_normal ?_ | refine ats_cons ?_ ?_ | exact ats_nil
    | ((with_reducible first | refine awN (tyOf_ok _) [] ?_ | refine awO (tyOf_ok _) [] ?_ | refine awP (tyOf_ok _) [] ?_ | refine awQ ?_ | refine awR ?_ | refine awS ?_); intro r hr; simp only [go_sem, Nat.reduceBEq, Nat.reduceBneDiff, Nat.reduceLT, Nat.reduceLeDiff, Nat.reduceAdd, Nat.reduceMul, Nat.reduceSub, Nat.reduceEqDiff, reduceCtorEq, h, Int.cast_ofNat_Int, Int.reduceToNat, Int.reduceEq, Int.reduceLT, Int.reduceLE, Int.reduceNe, ne_eq] at hr; subst hr; (first | refine awV ?_ ?_ | refine awW ?_ ?_ | refine endK ?_ ?_ | (refine condK (fun h => ?_) (fun h => ?_) <;> (try simp only [go_sem, reduceCtorEq] at h) <;> (try (exfalso; omega))))) | fail)) <;> (try omega)
    all_goals (refine congrArg (fun z => AV.v (.int .i64 z)) ?_; simp_all [fitsF, nkOf])
  · (repeat' (first
    | exact trivial
    | (with_reducible first | refine awA ?_ | refine awB ?_ | refine awC ?_ | refine awD ?_ | refine awE ?_ | refine awF ?_ | refine awG ?_ | refine awH ?_ | refine awI ?_ | refine awJ ?_ | refine awK ?_ | refine awL ?_ | refine awM (by decide) ?_)
    | (refine aw_draw (id := 1) (t := (.node [0, 1, 2, 3, 4, 5, 6] [])) (drR [3, 2] [12] []) mixed (by kernel_rfl) (by kernel_rfl) (fun _ _ h => h) ?_)
    | (refine at_done (by simp only [List.filterMap_cons, List.filterMap_nil, List.getElem?_toArray, List.getElem?_cons_zero, List.getElem?_cons_succ]; exact rfl) ?_) | (refine at_alt (by simp only [List.filterMap_cons, List.filterMap_nil, List.getElem?_toArray, List.getElem?_cons_zero, List.getElem?_cons_succ]; exact rfl) ?_) | refine qalt_normal ?_ | refine ats_cons ?_ ?_ | exact ats_nil
    | ((with_reducible first | refine awN (tyOf_ok _) [] ?_ | refine awO (tyOf_ok _) [] ?_ | refine awP (tyOf_ok _) [] ?_ | refine awQ ?_ | refine awR ?_ | refine awS ?_); intro r hr; simp only [go_sem, Nat.reduceBEq, Nat.reduceBneDiff, Nat.reduceLT, Nat.reduceLeDiff, Nat.reduceAdd, Nat.reduceMul, Nat.reduceSub, Nat.reduceEqDiff, reduceCtorEq, h, Int.cast_ofNat_Int, Int.reduceToNat, Int.reduceEq, Int.reduceLT, Int.reduceLE, Int.reduceNe, ne_eq] at hr; subst hr; (first | refine awV ?_ ?_ | refine awW ?_ ?_ | refine endK ?_ ?_ | (refine condK (fun h => ?_) (fun h => ?_) <;> (try simp only [go_sem, reduceCtorEq] at h) <;> (try (exfalso; omega))))) | fail)) <;> (try omega)
    all_goals (refine congrArg (fun z => AV.v (.int .i64 z)) ?_; simp_all [fitsF, nkOf])
  · (repeat' (first
    | exact trivial
    | (with_reducible first | refine awA ?_ | refine awB ?_ | refine awC ?_ | refine awD ?_ | refine awE ?_ | refine awF ?_ | refine awG ?_ | refine awH ?_ | refine awI ?_ | refine awJ ?_ | refine awK ?_ | refine awL ?_ | refine awM (by decide) ?_)
    | (refine aw_draw (id := 1) (t := (.node [0, 1, 2, 3, 4, 5, 6] [])) (drR [3, 2] [12] []) mixed (by kernel_rfl) (by kernel_rfl) (fun _ _ h => h) ?_)
    | (refine at_done (by simp only [List.filterMap_cons, List.filterMap_nil, List.getElem?_toArray, List.getElem?_cons_zero, List.getElem?_cons_succ]; exact rfl) ?_) | (refine at_alt (by simp only [List.filterMap_cons, List.filterMap_nil, List.getElem?_toArray, List.getElem?_cons_zero, List.getElem?_cons_succ]; exact rfl) ?_) | refine qalt_normal ?_ | refine ats_cons ?_ ?_ | exact ats_nil
    | ((with_reducible first | refine awN (tyOf_ok _) [] ?_ | refine awO (tyOf_ok _) [] ?_ | refine awP (tyOf_ok _) [] ?_ | refine awQ ?_ | refine awR ?_ | refine awS ?_); intro r hr; simp only [go_sem, Nat.reduceBEq, Nat.reduceBneDiff, Nat.reduceLT, Nat.reduceLeDiff, Nat.reduceAdd, Nat.reduceMul, Nat.reduceSub, Nat.reduceEqDiff, reduceCtorEq, h, Int.cast_ofNat_Int, Int.reduceToNat, Int.reduceEq, Int.reduceLT, Int.reduceLE, Int.reduceNe, ne_eq] at hr; subst hr; (first | refine awV ?_ ?_ | refine awW ?_ ?_ | refine endK ?_ ?_ | (refine condK (fun h => ?_) (fun h => ?_) <;> (try simp only [go_sem, reduceCtorEq] at h) <;> (try (exfalso; omega))))) | fail)) <;> (try omega)
    all_goals (refine congrArg (fun z => AV.v (.int .i64 z)) ?_; simp_all [fitsF, nkOf])
  · have hpl := right_parts hr (.inl h)
    have ha := arm_any T (by omega) x.n
    unfold vP at ha
    rw [h] at ha
    cases hA : armOf T.parts x.n with
    | none =>
      rw [hA] at ha
      (repeat' (first
    | exact trivial
    | (with_reducible first | refine awA ?_ | refine awB ?_ | refine awC ?_ | refine awD ?_ | refine awE ?_ | refine awF ?_ | refine awG ?_ | refine awH ?_ | refine awI ?_ | refine awJ ?_ | refine awK ?_ | refine awL ?_ | refine awM (by decide) ?_)
    | (refine aw_draw (id := 1) (t := (.node [0, 1, 2, 3, 4, 5, 6] [])) (drR [3, 2] [12] []) mixed (by kernel_rfl) (by kernel_rfl) (fun _ _ h => h) ?_)
    | (refine at_done (by simp only [List.filterMap_cons, List.filterMap_nil, List.getElem?_toArray, List.getElem?_cons_zero, List.getElem?_cons_succ]; exact rfl) ?_) | (refine at_alt (by simp only [List.filterMap_cons, List.filterMap_nil, List.getElem?_toArray, List.getElem?_cons_zero, List.getElem?_cons_succ]; exact rfl) ?_) | refine qalt_normal ?_ | refine ats_cons ?_ ?_ | exact ats_nil
    | ((with_reducible first | refine awN (tyOf_ok _) [] ?_ | refine awO (tyOf_ok _) [] ?_ | refine awP (tyOf_ok _) [] ?_ | refine awQ ?_ | refine awR ?_ | refine awS ?_); intro r hr; simp only [go_sem, Nat.reduceBEq, Nat.reduceBneDiff, Nat.reduceLT, Nat.reduceLeDiff, Nat.reduceAdd, Nat.reduceMul, Nat.reduceSub, Nat.reduceEqDiff, reduceCtorEq, h, Int.cast_ofNat_Int, Int.reduceToNat, Int.reduceEq, Int.reduceLT, Int.reduceLE, Int.reduceNe, ne_eq, Option.isSome_none] at hr; subst hr; (first | refine caA (fun _ => ha) rfl ?_ ?_ ?_ | refine awV ?_ ?_ | refine awW ?_ ?_ | refine endK ?_ ?_ | (refine condK (fun h => ?_) (fun h => ?_) <;> (try simp only [go_sem, reduceCtorEq] at h) <;> (try (exfalso; omega))))) | fail)) <;> (try omega)
      all_goals (refine congrArg (fun z => AV.v (.int .i64 z)) ?_; simp_all [fitsF, nkOf])
    | some p =>
      rw [hA] at ha
      (repeat' (first
    | exact trivial
    | (with_reducible first | refine awA ?_ | refine awB ?_ | refine awC ?_ | refine awD ?_ | refine awE ?_ | refine awF ?_ | refine awG ?_ | refine awH ?_ | refine awI ?_ | refine awJ ?_ | refine awK ?_ | refine awL ?_ | refine awM (by decide) ?_)
    | (refine aw_draw (id := 1) (t := (.node [0, 1, 2, 3, 4, 5, 6] [])) (drR [3, 2] [12] []) mixed (by kernel_rfl) (by kernel_rfl) (fun _ _ h => h) ?_)
    | (refine at_done (by simp only [List.filterMap_cons, List.filterMap_nil, List.getElem?_toArray, List.getElem?_cons_zero, List.getElem?_cons_succ]; exact rfl) ?_) | (refine at_alt (by simp only [List.filterMap_cons, List.filterMap_nil, List.getElem?_toArray, List.getElem?_cons_zero, List.getElem?_cons_succ]; exact rfl) ?_) | refine qalt_normal ?_ | refine ats_cons ?_ ?_ | exact ats_nil
    | ((with_reducible first | refine awN (tyOf_ok _) [] ?_ | refine awO (tyOf_ok _) [] ?_ | refine awP (tyOf_ok _) [] ?_ | refine awQ ?_ | refine awR ?_ | refine awS ?_); intro r hr; simp only [go_sem, Nat.reduceBEq, Nat.reduceBneDiff, Nat.reduceLT, Nat.reduceLeDiff, Nat.reduceAdd, Nat.reduceMul, Nat.reduceSub, Nat.reduceEqDiff, reduceCtorEq, h, Int.cast_ofNat_Int, Int.reduceToNat, Int.reduceEq, Int.reduceLT, Int.reduceLE, Int.reduceNe, ne_eq, Option.isSome_some] at hr; subst hr; (first | refine caA (fun _ => ha) rfl ?_ ?_ ?_ | refine awV ?_ ?_ | refine awW ?_ ?_ | refine endK ?_ ?_ | (refine condK (fun h => ?_) (fun h => ?_) <;> (try simp only [go_sem, reduceCtorEq] at h) <;> (try (exfalso; omega))))) | fail)) <;> (try omega)
      all_goals (refine congrArg (fun z => AV.v (.int .i64 z)) ?_; simp_all [fitsF, nkOf])
  · (repeat' (first
    | exact trivial
    | (with_reducible first | refine awA ?_ | refine awB ?_ | refine awC ?_ | refine awD ?_ | refine awE ?_ | refine awF ?_ | refine awG ?_ | refine awH ?_ | refine awI ?_ | refine awJ ?_ | refine awK ?_ | refine awL ?_ | refine awM (by decide) ?_)
    | (refine aw_draw (id := 1) (t := (.node [0, 1, 2, 3, 4, 5, 6] [])) (drR [3, 2] [12] []) mixed (by kernel_rfl) (by kernel_rfl) (fun _ _ h => h) ?_)
    | (refine at_done (by simp only [List.filterMap_cons, List.filterMap_nil, List.getElem?_toArray, List.getElem?_cons_zero, List.getElem?_cons_succ]; exact rfl) ?_) | (refine at_alt (by simp only [List.filterMap_cons, List.filterMap_nil, List.getElem?_toArray, List.getElem?_cons_zero, List.getElem?_cons_succ]; exact rfl) ?_) | refine qalt_normal ?_ | refine ats_cons ?_ ?_ | exact ats_nil
    | ((with_reducible first | refine awN (tyOf_ok _) [] ?_ | refine awO (tyOf_ok _) [] ?_ | refine awP (tyOf_ok _) [] ?_ | refine awQ ?_ | refine awR ?_ | refine awS ?_); intro r hr; simp only [go_sem, Nat.reduceBEq, Nat.reduceBneDiff, Nat.reduceLT, Nat.reduceLeDiff, Nat.reduceAdd, Nat.reduceMul, Nat.reduceSub, Nat.reduceEqDiff, reduceCtorEq, h, Int.cast_ofNat_Int, Int.reduceToNat, Int.reduceEq, Int.reduceLT, Int.reduceLE, Int.reduceNe, ne_eq, encPs_len] at hr; subst hr; (first | refine awV ?_ ?_ | refine awW ?_ ?_ | refine endK ?_ ?_ | (refine condK (fun h => ?_) (fun h => ?_) <;> (try simp only [go_sem, reduceCtorEq] at h) <;> (try (exfalso; omega))))) | fail)) <;> (try omega)
    all_goals (refine congrArg (fun z => AV.v (.int .i64 z)) ?_; simp_all [fitsF, nkOf])
end Go.Proofs.YtfgacgpicfknpaaDoor
end

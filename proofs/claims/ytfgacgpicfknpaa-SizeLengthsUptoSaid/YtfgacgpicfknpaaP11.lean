import Derived.Test.YtfgacgpicfknpaaP10
set_option linter.all false
section
namespace Go.Proofs.Ytfgacgpicfknpaa
open Go.RowKit
/-! Lengths of a tree of a type: what size's walk finds, and that they lie between least and most. -/
theorem leb_le : ∀ (f : Nat) (n : Int), 0 ≤ n → n < 128 ^ (f + 1) → leb (f + 1) n ≤ f + 1 ∧ 1 ≤ leb (f + 1) n
  | 0, n, h0, h1 => by
    have : n < 128 := by simpa using h1
    rw [leb, if_pos this]; decide
  | f + 1, n, h0, h1 => by
    rw [leb]
    split
    · omega
    · have := leb_le f (n / 128) (by omega) (Int.ediv_lt_of_lt_mul (by omega) (by rw [Int.pow_succ] at h1; exact h1))
      omega
def Btw (X : List ExtM) (l ty : Int) : Prop := (atE X ty).least ≤ l ∧ l ≤ (atE X ty).most
def BtwL (X : List ExtM) : List Int → List Int → Prop
  | [], [] => True
  | a :: l, b :: m => Btw X a b ∧ BtwL X l m
  | _, _ => False
theorem BtwL.app {X : List ExtM} : ∀ {l m l' m' : List Int}, BtwL X l m → BtwL X l' m' → BtwL X (l ++ l') (m ++ m')
  | [], [], _, _, _, h => h
  | _ :: _, _ :: _, _, _, h, h' => ⟨h.1, BtwL.app h.2 h'⟩
theorem BtwL.get {X : List ExtM} : ∀ {l m : List Int}, BtwL X l m → ∀ (i : Nat) (h1 : i < l.length) (h2 : i < m.length), Btw X l[i] m[i]
  | a :: l, b :: m, h, 0, _, _ => h.1
  | a :: l, b :: m, h, i + 1, h1, h2 => by simpa using BtwL.get h.2 i (by simpa using h1) (by simpa using h2)
section
variable {ts : List TypeM} {X : List ExtM} {V : List NodeM} {rec : Rec}
/-- what is known of a value's length -/
def ValOK (ts : List TypeM) (X : List ExtM) (V : List NodeM) (rec : Rec) (c : Tr) (t : Nat) : Prop := ∀ (pre post : List NodeM) (ls : List Int), V = pre ++ c.flat ++ post → ls.length = pre.length →
  ∃ n l', rec t ls = (n, true, ls ++ l') ∧ l'.length = c.flat.length ∧ BtwL X l' (c.types ts t) ∧ Btw X n t ∧ l'.head? = some n
theorem kids_val {T : TypeM} {m e : Int} (he : ∀ k : Nat, elemF T m k = e) (hE : extG (atE X e)) (he0 : 0 ≤ e) : ∀ (l : List Tr) (k : Nat), (∀ c ∈ l, c.typed ts e.toNat → ValOK ts X V rec c e.toNat) → Tr.typed.typedL ts T m l k →
    ∀ (pre post : List NodeM) (sum : Int) (ls : List Int), V = pre ++ Tr.flat.flatL l ++ post → ls.length = pre.length → 0 ≤ sum ∧ sum ≤ 4611686018427387904 →
    ∃ S l', kidsW X rec e l.length sum ls = (S, true, ls ++ l') ∧ l'.length = (Tr.flat.flatL l).length ∧ BtwL X l' (Tr.types.typesL ts T m l k) ∧
      min (sum + l.length * withinM (atE X e).fixed (atE X e).least) 4611686018427387904 ≤ S ∧ S ≤ min (sum + l.length * withinM (atE X e).fixed (atE X e).most) 4611686018427387904
  | [], k, _, _ => fun pre post sum ls _ _ hs => ⟨sum, [], by simp [kidsW], rfl, trivial, by simp; omega, by simp; omega⟩
  | c :: l, k, hc, ⟨g1, g2⟩ => fun pre post sum ls hV hl hs => by
    unfold extG at hE
    rw [he k] at g1
    simp only [Tr.flat.flatL] at hV
    obtain ⟨n, l1, r1, r2, r3, r4, _⟩ := hc c (.head _) g1 pre (Tr.flat.flatL l ++ post) ls (by rw [hV]; simp) hl
    have r4' : (atE X e).least ≤ n ∧ n ≤ (atE X e).most := by have := r4; unfold Btw at this; rwa [Int.toNat_of_nonneg he0] at this
    have a1 := withinM_bd (f := (atE X e).fixed) (b := n) (by omega)
    have a2 := withinM_mono (f := (atE X e).fixed) (a := (atE X e).least) (b := n) (by omega) (by omega) r4'.1
    have a3 := withinM_mono (f := (atE X e).fixed) (a := n) (b := (atE X e).most) (by omega) (by omega) r4'.2
    have a4 := withinM_bd (f := (atE X e).fixed) (b := (atE X e).least) (by omega)
    have a5 := withinM_bd (f := (atE X e).fixed) (b := (atE X e).most) (by omega)
    have a6 := plus2 (a := sum) (b := withinM (atE X e).fixed n) hs a1
    obtain ⟨S, l2, s1, s2, s3, s4, s5⟩ := kids_val he ⟨hE.1, hE.2.1, hE.2.2.1, hE.2.2.2⟩ he0 l (k + 1) (fun d hd => hc d (.tail _ hd)) g2 (pre ++ c.flat) post (plusL [sum, withinM (atE X e).fixed n]) (ls ++ l1) (by rw [hV]; simp) (by rw [List.length_append, List.length_append]; omega) (plusL_bd _)
    refine ⟨S, l1 ++ l2, ?_, by simp only [Tr.flat.flatL, List.length_append]; omega, ?_, ?_, ?_⟩
    · rw [List.length_cons, kidsW, r1]
      simp only [if_pos, s1, List.append_assoc]
    · have : BtwL X l1 (c.types ts (elemF T m k).toNat) := by rw [he k]; exact r3
      exact BtwL.app this s3
    · rw [a6] at s4
      have hm : ((l.length : Int) + 1) * withinM (atE X e).fixed (atE X e).least = l.length * withinM (atE X e).fixed (atE X e).least + withinM (atE X e).fixed (atE X e).least := by rw [Int.add_mul, Int.one_mul]
      have hp : 0 ≤ (l.length : Int) * withinM (atE X e).fixed (atE X e).least := Int.mul_nonneg (by omega) a4.1
      rw [show ((c :: l).length : Int) = (l.length : Int) + 1 by simp, hm]
      generalize (l.length : Int) * withinM (atE X e).fixed (atE X e).least = A at *
      generalize withinM (atE X e).fixed (atE X e).least = B at *
      omega
    · rw [a6] at s5
      have hm : ((l.length : Int) + 1) * withinM (atE X e).fixed (atE X e).most = l.length * withinM (atE X e).fixed (atE X e).most + withinM (atE X e).fixed (atE X e).most := by rw [Int.add_mul, Int.one_mul]
      have hp : 0 ≤ (l.length : Int) * withinM (atE X e).fixed (atE X e).most := Int.mul_nonneg (by omega) a5.1
      rw [show ((c :: l).length : Int) = (l.length : Int) + 1 by simp, hm]
      generalize (l.length : Int) * withinM (atE X e).fixed (atE X e).most = A at *
      generalize withinM (atE X e).fixed (atE X e).most = B at *
      omega
theorem fields_val {T : TypeM} {m : Int} (h8 : T.kind = 8) : ∀ (l : List Tr) (k : Nat), k + l.length = T.parts.length → (∀ p ∈ T.parts, 0 ≤ p.ty ∧ extG (atE X p.ty)) →
    (∀ c ∈ l, ∀ p ∈ T.parts, c.typed ts p.ty.toNat → ValOK ts X V rec c p.ty.toNat) → Tr.typed.typedL ts T m l k →
    ∀ (pre post : List NodeM) (x : ExtM) (sum : Int) (ls : List Int), V = pre ++ Tr.flat.flatL l ++ post → ls.length = pre.length → 0 ≤ x.least ∧ x.least ≤ sum ∧ sum ≤ x.most ∧ x.most ≤ 4611686018427387904 →
    ∃ S l', fieldsW X rec (T.parts.drop k) sum ls = (S, true, ls ++ l') ∧ l'.length = (Tr.flat.flatL l).length ∧ BtwL X l' (Tr.types.typesL ts T m l k) ∧ (str X (T.parts.drop k) x).least ≤ S ∧ S ≤ (str X (T.parts.drop k) x).most
  | [], k, hk, _, _, _ => fun pre post x sum ls _ _ hs => by
    simp only [List.length_nil, Nat.add_zero] at hk
    rw [List.drop_eq_nil_of_le (by omega)]
    exact ⟨sum, [], by simp [fieldsW], rfl, trivial, hs.2.1, hs.2.2.1⟩
  | c :: l, k, hk, hp, hc, ⟨g1, g2⟩ => fun pre post x sum ls hV hl hs => by
    simp only [List.length_cons] at hk
    have hlt : k < T.parts.length := by omega
    rw [List.drop_eq_getElem_cons hlt]
    have hmem := List.getElem_mem hlt
    rw [elem8 h8 hlt] at g1
    have hty : Tr.types.typesL ts T m (c :: l) k = c.types ts (T.parts[k].ty).toNat ++ Tr.types.typesL ts T m l (k + 1) := by rw [Tr.types.typesL, elem8 h8 hlt]
    obtain ⟨p0, pG⟩ := hp _ hmem
    have hcc := hc c (.head _) _ hmem g1
    rw [hty]
    have hst : str X (T.parts[k] :: T.parts.drop (k + 1)) x = str X (T.parts.drop (k + 1)) (stepS X x T.parts[k]) := rfl
    rw [hst]
    generalize T.parts[k] = p at *
    unfold extG at pG
    simp only [Tr.flat.flatL] at hV
    obtain ⟨n, l1, r1, r2, r3, r4, _⟩ := hcc pre (Tr.flat.flatL l ++ post) ls (by rw [hV]; simp) hl
    have r4' : (atE X p.ty).least ≤ n ∧ n ≤ (atE X p.ty).most := by have := r4; unfold Btw at this; rwa [Int.toNat_of_nonneg p0] at this
    have a1 := withinM_bd (f := (atE X p.ty).fixed) (b := n) (by omega)
    have a2 := withinM_mono (f := (atE X p.ty).fixed) (a := (atE X p.ty).least) (b := n) (by omega) (by omega) r4'.1
    have a3 := withinM_mono (f := (atE X p.ty).fixed) (a := n) (b := (atE X p.ty).most) (by omega) (by omega) r4'.2
    have a4 := withinM_bd (f := (atE X p.ty).fixed) (b := (atE X p.ty).least) (by omega)
    have a5 := withinM_bd (f := (atE X p.ty).fixed) (b := (atE X p.ty).most) (by omega)
    have a6 := plus2 (a := sum) (b := withinM (atE X p.ty).fixed n) (by omega) a1
    have a7 := plus2 (a := x.least) (b := withinM (atE X p.ty).fixed (atE X p.ty).least) (by omega) a4
    have a8 := plus2 (a := x.most) (b := withinM (atE X p.ty).fixed (atE X p.ty).most) (by omega) a5
    obtain ⟨S, l2, s1, s2, s3, s4, s5⟩ := fields_val h8 l (k + 1) (by omega) hp (fun d hd => hc d (.tail _ hd)) g2 (pre ++ c.flat) post (stepS X x p) (plusL [sum, withinM (atE X p.ty).fixed n]) (ls ++ l1) (by rw [hV]; simp) (by rw [List.length_append, List.length_append]; omega)
      (by simp only [stepS, a6, a7, a8]; omega)
    refine ⟨S, l1 ++ l2, ?_, by simp only [Tr.flat.flatL, List.length_append]; omega, BtwL.app r3 s3, s4, s5⟩
    rw [fieldsW, r1]
    simp only [if_pos, s1, List.append_assoc]
end
end Go.Proofs.Ytfgacgpicfknpaa
end
section
namespace Go.Proofs.Ytfgacgpicfknpaa
open Go.RowKit
theorem uni_congr {L X : List ExtM} : ∀ (l : List PartM) (x : Int × Int × Int), (∀ p ∈ l, atE L p.ty = atE X p.ty) → uni L l x = uni X l x
  | [], _, _ => rfl
  | p :: l, x, h => by
    have h1 : uni L (p :: l) x = uni L l (min x.1 (atE L p.ty).least, max x.2.1 (plusL [1, (atE L p.ty).most]), max x.2.2 (1 + (atE L p.ty).depth)) := rfl
    have h2 : uni X (p :: l) x = uni X l (min x.1 (atE X p.ty).least, max x.2.1 (plusL [1, (atE X p.ty).most]), max x.2.2 (1 + (atE X p.ty).depth)) := rfl
    rw [h1, h2, h p (.head _)]
    exact uni_congr l _ fun q hq => h q (.tail _ hq)
theorem str_congr {L X : List ExtM} : ∀ (l : List PartM) (x : ExtM), (∀ p ∈ l, atE L p.ty = atE X p.ty) → str L l x = str X l x
  | [], _, _ => rfl
  | p :: l, x, h => by
    have h1 : str L (p :: l) x = str L l (stepS L x p) := rfl
    have h2 : str X (p :: l) x = str X l (stepS X x p) := rfl
    have h3 : stepS L x p = stepS X x p := by unfold stepS; rw [h p (.head _)]
    rw [h1, h2, h3]
    exact str_congr l _ fun q hq => h q (.tail _ hq)
theorem extM_congr {T : TypeM} {L X : List ExtM} (h1 : T.kind = 4 ∨ T.kind = 5 ∨ T.kind = 6 → atE L T.elem = atE X T.elem) (h2 : ∀ p ∈ T.parts, atE L p.ty = atE X p.ty) : extM T L = extM T X := by
  unfold extM
  split
  · rfl
  split
  · rfl
  split
  · rfl
  split
  · rw [h1 (.inl ‹_›)]
  split
  · rw [h1 (.inr (.inl ‹_›))]
  split
  · rw [h1 (.inr (.inr ‹_›))]
  split
  · rw [uni_congr _ _ h2]
  · rw [str_congr _ _ h2]
theorem ext_at {ts : List TypeM} (hr : ∀ (k : Nat) (h : k < ts.length), rightOK ts[k] k = true) {t : Nat} (ht : t < ts.length) : atE (exts ts) t = extM ts[t] (exts ts) := by
  rw [atE_nat (by rw [exts_length]; exact ht), exts_at ht]
  have hty := rightOK_ty (hr t ht)
  exact extM_congr (fun h => atE_front (by omega) (hty.1 h).1 (hty.1 h).2) fun p hp => atE_front (by omega) (hty.2 p hp).1 (hty.2 p hp).2
theorem right_zero {x : NodeM} (h : rightN x = true) (hk : x.kind = 1 ∨ x.kind = 2) : x.kids = 0 ∧ (x.kind = 2 → x.n ≤ 1) := by
  rw [rightN, Bool.and_eq_true] at h
  obtain ⟨h1, h2⟩ := h
  rw [if_neg (by omega), if_neg (by omega), if_neg (by omega), if_neg (by omega), decide_eq_true_eq] at h2
  refine ⟨h2, fun hk2 => ?_⟩
  rw [numberN, if_neg (by omega), if_pos hk2, decide_eq_true_eq] at h1
  exact h1
theorem right_seq {x : NodeM} (h : rightN x = true) (hk : x.kind = 3 ∨ x.kind = 4 ∨ x.kind = 5) : x.n = 0 := by
  rw [rightN, Bool.and_eq_true, numberN] at h
  have h1 := h.1
  rw [if_neg (by omega), if_neg (by omega), if_neg (by omega), Bool.and_eq_true, decide_eq_true_eq] at h1
  exact h1.1
theorem right_opt {x : NodeM} (h : rightN x = true) (hk : x.kind = 5) : x.kids = 0 ∨ x.kids = 1 := by
  rw [rightN, Bool.and_eq_true] at h
  have h2 := h.2
  rw [if_neg (by omega), if_neg (by omega), if_pos hk] at h2
  simpa using h2
theorem right_uni {x : NodeM} (h : rightN x = true) (hk : x.kind = 6) : x.kids = 1 := by
  rw [rightN, Bool.and_eq_true] at h
  have h2 := h.2
  rw [if_neg (by omega), if_neg (by omega), if_neg (by omega), if_pos hk, decide_eq_true_eq] at h2
  exact h2
theorem fits_parts {T : TypeM} {x : NodeM} (h : fitsF T x = 0) : x.kind = nkOf T.kind ∧ (T.kind = 1 → fitsB x.n T.n = true) ∧ (T.kind = 4 → x.kids = T.n) ∧ (T.kind = 5 → x.kids ≤ T.n) ∧ (T.kind = 8 → x.kids = T.parts.length) ∧ (T.kind = 7 → armOf T.parts x.n ≠ none) := by
  unfold fitsF at h
  split at h
  · cases h
  · rename_i h1
    split at h
    · cases h
    · rename_i h2
      split at h
      · cases h
      · rename_i h3
        split at h
        · cases h
        · rename_i h4
          refine ⟨by omega, fun hk => ?_, fun hk => by omega, fun hk => by omega, fun hk => by omega, fun hk hn => h4 ⟨hk, hn⟩⟩
          cases hb : fitsB x.n T.n with
          | true => rfl
          | false => exact absurd ⟨hk, hb⟩ h2
section
variable {ts : List TypeM} {V : List NodeM}
theorem val_step (hr : ∀ (k : Nat) (h : k < ts.length), rightOK ts[k] k = true) (hV : ∀ x ∈ V, nodeOK x) (f t : Nat) (ht : t < ts.length) (x : NodeM) (ks : List Tr) (hty : (Tr.node x ks).typed ts t)
    (H : ∀ c ∈ ks, ∀ t', t' < t → c.typed ts t' → ValOK ts (exts ts) V (valW ts (exts ts) V f) c t') : ValOK ts (exts ts) V (valW ts (exts ts) V (f + 1)) (.node x ks) t := by
  intro pre post ls hVe hl
  obtain ⟨_, hf, hxr, hkids, hks⟩ := hty
  have hat : V[ls.length]? = some x := by rw [hVe, hl]; simp [Tr.flat]
  have hxo := hV x (List.mem_of_getElem? hat)
  have hrt := hr t ht
  have hta := tyA_lt ht
  have htd : (ts[t]?).getD ⟨0, 0, 0, []⟩ = ts[t] := hta
  have hext := ext_at hr ht
  have hG : ∀ i : Int, 0 ≤ i → i < ts.length → extG (atE (exts ts) i) := fun i h0 h1 => by
    rw [atE_get (by rw [exts_length]; omega)]
    have := exts_good hr ts.length (Nat.le_refl _)
    rw [List.take_length] at this
    exact this _ (List.getElem_mem _)
  have htyp := rightOK_ty hrt
  rw [hta] at hf hks
  obtain ⟨fk, f1, f4, f5, f8, f7⟩ := fits_parts hf
  simp only [Tr.flat] at hVe ⊢
  rw [valW, hat]
  simp only [htd]
  unfold ValOK at H
  generalize hT : ts[t] = T at *
  -- what the node's length must be
  suffices hn : ∃ n l'', nodeW (exts ts) (valW ts (exts ts) V f) x T (ls ++ [0]) = (n, true, (ls ++ [0]) ++ l'') ∧ l''.length = (Tr.flat.flatL ks).length ∧ BtwL (exts ts) l'' (Tr.types.typesL ts T x.n ks 0) ∧ (extM T (exts ts)).least ≤ n ∧ n ≤ (extM T (exts ts)).most by
    obtain ⟨n, l'', h1, h2, h3, h4, h5⟩ := hn
    rw [h1]
    refine ⟨n, n :: l'', ?_, by simp [h2], ?_, ?_, rfl⟩
    · simp only [setL]
      congr 2
      rw [List.append_assoc, List.set_append_right _ _ (Nat.le_refl _), Nat.sub_self]
      rfl
    · rw [Tr.types, hta]
      exact ⟨by unfold Btw; rw [hext]; exact ⟨h4, h5⟩, h3⟩
    · unfold Btw; rw [hext]; exact ⟨h4, h5⟩
  have hpos : (ls ++ [(0 : Int)]).length = (pre ++ [x]).length := by simp [hl]
  have hVe2 : V = (pre ++ [x]) ++ Tr.flat.flatL ks ++ post := by rw [hVe]; simp
  have hsub : ∀ e : Nat, e < t → ∀ c ∈ ks, c.typed ts e → ValOK ts (exts ts) V (valW ts (exts ts) V f) c e := fun e he c hc h => H c hc e he h
  have hempty : x.kids = 0 → ks = [] := fun h => List.eq_nil_of_length_eq_zero (by omega)
  rcases rightOK_kind hrt with hk | hk | hk
  · rcases hk with hk | hk | hk
    · have hnk : x.kind = 1 := by rw [fk, hk]; decide
      obtain ⟨z1, _⟩ := right_zero hxr (.inl hnk)
      have := hempty z1
      subst this
      have hn := right_1 hrt hk
      refine ⟨T.n, [], ?_, rfl, trivial, ?_, ?_⟩
      · unfold nodeW; rw [if_pos hk, f1 hk]; simp [isN, hnk, z1]
      · unfold extM; rw [if_pos hk]; exact Int.le_refl _
      · unfold extM; rw [if_pos hk]; exact Int.le_refl _
    · have hnk : x.kind = 2 := by rw [fk, hk]; decide
      obtain ⟨z1, z2⟩ := right_zero hxr (.inr hnk)
      have := hempty z1
      subst this
      have z3 := z2 hnk
      refine ⟨1, [], ?_, rfl, trivial, ?_, ?_⟩
      · unfold nodeW; rw [if_neg (by omega), if_pos hk]; simp [hnk, z1, z3]
      · unfold extM; rw [if_neg (by omega), if_pos hk]; decide
      · unfold extM; rw [if_neg (by omega), if_pos hk]; decide
    · have hnk : x.kind = 1 := by rw [fk, hk]; decide
      obtain ⟨z1, _⟩ := right_zero hxr (.inl hnk)
      have := hempty z1
      subst this
      have hlb := leb_le 9 x.n hxo.2.2.1 (by have := hxo.2.2.2; have h128 : (128 : Int) ^ (9 + 1) = 1180591620717411303424 := by decide
                                             omega)
      refine ⟨leb 10 x.n, [], ?_, rfl, trivial, ?_, ?_⟩
      · unfold nodeW; rw [if_neg (by omega), if_neg (by omega), if_pos hk]; simp [isN, hnk, z1]
      · unfold extM; rw [if_neg (by omega), if_neg (by omega), if_pos hk]; exact hlb.2
      · unfold extM; rw [if_neg (by omega), if_neg (by omega), if_pos hk]; exact hlb.1
  · have hn := rightOK_n hrt hk
    have he := htyp.1 hk
    have hEG := hG T.elem he.1 (by omega)
    have hel : ∀ k : Nat, elemF T x.n k = T.elem := fun k => by unfold elemF; rw [if_pos hk]
    have hEG' := hEG
    unfold extG at hEG'
    have w1 := withinM_bd (f := (atE (exts ts) T.elem).fixed) (b := (atE (exts ts) T.elem).least) (by omega)
    have w2 := withinM_bd (f := (atE (exts ts) T.elem).fixed) (b := (atE (exts ts) T.elem).most) (by omega)
    have hseq := kids_val (ts := ts) (V := V) (rec := valW ts (exts ts) V f) (T := T) (m := x.n) (e := T.elem) hel hEG he.1 ks 0 (hsub _ (by omega)) hks (pre ++ [x]) post 0 (ls ++ [0]) hVe2 hpos (by omega)
    rcases hk with hk | hk | hk
    · have hnk : x.kind = 3 := by rw [fk, hk]; decide
      have hx0 := right_seq hxr (.inl hnk)
      obtain ⟨S, l', s1, s2, s3, s4, s5⟩ := hseq
      have hkl : ks.length = T.n.toNat := by have := f4 hk; omega
      have hlI : (ks.length : Int) = T.n := by have := f4 hk; omega
      refine ⟨S, l', ?_, s2, s3, ?_, ?_⟩
      · unfold nodeW
        rw [if_neg (by omega), if_neg (by omega), if_neg (by omega), if_pos hk, if_pos (by simp [isN, hnk, f4 hk, hx0]), ← hkl]
        exact s1
      · unfold extM
        rw [if_neg (by omega), if_neg (by omega), if_neg (by omega), if_pos hk]
        show timesS T.n _ ≤ S
        unfold timesS
        rw [sz_of hn.1 (by omega), sz_of w1.1 w1.2, ← hlI]
        simpa using s4
      · unfold extM
        rw [if_neg (by omega), if_neg (by omega), if_neg (by omega), if_pos hk]
        show S ≤ timesS T.n _
        unfold timesS
        rw [sz_of hn.1 (by omega), sz_of w2.1 w2.2, ← hlI]
        simpa using s5
    · have hnk : x.kind = 3 := by rw [fk, hk]; decide
      have hx0 := right_seq hxr (.inl hnk)
      obtain ⟨S, l', s1, s2, s3, s4, s5⟩ := hseq
      have hkb := rightN_kids hxr
      have hkl : ks.length = x.kids.toNat := by omega
      have h5 := f5 hk
      have p1 : 0 ≤ (ks.length : Int) * withinM (atE (exts ts) T.elem).fixed (atE (exts ts) T.elem).least := Int.mul_nonneg (by omega) w1.1
      have p2 : (ks.length : Int) * withinM (atE (exts ts) T.elem).fixed (atE (exts ts) T.elem).most ≤ T.n * withinM (atE (exts ts) T.elem).fixed (atE (exts ts) T.elem).most := Int.mul_le_mul_of_nonneg_right (by omega) w2.1
      refine ⟨S, l', ?_, s2, s3, ?_, ?_⟩
      · unfold nodeW
        rw [if_neg (by omega), if_neg (by omega), if_neg (by omega), if_neg (by omega), if_pos hk, if_pos ⟨hkb.1, h5, by simp [isN, hnk, hx0]⟩, ← hkl]
        exact s1
      · unfold extM
        rw [if_neg (by omega), if_neg (by omega), if_neg (by omega), if_neg (by omega), if_pos hk]
        show 0 ≤ S
        omega
      · unfold extM
        rw [if_neg (by omega), if_neg (by omega), if_neg (by omega), if_neg (by omega), if_pos hk]
        show S ≤ timesS T.n _
        unfold timesS
        rw [sz_of hn.1 (by omega), sz_of w2.1 w2.2]
        omega
    · have hnk : x.kind = 5 := by rw [fk, hk]; decide
      have hx0 := right_seq hxr (.inr (.inr hnk))
      have hm := plus2 (a := 1) (b := (atE (exts ts) T.elem).most) (by omega) (by omega)
      rcases right_opt hxr hnk with h0 | h1
      · have := hempty h0
        subst this
        refine ⟨1, [], ?_, rfl, trivial, ?_, ?_⟩
        · unfold nodeW
          rw [if_neg (by omega), if_neg (by omega), if_neg (by omega), if_neg (by omega), if_neg (by omega), if_pos hk, if_pos ⟨by omega, by omega, by simp [isN, hnk, hx0]⟩, if_pos h0]
          simp
        · unfold extM
          rw [if_neg (by omega), if_neg (by omega), if_neg (by omega), if_neg (by omega), if_neg (by omega), if_pos hk]
          exact Int.le_refl _
        · unfold extM
          rw [if_neg (by omega), if_neg (by omega), if_neg (by omega), if_neg (by omega), if_neg (by omega), if_pos hk]
          show 1 ≤ plusL _
          omega
      · obtain ⟨c, rfl⟩ := List.length_eq_one_iff.1 (show ks.length = 1 by omega)
        obtain ⟨g1, _⟩ := hks
        rw [hel 0] at g1
        obtain ⟨n, l1, r1, r2, r3, r4, _⟩ := hsub T.elem.toNat (by omega) c (.head _) g1 (pre ++ [x]) post (ls ++ [0]) (by rw [hVe2]; simp [Tr.flat.flatL]) hpos
        unfold Btw at r4
        rw [Int.toNat_of_nonneg he.1] at r4
        have hp := plus2 (a := 1) (b := n) (by omega) (by omega)
        refine ⟨plusL [1, n], l1, ?_, by simp [Tr.flat.flatL, r2], ?_, ?_, ?_⟩
        · unfold nodeW
          rw [if_neg (by omega), if_neg (by omega), if_neg (by omega), if_neg (by omega), if_neg (by omega), if_pos hk, if_pos ⟨by omega, by omega, by simp [isN, hnk, hx0]⟩, if_neg (by omega), one1, r1]
        · simp only [Tr.types.typesL, hel, List.append_nil]; exact r3
        · unfold extM
          rw [if_neg (by omega), if_neg (by omega), if_neg (by omega), if_neg (by omega), if_neg (by omega), if_pos hk]
          show 1 ≤ plusL _
          omega
        · unfold extM
          rw [if_neg (by omega), if_neg (by omega), if_neg (by omega), if_neg (by omega), if_neg (by omega), if_pos hk]
          show plusL _ ≤ plusL _
          omega
  · have hpp := right_parts hrt hk
    have hps : ∀ p ∈ T.parts, (0 ≤ p.ty ∧ p.ty < t) ∧ extG (atE (exts ts) p.ty) := fun p hp => ⟨htyp.2 p hp, hG _ (htyp.2 p hp).1 (by have := (htyp.2 p hp).2; omega)⟩
    rcases hk with hk | hk
    · have hnk : x.kind = 6 := by rw [fk, hk]; decide
      have hu := right_uni hxr hnk
      obtain ⟨c, rfl⟩ := List.length_eq_one_iff.1 (show ks.length = 1 by omega)
      obtain ⟨g1, _⟩ := hks
      cases ha : armOf T.parts x.n with
      | none => exact absurd ha (f7 hk)
      | some p =>
        have hmem : p ∈ T.parts := List.mem_of_find?_eq_some ha
        obtain ⟨⟨p0, p1⟩, pG⟩ := hps p hmem
        have hel : elemF T x.n 0 = p.ty := by unfold elemF; rw [if_neg (by omega), if_neg (by omega), if_pos hk, ha]
        rw [hel] at g1
        obtain ⟨n, l1, r1, r2, r3, r4, _⟩ := hsub p.ty.toNat (by omega) c (.head _) g1 (pre ++ [x]) post (ls ++ [0]) (by rw [hVe2]; simp [Tr.flat.flatL]) hpos
        unfold Btw at r4
        rw [Int.toNat_of_nonneg p0] at r4
        unfold extG at pG
        obtain ⟨⟨u1, _, _, u4, u5⟩, u6⟩ := uni_good (L := exts ts) T.parts (4611686018427387904, 0, 1) (fun q hq => (hps q hq).2) (by decide) (by decide)
        obtain ⟨v1, v2, _⟩ := u6 p hmem
        simp only at u1
        have q1 := plus2 (a := 1) (b := n) (by omega) (by omega)
        have q2 := plus2 (a := 1) (b := (uni (exts ts) T.parts (4611686018427387904, 0, 1)).1) (by omega) (by omega)
        have q3 := plus2 (a := 1) (b := (atE (exts ts) p.ty).most) (by omega) (by omega)
        refine ⟨plusL [1, n], l1, ?_, by simp [Tr.flat.flatL, r2], ?_, ?_, ?_⟩
        · unfold nodeW
          rw [if_neg (by omega), if_neg (by omega), if_neg (by omega), if_neg (by omega), if_neg (by omega), if_neg (by omega), if_pos hk, if_pos (by simp [isN, hnk, hu]), armW, ha]
          simp only [one1, r1]
        · simp only [Tr.types.typesL, hel, List.append_nil]; exact r3
        · unfold extM
          rw [if_neg (by omega), if_neg (by omega), if_neg (by omega), if_neg (by omega), if_neg (by omega), if_neg (by omega), if_pos hk]
          show plusL [1, (uni (exts ts) T.parts (4611686018427387904, 0, 1)).1] ≤ plusL [1, n]
          omega
        · unfold extM
          rw [if_neg (by omega), if_neg (by omega), if_neg (by omega), if_neg (by omega), if_neg (by omega), if_neg (by omega), if_pos hk]
          show plusL [1, n] ≤ (uni (exts ts) T.parts (4611686018427387904, 0, 1)).2.1
          omega
    · have hnk : x.kind = 4 := by rw [fk, hk]; decide
      have hx0 := right_seq hxr (.inr (.inl hnk))
      have h8 := f8 hk
      obtain ⟨S, l', s1, s2, s3, s4, s5⟩ := fields_val (ts := ts) (X := exts ts) (V := V) (rec := valW ts (exts ts) V f) (T := T) (m := x.n) hk ks 0 (by omega) (fun p hp => ⟨(hps p hp).1.1, (hps p hp).2⟩)
        (fun c hc p hp h => hsub p.ty.toNat (by have := (hps p hp).1; omega) c hc h) hks (pre ++ [x]) post ⟨true, 0, 0, 1⟩ 0 (ls ++ [0]) hVe2 hpos (by decide)
      rw [List.drop_zero] at s1 s4 s5
      refine ⟨S, l', ?_, s2, s3, ?_, ?_⟩
      · unfold nodeW
        rw [if_neg (by omega), if_neg (by omega), if_neg (by omega), if_neg (by omega), if_neg (by omega), if_neg (by omega), if_neg (by omega), if_pos (by simp [isN, hnk, h8, hx0])]
        exact s1
      · unfold extM
        rw [if_neg (by omega), if_neg (by omega), if_neg (by omega), if_neg (by omega), if_neg (by omega), if_neg (by omega), if_neg (by omega)]
        exact s4
      · unfold extM
        rw [if_neg (by omega), if_neg (by omega), if_neg (by omega), if_neg (by omega), if_neg (by omega), if_neg (by omega), if_neg (by omega)]
        exact s5
theorem typed_val (hr : ∀ (k : Nat) (h : k < ts.length), rightOK ts[k] k = true) (hV : ∀ x ∈ V, nodeOK x) : ∀ (n : Nat) (c : Tr), c.flat.length ≤ n → ∀ (f t : Nat), t < f → c.typed ts t → ValOK ts (exts ts) V (valW ts (exts ts) V f) c t
  | 0, c, h => absurd (flat_pos c) (by omega)
  | n + 1, .node x ks, h => fun f t hf hty => by
    simp only [Tr.flat, List.length_cons] at h
    obtain ⟨f, rfl⟩ : ∃ g, f = g + 1 := ⟨f - 1, by omega⟩
    exact val_step hr hV f t hty.1 x ks hty fun c hc t' ht' hc' => typed_val hr hV n c (by have := flatL_mem hc; omega) f t' (by omega) hc'
/-- the lengths of a value of the type -/
theorem typed_lens {rs : List RootM} (h0 : (checkF ts rs).1 = 0) (c : Tr) (hc : c.flat = V) (hV : ∀ x ∈ V, nodeOK x) (t : Nat) (hty : c.typed ts t) :
    ∃ l n, lensF ts rs t V = (l, 0) ∧ l.length = V.length ∧ BtwL (exts ts) l (c.types ts t) ∧ l.head? = some n ∧ len1F ts rs t V = (n, 0) := by
  have ht : t < ts.length := by cases c; exact hty.1
  obtain ⟨n, l, h1, h2, h3, h4, h5⟩ := typed_val (check_right h0) hV _ c (Nat.le_refl _) ts.length t ht hty [] [] [] (by simp [hc]) rfl
  rw [hc] at h2
  have hl : lensF ts rs t V = (l, 0) := by
    unfold lensF
    rw [if_neg (by omega), if_neg (by omega), Int.toNat_natCast, h1]
    simp only [List.nil_append]
    rw [if_pos ⟨trivial, h2⟩]
  refine ⟨l, n, hl, h2, h3, h5, ?_⟩
  unfold len1F
  rw [hl, if_pos rfl]
  cases l with
  | nil => cases h5
  | cons a l => simp only [List.head?_cons, Option.some.injEq] at h5; subst h5; rfl
end
end Go.Proofs.Ytfgacgpicfknpaa
end
section
namespace Go.Proofs.Ytfgacgpicfknpaa
open Go.RowKit
set_option maxHeartbeats 4000000
/-! What size's walk takes is a tree of the type; its lengths, node by node. -/
def baseF (T : TypeM) (x : NodeM) : Int := if T.kind = 1 then T.n else if T.kind = 2 ∨ T.kind = 6 ∨ T.kind = 7 then 1 else if T.kind = 3 then leb 10 x.n else 0
def partF (X : List ExtM) (T : TypeM) (e l : Int) : Int := if T.kind = 6 ∨ T.kind = 7 then l else withinM (atE X e).fixed l
def Tr.vals (ts : List TypeM) (X : List ExtM) : Tr → Nat → Int × List Int
  | .node x ks, t => ((valsL ts X (tyA ts t) x.n ks 0 (baseF (tyA ts t) x)).1, (valsL ts X (tyA ts t) x.n ks 0 (baseF (tyA ts t) x)).1 :: (valsL ts X (tyA ts t) x.n ks 0 (baseF (tyA ts t) x)).2)
where valsL (ts : List TypeM) (X : List ExtM) (T : TypeM) (m : Int) : List Tr → Nat → Int → Int × List Int
  | [], _, s => (s, [])
  | c :: cs, k, s => ((valsL ts X T m cs (k + 1) (plusL [s, partF X T (elemF T m k) (c.vals ts X (elemF T m k).toNat).1])).1,
      (c.vals ts X (elemF T m k).toNat).2 ++ (valsL ts X T m cs (k + 1) (plusL [s, partF X T (elemF T m k) (c.vals ts X (elemF T m k).toNat).1])).2)
theorem vals_len {ts : List TypeM} {X : List ExtM} : ∀ (n : Nat) (c : Tr), c.flat.length ≤ n → ∀ t, (c.vals ts X t).2.length = c.flat.length
  | 0, c, h => absurd (flat_pos c) (by omega)
  | n + 1, .node x ks, h => fun t => by
    simp only [Tr.flat, List.length_cons] at h
    have hL : ∀ (l : List Tr), (∀ c ∈ l, c.flat.length ≤ n) → ∀ (T : TypeM) (m : Int) (k : Nat) (s : Int), (Tr.vals.valsL ts X T m l k s).2.length = (Tr.flat.flatL l).length := by
      intro l
      induction l with
      | nil => intro _ _ _ _ _; rfl
      | cons c cs ih => intro hc T m k s; simp only [Tr.vals.valsL, Tr.flat.flatL, List.length_append, vals_len n c (hc c (.head _)), ih (fun d hd => hc d (.tail _ hd))]
    simp only [Tr.vals, Tr.flat, List.length_cons, hL ks (fun c hc => by have := flatL_mem hc; omega)]
section
variable {ts : List TypeM} {X : List ExtM} {V : List NodeM} {rec : Rec}
/-- what the walk takes at a place -/
def RC (ts : List TypeM) (X : List ExtM) (V : List NodeM) (rec : Rec) (t : Nat) : Prop := ∀ ls : List Int, (rec t ls).2.1 = true →
  ∃ (c : Tr) (post : List NodeM), c.typed ts t ∧ V.drop ls.length = c.flat ++ post ∧ rec t ls = ((c.vals ts X t).1, true, ls ++ (c.vals ts X t).2)
theorem drop_more {ls l' : List Int} {a post : List NodeM} (h : V.drop ls.length = a ++ post) (hl : l'.length = a.length) : V.drop (ls ++ l').length = post := by
  rw [List.length_append, ← List.drop_drop, h, hl, List.drop_left]
theorem kids_conv {T : TypeM} {m e : Int} (hk : T.kind = 4 ∨ T.kind = 5) (he : ∀ k : Nat, elemF T m k = e) (H : RC ts X V rec e.toNat) : ∀ (n k : Nat) (s : Int) (ls : List Int), (kidsW X rec e n s ls).2.1 = true →
    ∃ (cs : List Tr) (post : List NodeM), cs.length = n ∧ Tr.typed.typedL ts T m cs k ∧ V.drop ls.length = Tr.flat.flatL cs ++ post ∧ kidsW X rec e n s ls = ((Tr.vals.valsL ts X T m cs k s).1, true, ls ++ (Tr.vals.valsL ts X T m cs k s).2)
  | 0, k, s, ls, _ => ⟨[], V.drop ls.length, rfl, trivial, rfl, by simp [kidsW, Tr.vals.valsL]⟩
  | n + 1, k, s, ls, h => by
    rw [kidsW] at h ⊢
    by_cases hr : (rec e.toNat ls).2.1 = true
    · rw [if_pos hr] at h ⊢
      obtain ⟨c, post, h1, h2, h3⟩ := H ls hr
      rw [h3] at h ⊢
      simp only at h ⊢
      obtain ⟨cs, post', g1, g2, g3, g4⟩ := kids_conv hk he H n (k + 1) _ _ h
      rw [drop_more h2 (vals_len _ c (Nat.le_refl _) _)] at g3
      have hp : partF X T e (c.vals ts X e.toNat).1 = withinM (atE X e).fixed (c.vals ts X e.toNat).1 := by unfold partF; rw [if_neg (by omega)]
      refine ⟨c :: cs, post', by simp [g1], ⟨by rw [he k]; exact h1, g2⟩, by rw [h2, g3]; simp [Tr.flat.flatL], ?_⟩
      rw [g4]
      simp only [Tr.vals.valsL, he k, hp, List.append_assoc]
    · rw [if_neg hr] at h; cases h
theorem fields_conv {T : TypeM} {m : Int} (h8 : T.kind = 8) : ∀ (l : List PartM) (k : Nat) (s : Int) (ls : List Int), T.parts.drop k = l → (∀ p ∈ l, RC ts X V rec p.ty.toNat) → (fieldsW X rec l s ls).2.1 = true →
    ∃ (cs : List Tr) (post : List NodeM), cs.length = l.length ∧ Tr.typed.typedL ts T m cs k ∧ V.drop ls.length = Tr.flat.flatL cs ++ post ∧ fieldsW X rec l s ls = ((Tr.vals.valsL ts X T m cs k s).1, true, ls ++ (Tr.vals.valsL ts X T m cs k s).2)
  | [], k, s, ls, _, _, _ => ⟨[], V.drop ls.length, rfl, trivial, rfl, by simp [fieldsW, Tr.vals.valsL]⟩
  | p :: l, k, s, ls, hd, H, h => by
    rw [fieldsW] at h ⊢
    have hk : k < T.parts.length := by
      rcases Nat.lt_or_ge k T.parts.length with h | h
      · exact h
      · rw [List.drop_eq_nil_of_le h] at hd; cases hd
    rw [List.drop_eq_getElem_cons hk] at hd
    injection hd with hp hd
    have he : elemF T m k = p.ty := by rw [elem8 h8 hk, hp]
    by_cases hr : (rec p.ty.toNat ls).2.1 = true
    · rw [if_pos hr] at h ⊢
      obtain ⟨c, post, h1, h2, h3⟩ := H p (.head _) ls hr
      rw [h3] at h ⊢
      simp only at h ⊢
      obtain ⟨cs, post', g1, g2, g3, g4⟩ := fields_conv (m := m) h8 l (k + 1) _ _ hd (fun q hq => H q (.tail _ hq)) h
      rw [drop_more h2 (vals_len _ c (Nat.le_refl _) _)] at g3
      have hpf : partF X T p.ty (c.vals ts X p.ty.toNat).1 = withinM (atE X p.ty).fixed (c.vals ts X p.ty.toNat).1 := by unfold partF; rw [if_neg (by omega)]
      refine ⟨c :: cs, post', by simp [g1], ⟨by rw [he]; exact h1, g2⟩, by rw [h2, g3]; simp [Tr.flat.flatL], ?_⟩
      rw [g4]
      simp only [Tr.vals.valsL, he, hpf, List.append_assoc]
    · rw [if_neg hr] at h; cases h
theorem isN_eq {v : NodeM} {a b : Int} (h : isN v a b = true) : v.kind = a ∧ v.kids = b ∧ (a ≠ 1 → a ≠ 6 → v.n = 0) := by
  unfold isN at h
  simp only [Bool.and_eq_true, Bool.or_eq_true, decide_eq_true_eq] at h
  omega
/-- what the walk takes at a node -/
theorem node_conv (T : TypeM) (t : Nat) (hT : tyA ts t = T) (ht : t < ts.length) (hr : rightOK T t = true) (H : ∀ t', t' < t → RC ts X V rec t') (v : NodeM) (ls : List Int) (h : (nodeW X rec v T ls).2.1 = true) :
    ∃ (cs : List Tr) (post : List NodeM), (Tr.node v cs).typed ts t ∧ V.drop ls.length = Tr.flat.flatL cs ++ post ∧ nodeW X rec v T ls = ((Tr.vals.valsL ts X T v.n cs 0 (baseF T v)).1, true, ls ++ (Tr.vals.valsL ts X T v.n cs 0 (baseF T v)).2) := by
  have hty := rightOK_ty hr
  unfold nodeW at h ⊢
  rcases rightOK_kind hr with hk | hk | hk
  · rcases hk with hk | hk | hk
    · rw [if_pos hk] at h ⊢
      simp only [Bool.and_eq_true] at h
      obtain ⟨h1, h2⟩ := h
      obtain ⟨a1, a2, _⟩ := isN_eq h1
      refine ⟨[], V.drop ls.length, ⟨ht, by rw [hT]; simp [fitsF, nkOf, hk, a1, h2], by simp [rightN, numberN, a1, a2], by simp [a2], trivial⟩, rfl, by simp [Tr.vals.valsL, baseF, hk, h1, h2]⟩
    · rw [if_neg (by omega), if_pos hk] at h ⊢
      simp only [Bool.and_eq_true, decide_eq_true_eq] at h
      obtain ⟨⟨a1, a2⟩, a3⟩ := h
      refine ⟨[], V.drop ls.length, ⟨ht, by rw [hT]; simp [fitsF, nkOf, hk, a1], by simp [rightN, numberN, a1, a2, a3], by simp [a2], trivial⟩, rfl, by simp [Tr.vals.valsL, baseF, hk, a1, a2, a3]⟩
    · rw [if_neg (by omega), if_neg (by omega), if_pos hk] at h ⊢
      simp only at h
      obtain ⟨a1, a2, _⟩ := isN_eq h
      refine ⟨[], V.drop ls.length, ⟨ht, by rw [hT]; simp [fitsF, nkOf, hk, a1], by simp [rightN, numberN, a1, a2], by simp [a2], trivial⟩, rfl, by simp [Tr.vals.valsL, baseF, hk, h]⟩
  · have hn := rightOK_n hr hk
    have he := hty.1 hk
    rcases hk with hk | hk | hk
    · rw [if_neg (by omega), if_neg (by omega), if_neg (by omega), if_pos hk] at h ⊢
      by_cases hi : isN v 3 T.n = true
      · rw [if_pos hi] at h ⊢
        obtain ⟨a1, a2, a3⟩ := isN_eq hi
        have a3 := a3 (by decide) (by decide)
        obtain ⟨cs, post, g1, g2, g3, g4⟩ := kids_conv (T := T) (m := v.n) (.inl hk) (fun k => by simp [elemF, hk]) (H _ (by omega)) _ 0 _ _ h
        refine ⟨cs, post, ⟨ht, by rw [hT]; simp [fitsF, nkOf, hk, a1, a2], by simp [rightN, numberN, a1, a2, a3]; omega, by rw [g1]; omega, by rw [hT]; exact g2⟩, g3, by rw [g4]; simp [baseF, hk]⟩
      · rw [if_neg hi] at h; cases h
    · rw [if_neg (by omega), if_neg (by omega), if_neg (by omega), if_neg (by omega), if_pos hk] at h ⊢
      by_cases hi : 0 ≤ v.kids ∧ v.kids ≤ T.n ∧ isN v 3 v.kids = true
      · rw [if_pos hi] at h ⊢
        obtain ⟨b1, b2, hi⟩ := hi
        obtain ⟨a1, a2, a3⟩ := isN_eq hi
        have a3 := a3 (by decide) (by decide)
        obtain ⟨cs, post, g1, g2, g3, g4⟩ := kids_conv (T := T) (m := v.n) (.inr hk) (fun k => by simp [elemF, hk]) (H _ (by omega)) _ 0 _ _ h
        refine ⟨cs, post, ⟨ht, by rw [hT]; simp [fitsF, nkOf, hk, a1]; omega, by simp [rightN, numberN, a1, a3]; omega, by rw [g1]; omega, by rw [hT]; exact g2⟩, g3, by rw [g4]; simp [baseF, hk]⟩
      · rw [if_neg hi] at h; cases h
    · rw [if_neg (by omega), if_neg (by omega), if_neg (by omega), if_neg (by omega), if_neg (by omega), if_pos hk] at h ⊢
      by_cases hi : 0 ≤ v.kids ∧ v.kids ≤ 1 ∧ isN v 5 v.kids = true
      · rw [if_pos hi] at h ⊢
        obtain ⟨b1, b2, hi⟩ := hi
        obtain ⟨a1, a2, a3⟩ := isN_eq hi
        have a3 := a3 (by decide) (by decide)
        by_cases hz : v.kids = 0
        · rw [if_pos hz] at h ⊢
          refine ⟨[], V.drop ls.length, ⟨ht, by rw [hT]; simp [fitsF, nkOf, hk, a1], by simp [rightN, numberN, a1, a3, hz], by simp [hz], trivial⟩, rfl, by simp [Tr.vals.valsL, baseF, hk]⟩
        · rw [if_neg hz] at h ⊢
          have h1 : v.kids = 1 := by omega
          unfold one1 at h ⊢
          obtain ⟨c, post, g1, g2, g3⟩ := H _ (by omega) ls h
          have he0 : ∀ k : Nat, elemF T v.n k = T.elem := fun k => by simp [elemF, hk]
          refine ⟨[c], post, ⟨ht, by rw [hT]; simp [fitsF, nkOf, hk, a1], by simp [rightN, numberN, a1, a3, h1], by simp [h1], by rw [hT]; exact ⟨by rw [he0]; exact g1, trivial⟩⟩, by rw [g2]; simp [Tr.flat.flatL], ?_⟩
          rw [g3]
          simp [Tr.vals.valsL, he0, partF, baseF, hk]
      · rw [if_neg hi] at h; cases h
  · rcases hk with hk | hk
    · rw [if_neg (by omega), if_neg (by omega), if_neg (by omega), if_neg (by omega), if_neg (by omega), if_neg (by omega), if_pos hk] at h ⊢
      by_cases hi : isN v 6 1 = true
      · rw [if_pos hi] at h ⊢
        obtain ⟨a1, a2, _⟩ := isN_eq hi
        unfold armW at h ⊢
        cases ha : armOf T.parts v.n with
        | none => rw [ha] at h; cases h
        | some p =>
          rw [ha] at h
          simp only at h ⊢
          have hp : p ∈ T.parts := List.mem_of_find?_eq_some ha
          have htg := List.find?_some ha
          simp only [decide_eq_true_eq] at htg
          have htag := right_tag hr hk p hp
          have hpt := hty.2 p hp
          unfold one1 at h ⊢
          obtain ⟨c, post, g1, g2, g3⟩ := H _ (by omega) ls h
          have he0 : ∀ k : Nat, elemF T v.n k = p.ty := fun k => by simp [elemF, hk, ha]
          refine ⟨[c], post, ⟨ht, by rw [hT]; simp [fitsF, nkOf, hk, a1, ha], by simp [rightN, numberN, a1, a2]; omega, by simp [a2], by rw [hT]; exact ⟨by rw [he0]; exact g1, trivial⟩⟩, by rw [g2]; simp [Tr.flat.flatL], ?_⟩
          rw [g3]
          simp [Tr.vals.valsL, he0, partF, baseF, hk]
      · rw [if_neg hi] at h; cases h
    · have hpl := right_parts hr (.inr hk)
      rw [if_neg (by omega), if_neg (by omega), if_neg (by omega), if_neg (by omega), if_neg (by omega), if_neg (by omega), if_neg (by omega)] at h ⊢
      by_cases hi : isN v 4 T.parts.length = true
      · rw [if_pos hi] at h ⊢
        obtain ⟨a1, a2, a3⟩ := isN_eq hi
        have a3 := a3 (by decide) (by decide)
        obtain ⟨cs, post, g1, g2, g3, g4⟩ := fields_conv (T := T) (m := v.n) hk T.parts 0 _ _ rfl (fun p hp => H _ (by have := hty.2 p hp; omega)) h
        refine ⟨cs, post, ⟨ht, by rw [hT]; simp [fitsF, nkOf, hk, a1, a2], by simp [rightN, numberN, a1, a2, a3]; omega, by rw [g1]; exact a2, by rw [hT]; exact g2⟩, g3, by rw [g4]; simp [baseF, hk]⟩
      · rw [if_neg hi] at h; cases h
theorem val_conv (hr : ∀ (k : Nat) (h : k < ts.length), rightOK ts[k] k = true) : ∀ (f t : Nat), t < f → t < ts.length → RC ts X V (valW ts X V f) t
  | 0, _, h, _ => absurd h (Nat.not_lt_zero _)
  | f + 1, t, hf, ht => fun ls h => by
    rw [valW] at h ⊢
    cases hv : V[ls.length]? with
    | none => rw [hv] at h; cases h
    | some v =>
      rw [hv] at h
      simp only [setL] at h ⊢
      have hT : tyA ts t = ts[t] := tyA_lt ht
      change (nodeW X (valW ts X V f) v (tyA ts t) (ls ++ [0])).2.1 = true at h
      change ∃ (c : Tr) (post : List NodeM), c.typed ts t ∧ V.drop ls.length = c.flat ++ post ∧ ((nodeW X (valW ts X V f) v (tyA ts t) (ls ++ [0])).1, (nodeW X (valW ts X V f) v (tyA ts t) (ls ++ [0])).2.1, (nodeW X (valW ts X V f) v (tyA ts t) (ls ++ [0])).2.2.set ls.length (nodeW X (valW ts X V f) v (tyA ts t) (ls ++ [0])).1) = _
      obtain ⟨cs, post, g1, g2, g3⟩ := node_conv (rec := valW ts X V f) (tyA ts t) t rfl ht (by rw [hT]; exact hr t ht) (fun t' ht' => val_conv hr f t' (by omega) (by omega)) v (ls ++ [0]) h
      have hlt : ls.length < V.length := by
        rcases Nat.lt_or_ge ls.length V.length with h | h
        · exact h
        · rw [List.getElem?_eq_none h] at hv; cases hv
      have hgv : V[ls.length] = v := by rw [List.getElem?_eq_getElem hlt] at hv; injection hv
      refine ⟨.node v cs, post, g1, ?_, ?_⟩
      · rw [List.drop_eq_getElem_cons hlt, hgv]
        rw [List.length_append, List.length_singleton] at g2
        rw [g2]; simp [Tr.flat]
      · rw [g3]
        simp only [Tr.vals]
        congr 2
        simp
/-- a tree of which nothing is at fault is of the type -/
theorem walk_typed (hr : ∀ (k : Nat) (h : k < ts.length), rightOK ts[k] k = true) : ∀ (n : Nat) (c : Tr), c.flat.length ≤ n → c.ok → ∀ t, t < ts.length → ∀ (p : Int) (out : List Int), (c.walk ts t p out).2.2.1 = 0 → c.typed ts t
  | 0, c, h => absurd (flat_pos c) (by omega)
  | n + 1, .node x ks, h => fun ⟨o1, o2, o3⟩ t ht p out hw => by
    simp only [Tr.flat, List.length_cons] at h
    rw [Tr.walk] at hw
    have hT : tyA ts t = ts[t] := tyA_lt ht
    by_cases hf : fitsF (tyA ts t) x ≠ 0
    · rw [if_pos hf] at hw; exact absurd hw hf
    rw [if_neg hf] at hw
    have hf0 : fitsF (tyA ts t) x = 0 := by omega
    have hel : ∀ i : Nat, (i : Int) < x.kids → (elemF (tyA ts t) x.n i).toNat < ts.length := fun i hi => by
      have := (elem_ok (by rw [hT]; exact hr t ht) o1 hf0 hi).1
      omega
    have hL : ∀ (l : List Tr), (∀ c ∈ l, c.flat.length ≤ n) → Tr.ok.okL l → ∀ (k : Nat), (k : Int) + l.length ≤ x.kids → ∀ (p : Int) (out : List Int), (Tr.walk.walkL ts (tyA ts t) x.n l k p out).2.2.1 = 0 → Tr.typed.typedL ts (tyA ts t) x.n l k := by
      intro l
      induction l with
      | nil => intro _ _ _ _ _ _ _; trivial
      | cons c cs ih =>
        intro hc ho k hk p out hw
        rw [Tr.walk.walkL] at hw
        simp only [List.length_cons] at hk
        by_cases hcw : (c.walk ts (elemF (tyA ts t) x.n k).toNat p out).2.2.1 ≠ 0
        · rw [if_pos hcw] at hw; exact absurd hw hcw
        rw [if_neg hcw] at hw
        exact ⟨walk_typed hr n c (hc c (.head _)) ho.1 _ (hel k (by omega)) p out (by omega), ih (fun d hd => hc d (.tail _ hd)) ho.2 (k + 1) (by omega) _ _ hw⟩
    exact ⟨ht, hf0, o1, o2, hL ks (fun c hc => by have := flatL_mem hc; omega) o3 0 (by omega) _ _ hw⟩
theorem okL_app : ∀ {a b : List Tr}, Tr.ok.okL a → Tr.ok.okL b → Tr.ok.okL (a ++ b)
  | [], _, _, h => h
  | _ :: _, _, h, h' => ⟨h.1, okL_app h.2 h'⟩
/-- a tree's nodes are checked -/
theorem ok_chk : ∀ (n : Nat) (cs : List Tr), (Tr.flat.flatL cs).length ≤ n → Tr.ok.okL cs → ∀ (post : List NodeM) (m : Nat) (i : Int), chkL (Tr.flat.flatL cs ++ post) ((cs.length : Int) + m) i = chkL post m (i + (Tr.flat.flatL cs).length)
  | _, [], _ => fun _ post m i => by simp [Tr.flat.flatL]
  | 0, c :: cs, h => absurd (flat_pos c) (by simp only [Tr.flat.flatL, List.length_append] at h; omega)
  | n + 1, .node x ks :: cs, h => fun ⟨⟨o1, o2, o3⟩, o4⟩ post m i => by
    simp only [Tr.flat.flatL, Tr.flat, List.length_append, List.length_cons] at h
    have h1 := ok_chk n (ks ++ cs) (by rw [flatL_app, List.length_append]; omega) (okL_app o3 o4) post m (i + 1)
    rw [flatL_app] at h1
    simp only [Tr.flat.flatL, Tr.flat, List.cons_append, List.length_cons, List.length_append]
    rw [chkL, if_neg (by rintro (g | g); (· omega); rw [o1] at g; cases g)]
    rw [show ((cs.length + 1 : Nat) : Int) + m - 1 + x.kids = ((ks ++ cs).length : Int) + m by simp; omega, h1]
    congr 1
    simp; omega
theorem ok_chkN {c : Tr} (h : c.ok) : chkN c.flat = (0, 0) := by
  have := ok_chk _ [c] (Nat.le_refl _) ⟨h, trivial⟩ [] 0 0
  simp only [Tr.flat.flatL, List.append_nil, List.length_singleton] at this
  rw [chkN]
  simpa [chkL] using this
end
end Go.Proofs.Ytfgacgpicfknpaa
end
section
namespace Go.Proofs.Ytfgacgpicfknpaa
open Go.RowKit
set_option maxRecDepth 100000
set_option maxHeartbeats 8000000
/-! mortiselaw10.small: whatever it answers, it answers. -/
def vBs (l : List Bool) : List (List AV) := l.map fun b => [vB b]
theorem vBs_len (l : List Bool) : (vBs l).length = l.length := by simp [vBs]
theorem vBs_get {l : List Bool} {k : Nat} (h : k < l.length) : (vBs l)[k]? = some [vB l[k]] := by simp [vBs, h]
theorem vBs_set (l : List Bool) (k : Nat) (b : Bool) : (vBs l).set k [vB b] = vBs (l.set k b) := by simp [vBs, List.map_set]
def elemsT (T : TypeM) : List Int := (if T.kind = 4 ∨ T.kind = 5 ∨ T.kind = 6 then [T.elem] else []) ++ T.parts.map (·.ty)
def smallL (ts : List TypeM) : Nat → List Int → List Bool → Bool
  | 0, _, _ => true
  | f + 1, l, seen => match l.getLast? with
    | none => true
    | some k => if seen.getD k.toNat false = true then smallL ts f l.dropLast seen
      else if (tyA ts k.toNat).kind = 4 ∧ 12 < (tyA ts k.toNat).n then false
      else smallL ts f (l.dropLast ++ elemsT (tyA ts k.toNat)) (seen.set k.toNat true)
def smallF (ts : List TypeM) (t : Nat) : Bool := smallL ts (1 + 72 * ts.length) [(t : Int)] (List.replicate ts.length false)
def unseen (l : List Bool) : Nat := (l.filter fun b => !b).length
theorem unseen_set : ∀ (l : List Bool) (k : Nat) (h : k < l.length), l[k] = false → unseen (l.set k true) + 1 = unseen l
  | b :: l, 0, _, h => by simp at h; subst h; simp [unseen]
  | b :: l, k + 1, h, hf => by
    have := unseen_set l k (by simpa using h) (by simpa using hf)
    cases b <;> simp [unseen] at this ⊢ <;> omega
theorem right_len {T : TypeM} {k : Int} (h : rightOK T k = true) : T.parts.length ≤ 64 := by
  rcases rightOK_kind h with hk | hk | hk
  · rw [rightOK, if_pos hk] at h
    simp only [Bool.and_eq_true, decide_eq_true_eq] at h
    omega
  · rw [rightOK, if_neg (by omega), if_pos hk] at h
    simp only [Bool.and_eq_true, decide_eq_true_eq] at h
    omega
  · exact (right_parts h hk).1
theorem small_any (ts : List TypeM) (rs : List RootM) (hts : ts.length ≤ 1000000) (hr : ∀ (k : Nat) (h : k < ts.length), rightOK ts[k] k = true) (t : Nat) (ht : t < ts.length) :
    PCall Try.prog 60 [vSch ts rs, vI t] (fun r => r = vB (smallF ts t)) := by
  refine go_fn (tyOf_ok _) Try.func60 rfl rfl (by rw [Try.results60]) Try.ntmps60 rfl fun E => ?_
  generalize hB : smallF ts t = B
  unfold smallF at hB
  have hrep : List.replicate ((ts.length : Int)).toNat [AV.v (Value.bool false)] = vBs (List.replicate ts.length false) := by simp [vBs]
  have hrep' : List.replicate ts.length [AV.v (Value.bool false)] = vBs (List.replicate ts.length false) := by simp [vBs]
  (repeat' (first
    | exact trivial
    | (with_reducible first | refine awA ?_ | refine awB ?_ | refine awC ?_ | refine awD ?_ | refine awE ?_ | refine awF ?_ | refine awG ?_ | refine awH ?_ | refine awI ?_ | refine awJ ?_ | refine awK ?_ | refine awL ?_ | refine awM (by decide) ?_)
    | ((with_reducible first | refine awN (tyOf_ok _) [11] ?_ | refine awO (tyOf_ok _) [11] ?_ | refine awP (tyOf_ok _) [11] ?_ | refine awQ ?_ | refine awR ?_ | refine awS ?_); intro r hr; simp only [go_sem, Nat.reduceBEq, Nat.reduceBneDiff, Nat.reduceLT, Nat.reduceLeDiff, Nat.reduceAdd, Nat.reduceMul, Nat.reduceSub, Nat.reduceEqDiff, reduceCtorEq, vSch, encTs_len, hrep] at hr; subst hr; (first | refine awV ?_ ?_ | refine awW ?_ ?_ | refine endK ?_ ?_ | (refine condK (fun h => ?_) (fun h => ?_) <;> (try simp only [go_sem, reduceCtorEq] at h) <;> (try (exfalso; omega))))) | fail)) <;> (try omega)
  refine go_loop [2, 5, 6] [2, 11, 15] (fun q : Nat × List Int × List Int × List Bool => ⟨[(2, true, .ptr 1 2 0 0), (5, true, .ref 3 1 11 0 q.2.1.length), (6, true, .ref 4 1 15 0 ts.length)],
      [(2, .var [.lst 4 (encTs ts), .lst 2 (encRs rs)]), (11, .row 3 1 (v8 (q.2.1 ++ q.2.2.1))), (15, .row 4 1 (vBs q.2.2.2))]⟩)
    (fun q => smallL ts q.1 q.2.1 q.2.2.2 = B ∧ q.2.2.2.length = ts.length ∧ (∀ z ∈ q.2.1, 0 ≤ z ∧ z < ts.length) ∧ q.2.1.length + 72 * unseen q.2.2.2 ≤ q.1 ∧ q.1 ≤ 1 + 72 * ts.length) (fun q => q.1) (1 + 72 * ts.length, [(t : Int)], [], List.replicate ts.length false)
    (by simp only [go_sem, Nat.reduceBEq, Nat.reduceBneDiff, Nat.reduceLT, Nat.reduceLeDiff, Nat.reduceAdd, Nat.reduceMul, Nat.reduceSub, Nat.reduceEqDiff, reduceCtorEq, hrep'] <;> exact rfl) ⟨hB, by simp, by simp; omega, by simp [unseen] <;> omega, Nat.le_refl _⟩ ?_
  intro ⟨f, l, g, seen⟩ ⟨hL, hsl, hz, hm, hf⟩
  simp only at hL hsl hz hm hf
  clear hB hrep hrep'
  rcases List.eq_nil_or_concat l with rfl | ⟨l', k, rfl⟩
  · have hBt : B = true := by
      rw [← hL]
      cases f with
      | zero => rfl
      | succ f => rfl
    (repeat' (first
    | exact trivial
    | (with_reducible first | refine awA ?_ | refine awB ?_ | refine awC ?_ | refine awD ?_ | refine awE ?_ | refine awF ?_ | refine awG ?_ | refine awH ?_ | refine awI ?_ | refine awJ ?_ | refine awK ?_ | refine awL ?_ | refine awM (by decide) ?_)
    | ((with_reducible first | refine awN (tyOf_ok _) [] ?_ | refine awO (tyOf_ok _) [] ?_ | refine awP (tyOf_ok _) [] ?_ | refine awQ ?_ | refine awR ?_ | refine awS ?_); intro r hr; simp only [go_sem, Nat.reduceBEq, Nat.reduceBneDiff, Nat.reduceLT, Nat.reduceLeDiff, Nat.reduceAdd, Nat.reduceMul, Nat.reduceSub, Nat.reduceEqDiff, reduceCtorEq] at hr; subst hr; (first | refine awV ?_ ?_ | refine awW ?_ ?_ | refine endK ?_ ?_ | (refine condK (fun h => ?_) (fun h => ?_) <;> (try simp only [go_sem, reduceCtorEq] at h) <;> (try (exfalso; omega))))) | fail)) <;> (try omega)
    rw [hBt]; exact rfl
  · rw [List.concat_eq_append] at *
    simp only [List.length_append, List.length_singleton] at hm
    obtain ⟨f, rfl⟩ : ∃ g, f = g + 1 := ⟨f - 1, by omega⟩
    obtain ⟨hk0, hk1⟩ := hz k (by simp)
    obtain ⟨a, rfl⟩ : ∃ a : Nat, k = a := ⟨k.toNat, by omega⟩
    have hal : a < ts.length := by omega
    have hz' : ∀ z ∈ l', 0 ≤ z ∧ z < ts.length := fun z h => hz z (by simp [h])
    rw [smallL, List.getLast?_append] at hL
    simp only [List.getLast?_singleton, Option.some_or, List.dropLast_concat, Int.toNat_natCast] at hL
    have hl1 : (l' ++ [(a : Int)]).length = l'.length + 1 := by simp
    have hw1 : IntKind.i64.wrap (((l'.length + 1 : Nat) : Int) - 1) = l'.length := by rw [wrap_i64 (by omega)]; omega
    have zl : ((l'.length : Int)).toNat = l'.length := by omega
    have za : ((a : Int)).toNat = a := by omega
    have g1 : (v8 ((l' ++ [(a : Int)]) ++ g))[l'.length]? = some [vI a] := by rw [v8_get (by simp)]; simp
    have hgt := encTs_get hal
    have hrt := hr a hal
    have hty := rightOK_ty hrt
    have g2 := vBs_get (l := seen) (k := a) (by omega)
    rw [tyA_lt hal] at hL
    have hgd : seen.getD a false = seen[a]'(by omega) := by simp [List.getElem?_eq_getElem (show a < seen.length by omega)]
    rw [hgd] at hL
    have hun := unseen_set seen a (by omega)
    by_cases hs : seen[a]'(by omega) = true
    · rw [if_pos hs] at hL
      rw [hs] at g2
      have hga : l' ++ [(a : Int)] ++ g = l' ++ ((a : Int) :: g) := by simp
      (repeat' (first
    | exact trivial
    | (with_reducible first | refine awA ?_ | refine awB ?_ | refine awC ?_ | refine awD ?_ | refine awE ?_ | refine awF ?_ | refine awG ?_ | refine awH ?_ | refine awI ?_ | refine awJ ?_ | refine awK ?_ | refine awL ?_ | refine awM (by decide) ?_)
    | ((with_reducible first | refine awN (tyOf_ok _) [] ?_ | refine awO (tyOf_ok _) [] ?_ | refine awP (tyOf_ok _) [] ?_ | refine awQ ?_ | refine awR ?_ | refine awS ?_); intro r hr; simp only [go_sem, Nat.reduceBEq, Nat.reduceBneDiff, Nat.reduceLT, Nat.reduceLeDiff, Nat.reduceAdd, Nat.reduceMul, Nat.reduceSub, Nat.reduceEqDiff, reduceCtorEq, hl1, hw1, zl, za, g1, hgt, g2, Int.toNat_zero, Nat.sub_zero] at hr; subst hr; (first | refine awV ?_ ?_ | refine awW ?_ ?_ | refine endK ?_ ?_ | (refine condK (fun h => ?_) (fun h => ?_) <;> (try simp only [go_sem, reduceCtorEq] at h) <;> (try (exfalso; omega))))) | fail)) <;> (try omega)
      exact ⟨(f, l', (a : Int) :: g, seen), by simp only [go_sem, Nat.reduceBEq, Nat.reduceBneDiff, Nat.reduceLT, Nat.reduceLeDiff, Nat.reduceAdd, Nat.reduceMul, Nat.reduceSub, Nat.reduceEqDiff, reduceCtorEq, hga] <;> exact rfl, ⟨hL, hsl, hz', by simp only; omega, by simp only; omega⟩, by simp only; omega⟩
    · have hs' : seen[a]'(by omega) = false := by simpa using hs
      rw [hs'] at g2
      rw [if_neg hs] at hL
      have hu := hun hs'
      have hset := vBs_set seen a true
      have hga : l' ++ [(a : Int)] ++ g = l' ++ ((a : Int) :: g) := by simp
      have hpl := right_len hrt
      have hset' : (vBs seen).set a [AV.v (.bool true)] = vBs (seen.set a true) := hset
      have hsl' : (seen.set a true).length = ts.length := by rw [List.length_set]; exact hsl
      have hsa := vBs_len seen
      rw [hsl] at hsa
      generalize ts[a] = T at *
      generalize seen.set a true = seen' at *
      by_cases h12 : T.kind = 4 ∧ 12 < T.n
      · have k4 : (T.kind = 4) = True := eq_true h12.1
        have e1 : (12 < T.n) = True := eq_true h12.2
        rw [if_pos h12] at hL
        subst hL
        (repeat' (first
    | exact trivial
    | (with_reducible first | refine awA ?_ | refine awB ?_ | refine awC ?_ | refine awD ?_ | refine awE ?_ | refine awF ?_ | refine awG ?_ | refine awH ?_ | refine awI ?_ | refine awJ ?_ | refine awK ?_ | refine awL ?_ | refine awM (by decide) ?_)
    | ((with_reducible first | refine awN (tyOf_ok _) [] ?_ | refine awO (tyOf_ok _) [] ?_ | refine awP (tyOf_ok _) [] ?_ | refine awQ ?_ | refine awR ?_ | refine awS ?_); intro r hr; simp only [go_sem, Nat.reduceBEq, Nat.reduceBneDiff, Nat.reduceLT, Nat.reduceLeDiff, Nat.reduceAdd, Nat.reduceMul, Nat.reduceSub, Nat.reduceEqDiff, reduceCtorEq, hl1, hw1, zl, za, g1, hgt, g2, Int.toNat_zero, Nat.sub_zero, hset', hsa, k4, e1] at hr; subst hr; (first | refine awV ?_ ?_ | refine awW ?_ ?_ | refine endK ?_ ?_ | (refine condK (fun h => ?_) (fun h => ?_) <;> (try simp only [go_sem, reduceCtorEq] at h) <;> (try (exfalso; omega))))) | fail)) <;> (try omega)
        exact rfl
      rw [if_neg h12] at hL
      have e1 : (decide (T.kind = 4) && decide (12 < T.n)) = false := by simpa using h12
      have htk : (v8 (l' ++ [(a : Int)] ++ g)).take l'.length = v8 l' := by simp [v8]
      (repeat' (first
    | exact trivial
    | (refine go_cutC (.tmp 62) [2, 5, 6, 8] [2, 8, 11, 15] (fun q : List Int × List Int => ⟨[(2, true, .ptr 1 2 0 0), (5, true, .ref 3 1 11 0 q.1.length), (6, true, .ref 4 1 15 0 ts.length), (8, true, .ptr 1 8 0 0)],
          [(2, .var [.lst 4 (encTs ts), .lst 2 (encRs rs)]), (8, .var [vI T.kind, vI T.n, vI T.elem, .lst 3 (encPs T.parts)]), (11, .row 3 1 (v8 (q.1 ++ q.2))), (15, .row 4 1 (vBs seen'))]⟩) (fun q => q.1 = l' ++ (if T.kind = 4 ∨ T.kind = 5 ∨ T.kind = 6 then [T.elem] else [])) (hold ?_) ?_)
    | (with_reducible first | refine awA ?_ | refine awB ?_ | refine awC ?_ | refine awD ?_ | refine awE ?_ | refine awF ?_ | refine awG ?_ | refine awH ?_ | refine awI ?_ | refine awJ ?_ | refine awK ?_ | refine awL ?_ | refine awM (by decide) ?_)
    | ((with_reducible first | refine awN (tyOf_ok _) [] ?_ | refine awO (tyOf_ok _) [] ?_ | refine awP (tyOf_ok _) [] ?_ | refine awQ ?_ | refine awR ?_ | refine awS ?_); intro r hr; simp only [go_sem, Nat.reduceBEq, Nat.reduceBneDiff, Nat.reduceLT, Nat.reduceLeDiff, Nat.reduceAdd, Nat.reduceMul, Nat.reduceSub, Nat.reduceEqDiff, reduceCtorEq, hl1, hw1, zl, za, g1, hgt, g2, Int.toNat_zero, Nat.sub_zero, hset', hsa, e1, htk, v8_app] at hr; subst hr; (first | refine awV ?_ ?_ | refine awW ?_ ?_ | refine endK ?_ ?_ | (refine condK (fun h => ?_) (fun h => ?_) <;> (try simp only [go_sem, reduceCtorEq] at h) <;> (try (exfalso; omega))))) | fail)) <;> (try omega)
      · refine ⟨?_⟩
        by_cases h456 : T.kind = 4 ∨ T.kind = 5 ∨ T.kind = 6
        · have e2 : (decide (T.kind = 4) || decide (T.kind = 5) || decide (T.kind = 6)) = true := by simpa [or_assoc] using h456
          have hl2 : (l' ++ [T.elem]).length = l'.length + 1 := by simp
          (repeat' (first
    | exact trivial
    | (with_reducible first | refine awA ?_ | refine awB ?_ | refine awC ?_ | refine awD ?_ | refine awE ?_ | refine awF ?_ | refine awG ?_ | refine awH ?_ | refine awI ?_ | refine awJ ?_ | refine awK ?_ | refine awL ?_ | refine awM (by decide) ?_)
    | ((with_reducible first | refine awN (tyOf_ok _) [] ?_ | refine awO (tyOf_ok _) [] ?_ | refine awP (tyOf_ok _) [] ?_ | refine awQ ?_ | refine awR ?_ | refine awS ?_); intro r hr; simp only [go_sem, Nat.reduceBEq, Nat.reduceBneDiff, Nat.reduceLT, Nat.reduceLeDiff, Nat.reduceAdd, Nat.reduceMul, Nat.reduceSub, Nat.reduceEqDiff, reduceCtorEq, htk, v8_app, hl2, e2] at hr; subst hr; (first | refine awV ?_ ?_ | refine awW ?_ ?_ | refine endK ?_ ?_ | (refine condK (fun h => ?_) (fun h => ?_) <;> (try simp only [go_sem, reduceCtorEq] at h) <;> (try (exfalso; omega))))) | fail)) <;> (try omega)
          all_goals first | omega | exact ⟨(l' ++ [T.elem], []), by simp only [go_sem, Nat.reduceBEq, Nat.reduceBneDiff, Nat.reduceLT, Nat.reduceLeDiff, Nat.reduceAdd, Nat.reduceMul, Nat.reduceSub, Nat.reduceEqDiff, reduceCtorEq, List.append_nil, hl2] <;> exact rfl, by rw [if_pos h456]⟩ | (simp only [List.length_append]; omega)
        · have e2 : (decide (T.kind = 4) || decide (T.kind = 5) || decide (T.kind = 6)) = false := by simp; omega
          (repeat' (first
    | exact trivial
    | (with_reducible first | refine awA ?_ | refine awB ?_ | refine awC ?_ | refine awD ?_ | refine awE ?_ | refine awF ?_ | refine awG ?_ | refine awH ?_ | refine awI ?_ | refine awJ ?_ | refine awK ?_ | refine awL ?_ | refine awM (by decide) ?_)
    | ((with_reducible first | refine awN (tyOf_ok _) [] ?_ | refine awO (tyOf_ok _) [] ?_ | refine awP (tyOf_ok _) [] ?_ | refine awQ ?_ | refine awR ?_ | refine awS ?_); intro r hr; simp only [go_sem, Nat.reduceBEq, Nat.reduceBneDiff, Nat.reduceLT, Nat.reduceLeDiff, Nat.reduceAdd, Nat.reduceMul, Nat.reduceSub, Nat.reduceEqDiff, reduceCtorEq, e2] at hr; subst hr; (first | refine awV ?_ ?_ | refine awW ?_ ?_ | refine endK ?_ ?_ | (refine condK (fun h => ?_) (fun h => ?_) <;> (try simp only [go_sem, reduceCtorEq] at h) <;> (try (exfalso; omega))))) | fail)) <;> (try omega)
          exact ⟨(l', (a : Int) :: g), by simp only [go_sem, Nat.reduceBEq, Nat.reduceBneDiff, Nat.reduceLT, Nat.reduceLeDiff, Nat.reduceAdd, Nat.reduceMul, Nat.reduceSub, Nat.reduceEqDiff, reduceCtorEq, hga] <;> exact rfl, by rw [if_neg h456, List.append_nil]⟩
      intro ⟨base, G⟩ hb
      simp only at hb
      have hbl : base.length ≤ l'.length + 1 := by rw [hb]; split <;> simp
      have hpt : ∀ p ∈ T.parts, 0 ≤ p.ty ∧ p.ty < ts.length := fun p hp => by have := hty.2 p hp; omega
      have hbz : ∀ z ∈ base, 0 ≤ z ∧ z < ts.length := fun z h => by
        rw [hb, List.mem_append] at h
        rcases h with h | h
        · exact hz' z h
        · split at h
          · rename_i h456
            rw [List.mem_singleton] at h
            subst h
            have := hty.1 h456
            omega
          · cases h
      rw [elemsT, ← List.append_assoc, ← hb] at hL
      clear hb hga e1 h12 htk
      (repeat' (first
    | exact trivial
    | (with_reducible first | refine awA ?_ | refine awB ?_ | refine awC ?_ | refine awD ?_ | refine awE ?_ | refine awF ?_ | refine awG ?_ | refine awH ?_ | refine awI ?_ | refine awJ ?_ | refine awK ?_ | refine awL ?_ | refine awM (by decide) ?_)
    | ((with_reducible first | refine awN (tyOf_ok _) [] ?_ | refine awO (tyOf_ok _) [] ?_ | refine awP (tyOf_ok _) [] ?_ | refine awQ ?_ | refine awR ?_ | refine awS ?_); intro r hr; simp only [go_sem, Nat.reduceBEq, Nat.reduceBneDiff, Nat.reduceLT, Nat.reduceLeDiff, Nat.reduceAdd, Nat.reduceMul, Nat.reduceSub, Nat.reduceEqDiff, reduceCtorEq] at hr; subst hr; (first | refine awV ?_ ?_ | refine awW ?_ ?_ | refine endK ?_ ?_ | (refine condK (fun h => ?_) (fun h => ?_) <;> (try simp only [go_sem, reduceCtorEq] at h) <;> (try (exfalso; omega))))) | fail)) <;> (try omega)
      refine go_loop [2, 5, 6, 8, 9] [2, 8, 11, 15] (fun q : Nat × List Int => ⟨[(2, true, .ptr 1 2 0 0), (5, true, .ref 3 1 11 0 (base.length + q.1)), (6, true, .ref 4 1 15 0 ts.length), (8, true, .ptr 1 8 0 0), (9, true, vI q.1)],
          [(2, .var [.lst 4 (encTs ts), .lst 2 (encRs rs)]), (8, .var [vI T.kind, vI T.n, vI T.elem, .lst 3 (encPs T.parts)]), (11, .row 3 1 (v8 (base ++ (T.parts.take q.1).map (·.ty) ++ q.2))), (15, .row 4 1 (vBs seen'))]⟩)
        (fun q => q.1 ≤ T.parts.length) (fun q => T.parts.length - q.1) (0, G) (by simp only [go_sem, Nat.reduceBEq, Nat.reduceBneDiff, Nat.reduceLT, Nat.reduceLeDiff, Nat.reduceAdd, Nat.reduceMul, Nat.reduceSub, Nat.reduceEqDiff, reduceCtorEq, List.take_zero, List.map_nil, List.append_nil, Nat.add_zero] <;> exact rfl) (Nat.zero_le _) ?_
      intro ⟨j, G'⟩ hj
      simp only at hj
      have hwj := wrap_i64 (n := (j : Int) + 1) (by omega)
      have hlj : (base ++ (T.parts.take j).map (·.ty)).length = base.length + j := by simp; omega
      by_cases hlt : j < T.parts.length
      · have f1 : ((j : Int) < T.parts.length) = True := eq_true (by omega)
        have g3 := encPs_get hlt
        have hnx : (T.parts.take (j + 1)).map (·.ty) = (T.parts.take j).map (·.ty) ++ [T.parts[j].ty] := by rw [List.take_succ_eq_append_getElem hlt, List.map_append]; rfl
        have htk2 : (v8 (base ++ (T.parts.take j).map (·.ty) ++ G')).take (base.length + j) = v8 (base ++ (T.parts.take j).map (·.ty)) := by rw [v8_take, List.take_append_of_le_length (by omega), List.take_of_length_le (by omega)]
        have hl3 : (base ++ (T.parts.take j).map (·.ty) ++ [T.parts[j].ty]).length = base.length + (j + 1) := by rw [List.length_append, hlj]; rfl
        (repeat' (first
    | exact trivial
    | (with_reducible first | refine awA ?_ | refine awB ?_ | refine awC ?_ | refine awD ?_ | refine awE ?_ | refine awF ?_ | refine awG ?_ | refine awH ?_ | refine awI ?_ | refine awJ ?_ | refine awK ?_ | refine awL ?_ | refine awM (by decide) ?_)
    | ((with_reducible first | refine awN (tyOf_ok _) [] ?_ | refine awO (tyOf_ok _) [] ?_ | refine awP (tyOf_ok _) [] ?_ | refine awQ ?_ | refine awR ?_ | refine awS ?_); intro r hr; simp only [go_sem, Nat.reduceBEq, Nat.reduceBneDiff, Nat.reduceLT, Nat.reduceLeDiff, Nat.reduceAdd, Nat.reduceMul, Nat.reduceSub, Nat.reduceEqDiff, reduceCtorEq, hwj, f1, g3, htk2, v8_app, hl3] at hr; subst hr; (first | refine awV ?_ ?_ | refine awW ?_ ?_ | refine endK ?_ ?_ | (refine condK (fun h => ?_) (fun h => ?_) <;> (try simp only [go_sem, reduceCtorEq] at h) <;> (try (exfalso; omega))))) | fail)) <;> (try omega)
        all_goals first | (simp only [List.length_append, List.length_map, List.length_take]; omega) | exact ⟨(j + 1, []), by simp only [go_sem, Nat.reduceBEq, Nat.reduceBneDiff, Nat.reduceLT, Nat.reduceLeDiff, Nat.reduceAdd, Nat.reduceMul, Nat.reduceSub, Nat.reduceEqDiff, reduceCtorEq, hnx, List.append_nil, List.append_assoc] <;> exact rfl, hlt, by simp only; omega⟩
      · have f1 : ((j : Int) < T.parts.length) = False := eq_false (by omega)
        have hjl : j = T.parts.length := by omega
        subst hjl
        rw [List.take_length]
        (repeat' (first
    | exact trivial
    | (with_reducible first | refine awA ?_ | refine awB ?_ | refine awC ?_ | refine awD ?_ | refine awE ?_ | refine awF ?_ | refine awG ?_ | refine awH ?_ | refine awI ?_ | refine awJ ?_ | refine awK ?_ | refine awL ?_ | refine awM (by decide) ?_)
    | ((with_reducible first | refine awN (tyOf_ok _) [] ?_ | refine awO (tyOf_ok _) [] ?_ | refine awP (tyOf_ok _) [] ?_ | refine awQ ?_ | refine awR ?_ | refine awS ?_); intro r hr; simp only [go_sem, Nat.reduceBEq, Nat.reduceBneDiff, Nat.reduceLT, Nat.reduceLeDiff, Nat.reduceAdd, Nat.reduceMul, Nat.reduceSub, Nat.reduceEqDiff, reduceCtorEq, hwj, f1] at hr; subst hr; (first | refine awV ?_ ?_ | refine awW ?_ ?_ | refine endK ?_ ?_ | (refine condK (fun h => ?_) (fun h => ?_) <;> (try simp only [go_sem, reduceCtorEq] at h) <;> (try (exfalso; omega))))) | fail)) <;> (try omega)
        refine ⟨(f, base ++ T.parts.map (·.ty), G', seen'), by simp only [go_sem, Nat.reduceBEq, Nat.reduceBneDiff, Nat.reduceLT, Nat.reduceLeDiff, Nat.reduceAdd, Nat.reduceMul, Nat.reduceSub, Nat.reduceEqDiff, reduceCtorEq, List.length_append, List.length_map] <;> exact rfl, ⟨hL, hsl', fun z h => ?_, by simp only [List.length_append, List.length_map]; omega, by simp only; omega⟩, by simp only; omega⟩
        rcases List.mem_append.1 h with h | h
        · exact hbz z h
        · obtain ⟨p, hp, rfl⟩ := List.mem_map.1 h
          exact hpt p hp
end Go.Proofs.Ytfgacgpicfknpaa
end
section
namespace Go.Proofs.Ytfgacgpicfknpaa
open Go.RowKit
/-! A schema whose lists are short. -/
def shortP (t : TypeM) : TypeM := if t.kind = 5 then ⟨t.kind, min t.n 3, t.elem, t.parts⟩ else t
def shortT (ts : List TypeM) : List TypeM := ts.map shortP
theorem short_len (ts : List TypeM) : (shortT ts).length = ts.length := by simp [shortT]
theorem short_get {ts : List TypeM} {k : Nat} (h : k < ts.length) : (shortT ts)[k]'(by rw [short_len]; exact h) = shortP ts[k] := by simp [shortT]
theorem shortP_eq (t : TypeM) : (shortP t).kind = t.kind ∧ (shortP t).elem = t.elem ∧ (shortP t).parts = t.parts ∧ (t.kind ≠ 5 → (shortP t).n = t.n) ∧ (t.kind = 5 → (shortP t).n = min t.n 3) := by
  unfold shortP
  split
  · exact ⟨rfl, rfl, rfl, fun h => absurd ‹_› h, fun _ => rfl⟩
  · exact ⟨rfl, rfl, rfl, fun _ => rfl, fun h => absurd h ‹_›⟩
theorem short_right {t : TypeM} {k : Int} (h : rightOK t k = true) : rightOK (shortP t) k = true := by
  obtain ⟨h1, h2, h3, h4, h5⟩ := shortP_eq t
  rw [rightOK, h1, h2, h3]
  rw [rightOK] at h
  by_cases hk : t.kind = 5
  · rw [h5 hk]
    simp only [Bool.and_eq_true] at h ⊢
    refine ⟨?_, h.2⟩
    have hn := h.1
    rw [numberOK, if_neg (by omega), if_pos (.inr hk)] at hn ⊢
    simp only [Bool.and_eq_true, decide_eq_true_eq] at hn ⊢
    omega
  · rw [h4 hk]; exact h
theorem dep_short (ds : List Int) (t : TypeM) : dep ds (shortP t) = dep ds t := by
  obtain ⟨h1, h2, h3, _, _⟩ := shortP_eq t
  rw [dep, dep, dep0, dep0, h1, h2, h3]
theorem deps_short (l : List TypeM) : deps (shortT l) = deps l := by
  have h : ∀ (l : List TypeM) (ds : List Int), (shortT l).foldl (fun ds t => ds ++ [dep ds t]) ds = l.foldl (fun ds t => ds ++ [dep ds t]) ds := by
    intro l
    induction l with
    | nil => intro ds; rfl
    | cons t l ih => intro ds; simp only [shortT, List.map_cons, List.foldl_cons, dep_short]; exact ih _
  exact h l []
theorem short_check {ts : List TypeM} {rs : List RootM} (h : (checkF ts rs).1 = 0) : (checkF (shortT ts) rs).1 = 0 := by
  have hr := check_right h
  have h1 : ∀ l : List TypeM, (∀ (k : Nat) (hk : k < l.length), rightOK l[k] k = true) → (List.range l.length).find? (wrongType l) = none := fun l hl => find_none fun i hi => by
    rw [wrongType, List.getElem?_eq_getElem hi]; simp [hl i hi]
  have g1 := h1 ts hr
  have g2 := h1 (shortT ts) fun k hk => by rw [short_len] at hk; rw [short_get hk]; exact short_right (hr k hk)
  have hd : ∀ k, tooDeep (shortT ts) k = tooDeep ts k := fun k => by
    unfold tooDeep
    have e1 : (shortT ts).take k = shortT (ts.take k) := by simp [shortT, List.map_take]
    rw [e1, deps_short]
    have e2 : dep (deps (ts.take k)) (((shortT ts)[k]?).getD ⟨0, 0, 0, []⟩) = dep (deps (ts.take k)) ((ts[k]?).getD ⟨0, 0, 0, []⟩) := by
      cases hk : ts[k]? with
      | none => simp [shortT, hk]
      | some t => simp [shortT, hk, dep_short]
    rw [e2]
  have hdf : deepF (shortT ts) = deepF ts := by
    unfold deepF
    rw [short_len, funext hd]
  unfold checkF at h ⊢
  rw [g1] at h
  rw [g2]
  simp only at h ⊢
  rw [hdf, short_len]
  exact h
theorem elem_short (t : TypeM) (n : Int) (k : Nat) : elemF (shortP t) n k = elemF t n k := by
  obtain ⟨h1, h2, h3, _, _⟩ := shortP_eq t
  rw [elemF, elemF, h1, h2, h3]
theorem fits_short {t : TypeM} {x : NodeM} (h : fitsF (shortP t) x = 0) : fitsF t x = 0 := by
  obtain ⟨h1, h2, h3, h4, h5⟩ := shortP_eq t
  by_cases hk : t.kind = 5
  · obtain ⟨f1, _, _, f5, _, _⟩ := fits_parts h
    rw [h1] at f1
    have := f5 (by rw [h1]; exact hk)
    rw [h5 hk] at this
    unfold fitsF
    rw [if_neg (by omega), if_neg (by omega), if_neg (by omega), if_neg (by omega)]
  · have : shortP t = t := by unfold shortP; rw [if_neg hk]
    rwa [this] at h
theorem tyA_short {ts : List TypeM} {t : Nat} (h : t < ts.length) : tyA (shortT ts) t = shortP (tyA ts t) := by
  rw [tyA_lt (by rw [short_len]; exact h), short_get h, tyA_lt h]
theorem typed_short {ts : List TypeM} : ∀ (n : Nat) (c : Tr), c.flat.length ≤ n → ∀ t, c.typed (shortT ts) t → c.typed ts t
  | 0, c, h => absurd (flat_pos c) (by omega)
  | n + 1, .node x ks, h => fun t ⟨h1, h2, h3, h4, h5⟩ => by
    simp only [Tr.flat, List.length_cons] at h
    rw [short_len] at h1
    rw [tyA_short h1] at h2 h5
    have hL : ∀ (l : List Tr), (∀ c ∈ l, c.flat.length ≤ n) → ∀ (T : TypeM) (m : Int) (k : Nat), Tr.typed.typedL (shortT ts) (shortP T) m l k → Tr.typed.typedL ts T m l k := by
      intro l
      induction l with
      | nil => intro _ _ _ _ _; trivial
      | cons c cs ih => exact fun hc T m k ⟨g1, g2⟩ => ⟨by rw [elem_short] at g1; exact typed_short n c (hc c (.head _)) _ g1, ih (fun d hd => hc d (.tail _ hd)) T m (k + 1) g2⟩
    exact ⟨h1, fits_short h2, h3, h4, hL ks (fun c hc => by have := flatL_mem hc; omega) _ _ _ h5⟩
end Go.Proofs.Ytfgacgpicfknpaa
end
section
namespace Go.Proofs.Ytfgacgpicfknpaa
open Go.RowKit
set_option maxRecDepth 100000
set_option maxHeartbeats 4000000
theorem plus12_p (a b : Int) (ha : I64 a) (hb : I64 b) : PCall Try.prog 101 [.lst 1 [[vI a], [vI b]]] (fun x => x = vI (plusL [a, b])) :=
  plus1_p (zs := [a, b]) (fun z hz => by simp at hz; rcases hz with rfl | rfl <;> assumption)
theorem rplus_any (a b : Int) (ha : I64 a) (hb : I64 b) : PCall Try.prog 89 [vI a, vI b] (fun r => r = vI (plusL [a, b])) := by
  refine go_fn (tyOf_ok _) Try.func89 rfl rfl (by rw [Try.results89]) Try.ntmps89 rfl fun E => ?_
  (repeat' (first
    | exact trivial
    | (with_reducible first | refine awA ?_ | refine awB ?_ | refine awC ?_ | refine awD ?_ | refine awE ?_ | refine awF ?_ | refine awG ?_ | refine awH ?_ | refine awI ?_ | refine awJ ?_ | refine awK ?_ | refine awL ?_ | refine awM (by decide) ?_)
    | ((with_reducible first | refine awN (tyOf_ok _) [] ?_ | refine awO (tyOf_ok _) [] ?_ | refine awP (tyOf_ok _) [] ?_ | refine awQ ?_ | refine awR ?_ | refine awS ?_); intro r hr; simp only [go_sem, Nat.reduceBEq, Nat.reduceBneDiff, Nat.reduceLT, Nat.reduceLeDiff, Nat.reduceAdd, Nat.reduceMul, Nat.reduceSub, Nat.reduceEqDiff, reduceCtorEq] at hr; subst hr; (first | refine caA (fun _ => plus12_p a b ha hb) rfl ?_ ?_ ?_ | refine awV ?_ ?_ | refine awW ?_ ?_ | refine endK ?_ ?_ | (refine condK (fun h => ?_) (fun h => ?_) <;> (try simp only [go_sem, reduceCtorEq] at h) <;> (try (exfalso; omega))))) | fail)) <;> (try omega)
  exact rfl
theorem rtimes_any (a b : Int) (ha : I64 a) (hb : I64 b) : PCall Try.prog 88 [vI a, vI b] (fun r => r = vI (timesS a b)) := by
  refine go_fn (tyOf_ok _) Try.func88 rfl rfl (by rw [Try.results88]) Try.ntmps88 rfl fun E => ?_
  (repeat' (first
    | exact trivial
    | (with_reducible first | refine awA ?_ | refine awB ?_ | refine awC ?_ | refine awD ?_ | refine awE ?_ | refine awF ?_ | refine awG ?_ | refine awH ?_ | refine awI ?_ | refine awJ ?_ | refine awK ?_ | refine awL ?_ | refine awM (by decide) ?_)
    | ((with_reducible first | refine awN (tyOf_ok _) [] ?_ | refine awO (tyOf_ok _) [] ?_ | refine awP (tyOf_ok _) [] ?_ | refine awQ ?_ | refine awR ?_ | refine awS ?_); intro r hr; simp only [go_sem, Nat.reduceBEq, Nat.reduceBneDiff, Nat.reduceLT, Nat.reduceLeDiff, Nat.reduceAdd, Nat.reduceMul, Nat.reduceSub, Nat.reduceEqDiff, reduceCtorEq] at hr; subst hr; (first | refine caA (fun _ => times1_p ha hb) rfl ?_ ?_ ?_ | refine awV ?_ ?_ | refine awW ?_ ?_ | refine endK ?_ ?_ | (refine condK (fun h => ?_) (fun h => ?_) <;> (try simp only [go_sem, reduceCtorEq] at h) <;> (try (exfalso; omega))))) | fail)) <;> (try omega)
  exact rfl
theorem rpart_any (e : ExtM) (h1 : I64 e.least) (h2 : I64 e.most) : PCall Try.prog 87 [.agg [vB e.fixed, vI e.least, vI e.most, vI e.depth]] (fun r => r = .tup [vI (withinM e.fixed e.least), vI (withinM e.fixed e.most)]) := by
  have h4 : I64 4 := by unfold I64; omega
  refine go_fn (tyOf_ok _) Try.func87 rfl rfl (by rw [Try.results87]) Try.ntmps87 rfl fun E => ?_
  (repeat' (first
    | exact trivial
    | (with_reducible first | refine awA ?_ | refine awB ?_ | refine awC ?_ | refine awD ?_ | refine awE ?_ | refine awF ?_ | refine awG ?_ | refine awH ?_ | refine awI ?_ | refine awJ ?_ | refine awK ?_ | refine awL ?_ | refine awM (by decide) ?_)
    | (refine aw_draw (id := 2) (t := (.node [0, 1, 2, 3, 4, 5] [])) (drR [1] [] []) mixed (by kernel_rfl) (by kernel_rfl) (fun _ _ h => h) ?_)
    | (refine aw_draw (id := 3) (t := (.node [0, 1, 3, 4, 2, 5, 6, 7] [])) (drR [1] [] []) mixed (by kernel_rfl) (by kernel_rfl) (fun _ _ h => h) ?_)
    | (refine at_done (by simp only [List.filterMap_cons, List.filterMap_nil, List.getElem?_toArray, List.getElem?_cons_zero, List.getElem?_cons_succ]; exact rfl) ?_) | (refine at_alt (by simp only [List.filterMap_cons, List.filterMap_nil, List.getElem?_toArray, List.getElem?_cons_zero, List.getElem?_cons_succ]; exact rfl) ?_) | refine qalt_normal ?_ | refine ats_cons ?_ ?_ | exact ats_nil
    | ((with_reducible first | refine awN (tyOf_ok _) [] ?_ | refine awO (tyOf_ok _) [] ?_ | refine awP (tyOf_ok _) [] ?_ | refine awQ ?_ | refine awR ?_ | refine awS ?_); intro r hr; simp only [go_sem, Nat.reduceBEq, Nat.reduceBneDiff, Nat.reduceLT, Nat.reduceLeDiff, Nat.reduceAdd, Nat.reduceMul, Nat.reduceSub, Nat.reduceEqDiff, reduceCtorEq] at hr; subst hr; (first | refine caA (fun _ => rplus_any 4 _ h4 h1) rfl ?_ ?_ ?_ | refine caA (fun _ => rplus_any 4 _ h4 h2) rfl ?_ ?_ ?_ | refine awV ?_ ?_ | refine awW ?_ ?_ | refine endK ?_ ?_ | (refine condK (fun h => ?_) (fun h => ?_) <;> (try simp only [go_sem, reduceCtorEq] at h) <;> (try (exfalso; omega))))) | fail)) <;> (try omega)
  · rw [withinM, if_pos h, withinM, if_pos h]; exact rfl
  · rw [withinM, if_neg (by rw [h]; decide), withinM, if_neg (by rw [h]; decide)]; exact rfl
end Go.Proofs.Ytfgacgpicfknpaa
end
section
namespace Go.Proofs.Ytfgacgpicfknpaa
open Go.RowKit
set_option maxRecDepth 100000
set_option maxHeartbeats 8000000
/-! mortiseref10.leaf, one, Of: the same extents. -/
theorem rleaf_any (t : TypeM) (L : List ExtM) (hk : t.kind = 1 ∨ t.kind = 2 ∨ t.kind = 3) : PCall Try.prog 90 [.agg [vI t.kind, vI t.n, vI t.elem, .lst 3 (encPs t.parts)]] (fun r => r = vE (extM t L)) := by
  refine go_fn (tyOf_ok _) Try.func90 rfl rfl (by rw [Try.results90]) Try.ntmps90 rfl fun E => ?_
  rcases hk with h | h | h
  · have k1 : (t.kind = 1) = True := eq_true h
    generalize hE : extM t L = e
    unfold extM at hE
    rw [if_pos h] at hE
    subst hE
    (repeat' (first
    | exact trivial
    | (with_reducible first | refine awA ?_ | refine awB ?_ | refine awC ?_ | refine awD ?_ | refine awE ?_ | refine awF ?_ | refine awG ?_ | refine awH ?_ | refine awI ?_ | refine awJ ?_ | refine awK ?_ | refine awL ?_ | refine awM (by decide) ?_)
    | ((with_reducible first | refine awN (tyOf_ok _) [] ?_ | refine awO (tyOf_ok _) [] ?_ | refine awP (tyOf_ok _) [] ?_ | refine awQ ?_ | refine awR ?_ | refine awS ?_); intro r hr; simp only [go_sem, Nat.reduceBEq, Nat.reduceBneDiff, Nat.reduceLT, Nat.reduceLeDiff, Nat.reduceAdd, Nat.reduceMul, Nat.reduceSub, Nat.reduceEqDiff, reduceCtorEq, k1] at hr; subst hr; (first | refine awV ?_ ?_ | refine awW ?_ ?_ | refine endK ?_ ?_ | (refine condK (fun h => ?_) (fun h => ?_) <;> (try simp only [go_sem, reduceCtorEq] at h) <;> (try (exfalso; omega))))) | fail)) <;> (try omega)
    exact rfl
  · have k1 : (t.kind = 1) = False := eq_false (by omega)
    have k2 : (t.kind = 2) = True := eq_true h
    generalize hE : extM t L = e
    unfold extM at hE
    rw [if_neg (by omega), if_pos h] at hE
    subst hE
    (repeat' (first
    | exact trivial
    | (with_reducible first | refine awA ?_ | refine awB ?_ | refine awC ?_ | refine awD ?_ | refine awE ?_ | refine awF ?_ | refine awG ?_ | refine awH ?_ | refine awI ?_ | refine awJ ?_ | refine awK ?_ | refine awL ?_ | refine awM (by decide) ?_)
    | ((with_reducible first | refine awN (tyOf_ok _) [] ?_ | refine awO (tyOf_ok _) [] ?_ | refine awP (tyOf_ok _) [] ?_ | refine awQ ?_ | refine awR ?_ | refine awS ?_); intro r hr; simp only [go_sem, Nat.reduceBEq, Nat.reduceBneDiff, Nat.reduceLT, Nat.reduceLeDiff, Nat.reduceAdd, Nat.reduceMul, Nat.reduceSub, Nat.reduceEqDiff, reduceCtorEq, k1, k2] at hr; subst hr; (first | refine awV ?_ ?_ | refine awW ?_ ?_ | refine endK ?_ ?_ | (refine condK (fun h => ?_) (fun h => ?_) <;> (try simp only [go_sem, reduceCtorEq] at h) <;> (try (exfalso; omega))))) | fail)) <;> (try omega)
    exact rfl
  · have k1 : (t.kind = 1) = False := eq_false (by omega)
    have k2 : (t.kind = 2) = False := eq_false (by omega)
    generalize hE : extM t L = e
    unfold extM at hE
    rw [if_neg (by omega), if_neg (by omega), if_pos h] at hE
    subst hE
    (repeat' (first
    | exact trivial
    | (with_reducible first | refine awA ?_ | refine awB ?_ | refine awC ?_ | refine awD ?_ | refine awE ?_ | refine awF ?_ | refine awG ?_ | refine awH ?_ | refine awI ?_ | refine awJ ?_ | refine awK ?_ | refine awL ?_ | refine awM (by decide) ?_)
    | ((with_reducible first | refine awN (tyOf_ok _) [] ?_ | refine awO (tyOf_ok _) [] ?_ | refine awP (tyOf_ok _) [] ?_ | refine awQ ?_ | refine awR ?_ | refine awS ?_); intro r hr; simp only [go_sem, Nat.reduceBEq, Nat.reduceBneDiff, Nat.reduceLT, Nat.reduceLeDiff, Nat.reduceAdd, Nat.reduceMul, Nat.reduceSub, Nat.reduceEqDiff, reduceCtorEq, k1, k2] at hr; subst hr; (first | refine awV ?_ ?_ | refine awW ?_ ?_ | refine endK ?_ ?_ | (refine condK (fun h => ?_) (fun h => ?_) <;> (try simp only [go_sem, reduceCtorEq] at h) <;> (try (exfalso; omega))))) | fail)) <;> (try omega)
    exact rfl
def extD (e : ExtM) : Prop := extG e ∧ e.depth ≤ 1000000000000
theorem plus_max {a b : Int} (ha : 0 ≤ a ∧ a ≤ 4611686018427387904) (hb : 0 ≤ b ∧ b ≤ 4611686018427387904) : max (plusL [1, a]) (plusL [1, b]) = plusL [1, max a b] := by
  rw [plus2 (by omega) ha, plus2 (by omega) hb, plus2 (by omega) (by omega)]; omega
theorem rone_any (t : TypeM) (L : List ExtM) (hr : rightOK t L.length = true) (hL : ∀ e ∈ L, extD e) :
    PCall Try.prog 67 [.agg [vI t.kind, vI t.n, vI t.elem, .lst 3 (encPs t.parts)], .lst 4 (encEs L)] (fun r => r = vE (extM t L)) := by
  have hty := rightOK_ty hr
  have hat : ∀ i : Int, 0 ≤ i → i < L.length → extD (atE L i) := fun i h0 h1 => by
    rw [atE_get (by omega)]; exact hL _ (List.getElem_mem _)
  refine go_fn (tyOf_ok _) Try.func67 rfl rfl (by rw [Try.results67]) Try.ntmps67 rfl fun E => ?_
  rcases rightOK_kind hr with hk | hk | hk
  · have hlf := rleaf_any t L hk
    have k4 : (t.kind = 4) = False := eq_false (by omega)
    have k5 : (t.kind = 5) = False := eq_false (by omega)
    have k6 : (t.kind = 6) = False := eq_false (by omega)
    have k7 : (t.kind = 7) = False := eq_false (by omega)
    have k8 : (t.kind = 8) = False := eq_false (by omega)
    unfold vE at hlf ⊢
    (repeat' (first
    | exact trivial
    | (with_reducible first | refine awA ?_ | refine awB ?_ | refine awC ?_ | refine awD ?_ | refine awE ?_ | refine awF ?_ | refine awG ?_ | refine awH ?_ | refine awI ?_ | refine awJ ?_ | refine awK ?_ | refine awL ?_ | refine awM (by decide) ?_)
    | (refine aw_draw (id := 4) (t := (.node [0, 1, 2, 3, 4, 5, 6, 7, 8, 10, 11, 12, 14, 15, 16, 17, 18, 19, 20, 9, 13, 21, 22] [])) (drR [2] [35, 49] []) mixed (by kernel_rfl) (by kernel_rfl) (fun _ _ h => h) ?_)
    | (refine aw_draw (id := 7) (t := (.node [0, 1, 2, 4, 5, 6, 7, 8, 9, 10, 3, 11, 12] [])) (drR [2] [72] []) mixed (by kernel_rfl) (by kernel_rfl) (fun _ _ h => h) ?_)
    | (refine aw_draw (id := 9) (t := (.node [0, 1, 2, 3, 4, 5, 7, 8, 9, 10, 11, 12, 13, 6, 14, 15] [])) (drR [2] [82, 89] []) mixed (by kernel_rfl) (by kernel_rfl) (fun _ _ h => h) ?_)
    | (refine aw_draw (id := 17) (t := (.node [0, 1, 3, 4, 6, 7, 8, 2, 5, 9, 10] [])) (drR [9] [] []) mixed (by kernel_rfl) (by kernel_rfl) (fun _ _ h => h) ?_)
    | (refine aw_draw (id := 25) (t := (.node [0, 1, 2, 3, 4, 5, 6, 7, 8, 10, 11, 12, 14, 15, 16, 17, 18, 9, 13, 19, 20] [])) (drR [14] [169, 175, 179, 183] []) mixed (by kernel_rfl) (by kernel_rfl) (fun _ _ h => h) ?_)
    | (refine at_done (by simp only [List.filterMap_cons, List.filterMap_nil, List.getElem?_toArray, List.getElem?_cons_zero, List.getElem?_cons_succ]; exact rfl) ?_) | (refine at_alt (by simp only [List.filterMap_cons, List.filterMap_nil, List.getElem?_toArray, List.getElem?_cons_zero, List.getElem?_cons_succ]; exact rfl) ?_) | refine qalt_normal ?_ | refine ats_cons ?_ ?_ | exact ats_nil
    | ((with_reducible first | refine awN (tyOf_ok _) [] ?_ | refine awO (tyOf_ok _) [] ?_ | refine awP (tyOf_ok _) [] ?_ | refine awQ ?_ | refine awR ?_ | refine awS ?_); intro r hr; simp only [go_sem, Nat.reduceBEq, Nat.reduceBneDiff, Nat.reduceLT, Nat.reduceLeDiff, Nat.reduceAdd, Nat.reduceMul, Nat.reduceSub, Nat.reduceEqDiff, reduceCtorEq, k4, k5, k6, k7, k8] at hr; subst hr; (first | refine caA (fun _ => hlf) rfl ?_ ?_ ?_ | refine awV ?_ ?_ | refine awW ?_ ?_ | refine endK ?_ ?_ | (refine condK (fun h => ?_) (fun h => ?_) <;> (try simp only [go_sem, reduceCtorEq] at h) <;> (try (exfalso; omega))))) | fail)) <;> (try omega)
    exact rfl
  · have he := hty.1 hk
    have hn := rightOK_n hr hk
    have g1 := encEs_atI (L := L) he.1 he.2
    obtain ⟨hG, hD⟩ := hat _ he.1 he.2
    unfold extG at hG
    have hpt := rpart_any (atE L t.elem) (by unfold I64; omega) (by unfold I64; omega)
    have w1 := withinM_bd (f := (atE L t.elem).fixed) (b := (atE L t.elem).least) (by omega)
    have w2 := withinM_bd (f := (atE L t.elem).fixed) (b := (atE L t.elem).most) (by omega)
    have hd := wrap_i64 (n := 1 + (atE L t.elem).depth) (by omega)
    have t1 := rtimes_any t.n (withinM (atE L t.elem).fixed (atE L t.elem).least) (by unfold I64; omega) (by unfold I64; omega)
    have t2 := rtimes_any t.n (withinM (atE L t.elem).fixed (atE L t.elem).most) (by unfold I64; omega) (by unfold I64; omega)
    have p1 := rplus_any 1 (atE L t.elem).most (by decide) (by unfold I64; omega)
    rcases hk with h | h | h
    · have k4 : (t.kind = 4) = True := eq_true h
      generalize hE : extM t L = e
      unfold extM at hE
      rw [if_neg (by omega), if_neg (by omega), if_neg (by omega), if_pos h] at hE
      subst hE
      (repeat' (first
    | exact trivial
    | (with_reducible first | refine awA ?_ | refine awB ?_ | refine awC ?_ | refine awD ?_ | refine awE ?_ | refine awF ?_ | refine awG ?_ | refine awH ?_ | refine awI ?_ | refine awJ ?_ | refine awK ?_ | refine awL ?_ | refine awM (by decide) ?_)
    | (refine aw_draw (id := 4) (t := (.node [0, 1, 2, 3, 4, 5, 6, 7, 8, 10, 11, 12, 14, 15, 16, 17, 18, 19, 20, 9, 13, 21, 22] [])) (drR [2] [35, 49] []) mixed (by kernel_rfl) (by kernel_rfl) (fun _ _ h => h) ?_)
    | (refine aw_draw (id := 7) (t := (.node [0, 1, 2, 4, 5, 6, 7, 8, 9, 10, 3, 11, 12] [])) (drR [2] [72] []) mixed (by kernel_rfl) (by kernel_rfl) (fun _ _ h => h) ?_)
    | (refine aw_draw (id := 9) (t := (.node [0, 1, 2, 3, 4, 5, 7, 8, 9, 10, 11, 12, 13, 6, 14, 15] [])) (drR [2] [82, 89] []) mixed (by kernel_rfl) (by kernel_rfl) (fun _ _ h => h) ?_)
    | (refine aw_draw (id := 17) (t := (.node [0, 1, 3, 4, 6, 7, 8, 2, 5, 9, 10] [])) (drR [9] [] []) mixed (by kernel_rfl) (by kernel_rfl) (fun _ _ h => h) ?_)
    | (refine aw_draw (id := 25) (t := (.node [0, 1, 2, 3, 4, 5, 6, 7, 8, 10, 11, 12, 14, 15, 16, 17, 18, 9, 13, 19, 20] [])) (drR [14] [169, 175, 179, 183] []) mixed (by kernel_rfl) (by kernel_rfl) (fun _ _ h => h) ?_)
    | (refine at_done (by simp only [List.filterMap_cons, List.filterMap_nil, List.getElem?_toArray, List.getElem?_cons_zero, List.getElem?_cons_succ]; exact rfl) ?_) | (refine at_alt (by simp only [List.filterMap_cons, List.filterMap_nil, List.getElem?_toArray, List.getElem?_cons_zero, List.getElem?_cons_succ]; exact rfl) ?_) | refine qalt_normal ?_ | refine ats_cons ?_ ?_ | exact ats_nil
    | ((with_reducible first | refine awN (tyOf_ok _) [] ?_ | refine awO (tyOf_ok _) [] ?_ | refine awP (tyOf_ok _) [] ?_ | refine awQ ?_ | refine awR ?_ | refine awS ?_); intro r hr; simp only [go_sem, Nat.reduceBEq, Nat.reduceBneDiff, Nat.reduceLT, Nat.reduceLeDiff, Nat.reduceAdd, Nat.reduceMul, Nat.reduceSub, Nat.reduceEqDiff, reduceCtorEq, encEs_len, g1, k4, hd] at hr; subst hr; (first | refine caA (fun _ => hpt) rfl ?_ ?_ ?_ | refine caA (fun _ => t1) rfl ?_ ?_ ?_ | refine caA (fun _ => t2) rfl ?_ ?_ ?_ | refine awV ?_ ?_ | refine awW ?_ ?_ | refine endK ?_ ?_ | (refine condK (fun h => ?_) (fun h => ?_) <;> (try simp only [go_sem, reduceCtorEq] at h) <;> (try (exfalso; omega))))) | fail)) <;> (try omega)
      exact rfl
    · have k4 : (t.kind = 4) = False := eq_false (by omega)
      have k5 : (t.kind = 5) = True := eq_true h
      generalize hE : extM t L = e
      unfold extM at hE
      rw [if_neg (by omega), if_neg (by omega), if_neg (by omega), if_neg (by omega), if_pos h] at hE
      subst hE
      (repeat' (first
    | exact trivial
    | (with_reducible first | refine awA ?_ | refine awB ?_ | refine awC ?_ | refine awD ?_ | refine awE ?_ | refine awF ?_ | refine awG ?_ | refine awH ?_ | refine awI ?_ | refine awJ ?_ | refine awK ?_ | refine awL ?_ | refine awM (by decide) ?_)
    | (refine aw_draw (id := 4) (t := (.node [0, 1, 2, 3, 4, 5, 6, 7, 8, 10, 11, 12, 14, 15, 16, 17, 18, 19, 20, 9, 13, 21, 22] [])) (drR [2] [35, 49] []) mixed (by kernel_rfl) (by kernel_rfl) (fun _ _ h => h) ?_)
    | (refine aw_draw (id := 7) (t := (.node [0, 1, 2, 4, 5, 6, 7, 8, 9, 10, 3, 11, 12] [])) (drR [2] [72] []) mixed (by kernel_rfl) (by kernel_rfl) (fun _ _ h => h) ?_)
    | (refine aw_draw (id := 9) (t := (.node [0, 1, 2, 3, 4, 5, 7, 8, 9, 10, 11, 12, 13, 6, 14, 15] [])) (drR [2] [82, 89] []) mixed (by kernel_rfl) (by kernel_rfl) (fun _ _ h => h) ?_)
    | (refine aw_draw (id := 17) (t := (.node [0, 1, 3, 4, 6, 7, 8, 2, 5, 9, 10] [])) (drR [9] [] []) mixed (by kernel_rfl) (by kernel_rfl) (fun _ _ h => h) ?_)
    | (refine aw_draw (id := 25) (t := (.node [0, 1, 2, 3, 4, 5, 6, 7, 8, 10, 11, 12, 14, 15, 16, 17, 18, 9, 13, 19, 20] [])) (drR [14] [169, 175, 179, 183] []) mixed (by kernel_rfl) (by kernel_rfl) (fun _ _ h => h) ?_)
    | (refine at_done (by simp only [List.filterMap_cons, List.filterMap_nil, List.getElem?_toArray, List.getElem?_cons_zero, List.getElem?_cons_succ]; exact rfl) ?_) | (refine at_alt (by simp only [List.filterMap_cons, List.filterMap_nil, List.getElem?_toArray, List.getElem?_cons_zero, List.getElem?_cons_succ]; exact rfl) ?_) | refine qalt_normal ?_ | refine ats_cons ?_ ?_ | exact ats_nil
    | ((with_reducible first | refine awN (tyOf_ok _) [] ?_ | refine awO (tyOf_ok _) [] ?_ | refine awP (tyOf_ok _) [] ?_ | refine awQ ?_ | refine awR ?_ | refine awS ?_); intro r hr; simp only [go_sem, Nat.reduceBEq, Nat.reduceBneDiff, Nat.reduceLT, Nat.reduceLeDiff, Nat.reduceAdd, Nat.reduceMul, Nat.reduceSub, Nat.reduceEqDiff, reduceCtorEq, encEs_len, g1, k4, k5, hd] at hr; subst hr; (first | refine caA (fun _ => hpt) rfl ?_ ?_ ?_ | refine caA (fun _ => t2) rfl ?_ ?_ ?_ | refine awV ?_ ?_ | refine awW ?_ ?_ | refine endK ?_ ?_ | (refine condK (fun h => ?_) (fun h => ?_) <;> (try simp only [go_sem, reduceCtorEq] at h) <;> (try (exfalso; omega))))) | fail)) <;> (try omega)
      exact rfl
    · have k4 : (t.kind = 4) = False := eq_false (by omega)
      have k5 : (t.kind = 5) = False := eq_false (by omega)
      have k6 : (t.kind = 6) = True := eq_true h
      generalize hE : extM t L = e
      unfold extM at hE
      rw [if_neg (by omega), if_neg (by omega), if_neg (by omega), if_neg (by omega), if_neg (by omega), if_pos h] at hE
      subst hE
      (repeat' (first
    | exact trivial
    | (with_reducible first | refine awA ?_ | refine awB ?_ | refine awC ?_ | refine awD ?_ | refine awE ?_ | refine awF ?_ | refine awG ?_ | refine awH ?_ | refine awI ?_ | refine awJ ?_ | refine awK ?_ | refine awL ?_ | refine awM (by decide) ?_)
    | (refine aw_draw (id := 4) (t := (.node [0, 1, 2, 3, 4, 5, 6, 7, 8, 10, 11, 12, 14, 15, 16, 17, 18, 19, 20, 9, 13, 21, 22] [])) (drR [2] [35, 49] []) mixed (by kernel_rfl) (by kernel_rfl) (fun _ _ h => h) ?_)
    | (refine aw_draw (id := 7) (t := (.node [0, 1, 2, 4, 5, 6, 7, 8, 9, 10, 3, 11, 12] [])) (drR [2] [72] []) mixed (by kernel_rfl) (by kernel_rfl) (fun _ _ h => h) ?_)
    | (refine aw_draw (id := 9) (t := (.node [0, 1, 2, 3, 4, 5, 7, 8, 9, 10, 11, 12, 13, 6, 14, 15] [])) (drR [2] [82, 89] []) mixed (by kernel_rfl) (by kernel_rfl) (fun _ _ h => h) ?_)
    | (refine aw_draw (id := 17) (t := (.node [0, 1, 3, 4, 6, 7, 8, 2, 5, 9, 10] [])) (drR [9] [] []) mixed (by kernel_rfl) (by kernel_rfl) (fun _ _ h => h) ?_)
    | (refine aw_draw (id := 25) (t := (.node [0, 1, 2, 3, 4, 5, 6, 7, 8, 10, 11, 12, 14, 15, 16, 17, 18, 9, 13, 19, 20] [])) (drR [14] [169, 175, 179, 183] []) mixed (by kernel_rfl) (by kernel_rfl) (fun _ _ h => h) ?_)
    | (refine at_done (by simp only [List.filterMap_cons, List.filterMap_nil, List.getElem?_toArray, List.getElem?_cons_zero, List.getElem?_cons_succ]; exact rfl) ?_) | (refine at_alt (by simp only [List.filterMap_cons, List.filterMap_nil, List.getElem?_toArray, List.getElem?_cons_zero, List.getElem?_cons_succ]; exact rfl) ?_) | refine qalt_normal ?_ | refine ats_cons ?_ ?_ | exact ats_nil
    | ((with_reducible first | refine awN (tyOf_ok _) [] ?_ | refine awO (tyOf_ok _) [] ?_ | refine awP (tyOf_ok _) [] ?_ | refine awQ ?_ | refine awR ?_ | refine awS ?_); intro r hr; simp only [go_sem, Nat.reduceBEq, Nat.reduceBneDiff, Nat.reduceLT, Nat.reduceLeDiff, Nat.reduceAdd, Nat.reduceMul, Nat.reduceSub, Nat.reduceEqDiff, reduceCtorEq, encEs_len, g1, k4, k5, k6, hd] at hr; subst hr; (first | refine caA (fun _ => p1) rfl ?_ ?_ ?_ | refine awV ?_ ?_ | refine awW ?_ ?_ | refine endK ?_ ?_ | (refine condK (fun h => ?_) (fun h => ?_) <;> (try simp only [go_sem, reduceCtorEq] at h) <;> (try (exfalso; omega))))) | fail)) <;> (try omega)
      exact rfl
  · have hpp := right_parts hr hk
    have hps : ∀ p ∈ t.parts, (0 ≤ p.ty ∧ p.ty < L.length) ∧ extD (atE L p.ty) := fun p hp => ⟨hty.2 p hp, hat _ (hty.2 p hp).1 (hty.2 p hp).2⟩
    have k4 : (t.kind = 4) = False := eq_false (by omega)
    have k5 : (t.kind = 5) = False := eq_false (by omega)
    have k6 : (t.kind = 6) = False := eq_false (by omega)
    rcases hk with h | h
    · have k7 : (t.kind = 7) = True := eq_true h
      have hx : extM t L = ⟨false, plusL [1, (uni L t.parts (4611686018427387904, 0, 1)).1], (uni L t.parts (4611686018427387904, 0, 1)).2.1, (uni L t.parts (4611686018427387904, 0, 1)).2.2⟩ := by
        unfold extM; rw [if_neg (by omega), if_neg (by omega), if_neg (by omega), if_neg (by omega), if_neg (by omega), if_neg (by omega), if_pos h]
      rw [hx]
      have hl0 : 0 < t.parts.length := by omega
      have g0 := encPs_get hl0
      obtain ⟨⟨q0, q1⟩, ⟨qG, qD⟩⟩ := hps _ (List.getElem_mem hl0)
      have g1 := encEs_atI (L := L) q0 q1
      unfold extG at qG
      (repeat' (first
    | exact trivial
    | (with_reducible first | refine awA ?_ | refine awB ?_ | refine awC ?_ | refine awD ?_ | refine awE ?_ | refine awF ?_ | refine awG ?_ | refine awH ?_ | refine awI ?_ | refine awJ ?_ | refine awK ?_ | refine awL ?_ | refine awM (by decide) ?_)
    | (refine aw_draw (id := 4) (t := (.node [0, 1, 2, 3, 4, 5, 6, 7, 8, 10, 11, 12, 14, 15, 16, 17, 18, 19, 20, 9, 13, 21, 22] [])) (drR [2] [35, 49] []) mixed (by kernel_rfl) (by kernel_rfl) (fun _ _ h => h) ?_)
    | (refine aw_draw (id := 7) (t := (.node [0, 1, 2, 4, 5, 6, 7, 8, 9, 10, 3, 11, 12] [])) (drR [2] [72] []) mixed (by kernel_rfl) (by kernel_rfl) (fun _ _ h => h) ?_)
    | (refine aw_draw (id := 9) (t := (.node [0, 1, 2, 3, 4, 5, 7, 8, 9, 10, 11, 12, 13, 6, 14, 15] [])) (drR [2] [82, 89] []) mixed (by kernel_rfl) (by kernel_rfl) (fun _ _ h => h) ?_)
    | (refine aw_draw (id := 17) (t := (.node [0, 1, 3, 4, 6, 7, 8, 2, 5, 9, 10] [])) (drR [9] [] []) mixed (by kernel_rfl) (by kernel_rfl) (fun _ _ h => h) ?_)
    | (refine aw_draw (id := 25) (t := (.node [0, 1, 2, 3, 4, 5, 6, 7, 8, 10, 11, 12, 14, 15, 16, 17, 18, 9, 13, 19, 20] [])) (drR [14] [169, 175, 179, 183] []) mixed (by kernel_rfl) (by kernel_rfl) (fun _ _ h => h) ?_)
    | (refine at_done (by simp only [List.filterMap_cons, List.filterMap_nil, List.getElem?_toArray, List.getElem?_cons_zero, List.getElem?_cons_succ]; exact rfl) ?_) | (refine at_alt (by simp only [List.filterMap_cons, List.filterMap_nil, List.getElem?_toArray, List.getElem?_cons_zero, List.getElem?_cons_succ]; exact rfl) ?_) | refine qalt_normal ?_ | refine ats_cons ?_ ?_ | exact ats_nil
    | ((with_reducible first | refine awN (tyOf_ok _) [] ?_ | refine awO (tyOf_ok _) [] ?_ | refine awP (tyOf_ok _) [] ?_ | refine awQ ?_ | refine awR ?_ | refine awS ?_); intro r hr; simp only [go_sem, Nat.reduceBEq, Nat.reduceBneDiff, Nat.reduceLT, Nat.reduceLeDiff, Nat.reduceAdd, Nat.reduceMul, Nat.reduceSub, Nat.reduceEqDiff, reduceCtorEq, encEs_len, encPs_len, g0, g1, k4, k5, k6, k7, Int.toNat_zero] at hr; subst hr; (first | refine awV ?_ ?_ | refine awW ?_ ?_ | refine endK ?_ ?_ | (refine condK (fun h => ?_) (fun h => ?_) <;> (try simp only [go_sem, reduceCtorEq] at h) <;> (try (exfalso; omega))))) | fail)) <;> (try omega)
      refine go_loop [1, 2, 4, 9, 10] [2, 4, 9] (fun q : Nat × ExtM => ⟨[(1, true, .lst 4 (encEs L)), (2, true, .ptr 1 2 0 0), (4, true, .ptr 1 4 0 0), (9, true, .ptr 1 9 0 0), (10, true, vI q.1)],
          [(2, .var [vI t.kind, vI t.n, vI t.elem, .lst 3 (encPs t.parts)]), (4, .var [vB false, vI 0, vI 0, vI 0]), (9, .var [vB q.2.fixed, vI q.2.least, vI q.2.most, vI q.2.depth])]⟩)
        (fun q => q.1 ≤ t.parts.length ∧ uni L (t.parts.take q.1) (4611686018427387904, 0, 1) = (q.2.least, plusL [1, q.2.most], 1 + q.2.depth) ∧ (0 ≤ q.2.least ∧ q.2.least ≤ 4611686018427387904) ∧ (0 ≤ q.2.most ∧ q.2.most ≤ 4611686018427387904) ∧ 0 ≤ q.2.depth ∧ q.2.depth ≤ 1000000000000)
        (fun q => t.parts.length - q.1) (1, atE L t.parts[0].ty) (by simp only [go_sem, Nat.reduceBEq, Nat.reduceBneDiff, Nat.reduceLT, Nat.reduceLeDiff, Nat.reduceAdd, Nat.reduceMul, Nat.reduceSub, Nat.reduceEqDiff, reduceCtorEq] <;> exact rfl) ⟨hl0, ?_, by simp only; omega, by simp only; omega, by simp only; omega, by simp only; omega⟩ ?_
      · rw [List.take_succ_eq_append_getElem hl0, List.take_zero, List.nil_append]
        show ((min (4611686018427387904 : Int) (atE L t.parts[0].ty).least, max (0 : Int) (plusL [1, (atE L t.parts[0].ty).most]), max (1 : Int) (1 + (atE L t.parts[0].ty).depth)) : Int × Int × Int) = _
        have hb := plusL_bd [1, (atE L t.parts[0].ty).most]
        rw [Int.max_eq_right hb.1, Int.max_eq_right (by omega), Int.min_eq_right (by omega)]
        rfl
      intro ⟨k, e⟩ ⟨hk, hu, hl, hm, hd0, hd1⟩
      simp only at hk hu hl hm hd0 hd1
      have hwk := wrap_i64 (n := (k : Int) + 1) (by omega)
      by_cases hlt : k < t.parts.length
      · have f1 : ((k : Int) < t.parts.length) = True := eq_true (by omega)
        have g3 := encPs_get hlt
        obtain ⟨⟨r0, r1⟩, ⟨rG, rD⟩⟩ := hps _ (List.getElem_mem hlt)
        have g4 := encEs_atI (L := L) r0 r1
        unfold extG at rG
        have hnx : uni L (t.parts.take (k + 1)) (4611686018427387904, 0, 1) = (min e.least (atE L t.parts[k].ty).least, plusL [1, max e.most (atE L t.parts[k].ty).most], 1 + max e.depth (atE L t.parts[k].ty).depth) := by
          rw [List.take_succ_eq_append_getElem hlt, uni, List.foldl_append]
          have hu' : (t.parts.take k).foldl (fun x p => (min x.1 (atE L p.ty).least, max x.2.1 (plusL [1, (atE L p.ty).most]), max x.2.2 (1 + (atE L p.ty).depth))) (4611686018427387904, 0, 1) = (e.least, plusL [1, e.most], 1 + e.depth) := hu
          rw [hu']
          show (min e.least (atE L t.parts[k].ty).least, max (plusL [1, e.most]) (plusL [1, (atE L t.parts[k].ty).most]), max (1 + e.depth) (1 + (atE L t.parts[k].ty).depth)) = _
          rw [plus_max hm (by omega)]
          congr 2
          omega
        generalize t.parts[k] = p at *
        (repeat' (first
    | exact trivial
    | (with_reducible first | refine awA ?_ | refine awB ?_ | refine awC ?_ | refine awD ?_ | refine awE ?_ | refine awF ?_ | refine awG ?_ | refine awH ?_ | refine awI ?_ | refine awJ ?_ | refine awK ?_ | refine awL ?_ | refine awM (by decide) ?_)
    | (refine aw_draw (id := 4) (t := (.node [0, 1, 2, 3, 4, 5, 6, 7, 8, 10, 11, 12, 14, 15, 16, 17, 18, 19, 20, 9, 13, 21, 22] [])) (drR [2] [35, 49] []) mixed (by kernel_rfl) (by kernel_rfl) (fun _ _ h => h) ?_)
    | (refine aw_draw (id := 7) (t := (.node [0, 1, 2, 4, 5, 6, 7, 8, 9, 10, 3, 11, 12] [])) (drR [2] [72] []) mixed (by kernel_rfl) (by kernel_rfl) (fun _ _ h => h) ?_)
    | (refine aw_draw (id := 9) (t := (.node [0, 1, 2, 3, 4, 5, 7, 8, 9, 10, 11, 12, 13, 6, 14, 15] [])) (drR [2] [82, 89] []) mixed (by kernel_rfl) (by kernel_rfl) (fun _ _ h => h) ?_)
    | (refine aw_draw (id := 17) (t := (.node [0, 1, 3, 4, 6, 7, 8, 2, 5, 9, 10] [])) (drR [9] [] []) mixed (by kernel_rfl) (by kernel_rfl) (fun _ _ h => h) ?_)
    | (refine aw_draw (id := 25) (t := (.node [0, 1, 2, 3, 4, 5, 6, 7, 8, 10, 11, 12, 14, 15, 16, 17, 18, 9, 13, 19, 20] [])) (drR [14] [169, 175, 179, 183] []) mixed (by kernel_rfl) (by kernel_rfl) (fun _ _ h => h) ?_)
    | (refine at_done (by simp only [List.filterMap_cons, List.filterMap_nil, List.getElem?_toArray, List.getElem?_cons_zero, List.getElem?_cons_succ]; exact rfl) ?_) | (refine at_alt (by simp only [List.filterMap_cons, List.filterMap_nil, List.getElem?_toArray, List.getElem?_cons_zero, List.getElem?_cons_succ]; exact rfl) ?_) | refine qalt_normal ?_ | refine ats_cons ?_ ?_ | exact ats_nil
    | ((with_reducible first | refine awN (tyOf_ok _) [] ?_ | refine awO (tyOf_ok _) [] ?_ | refine awP (tyOf_ok _) [] ?_ | refine awQ ?_ | refine awR ?_ | refine awS ?_); intro r hr; simp only [go_sem, Nat.reduceBEq, Nat.reduceBneDiff, Nat.reduceLT, Nat.reduceLeDiff, Nat.reduceAdd, Nat.reduceMul, Nat.reduceSub, Nat.reduceEqDiff, reduceCtorEq, encEs_len, encPs_len, hwk, f1, g3, g4] at hr; subst hr; (first | refine awV ?_ ?_ | refine awW ?_ ?_ | refine endK ?_ ?_ | (refine condK (fun h => ?_) (fun h => ?_) <;> (try simp only [go_sem, reduceCtorEq] at h) <;> (try (exfalso; omega))))) | fail)) <;> (try omega)
        exact ⟨(k + 1, ⟨false, min e.least (atE L p.ty).least, max e.most (atE L p.ty).most, max e.depth (atE L p.ty).depth⟩), by simp only [go_sem, Nat.reduceBEq, Nat.reduceBneDiff, Nat.reduceLT, Nat.reduceLeDiff, Nat.reduceAdd, Nat.reduceMul, Nat.reduceSub, Nat.reduceEqDiff, reduceCtorEq] <;> exact rfl, ⟨hlt, hnx, by simp only; omega, by simp only; omega, by simp only; omega, by simp only; omega⟩, by simp only; omega⟩
      · have f1 : ((k : Int) < t.parts.length) = False := eq_false (by omega)
        rw [take_len (by omega)] at hu
        rw [hu]
        have p1 := rplus_any 1 e.least (by decide) (by unfold I64; omega)
        have p2 := rplus_any 1 e.most (by decide) (by unfold I64; omega)
        have hwd := wrap_i64 (n := 1 + e.depth) (by omega)
        (repeat' (first
    | exact trivial
    | (with_reducible first | refine awA ?_ | refine awB ?_ | refine awC ?_ | refine awD ?_ | refine awE ?_ | refine awF ?_ | refine awG ?_ | refine awH ?_ | refine awI ?_ | refine awJ ?_ | refine awK ?_ | refine awL ?_ | refine awM (by decide) ?_)
    | (refine aw_draw (id := 4) (t := (.node [0, 1, 2, 3, 4, 5, 6, 7, 8, 10, 11, 12, 14, 15, 16, 17, 18, 19, 20, 9, 13, 21, 22] [])) (drR [2] [35, 49] []) mixed (by kernel_rfl) (by kernel_rfl) (fun _ _ h => h) ?_)
    | (refine aw_draw (id := 7) (t := (.node [0, 1, 2, 4, 5, 6, 7, 8, 9, 10, 3, 11, 12] [])) (drR [2] [72] []) mixed (by kernel_rfl) (by kernel_rfl) (fun _ _ h => h) ?_)
    | (refine aw_draw (id := 9) (t := (.node [0, 1, 2, 3, 4, 5, 7, 8, 9, 10, 11, 12, 13, 6, 14, 15] [])) (drR [2] [82, 89] []) mixed (by kernel_rfl) (by kernel_rfl) (fun _ _ h => h) ?_)
    | (refine aw_draw (id := 17) (t := (.node [0, 1, 3, 4, 6, 7, 8, 2, 5, 9, 10] [])) (drR [9] [] []) mixed (by kernel_rfl) (by kernel_rfl) (fun _ _ h => h) ?_)
    | (refine aw_draw (id := 25) (t := (.node [0, 1, 2, 3, 4, 5, 6, 7, 8, 10, 11, 12, 14, 15, 16, 17, 18, 9, 13, 19, 20] [])) (drR [14] [169, 175, 179, 183] []) mixed (by kernel_rfl) (by kernel_rfl) (fun _ _ h => h) ?_)
    | (refine at_done (by simp only [List.filterMap_cons, List.filterMap_nil, List.getElem?_toArray, List.getElem?_cons_zero, List.getElem?_cons_succ]; exact rfl) ?_) | (refine at_alt (by simp only [List.filterMap_cons, List.filterMap_nil, List.getElem?_toArray, List.getElem?_cons_zero, List.getElem?_cons_succ]; exact rfl) ?_) | refine qalt_normal ?_ | refine ats_cons ?_ ?_ | exact ats_nil
    | ((with_reducible first | refine awN (tyOf_ok _) [] ?_ | refine awO (tyOf_ok _) [] ?_ | refine awP (tyOf_ok _) [] ?_ | refine awQ ?_ | refine awR ?_ | refine awS ?_); intro r hr; simp only [go_sem, Nat.reduceBEq, Nat.reduceBneDiff, Nat.reduceLT, Nat.reduceLeDiff, Nat.reduceAdd, Nat.reduceMul, Nat.reduceSub, Nat.reduceEqDiff, reduceCtorEq, encPs_len, f1, hwd] at hr; subst hr; (first | refine caA (fun _ => p1) rfl ?_ ?_ ?_ | refine caA (fun _ => p2) rfl ?_ ?_ ?_ | refine awV ?_ ?_ | refine awW ?_ ?_ | refine endK ?_ ?_ | (refine condK (fun h => ?_) (fun h => ?_) <;> (try simp only [go_sem, reduceCtorEq] at h) <;> (try (exfalso; omega))))) | fail)) <;> (try omega)
        exact rfl
    · have k7 : (t.kind = 7) = False := eq_false (by omega)
      have k8 : (t.kind = 8) = True := eq_true h
      have hx : extM t L = str L t.parts ⟨true, 0, 0, 1⟩ := by
        unfold extM; rw [if_neg (by omega), if_neg (by omega), if_neg (by omega), if_neg (by omega), if_neg (by omega), if_neg (by omega), if_neg (by omega)]
      rw [hx]
      (repeat' (first
    | exact trivial
    | (with_reducible first | refine awA ?_ | refine awB ?_ | refine awC ?_ | refine awD ?_ | refine awE ?_ | refine awF ?_ | refine awG ?_ | refine awH ?_ | refine awI ?_ | refine awJ ?_ | refine awK ?_ | refine awL ?_ | refine awM (by decide) ?_)
    | (refine aw_draw (id := 4) (t := (.node [0, 1, 2, 3, 4, 5, 6, 7, 8, 10, 11, 12, 14, 15, 16, 17, 18, 19, 20, 9, 13, 21, 22] [])) (drR [2] [35, 49] []) mixed (by kernel_rfl) (by kernel_rfl) (fun _ _ h => h) ?_)
    | (refine aw_draw (id := 7) (t := (.node [0, 1, 2, 4, 5, 6, 7, 8, 9, 10, 3, 11, 12] [])) (drR [2] [72] []) mixed (by kernel_rfl) (by kernel_rfl) (fun _ _ h => h) ?_)
    | (refine aw_draw (id := 9) (t := (.node [0, 1, 2, 3, 4, 5, 7, 8, 9, 10, 11, 12, 13, 6, 14, 15] [])) (drR [2] [82, 89] []) mixed (by kernel_rfl) (by kernel_rfl) (fun _ _ h => h) ?_)
    | (refine aw_draw (id := 17) (t := (.node [0, 1, 3, 4, 6, 7, 8, 2, 5, 9, 10] [])) (drR [9] [] []) mixed (by kernel_rfl) (by kernel_rfl) (fun _ _ h => h) ?_)
    | (refine aw_draw (id := 25) (t := (.node [0, 1, 2, 3, 4, 5, 6, 7, 8, 10, 11, 12, 14, 15, 16, 17, 18, 9, 13, 19, 20] [])) (drR [14] [169, 175, 179, 183] []) mixed (by kernel_rfl) (by kernel_rfl) (fun _ _ h => h) ?_)
    | (refine at_done (by simp only [List.filterMap_cons, List.filterMap_nil, List.getElem?_toArray, List.getElem?_cons_zero, List.getElem?_cons_succ]; exact rfl) ?_) | (refine at_alt (by simp only [List.filterMap_cons, List.filterMap_nil, List.getElem?_toArray, List.getElem?_cons_zero, List.getElem?_cons_succ]; exact rfl) ?_) | refine qalt_normal ?_ | refine ats_cons ?_ ?_ | exact ats_nil
    | ((with_reducible first | refine awN (tyOf_ok _) [] ?_ | refine awO (tyOf_ok _) [] ?_ | refine awP (tyOf_ok _) [] ?_ | refine awQ ?_ | refine awR ?_ | refine awS ?_); intro r hr; simp only [go_sem, Nat.reduceBEq, Nat.reduceBneDiff, Nat.reduceLT, Nat.reduceLeDiff, Nat.reduceAdd, Nat.reduceMul, Nat.reduceSub, Nat.reduceEqDiff, reduceCtorEq, encEs_len, encPs_len, k4, k5, k6, k7, k8] at hr; subst hr; (first | refine awV ?_ ?_ | refine awW ?_ ?_ | refine endK ?_ ?_ | (refine condK (fun h => ?_) (fun h => ?_) <;> (try simp only [go_sem, reduceCtorEq] at h) <;> (try (exfalso; omega))))) | fail)) <;> (try omega)
      refine go_loop [1, 2, 4, 12, 13] [2, 4, 12] (fun q : Nat × ExtM => ⟨[(1, true, .lst 4 (encEs L)), (2, true, .ptr 1 2 0 0), (4, true, .ptr 1 4 0 0), (12, true, .ptr 1 12 0 0), (13, true, vI q.1)],
          [(2, .var [vI t.kind, vI t.n, vI t.elem, .lst 3 (encPs t.parts)]), (4, .var [vB false, vI 0, vI 0, vI 0]), (12, .var [vB q.2.fixed, vI q.2.least, vI q.2.most, vI q.2.depth])]⟩)
        (fun q => q.1 ≤ t.parts.length ∧ str L (t.parts.take q.1) ⟨true, 0, 0, 1⟩ = ⟨q.2.fixed, q.2.least, q.2.most, q.2.depth + 1⟩ ∧ (0 ≤ q.2.least ∧ q.2.least ≤ 4611686018427387904) ∧ (0 ≤ q.2.most ∧ q.2.most ≤ 4611686018427387904) ∧ 0 ≤ q.2.depth ∧ q.2.depth ≤ 1000000000000)
        (fun q => t.parts.length - q.1) (0, ⟨true, 0, 0, 0⟩) (by simp only [go_sem, Nat.reduceBEq, Nat.reduceBneDiff, Nat.reduceLT, Nat.reduceLeDiff, Nat.reduceAdd, Nat.reduceMul, Nat.reduceSub, Nat.reduceEqDiff, reduceCtorEq] <;> exact rfl) ⟨Nat.zero_le _, rfl, by decide, by decide, by decide, by decide⟩ ?_
      intro ⟨k, e⟩ ⟨hk, hu, hl, hm, hd0, hd1⟩
      simp only at hk hu hl hm hd0 hd1
      have hwk := wrap_i64 (n := (k : Int) + 1) (by omega)
      by_cases hlt : k < t.parts.length
      · have f1 : ((k : Int) < t.parts.length) = True := eq_true (by omega)
        have g3 := encPs_get hlt
        obtain ⟨⟨r0, r1⟩, ⟨rG, rD⟩⟩ := hps _ (List.getElem_mem hlt)
        have g4 := encEs_atI (L := L) r0 r1
        unfold extG at rG
        have hnx : str L (t.parts.take (k + 1)) ⟨true, 0, 0, 1⟩ = ⟨e.fixed && (atE L t.parts[k].ty).fixed, plusL [e.least, withinM (atE L t.parts[k].ty).fixed (atE L t.parts[k].ty).least], plusL [e.most, withinM (atE L t.parts[k].ty).fixed (atE L t.parts[k].ty).most], max e.depth (atE L t.parts[k].ty).depth + 1⟩ := by
          rw [List.take_succ_eq_append_getElem hlt, str_snoc, hu, stepS]
          simp only [ExtM.mk.injEq, true_and]
          omega
        generalize t.parts[k] = p at *
        have hpt := rpart_any (atE L p.ty) (by unfold I64; omega) (by unfold I64; omega)
        have w1 := withinM_bd (f := (atE L p.ty).fixed) (b := (atE L p.ty).least) (by omega)
        have w2 := withinM_bd (f := (atE L p.ty).fixed) (b := (atE L p.ty).most) (by omega)
        have p1 := rplus_any e.least (withinM (atE L p.ty).fixed (atE L p.ty).least) (by unfold I64; omega) (by unfold I64; omega)
        have p2 := rplus_any e.most (withinM (atE L p.ty).fixed (atE L p.ty).most) (by unfold I64; omega) (by unfold I64; omega)
        (repeat' (first
    | exact trivial
    | (with_reducible first | refine awA ?_ | refine awB ?_ | refine awC ?_ | refine awD ?_ | refine awE ?_ | refine awF ?_ | refine awG ?_ | refine awH ?_ | refine awI ?_ | refine awJ ?_ | refine awK ?_ | refine awL ?_ | refine awM (by decide) ?_)
    | (refine aw_draw (id := 4) (t := (.node [0, 1, 2, 3, 4, 5, 6, 7, 8, 10, 11, 12, 14, 15, 16, 17, 18, 19, 20, 9, 13, 21, 22] [])) (drR [2] [35, 49] []) mixed (by kernel_rfl) (by kernel_rfl) (fun _ _ h => h) ?_)
    | (refine aw_draw (id := 7) (t := (.node [0, 1, 2, 4, 5, 6, 7, 8, 9, 10, 3, 11, 12] [])) (drR [2] [72] []) mixed (by kernel_rfl) (by kernel_rfl) (fun _ _ h => h) ?_)
    | (refine aw_draw (id := 9) (t := (.node [0, 1, 2, 3, 4, 5, 7, 8, 9, 10, 11, 12, 13, 6, 14, 15] [])) (drR [2] [82, 89] []) mixed (by kernel_rfl) (by kernel_rfl) (fun _ _ h => h) ?_)
    | (refine aw_draw (id := 17) (t := (.node [0, 1, 3, 4, 6, 7, 8, 2, 5, 9, 10] [])) (drR [9] [] []) mixed (by kernel_rfl) (by kernel_rfl) (fun _ _ h => h) ?_)
    | (refine aw_draw (id := 25) (t := (.node [0, 1, 2, 3, 4, 5, 6, 7, 8, 10, 11, 12, 14, 15, 16, 17, 18, 9, 13, 19, 20] [])) (drR [14] [169, 175, 179, 183] []) mixed (by kernel_rfl) (by kernel_rfl) (fun _ _ h => h) ?_)
    | (refine at_done (by simp only [List.filterMap_cons, List.filterMap_nil, List.getElem?_toArray, List.getElem?_cons_zero, List.getElem?_cons_succ]; exact rfl) ?_) | (refine at_alt (by simp only [List.filterMap_cons, List.filterMap_nil, List.getElem?_toArray, List.getElem?_cons_zero, List.getElem?_cons_succ]; exact rfl) ?_) | refine qalt_normal ?_ | refine ats_cons ?_ ?_ | exact ats_nil
    | ((with_reducible first | refine awN (tyOf_ok _) [] ?_ | refine awO (tyOf_ok _) [] ?_ | refine awP (tyOf_ok _) [] ?_ | refine awQ ?_ | refine awR ?_ | refine awS ?_); intro r hr; simp only [go_sem, Nat.reduceBEq, Nat.reduceBneDiff, Nat.reduceLT, Nat.reduceLeDiff, Nat.reduceAdd, Nat.reduceMul, Nat.reduceSub, Nat.reduceEqDiff, reduceCtorEq, encEs_len, encPs_len, hwk, f1, g3, g4] at hr; subst hr; (first | refine caA (fun _ => hpt) rfl ?_ ?_ ?_ | refine caA (fun _ => p1) rfl ?_ ?_ ?_ | refine caA (fun _ => p2) rfl ?_ ?_ ?_ | refine awV ?_ ?_ | refine awW ?_ ?_ | refine endK ?_ ?_ | (refine condK (fun h => ?_) (fun h => ?_) <;> (try simp only [go_sem, reduceCtorEq] at h) <;> (try (exfalso; omega))))) | fail)) <;> (try omega)
        all_goals first | exact ⟨(k + 1, ⟨e.fixed && (atE L p.ty).fixed, plusL [e.least, withinM (atE L p.ty).fixed (atE L p.ty).least], plusL [e.most, withinM (atE L p.ty).fixed (atE L p.ty).most], max e.depth (atE L p.ty).depth⟩), by simp only [go_sem, Nat.reduceBEq, Nat.reduceBneDiff, Nat.reduceLT, Nat.reduceLeDiff, Nat.reduceAdd, Nat.reduceMul, Nat.reduceSub, Nat.reduceEqDiff, reduceCtorEq] <;> exact rfl, ⟨hlt, hnx, plusL_bd _, plusL_bd _, by simp only; omega, by simp only; omega⟩, by simp only; omega⟩
      · have f1 : ((k : Int) < t.parts.length) = False := eq_false (by omega)
        rw [take_len (by omega)] at hu
        rw [hu]
        have hwd := wrap_i64 (n := e.depth + 1) (by omega)
        (repeat' (first
    | exact trivial
    | (with_reducible first | refine awA ?_ | refine awB ?_ | refine awC ?_ | refine awD ?_ | refine awE ?_ | refine awF ?_ | refine awG ?_ | refine awH ?_ | refine awI ?_ | refine awJ ?_ | refine awK ?_ | refine awL ?_ | refine awM (by decide) ?_)
    | (refine aw_draw (id := 4) (t := (.node [0, 1, 2, 3, 4, 5, 6, 7, 8, 10, 11, 12, 14, 15, 16, 17, 18, 19, 20, 9, 13, 21, 22] [])) (drR [2] [35, 49] []) mixed (by kernel_rfl) (by kernel_rfl) (fun _ _ h => h) ?_)
    | (refine aw_draw (id := 7) (t := (.node [0, 1, 2, 4, 5, 6, 7, 8, 9, 10, 3, 11, 12] [])) (drR [2] [72] []) mixed (by kernel_rfl) (by kernel_rfl) (fun _ _ h => h) ?_)
    | (refine aw_draw (id := 9) (t := (.node [0, 1, 2, 3, 4, 5, 7, 8, 9, 10, 11, 12, 13, 6, 14, 15] [])) (drR [2] [82, 89] []) mixed (by kernel_rfl) (by kernel_rfl) (fun _ _ h => h) ?_)
    | (refine aw_draw (id := 17) (t := (.node [0, 1, 3, 4, 6, 7, 8, 2, 5, 9, 10] [])) (drR [9] [] []) mixed (by kernel_rfl) (by kernel_rfl) (fun _ _ h => h) ?_)
    | (refine aw_draw (id := 25) (t := (.node [0, 1, 2, 3, 4, 5, 6, 7, 8, 10, 11, 12, 14, 15, 16, 17, 18, 9, 13, 19, 20] [])) (drR [14] [169, 175, 179, 183] []) mixed (by kernel_rfl) (by kernel_rfl) (fun _ _ h => h) ?_)
    | (refine at_done (by simp only [List.filterMap_cons, List.filterMap_nil, List.getElem?_toArray, List.getElem?_cons_zero, List.getElem?_cons_succ]; exact rfl) ?_) | (refine at_alt (by simp only [List.filterMap_cons, List.filterMap_nil, List.getElem?_toArray, List.getElem?_cons_zero, List.getElem?_cons_succ]; exact rfl) ?_) | refine qalt_normal ?_ | refine ats_cons ?_ ?_ | exact ats_nil
    | ((with_reducible first | refine awN (tyOf_ok _) [] ?_ | refine awO (tyOf_ok _) [] ?_ | refine awP (tyOf_ok _) [] ?_ | refine awQ ?_ | refine awR ?_ | refine awS ?_); intro r hr; simp only [go_sem, Nat.reduceBEq, Nat.reduceBneDiff, Nat.reduceLT, Nat.reduceLeDiff, Nat.reduceAdd, Nat.reduceMul, Nat.reduceSub, Nat.reduceEqDiff, reduceCtorEq, encPs_len, f1, hwd] at hr; subst hr; (first | refine awV ?_ ?_ | refine awW ?_ ?_ | refine endK ?_ ?_ | (refine condK (fun h => ?_) (fun h => ?_) <;> (try simp only [go_sem, reduceCtorEq] at h) <;> (try (exfalso; omega))))) | fail)) <;> (try omega)
        exact rfl
end Go.Proofs.Ytfgacgpicfknpaa
end
section
namespace Go.Proofs.Ytfgacgpicfknpaa
open Go.RowKit
set_option maxRecDepth 100000
set_option maxHeartbeats 8000000
theorem checkF_ne' {ts : List TypeM} {rs : List RootM} (h : (checkF ts rs).1 ≠ 0) : sizesF ts rs = ([], (checkF ts rs).1) := by rw [sizesF, if_pos h]
theorem checkF_eq' {ts : List TypeM} {rs : List RootM} (h : (checkF ts rs).1 = 0) : sizesF ts rs = (exts ts, 0) := by rw [sizesF, if_neg (by rw [h]; decide)]
theorem exts_D {ts : List TypeM} {rs : List RootM} (h : (checkF ts rs).1 = 0) (hts : ts.length ≤ 1000000000) (k : Nat) (hk : k ≤ ts.length) : ∀ e ∈ exts (ts.take k), extD e := fun e he =>
  ⟨exts_good (check_right h) k hk e he, by have := (exts_ok h hts k hk e he).1.2.2; omega⟩
theorem rOf_any (ts : List TypeM) (rs : List RootM) (hts : ts.length ≤ 1000000000) (hrs : rs.length ≤ 1000000000) (hp : ∀ t ∈ ts, t.parts.length ≤ 1000000000) :
    PCall Try.prog 42 [vSch ts rs] (fun r => r = .tup [.lst 4 (encEs (sizesF ts rs).1), vI (sizesF ts rs).2]) := by
  refine go_fnU (tyOf_ok _) Try.func42 rfl rfl (by rw [Try.results42]) Try.ntmps42 rfl fun E => ?_
  have hck := rcheck_any ts rs hts hrs hp
  unfold vF at hck
  by_cases h0 : (checkF ts rs).1 = 0
  case neg =>
    rw [checkF_ne' h0]
    have e1 : ((checkF ts rs).1 = 0) = False := eq_false h0
    generalize checkF ts rs = C at *
    (repeat' (first
    | exact trivial
    | (with_reducible first | refine awA ?_ | refine awB ?_ | refine awC ?_ | refine awD ?_ | refine awE ?_ | refine awF ?_ | refine awG ?_ | refine awH ?_ | refine awI ?_ | refine awJ ?_ | refine awK ?_ | refine awL ?_ | refine awM (by decide) ?_)
    | (refine aw_draw (id := 3) (t := (.node [0, 1, 2, 3] [])) (drR [4] [] []) mixed (by kernel_rfl) (by kernel_rfl) (fun _ _ h => h) ?_)
    | (refine at_done (by simp only [List.filterMap_cons, List.filterMap_nil, List.getElem?_toArray, List.getElem?_cons_zero, List.getElem?_cons_succ]; exact rfl) ?_) | (refine at_alt (by simp only [List.filterMap_cons, List.filterMap_nil, List.getElem?_toArray, List.getElem?_cons_zero, List.getElem?_cons_succ]; exact rfl) ?_) | refine qalt_normal ?_ | refine ats_cons ?_ ?_ | exact ats_nil
    | ((with_reducible first | refine awN (tyOf_ok _) [] ?_ | refine awO (tyOf_ok _) [] ?_ | refine awP (tyOf_ok _) [] ?_ | refine awQ ?_ | refine awR ?_ | refine awS ?_); intro r hr; simp only [go_sem, Nat.reduceBEq, Nat.reduceBneDiff, Nat.reduceLT, Nat.reduceLeDiff, Nat.reduceAdd, Nat.reduceMul, Nat.reduceSub, Nat.reduceEqDiff, reduceCtorEq, vSch, e1] at hr; subst hr; (first | refine caA (fun _ => hck) rfl ?_ ?_ ?_ | refine awV ?_ ?_ | refine awW ?_ ?_ | refine endK ?_ ?_ | (refine condK (fun h => ?_) (fun h => ?_) <;> (try simp only [go_sem, reduceCtorEq] at h) <;> (try (exfalso; omega))))) | fail)) <;> (try omega)
    exact AV.up_nil2 _ _
  have hr := check_right h0
  have hD := exts_D h0 hts
  rw [checkF_eq' h0]
  rw [h0] at hck
  generalize (checkF ts rs).2 = C2 at *
  (repeat' (first
    | exact trivial
    | (with_reducible first | refine awA ?_ | refine awB ?_ | refine awC ?_ | refine awD ?_ | refine awE ?_ | refine awF ?_ | refine awG ?_ | refine awH ?_ | refine awI ?_ | refine awJ ?_ | refine awK ?_ | refine awL ?_ | refine awM (by decide) ?_)
    | (refine aw_draw (id := 3) (t := (.node [0, 1, 2, 3] [])) (drR [4] [] []) mixed (by kernel_rfl) (by kernel_rfl) (fun _ _ h => h) ?_)
    | (refine at_done (by simp only [List.filterMap_cons, List.filterMap_nil, List.getElem?_toArray, List.getElem?_cons_zero, List.getElem?_cons_succ]; exact rfl) ?_) | (refine at_alt (by simp only [List.filterMap_cons, List.filterMap_nil, List.getElem?_toArray, List.getElem?_cons_zero, List.getElem?_cons_succ]; exact rfl) ?_) | refine qalt_normal ?_ | refine ats_cons ?_ ?_ | exact ats_nil
    | ((with_reducible first | refine awN (tyOf_ok _) [] ?_ | refine awO (tyOf_ok _) [] ?_ | refine awP (tyOf_ok _) [] ?_ | refine awQ ?_ | refine awR ?_ | refine awS ?_); intro r hr; simp only [go_sem, Nat.reduceBEq, Nat.reduceBneDiff, Nat.reduceLT, Nat.reduceLeDiff, Nat.reduceAdd, Nat.reduceMul, Nat.reduceSub, Nat.reduceEqDiff, reduceCtorEq, vSch] at hr; subst hr; (first | refine caA (fun _ => hck) rfl ?_ ?_ ?_ | refine awV ?_ ?_ | refine awW ?_ ?_ | refine endK ?_ ?_ | (refine condK (fun h => ?_) (fun h => ?_) <;> (try simp only [go_sem, reduceCtorEq] at h) <;> (try (exfalso; omega))))) | fail)) <;> (try omega)
  refine aw_nilrow 5 57 4 8000 (.inl (by decide)) (by simp only [go_sem, Nat.reduceBEq, Nat.reduceBneDiff, Nat.reduceLT, Nat.reduceLeDiff, Nat.reduceAdd, Nat.reduceMul, Nat.reduceSub, Nat.reduceEqDiff, reduceCtorEq]) ?_
  refine go_loop [1, 5, 6] [1, 8000] (fun k : Nat => ⟨[(1, true, .ptr 1 1 0 0), (5, true, .ref 57 4 8000 0 k), (6, true, vI k)], [(1, .var [.lst 4 (encTs ts), .lst 2 (encRs rs)]), (8000, .row 57 4 (encEs (exts (ts.take k))))]⟩)
    (fun k => k ≤ ts.length) (fun k => ts.length - k) 0 (by simp only [AState.nilrow, go_sem, Nat.reduceBEq, Nat.reduceBneDiff, Nat.reduceLT, Nat.reduceLeDiff, Nat.reduceAdd, Nat.reduceMul, Nat.reduceSub, Nat.reduceEqDiff, reduceCtorEq] <;> exact rfl) (Nat.zero_le _) ?_
  intro k hk
  have hwk := wrap_i64 (n := (k : Int) + 1) (by omega)
  have hEl := exts_len ts k hk
  by_cases hlt : k < ts.length
  · have f1 : ((k : Int) < ts.length) = True := eq_true (by omega)
    have g1 := encTs_get hlt
    have hnext := exts_succ hlt
    have hc := rone_any ts[k] (exts (ts.take k)) (by rw [hEl]; exact hr k hlt) (hD k hk)
    unfold vE at hc
    generalize exts (ts.take k) = L at *
    have happ : encEs L ++ [[vB (extM ts[k] L).fixed, vI (extM ts[k] L).least, vI (extM ts[k] L).most, vI (extM ts[k] L).depth]] = encEs (exts (ts.take (k + 1))) := by rw [hnext]; simp [encEs, encE]
    have hlL : (exts (ts.take (k + 1))).length = k + 1 := by rw [hnext]; simp [hEl]
    have htk : (encEs L).take k = encEs L := take_len (by rw [encEs_len]; omega)
    (repeat' (first
    | exact trivial
    | (with_reducible first | refine awA ?_ | refine awB ?_ | refine awC ?_ | refine awD ?_ | refine awE ?_ | refine awF ?_ | refine awG ?_ | refine awH ?_ | refine awI ?_ | refine awJ ?_ | refine awK ?_ | refine awL ?_ | refine awM (by decide) ?_)
    | (refine aw_draw (id := 3) (t := (.node [0, 1, 2, 3] [])) (drR [4] [] []) mixed (by kernel_rfl) (by kernel_rfl) (fun _ _ h => h) ?_)
    | (refine at_done (by simp only [List.filterMap_cons, List.filterMap_nil, List.getElem?_toArray, List.getElem?_cons_zero, List.getElem?_cons_succ]; exact rfl) ?_) | (refine at_alt (by simp only [List.filterMap_cons, List.filterMap_nil, List.getElem?_toArray, List.getElem?_cons_zero, List.getElem?_cons_succ]; exact rfl) ?_) | refine qalt_normal ?_ | refine ats_cons ?_ ?_ | exact ats_nil
    | ((with_reducible first | refine awN (tyOf_ok _) [] ?_ | refine awO (tyOf_ok _) [] ?_ | refine awP (tyOf_ok _) [] ?_ | refine awQ ?_ | refine awR ?_ | refine awS ?_); intro r hr; simp only [go_sem, Nat.reduceBEq, Nat.reduceBneDiff, Nat.reduceLT, Nat.reduceLeDiff, Nat.reduceAdd, Nat.reduceMul, Nat.reduceSub, Nat.reduceEqDiff, reduceCtorEq, encTs_len, encEs_len, hwk, f1, g1, happ, htk, hlL] at hr; subst hr; (first | refine caA (fun _ => hc) rfl ?_ ?_ ?_ | refine awV ?_ ?_ | refine awW ?_ ?_ | refine endK ?_ ?_ | (refine condK (fun h => ?_) (fun h => ?_) <;> (try simp only [go_sem, reduceCtorEq] at h) <;> (try (exfalso; omega))))) | fail)) <;> (try omega)
    exact ⟨k + 1, by simp only [go_sem, Nat.reduceBEq, Nat.reduceBneDiff, Nat.reduceLT, Nat.reduceLeDiff, Nat.reduceAdd, Nat.reduceMul, Nat.reduceSub, Nat.reduceEqDiff, reduceCtorEq] <;> exact rfl, hlt, by omega⟩
  · have f1 : ((k : Int) < ts.length) = False := eq_false (by omega)
    have hke : ts.take k = ts := take_len (by omega)
    rw [hke] at hEl ⊢
    (repeat' (first
    | exact trivial
    | (with_reducible first | refine awA ?_ | refine awB ?_ | refine awC ?_ | refine awD ?_ | refine awE ?_ | refine awF ?_ | refine awG ?_ | refine awH ?_ | refine awI ?_ | refine awJ ?_ | refine awK ?_ | refine awL ?_ | refine awM (by decide) ?_)
    | (refine aw_draw (id := 3) (t := (.node [0, 1, 2, 3] [])) (drR [4] [] []) mixed (by kernel_rfl) (by kernel_rfl) (fun _ _ h => h) ?_)
    | (refine at_done (by simp only [List.filterMap_cons, List.filterMap_nil, List.getElem?_toArray, List.getElem?_cons_zero, List.getElem?_cons_succ]; exact rfl) ?_) | (refine at_alt (by simp only [List.filterMap_cons, List.filterMap_nil, List.getElem?_toArray, List.getElem?_cons_zero, List.getElem?_cons_succ]; exact rfl) ?_) | refine qalt_normal ?_ | refine ats_cons ?_ ?_ | exact ats_nil
    | ((with_reducible first | refine awN (tyOf_ok _) [] ?_ | refine awO (tyOf_ok _) [] ?_ | refine awP (tyOf_ok _) [] ?_ | refine awQ ?_ | refine awR ?_ | refine awS ?_); intro r hr; simp only [go_sem, Nat.reduceBEq, Nat.reduceBneDiff, Nat.reduceLT, Nat.reduceLeDiff, Nat.reduceAdd, Nat.reduceMul, Nat.reduceSub, Nat.reduceEqDiff, reduceCtorEq, encTs_len, f1] at hr; subst hr; (first | refine awV ?_ ?_ | refine awW ?_ ?_ | refine endK ?_ ?_ | (refine condK (fun h => ?_) (fun h => ?_) <;> (try simp only [go_sem, reduceCtorEq] at h) <;> (try (exfalso; omega))))) | fail)) <;> (try omega)
    rw [take_len (by rw [encEs_len]; omega)]
    exact AV.up_rfl _
end Go.Proofs.Ytfgacgpicfknpaa
end

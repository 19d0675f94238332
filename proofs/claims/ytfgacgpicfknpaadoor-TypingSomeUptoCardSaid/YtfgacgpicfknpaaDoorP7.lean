import Derived.Test.YtfgacgpicfknpaaDoorP6
set_option linter.all false
section
namespace Go.Proofs.YtfgacgpicfknpaaDoor
open Go.RowKit
set_option maxRecDepth 100000
set_option maxHeartbeats 8000000
def tyA (ts : List TypeM) (t : Nat) : TypeM := (ts[t]?).getD ⟨0, 0, 0, []⟩
theorem tyA_lt {ts : List TypeM} {t : Nat} (h : t < ts.length) : tyA ts t = ts[t] := by rw [tyA, List.getElem?_eq_getElem h]; rfl
abbrev WR := List Int × Int × Int × Int
/-- the types of a value's nodes behind what is there; the place behind it; the first fault -/
def Tr.walk (ts : List TypeM) : Tr → Nat → Int → List Int → WR
  | .node x ks, t, at_, out => if fitsF (tyA ts t) x ≠ 0 then ([], 0, fitsF (tyA ts t) x, at_) else walkL ts (tyA ts t) x.n ks 0 (at_ + 1) (out ++ [(t : Int)])
where walkL (ts : List TypeM) (T : TypeM) (n : Int) : List Tr → Nat → Int → List Int → WR
  | [], _, p, out => (out, p, 0, 0)
  | c :: cs, k, p, out => if (c.walk ts (elemF T n k).toNat p out).2.2.1 ≠ 0 then ([], 0, (c.walk ts (elemF T n k).toNat p out).2.2.1, (c.walk ts (elemF T n k).toNat p out).2.2.2)
    else walkL ts T n cs (k + 1) (c.walk ts (elemF T n k).toNat p out).2.1 (c.walk ts (elemF T n k).toNat p out).1
theorem flatL_app (a b : List Tr) : Tr.flat.flatL (a ++ b) = Tr.flat.flatL a ++ Tr.flat.flatL b := by
  induction a with
  | nil => rfl
  | cons c cs ih => simp [Tr.flat.flatL, ih]
theorem okL_mem : ∀ {ks : List Tr}, Tr.ok.okL ks → ∀ c ∈ ks, c.ok
  | _ :: _, h, _, .head _ => h.1
  | _ :: _, h, c, .tail _ hc => okL_mem h.2 c hc
theorem flatL_mem {ks : List Tr} {c : Tr} (h : c ∈ ks) : c.flat.length ≤ (Tr.flat.flatL ks).length := by
  induction ks with
  | nil => cases h
  | cons d ks ih =>
    simp only [Tr.flat.flatL, List.length_append]
    rcases List.mem_cons.1 h with rfl | h
    · omega
    · have := ih h; omega
theorem flat_pos (c : Tr) : 0 < c.flat.length := by cases c; simp [Tr.flat]
/-- where nothing is at fault: as many places as nodes -/
theorem walk_len (ts : List TypeM) : ∀ (n : Nat) (c : Tr), c.flat.length ≤ n → ∀ (t : Nat) (p : Int) (out : List Int), (c.walk ts t p out).2.2.1 = 0 →
    (c.walk ts t p out).2.1 = p + c.flat.length ∧ (c.walk ts t p out).1.length = out.length + c.flat.length ∧ (c.walk ts t p out).2.2.2 = 0
  | 0, c, h => fun t p out _ => absurd (flat_pos c) (by omega)
  | n + 1, .node x ks, h => fun t p out h0 => by
    have hL : ∀ (l : List Tr), (∀ c ∈ l, c.flat.length ≤ n) → ∀ (T : TypeM) (m : Int) (k : Nat) (p : Int) (out : List Int), (Tr.walk.walkL ts T m l k p out).2.2.1 = 0 →
        (Tr.walk.walkL ts T m l k p out).2.1 = p + (Tr.flat.flatL l).length ∧ (Tr.walk.walkL ts T m l k p out).1.length = out.length + (Tr.flat.flatL l).length ∧ (Tr.walk.walkL ts T m l k p out).2.2.2 = 0 := by
      intro l
      induction l with
      | nil => intro _ T m k p out _; simp [Tr.walk.walkL, Tr.flat.flatL]
      | cons c cs ih =>
        intro hc T m k p out h0
        unfold Tr.walk.walkL at h0 ⊢
        split at h0
        · rename_i h'; exact absurd h0 h'
        · rename_i h'
          rw [if_neg h']
          have h1 := walk_len ts n c (hc c (.head _)) (elemF T m k).toNat p out (by omega)
          have h2 := ih (fun d hd => hc d (.tail _ hd)) T m (k + 1) _ _ h0
          simp only [Tr.flat.flatL, List.length_append]
          refine ⟨by rw [h2.1, h1.1]; omega, by rw [h2.2.1, h1.2.1]; omega, h2.2.2⟩
    unfold Tr.walk at h0 ⊢
    split at h0
    · rename_i h'; exact absurd h0 h'
    · rename_i h'
      rw [if_neg h']
      simp only [Tr.flat, List.length_cons] at h
      have h2 := hL ks (fun c hc => by have := flatL_mem hc; omega) _ _ 0 _ _ h0
      simp only [Tr.flat, List.length_cons]
      simp only [List.length_append, List.length_singleton] at h2
      exact ⟨by rw [h2.1]; omega, by rw [h2.2.1]; omega, h2.2.2⟩
theorem elem_ok {T : TypeM} {k : Nat} (hr : rightOK T k = true) {x : NodeM} (hx : rightN x = true) (hf : fitsF T x = 0) {i : Nat} (hi : (i : Int) < x.kids) : (0 ≤ elemF T x.n i ∧ elemF T x.n i < k) ∧ (T.kind = 8 → i < T.parts.length) := by
  have hty := rightOK_ty hr
  have hkk : x.kind = nkOf T.kind := by
    unfold fitsF at hf
    split at hf
    · cases hf
    · rename_i h; omega
  have hno : x.kind = 1 ∨ x.kind = 2 → False := fun h => by
    rw [rightN, Bool.and_eq_true] at hx
    have := hx.2
    rw [if_neg (by omega), if_neg (by omega), if_neg (by omega), if_neg (by omega), decide_eq_true_eq] at this
    omega
  have h112 : T.kind = 8 → x.kids = T.parts.length := fun h8 => by
    unfold fitsF at hf
    rw [if_neg (by omega), if_neg (by omega)] at hf
    split at hf
    · cases hf
    · rename_i h; omega
  rcases rightOK_kind hr with hk | hk | hk
  · exfalso
    rcases hk with hk | hk | hk <;> (unfold nkOf at hkk; rw [hk] at hkk; exact hno (by first | exact .inl hkk | exact .inr hkk))
  · have := hty.1 hk
    unfold elemF
    rw [if_pos hk]
    exact ⟨this, fun h8 => by omega⟩
  · rcases hk with hk | hk
    · refine ⟨?_, fun h8 => by omega⟩
      unfold elemF
      rw [if_neg (by omega), if_neg (by omega), if_pos hk]
      unfold fitsF at hf
      rw [if_neg (by omega), if_neg (by omega), if_neg (by omega)] at hf
      cases ha : armOf T.parts x.n with
      | none => rw [ha, if_pos ⟨hk, rfl⟩] at hf; cases hf
      | some p => exact hty.2 p (List.mem_of_find?_eq_some ha)
    · have hlt : i < T.parts.length := by have := h112 hk; omega
      rw [elem8 hk hlt]
      exact ⟨hty.2 _ (List.getElem_mem hlt), fun _ => hlt⟩
end Go.Proofs.YtfgacgpicfknpaaDoor
end
section
namespace Go.Proofs.YtfgacgpicfknpaaDoor
open Go.RowKit
set_option maxRecDepth 100000
set_option maxHeartbeats 8000000
def obW (out : List Int) : List (Nat × AObj) := [(15000, .row 3 1 (v8 out))]
def vW (r : WR) : AV := .tup [.ref 3 1 15000 0 r.1.length, vI r.2.1, .agg [vI r.2.2.1, vI r.2.2.2]]
attribute [go_sem] obW vW
structure TOK' (ts : List TypeM) (V : List NodeM) : Prop where
  nts : ts.length ≤ 1000000000
  nV : V.length ≤ 1000000000
  right : ∀ (k : Nat) (h : k < ts.length), rightOK ts[k] k = true
  parts : ∀ t ∈ ts, t.parts.length ≤ 1000000000
  node : ∀ x ∈ V, nodeOK x
  tags : ∀ t ∈ ts, ∀ p ∈ t.parts, I64 p.tag
def WalkAt (ts : List TypeM) (rs : List RootM) (V : List NodeM) (c : Tr) (t : Nat) (p : Nat) : Prop := ∀ out : List Int, out.length ≤ p →
  GCall Tryd.prog 47 [vSch ts rs, vI t, .lst 3 (encNs V), vI p, .ref 3 1 15000 0 out.length] (obW out) (vW (c.walk ts t p out)) (obW (c.walk ts t p out).1)
theorem up_nW (e a : Int) : (AV.tup [.v (.slice none 0 0), vI 0, .agg [vI e, vI a]]).up (vW ([], 0, e, a)) := AV.up_tup (AV.up_cons (AV.up_nilref _ _ _ _) (AV.up_cons (AV.up_rfl _) (AV.up_cons (AV.up_rfl _) AV.up_nilL)))
theorem walk_step {ts : List TypeM} {rs : List RootM} {V : List NodeM} (W : TOK' ts V) (x : NodeM) (ks : List Tr) (hok : (Tr.node x ks).ok) (t : Nat) (ht : t < ts.length) (pre post : List NodeM) (hV : V = pre ++ (Tr.node x ks).flat ++ post)
    (H : ∀ c ∈ ks, ∀ (t' : Nat), t' < ts.length → ∀ (pre' post' : List NodeM), V = pre' ++ c.flat ++ post' → WalkAt ts rs V c t' pre'.length) : WalkAt ts rs V (.node x ks) t pre.length := by
  intro out hout
  have hVl : pre.length + 1 + (Tr.flat.flatL ks).length + post.length = V.length := by rw [hV]; simp [Tr.flat]; omega
  have hNV := W.nV
  have hNts := W.nts
  have hat : V[pre.length]? = some x := by rw [hV]; simp [Tr.flat]
  have hg : (encNs V)[pre.length]? = some [vI x.kind, vU x.n, vI x.kids] := by simp [encNs, hat, encN]
  have hxok : nodeOK x := W.node x (List.mem_of_getElem? hat)
  have hr := W.right t ht
  have hgt := encTs_get ht
  have hta := tyA_lt ht
  have hF := Fits_ok ts[t] t hr x hxok
  have hpl := W.parts _ (List.getElem_mem ht)
  have htag := W.tags _ (List.getElem_mem ht)
  unfold Tr.walk
  rw [hta]
  generalize ts[t] = T at *
  obtain ⟨hrx, hkids, hoks⟩ := hok
  refine go_fnG (tyOf_ok _) Tryd.func47 rfl rfl (by rw [Tryd.results47]) Tryd.ntmps47 rfl fun E => ?_
  by_cases hf : fitsF T x = 0
  case neg =>
    have e1 : (fitsF T x = 0) = False := eq_false hf
    rw [if_pos hf]
    (repeat' (first
    | exact trivial
    | (with_reducible first | refine awA ?_ | refine awB ?_ | refine awC ?_ | refine awD ?_ | refine awE ?_ | refine awF ?_ | refine awG ?_ | refine awH ?_ | refine awI ?_ | refine awJ ?_ | refine awK ?_ | refine awL ?_ | refine awM (by decide) ?_)
    | (refine aw_draw (id := 1) (t := (.node [0, 1, 2, 3, 4, 5, 6, 7, 8, 9, 10] [])) (drR [5] [21, 25] []) mixed (by kernel_rfl) (by kernel_rfl) (fun _ _ h => h) ?_)
    | (refine aw_draw (id := 10) (t := (.node [0, 1, 2, 3, 4, 5, 6, 7, 8, 9, 10, 12, 13, 14, 11, 15, 16, 17, 18, 19, 20, 21, 22] [])) (drR [5] [53, 57] [63]) mixed (by kernel_rfl) (by kernel_rfl) (fun _ _ h => h) ?_)
    | (refine aw_draw (id := 12) (t := (.node [0, 1, 2, 3] [])) (drR [15] [] []) mixed (by kernel_rfl) (by kernel_rfl) (fun _ _ h => h) ?_)
    | (refine aw_draw (id := 13) (t := (.node [0, 1, 2, 3, 4, 5] [])) (drR [15] [] []) mixed (by kernel_rfl) (by kernel_rfl) (fun _ _ h => h) ?_)
    | (refine at_done (by simp only [List.filterMap_cons, List.filterMap_nil, List.getElem?_toArray, List.getElem?_cons_zero, List.getElem?_cons_succ]; exact rfl) ?_) | (refine at_alt (by simp only [List.filterMap_cons, List.filterMap_nil, List.getElem?_toArray, List.getElem?_cons_zero, List.getElem?_cons_succ]; exact rfl) ?_) | refine qalt_normal ?_ | refine ats_cons ?_ ?_ | exact ats_nil
    | ((with_reducible first | refine awN (tyOf_ok _) [] ?_ | refine awO (tyOf_ok _) [] ?_ | refine awP (tyOf_ok _) [] ?_ | refine awQ ?_ | refine awR ?_ | refine awS ?_ | refine awT ?_ | refine awU ?_); intro r hr; simp only [go_sem, Nat.reduceBEq, Nat.reduceBneDiff, Nat.reduceLT, Nat.reduceLeDiff, Nat.reduceAdd, Nat.reduceMul, Nat.reduceSub, Nat.reduceEqDiff, reduceCtorEq, vSch, encTs_len, encNs_len, hgt, hg, e1, vU] at hr; subst hr; (first | refine caA (fun _ => hF) rfl ?_ ?_ ?_ | refine awV ?_ ?_ | refine awW ?_ ?_ | refine endK ?_ ?_ | refine endGK ?_ ?_ ?_ | (refine condK (fun h => ?_) (fun h => ?_) <;> (try simp only [go_sem, reduceCtorEq] at h) <;> (try (exfalso; omega))))) | fail)) <;> (try omega)
    · exact up_nW _ _
    · exact obUp_row0 obUp_nil
  rw [if_neg (by omega)]
  rw [hf] at hF
  have hw1 := wrap_i64 (n := (pre.length : Int) + 1) (by omega)
  have htk : (v8 out).take out.length = v8 out := take_len (by rw [v8_len]; exact Nat.le_refl _)
  have hl1 : (out ++ [(t : Int)]).length = out.length + 1 := by simp
  (repeat' (first
    | exact trivial
    | (with_reducible first | refine awA ?_ | refine awB ?_ | refine awC ?_ | refine awD ?_ | refine awE ?_ | refine awF ?_ | refine awG ?_ | refine awH ?_ | refine awI ?_ | refine awJ ?_ | refine awK ?_ | refine awL ?_ | refine awM (by decide) ?_)
    | (refine aw_draw (id := 1) (t := (.node [0, 1, 2, 3, 4, 5, 6, 7, 8, 9, 10] [])) (drR [5] [21, 25] []) mixed (by kernel_rfl) (by kernel_rfl) (fun _ _ h => h) ?_)
    | (refine aw_draw (id := 10) (t := (.node [0, 1, 2, 3, 4, 5, 6, 7, 8, 9, 10, 12, 13, 14, 11, 15, 16, 17, 18, 19, 20, 21, 22] [])) (drR [5] [53, 57] [63]) mixed (by kernel_rfl) (by kernel_rfl) (fun _ _ h => h) ?_)
    | (refine aw_draw (id := 12) (t := (.node [0, 1, 2, 3] [])) (drR [15] [] []) mixed (by kernel_rfl) (by kernel_rfl) (fun _ _ h => h) ?_)
    | (refine aw_draw (id := 13) (t := (.node [0, 1, 2, 3, 4, 5] [])) (drR [15] [] []) mixed (by kernel_rfl) (by kernel_rfl) (fun _ _ h => h) ?_)
    | (refine at_done (by simp only [List.filterMap_cons, List.filterMap_nil, List.getElem?_toArray, List.getElem?_cons_zero, List.getElem?_cons_succ]; exact rfl) ?_) | (refine at_alt (by simp only [List.filterMap_cons, List.filterMap_nil, List.getElem?_toArray, List.getElem?_cons_zero, List.getElem?_cons_succ]; exact rfl) ?_) | refine qalt_normal ?_ | refine ats_cons ?_ ?_ | exact ats_nil
    | ((with_reducible first | refine awN (tyOf_ok _) [] ?_ | refine awO (tyOf_ok _) [] ?_ | refine awP (tyOf_ok _) [] ?_ | refine awQ ?_ | refine awR ?_ | refine awS ?_ | refine awT ?_ | refine awU ?_); intro r hr; simp only [go_sem, Nat.reduceBEq, Nat.reduceBneDiff, Nat.reduceLT, Nat.reduceLeDiff, Nat.reduceAdd, Nat.reduceMul, Nat.reduceSub, Nat.reduceEqDiff, reduceCtorEq, vSch, encTs_len, encNs_len, hgt, hg, vU, hw1, htk, v8_app, hl1] at hr; subst hr; (first | refine caA (fun _ => hF) rfl ?_ ?_ ?_ | refine awV ?_ ?_ | refine awW ?_ ?_ | refine endK ?_ ?_ | refine endGK ?_ ?_ ?_ | (refine condK (fun h => ?_) (fun h => ?_) <;> (try simp only [go_sem, reduceCtorEq] at h) <;> (try (exfalso; omega))))) | fail)) <;> (try omega)
  generalize hR : Tr.walk.walkL ts T x.n ks 0 ((pre.length : Int) + 1) (out ++ [(t : Int)]) = R
  refine go_loop [1, 2, 3, 4, 5, 12, 14, 15, 16] [5, 12, 15, 15000] (fun q : Nat × List Int => ⟨[(1, true, vI t), (2, true, .lst 3 (encNs V)), (3, true, vI pre.length), (4, true, .ref 3 1 15000 0 q.2.length), (5, true, .ptr 1 5 0 0), (12, true, .ptr 1 12 0 0),
      (14, true, vI ((pre.length : Int) + 1 + (Tr.flat.flatL (ks.take q.1)).length)), (15, true, .ptr 1 15 0 0), (16, true, vI q.1)],
      [(5, .var [.lst 4 (encTs ts), .lst 2 (encRs rs)]), (12, .var [vI 0, vI 0]), (15, .var [vI 0, vI 0]), (15000, .row 3 1 (v8 q.2))]⟩)
    (fun q => q.1 ≤ ks.length ∧ Tr.walk.walkL ts T x.n (ks.drop q.1) q.1 ((pre.length : Int) + 1 + (Tr.flat.flatL (ks.take q.1)).length) q.2 = R ∧ q.2.length ≤ pre.length + 1 + (Tr.flat.flatL (ks.take q.1)).length) (fun q => ks.length - q.1) (0, out ++ [(t : Int)])
    (by simp only [go_sem, Nat.reduceBEq, Nat.reduceBneDiff, Nat.reduceLT, Nat.reduceLeDiff, Nat.reduceAdd, Nat.reduceMul, Nat.reduceSub, Nat.reduceEqDiff, reduceCtorEq, hl1, List.take_zero, Tr.flat.flatL, List.length_nil, Int.natCast_zero, Int.add_zero]) ⟨Nat.zero_le _, by simpa [Tr.flat.flatL] using hR, by simp only; rw [hl1]; omega⟩ ?_
  intro ⟨k, o⟩ ⟨hk, hwalk, hol⟩
  simp only at hk hwalk hol
  clear hR htk hl1 hw1
  have hwk := wrap_i64 (n := (k : Int) + 1) (by have := hxok.2.1; have := rightN_kids hrx; omega)
  by_cases hlt : k < ks.length
  · have e1 : ((k : Int) < x.kids) = True := eq_true (by omega)
    obtain ⟨hel, hk8⟩ := elem_ok hr hrx hf (i := k) (by omega)
    have hE := Elem_any T hpl htag x hxok.2.2 k hk8
    obtain ⟨te, hte⟩ : ∃ te : Nat, elemF T x.n k = te := ⟨(elemF T x.n k).toNat, by omega⟩
    rw [List.drop_eq_getElem_cons hlt, Tr.walk.walkL] at hwalk
    rw [hte] at hE hwalk hel
    rw [Int.toNat_natCast] at hwalk
    have hmem := List.getElem_mem hlt
    have hfl : Tr.flat.flatL ks = Tr.flat.flatL (ks.take k) ++ ((ks[k]).flat ++ Tr.flat.flatL (ks.drop (k + 1))) := by
      rw [show (ks[k]).flat ++ Tr.flat.flatL (ks.drop (k + 1)) = Tr.flat.flatL (ks[k] :: ks.drop (k + 1)) from rfl, ← List.drop_eq_getElem_cons hlt, ← flatL_app, List.take_append_drop]
    have hflk : Tr.flat.flatL (ks.take (k + 1)) = Tr.flat.flatL (ks.take k) ++ (ks[k]).flat := by
      rw [List.take_succ_eq_append_getElem hlt, flatL_app]; simp [Tr.flat.flatL]
    have hcall := H ks[k] hmem te (by omega) (pre ++ x :: Tr.flat.flatL (ks.take k)) (Tr.flat.flatL (ks.drop (k + 1)) ++ post) (by rw [hV]; simp [Tr.flat, hfl])
    have hpos : (pre ++ x :: Tr.flat.flatL (ks.take k)).length = pre.length + 1 + (Tr.flat.flatL (ks.take k)).length := by simp; omega
    unfold WalkAt at hcall
    rw [hpos] at hcall
    have hc := hcall o hol
    have hp2 : ((pre.length + 1 + (Tr.flat.flatL (ks.take k)).length : Nat) : Int) = (pre.length : Int) + 1 + (Tr.flat.flatL (ks.take k)).length := by omega
    rw [hp2] at hc
    have hlen := walk_len ts _ ks[k] (Nat.le_refl _) te ((pre.length : Int) + 1 + (Tr.flat.flatL (ks.take k)).length) o
    generalize hp3 : (pre.length : Int) + 1 + (Tr.flat.flatL (ks.take k)).length = P at *
    have hflk' : (Tr.flat.flatL (ks.take (k + 1))).length = (Tr.flat.flatL (ks.take k)).length + (ks[k]).flat.length := by rw [hflk, List.length_append]
    generalize Tr.walk ts ks[k] te P o = r at *
    obtain ⟨o', p', e, a⟩ := r
    dsimp only at hwalk hlen
    by_cases he : e = 0
    · have f1 : (e = 0) = True := eq_true he
      rw [if_neg (by omega)] at hwalk
      obtain ⟨l1, l2, l3⟩ := hlen he
      subst he
      subst l3
      (repeat' (first
    | exact trivial
    | (with_reducible first | refine awA ?_ | refine awB ?_ | refine awC ?_ | refine awD ?_ | refine awE ?_ | refine awF ?_ | refine awG ?_ | refine awH ?_ | refine awI ?_ | refine awJ ?_ | refine awK ?_ | refine awL ?_ | refine awM (by decide) ?_)
    | (refine aw_draw (id := 1) (t := (.node [0, 1, 2, 3, 4, 5, 6, 7, 8, 9, 10] [])) (drR [5] [21, 25] []) mixed (by kernel_rfl) (by kernel_rfl) (fun _ _ h => h) ?_)
    | (refine aw_draw (id := 10) (t := (.node [0, 1, 2, 3, 4, 5, 6, 7, 8, 9, 10, 12, 13, 14, 11, 15, 16, 17, 18, 19, 20, 21, 22] [])) (drR [5] [53, 57] [63]) mixed (by kernel_rfl) (by kernel_rfl) (fun _ _ h => h) ?_)
    | (refine aw_draw (id := 12) (t := (.node [0, 1, 2, 3] [])) (drR [15] [] []) mixed (by kernel_rfl) (by kernel_rfl) (fun _ _ h => h) ?_)
    | (refine aw_draw (id := 13) (t := (.node [0, 1, 2, 3, 4, 5] [])) (drR [15] [] []) mixed (by kernel_rfl) (by kernel_rfl) (fun _ _ h => h) ?_)
    | (refine at_done (by simp only [List.filterMap_cons, List.filterMap_nil, List.getElem?_toArray, List.getElem?_cons_zero, List.getElem?_cons_succ]; exact rfl) ?_) | (refine at_alt (by simp only [List.filterMap_cons, List.filterMap_nil, List.getElem?_toArray, List.getElem?_cons_zero, List.getElem?_cons_succ]; exact rfl) ?_) | refine qalt_normal ?_ | refine ats_cons ?_ ?_ | exact ats_nil
    | ((with_reducible first | refine awN (tyOf_ok _) [] ?_ | refine awO (tyOf_ok _) [] ?_ | refine awP (tyOf_ok _) [] ?_ | refine awQ ?_ | refine awR ?_ | refine awS ?_ | refine awT ?_ | refine awU ?_); intro r hr; simp only [go_sem, Nat.reduceBEq, Nat.reduceBneDiff, Nat.reduceLT, Nat.reduceLeDiff, Nat.reduceAdd, Nat.reduceMul, Nat.reduceSub, Nat.reduceEqDiff, reduceCtorEq, vSch, encTs_len, encNs_len, hgt, hg, vU, e1, hwk] at hr; subst hr; (first | refine caA (fun _ => hE) rfl ?_ ?_ ?_ | refine awV ?_ ?_ | refine awW ?_ ?_ | refine endK ?_ ?_ | refine endGK ?_ ?_ ?_ | (refine condK (fun h => ?_) (fun h => ?_) <;> (try simp only [go_sem, reduceCtorEq] at h) <;> (try (exfalso; omega)))))
    | (refine go_callGE [(15000, 15000)] [(15000, 15000)] [15000] [] ?_; intro r hr; simp only [go_sem, Nat.reduceBEq, Nat.reduceBneDiff, Nat.reduceLT, Nat.reduceLeDiff, Nat.reduceAdd, Nat.reduceMul, Nat.reduceSub, Nat.reduceEqDiff, reduceCtorEq, vSch, encTs_len, encNs_len, hgt, hg, vU, e1, hwk] at hr; subst hr; refine callGK (hc) rfl rfl (by first | exact .inl rfl | exact .inr rfl) ?_ (.inl rfl) ?_) | fail)) <;> (try omega)
      have hp' : p' = (pre.length : Int) + 1 + ((Tr.flat.flatL (ks.take (k + 1))).length : Int) := by rw [hflk']; omega
      exact ⟨(k + 1, o'), by simp only [go_sem, Nat.reduceBEq, Nat.reduceBneDiff, Nat.reduceLT, Nat.reduceLeDiff, Nat.reduceAdd, Nat.reduceMul, Nat.reduceSub, Nat.reduceEqDiff, reduceCtorEq, hp']; exact rfl, ⟨hlt, by rw [← hp']; exact hwalk, by simp only; rw [hflk']; omega⟩, by simp only; omega⟩
    · have f1 : (e = 0) = False := eq_false he
      rw [if_pos (by omega)] at hwalk
      subst hwalk
      (repeat' (first
    | exact trivial
    | (with_reducible first | refine awA ?_ | refine awB ?_ | refine awC ?_ | refine awD ?_ | refine awE ?_ | refine awF ?_ | refine awG ?_ | refine awH ?_ | refine awI ?_ | refine awJ ?_ | refine awK ?_ | refine awL ?_ | refine awM (by decide) ?_)
    | (refine aw_draw (id := 1) (t := (.node [0, 1, 2, 3, 4, 5, 6, 7, 8, 9, 10] [])) (drR [5] [21, 25] []) mixed (by kernel_rfl) (by kernel_rfl) (fun _ _ h => h) ?_)
    | (refine aw_draw (id := 10) (t := (.node [0, 1, 2, 3, 4, 5, 6, 7, 8, 9, 10, 12, 13, 14, 11, 15, 16, 17, 18, 19, 20, 21, 22] [])) (drR [5] [53, 57] [63]) mixed (by kernel_rfl) (by kernel_rfl) (fun _ _ h => h) ?_)
    | (refine aw_draw (id := 12) (t := (.node [0, 1, 2, 3] [])) (drR [15] [] []) mixed (by kernel_rfl) (by kernel_rfl) (fun _ _ h => h) ?_)
    | (refine aw_draw (id := 13) (t := (.node [0, 1, 2, 3, 4, 5] [])) (drR [15] [] []) mixed (by kernel_rfl) (by kernel_rfl) (fun _ _ h => h) ?_)
    | (refine at_done (by simp only [List.filterMap_cons, List.filterMap_nil, List.getElem?_toArray, List.getElem?_cons_zero, List.getElem?_cons_succ]; exact rfl) ?_) | (refine at_alt (by simp only [List.filterMap_cons, List.filterMap_nil, List.getElem?_toArray, List.getElem?_cons_zero, List.getElem?_cons_succ]; exact rfl) ?_) | refine qalt_normal ?_ | refine ats_cons ?_ ?_ | exact ats_nil
    | ((with_reducible first | refine awN (tyOf_ok _) [] ?_ | refine awO (tyOf_ok _) [] ?_ | refine awP (tyOf_ok _) [] ?_ | refine awQ ?_ | refine awR ?_ | refine awS ?_ | refine awT ?_ | refine awU ?_); intro r hr; simp only [go_sem, Nat.reduceBEq, Nat.reduceBneDiff, Nat.reduceLT, Nat.reduceLeDiff, Nat.reduceAdd, Nat.reduceMul, Nat.reduceSub, Nat.reduceEqDiff, reduceCtorEq, vSch, encTs_len, encNs_len, hgt, hg, vU, e1, f1, hwk] at hr; subst hr; (first | refine caA (fun _ => hE) rfl ?_ ?_ ?_ | refine awV ?_ ?_ | refine awW ?_ ?_ | refine endK ?_ ?_ | refine endGK ?_ ?_ ?_ | (refine condK (fun h => ?_) (fun h => ?_) <;> (try simp only [go_sem, reduceCtorEq] at h) <;> (try (exfalso; omega)))))
    | (refine go_callGE [(15000, 15000)] [(15000, 15000)] [15000] [] ?_; intro r hr; simp only [go_sem, Nat.reduceBEq, Nat.reduceBneDiff, Nat.reduceLT, Nat.reduceLeDiff, Nat.reduceAdd, Nat.reduceMul, Nat.reduceSub, Nat.reduceEqDiff, reduceCtorEq, vSch, encTs_len, encNs_len, hgt, hg, vU, e1, f1, hwk] at hr; subst hr; refine callGK (hc) rfl rfl (by first | exact .inl rfl | exact .inr rfl) ?_ (.inl rfl) ?_) | fail)) <;> (try omega)
      · exact up_nW _ _
      · exact obUp_row0 obUp_nil
  · have e1 : ((k : Int) < x.kids) = False := eq_false (by omega)
    rw [List.drop_eq_nil_of_le (by omega), Tr.walk.walkL] at hwalk
    subst hwalk
    (repeat' (first
    | exact trivial
    | (with_reducible first | refine awA ?_ | refine awB ?_ | refine awC ?_ | refine awD ?_ | refine awE ?_ | refine awF ?_ | refine awG ?_ | refine awH ?_ | refine awI ?_ | refine awJ ?_ | refine awK ?_ | refine awL ?_ | refine awM (by decide) ?_)
    | (refine aw_draw (id := 1) (t := (.node [0, 1, 2, 3, 4, 5, 6, 7, 8, 9, 10] [])) (drR [5] [21, 25] []) mixed (by kernel_rfl) (by kernel_rfl) (fun _ _ h => h) ?_)
    | (refine aw_draw (id := 10) (t := (.node [0, 1, 2, 3, 4, 5, 6, 7, 8, 9, 10, 12, 13, 14, 11, 15, 16, 17, 18, 19, 20, 21, 22] [])) (drR [5] [53, 57] [63]) mixed (by kernel_rfl) (by kernel_rfl) (fun _ _ h => h) ?_)
    | (refine aw_draw (id := 12) (t := (.node [0, 1, 2, 3] [])) (drR [15] [] []) mixed (by kernel_rfl) (by kernel_rfl) (fun _ _ h => h) ?_)
    | (refine aw_draw (id := 13) (t := (.node [0, 1, 2, 3, 4, 5] [])) (drR [15] [] []) mixed (by kernel_rfl) (by kernel_rfl) (fun _ _ h => h) ?_)
    | (refine at_done (by simp only [List.filterMap_cons, List.filterMap_nil, List.getElem?_toArray, List.getElem?_cons_zero, List.getElem?_cons_succ]; exact rfl) ?_) | (refine at_alt (by simp only [List.filterMap_cons, List.filterMap_nil, List.getElem?_toArray, List.getElem?_cons_zero, List.getElem?_cons_succ]; exact rfl) ?_) | refine qalt_normal ?_ | refine ats_cons ?_ ?_ | exact ats_nil
    | ((with_reducible first | refine awN (tyOf_ok _) [] ?_ | refine awO (tyOf_ok _) [] ?_ | refine awP (tyOf_ok _) [] ?_ | refine awQ ?_ | refine awR ?_ | refine awS ?_ | refine awT ?_ | refine awU ?_); intro r hr; simp only [go_sem, Nat.reduceBEq, Nat.reduceBneDiff, Nat.reduceLT, Nat.reduceLeDiff, Nat.reduceAdd, Nat.reduceMul, Nat.reduceSub, Nat.reduceEqDiff, reduceCtorEq, encTs_len, encNs_len, hg, vU, e1] at hr; subst hr; (first | refine awV ?_ ?_ | refine awW ?_ ?_ | refine endK ?_ ?_ | refine endGK ?_ ?_ ?_ | (refine condK (fun h => ?_) (fun h => ?_) <;> (try simp only [go_sem, reduceCtorEq] at h) <;> (try (exfalso; omega))))) | fail)) <;> (try omega)
    · exact AV.up_rfl _
    · exact obUp_cons rfl obUp_nil
theorem walk_any {ts : List TypeM} {rs : List RootM} {V : List NodeM} (W : TOK' ts V) : ∀ (n : Nat) (c : Tr), c.flat.length ≤ n → c.ok → ∀ (t : Nat), t < ts.length → ∀ (pre post : List NodeM), V = pre ++ c.flat ++ post → WalkAt ts rs V c t pre.length
  | 0, c, h => absurd (flat_pos c) (by omega)
  | n + 1, .node x ks, h => fun hok t ht pre post hV => by
    simp only [Tr.flat, List.length_cons] at h
    exact walk_step W x ks hok t ht pre post hV fun c hc t' ht' pre' post' hV' => walk_any W n c (by have := flatL_mem hc; omega) (okL_mem hok.2.2 c hc) t' ht' pre' post' hV'
/-- a call that is handed an empty list, read as one that is handed nil -/
theorem GCall.weak {P : Program} {f : Nat} {as' bs : List AV} {ob ob' ob1 : List (Nat × AObj)} {r : AV} (h : GCall P f bs ob r ob1) (hu : AV.upL as' bs) (ho : obUp ob' ob) : GCall P f as' ob' r ob1 := by
  obtain ⟨h1, h2⟩ := h
  obtain ⟨u1, u2⟩ := AV.upL_get hu
  exact ⟨h1, fun w F β vs hI hl ha => h2 w F β vs ⟨hI.fl, hI.inj, hI.rng, obUp_ok ho hI.ob⟩ (hl.trans u1) fun i x v hx hv => by
    obtain ⟨a, ha', hau⟩ := u2 i x hx
    exact hau _ _ _ _ (ha i a v ha' hv)⟩
/-- the answer of mortiseref10.Types -/
def typesF (ts : List TypeM) (rs : List RootM) (t : Int) (V : List NodeM) (c : Tr) : List Int × Int × Int :=
  if (checkF ts rs).1 ≠ 0 then ([], (checkF ts rs).1, (checkF ts rs).2)
  else if t < 0 ∨ (ts.length : Int) ≤ t then ([], 3, 0)
  else if (chkN V).1 ≠ 0 then ([], (chkN V).1, (chkN V).2)
  else ((c.walk ts t.toNat 0 []).1, (c.walk ts t.toNat 0 []).2.2.1, (c.walk ts t.toNat 0 []).2.2.2)
end Go.Proofs.YtfgacgpicfknpaaDoor
end
section
namespace Go.Proofs.YtfgacgpicfknpaaDoor
open Go.RowKit
set_option maxRecDepth 100000
set_option maxHeartbeats 8000000
theorem walk0_any {ts : List TypeM} {rs : List RootM} {V : List NodeM} (W : TOK' ts V) (c : Tr) (hc : c.flat = V) (hok : c.ok) (t : Nat) (ht : t < ts.length) :
    GCall Tryd.prog 47 [vSch ts rs, vI t, .lst 3 (encNs V), vI 0, .v (.slice none 0 0)] [] (vW (c.walk ts t 0 [])) (obW (c.walk ts t 0 []).1) := by
  have h := walk_any (rs := rs) W _ c (Nat.le_refl _) hok t ht [] [] (by simp [hc]) [] (Nat.zero_le _)
  exact GCall.weak h (AV.up_cons (AV.up_rfl _) (AV.up_cons (AV.up_rfl _) (AV.up_cons (AV.up_rfl _) (AV.up_cons (AV.up_rfl _) (AV.up_cons (AV.up_nilref _ _ _ _) AV.up_nilL))))) (obUp_row0 obUp_nil)
theorem Types_any (ts : List TypeM) (rs : List RootM) (hts : ts.length ≤ 1000000000) (hrs : rs.length ≤ 1000000000) (hp : ∀ t ∈ ts, t.parts.length ≤ 1000000000) (hg : ∀ t ∈ ts, ∀ p ∈ t.parts, I64 p.tag) (t : Int) (ht : I64 t) (V : List NodeM) (hV : V.length ≤ 1000000000) (hv : ∀ x ∈ V, nodeOK x)
    (c : Tr) (hc : (chkN V).1 = 0 → c.flat = V ∧ c.ok) :
    PCall Tryd.prog 36 [vSch ts rs, vI t, .lst 3 (encNs V)] (fun r => r = .tup [.lst 1 (v8 (typesF ts rs t V c).1), .agg [vI (typesF ts rs t V c).2.1, vI (typesF ts rs t V c).2.2]]) := by
  refine go_fnU (tyOf_ok _) Tryd.func36 rfl rfl (by rw [Tryd.results36]) Tryd.ntmps36 rfl fun E => ?_
  have hck := rcheck_any ts rs hts hrs hp
  have h4 := check04_any V hV
  unfold vF at hck
  by_cases h0 : (checkF ts rs).1 = 0
  case neg =>
    rw [typesF, if_pos h0]
    have e1 : ((checkF ts rs).1 = 0) = False := eq_false h0
    generalize checkF ts rs = C at *
    (repeat' (first
    | exact trivial
    | (with_reducible first | refine awA ?_ | refine awB ?_ | refine awC ?_ | refine awD ?_ | refine awE ?_ | refine awF ?_ | refine awG ?_ | refine awH ?_ | refine awI ?_ | refine awJ ?_ | refine awK ?_ | refine awL ?_ | refine awM (by decide) ?_)
    | (refine aw_draw (id := 3) (t := (.node [0, 1, 2] [])) (drR [8] [] []) mixed (by kernel_rfl) (by kernel_rfl) (fun _ _ h => h) ?_)
    | (refine aw_draw (id := 10) (t := (.node [0, 1, 2, 3] [])) (drR [8] [] []) mixed (by kernel_rfl) (by kernel_rfl) (fun _ _ h => h) ?_)
    | (refine at_done (by simp only [List.filterMap_cons, List.filterMap_nil, List.getElem?_toArray, List.getElem?_cons_zero, List.getElem?_cons_succ]; exact rfl) ?_) | (refine at_alt (by simp only [List.filterMap_cons, List.filterMap_nil, List.getElem?_toArray, List.getElem?_cons_zero, List.getElem?_cons_succ]; exact rfl) ?_) | refine qalt_normal ?_ | refine ats_cons ?_ ?_ | exact ats_nil
    | ((with_reducible first | refine awN (tyOf_ok _) [] ?_ | refine awO (tyOf_ok _) [] ?_ | refine awP (tyOf_ok _) [] ?_ | refine awQ ?_ | refine awR ?_ | refine awS ?_); intro r hr; simp only [go_sem, Nat.reduceBEq, Nat.reduceBneDiff, Nat.reduceLT, Nat.reduceLeDiff, Nat.reduceAdd, Nat.reduceMul, Nat.reduceSub, Nat.reduceEqDiff, reduceCtorEq, vSch, e1] at hr; subst hr; (first | refine caA (fun _ => hck) rfl ?_ ?_ ?_ | refine awV ?_ ?_ | refine awW ?_ ?_ | refine endK ?_ ?_ | (refine condK (fun h => ?_) (fun h => ?_) <;> (try simp only [go_sem, reduceCtorEq] at h) <;> (try (exfalso; omega))))) | fail)) <;> (try omega)
    exact AV.up_nil2 _ _
  have W : TOK' ts V := ⟨hts, hV, check_right h0, hp, hv, hg⟩
  rw [h0] at hck
  rw [typesF, if_neg (by omega)]
  generalize (checkF ts rs).2 = C2 at *
  by_cases h1 : t < 0
  · have e1 : (t < 0) = True := eq_true h1
    rw [if_pos (.inl h1)]
    (repeat' (first
    | exact trivial
    | (with_reducible first | refine awA ?_ | refine awB ?_ | refine awC ?_ | refine awD ?_ | refine awE ?_ | refine awF ?_ | refine awG ?_ | refine awH ?_ | refine awI ?_ | refine awJ ?_ | refine awK ?_ | refine awL ?_ | refine awM (by decide) ?_)
    | (refine aw_draw (id := 3) (t := (.node [0, 1, 2] [])) (drR [8] [] []) mixed (by kernel_rfl) (by kernel_rfl) (fun _ _ h => h) ?_)
    | (refine aw_draw (id := 10) (t := (.node [0, 1, 2, 3] [])) (drR [8] [] []) mixed (by kernel_rfl) (by kernel_rfl) (fun _ _ h => h) ?_)
    | (refine at_done (by simp only [List.filterMap_cons, List.filterMap_nil, List.getElem?_toArray, List.getElem?_cons_zero, List.getElem?_cons_succ]; exact rfl) ?_) | (refine at_alt (by simp only [List.filterMap_cons, List.filterMap_nil, List.getElem?_toArray, List.getElem?_cons_zero, List.getElem?_cons_succ]; exact rfl) ?_) | refine qalt_normal ?_ | refine ats_cons ?_ ?_ | exact ats_nil
    | ((with_reducible first | refine awN (tyOf_ok _) [] ?_ | refine awO (tyOf_ok _) [] ?_ | refine awP (tyOf_ok _) [] ?_ | refine awQ ?_ | refine awR ?_ | refine awS ?_); intro r hr; simp only [go_sem, Nat.reduceBEq, Nat.reduceBneDiff, Nat.reduceLT, Nat.reduceLeDiff, Nat.reduceAdd, Nat.reduceMul, Nat.reduceSub, Nat.reduceEqDiff, reduceCtorEq, vSch, encTs_len, e1] at hr; subst hr; (first | refine caA (fun _ => hck) rfl ?_ ?_ ?_ | refine awV ?_ ?_ | refine awW ?_ ?_ | refine endK ?_ ?_ | (refine condK (fun h => ?_) (fun h => ?_) <;> (try simp only [go_sem, reduceCtorEq] at h) <;> (try (exfalso; omega))))) | fail)) <;> (try omega)
    exact AV.up_nil2 _ _
  have e1 : (t < 0) = False := eq_false h1
  by_cases h2 : (ts.length : Int) ≤ t
  · have e2 : ((ts.length : Int) ≤ t) = True := eq_true h2
    rw [if_pos (.inr h2)]
    (repeat' (first
    | exact trivial
    | (with_reducible first | refine awA ?_ | refine awB ?_ | refine awC ?_ | refine awD ?_ | refine awE ?_ | refine awF ?_ | refine awG ?_ | refine awH ?_ | refine awI ?_ | refine awJ ?_ | refine awK ?_ | refine awL ?_ | refine awM (by decide) ?_)
    | (refine aw_draw (id := 3) (t := (.node [0, 1, 2] [])) (drR [8] [] []) mixed (by kernel_rfl) (by kernel_rfl) (fun _ _ h => h) ?_)
    | (refine aw_draw (id := 10) (t := (.node [0, 1, 2, 3] [])) (drR [8] [] []) mixed (by kernel_rfl) (by kernel_rfl) (fun _ _ h => h) ?_)
    | (refine at_done (by simp only [List.filterMap_cons, List.filterMap_nil, List.getElem?_toArray, List.getElem?_cons_zero, List.getElem?_cons_succ]; exact rfl) ?_) | (refine at_alt (by simp only [List.filterMap_cons, List.filterMap_nil, List.getElem?_toArray, List.getElem?_cons_zero, List.getElem?_cons_succ]; exact rfl) ?_) | refine qalt_normal ?_ | refine ats_cons ?_ ?_ | exact ats_nil
    | ((with_reducible first | refine awN (tyOf_ok _) [] ?_ | refine awO (tyOf_ok _) [] ?_ | refine awP (tyOf_ok _) [] ?_ | refine awQ ?_ | refine awR ?_ | refine awS ?_); intro r hr; simp only [go_sem, Nat.reduceBEq, Nat.reduceBneDiff, Nat.reduceLT, Nat.reduceLeDiff, Nat.reduceAdd, Nat.reduceMul, Nat.reduceSub, Nat.reduceEqDiff, reduceCtorEq, vSch, encTs_len, e1, e2] at hr; subst hr; (first | refine caA (fun _ => hck) rfl ?_ ?_ ?_ | refine awV ?_ ?_ | refine awW ?_ ?_ | refine endK ?_ ?_ | (refine condK (fun h => ?_) (fun h => ?_) <;> (try simp only [go_sem, reduceCtorEq] at h) <;> (try (exfalso; omega))))) | fail)) <;> (try omega)
    exact AV.up_nil2 _ _
  have e2 : ((ts.length : Int) ≤ t) = False := eq_false h2
  rw [if_neg (by omega)]
  by_cases h3 : (chkN V).1 = 0
  case neg =>
    have e3 : ((chkN V).1 = 0) = False := eq_false h3
    rw [if_pos h3]
    generalize chkN V = D at *
    (repeat' (first
    | exact trivial
    | (with_reducible first | refine awA ?_ | refine awB ?_ | refine awC ?_ | refine awD ?_ | refine awE ?_ | refine awF ?_ | refine awG ?_ | refine awH ?_ | refine awI ?_ | refine awJ ?_ | refine awK ?_ | refine awL ?_ | refine awM (by decide) ?_)
    | (refine aw_draw (id := 3) (t := (.node [0, 1, 2] [])) (drR [8] [] []) mixed (by kernel_rfl) (by kernel_rfl) (fun _ _ h => h) ?_)
    | (refine aw_draw (id := 10) (t := (.node [0, 1, 2, 3] [])) (drR [8] [] []) mixed (by kernel_rfl) (by kernel_rfl) (fun _ _ h => h) ?_)
    | (refine at_done (by simp only [List.filterMap_cons, List.filterMap_nil, List.getElem?_toArray, List.getElem?_cons_zero, List.getElem?_cons_succ]; exact rfl) ?_) | (refine at_alt (by simp only [List.filterMap_cons, List.filterMap_nil, List.getElem?_toArray, List.getElem?_cons_zero, List.getElem?_cons_succ]; exact rfl) ?_) | refine qalt_normal ?_ | refine ats_cons ?_ ?_ | exact ats_nil
    | ((with_reducible first | refine awN (tyOf_ok _) [] ?_ | refine awO (tyOf_ok _) [] ?_ | refine awP (tyOf_ok _) [] ?_ | refine awQ ?_ | refine awR ?_ | refine awS ?_); intro r hr; simp only [go_sem, Nat.reduceBEq, Nat.reduceBneDiff, Nat.reduceLT, Nat.reduceLeDiff, Nat.reduceAdd, Nat.reduceMul, Nat.reduceSub, Nat.reduceEqDiff, reduceCtorEq, vSch, encTs_len, e1, e2, e3] at hr; subst hr; (first | refine caA (fun _ => hck) rfl ?_ ?_ ?_ | refine caA (fun _ => h4) rfl ?_ ?_ ?_ | refine awV ?_ ?_ | refine awW ?_ ?_ | refine endK ?_ ?_ | (refine condK (fun h => ?_) (fun h => ?_) <;> (try simp only [go_sem, reduceCtorEq] at h) <;> (try (exfalso; omega))))) | fail)) <;> (try omega)
    exact AV.up_nil2 _ _
  obtain ⟨hc1, hc2⟩ := hc h3
  rw [h3] at h4
  rw [if_neg (by omega)]
  generalize (chkN V).2 = D2 at *
  have hw := walk0_any (rs := rs) W c hc1 hc2 t.toNat (by omega)
  rw [Int.toNat_of_nonneg (by omega)] at hw
  generalize c.walk ts t.toNat 0 [] = r at *
  obtain ⟨o, p, e, a⟩ := r
  (repeat' (first
    | exact trivial
    | (with_reducible first | refine awA ?_ | refine awB ?_ | refine awC ?_ | refine awD ?_ | refine awE ?_ | refine awF ?_ | refine awG ?_ | refine awH ?_ | refine awI ?_ | refine awJ ?_ | refine awK ?_ | refine awL ?_ | refine awM (by decide) ?_)
    | (refine aw_draw (id := 3) (t := (.node [0, 1, 2] [])) (drR [8] [] []) mixed (by kernel_rfl) (by kernel_rfl) (fun _ _ h => h) ?_)
    | (refine aw_draw (id := 10) (t := (.node [0, 1, 2, 3] [])) (drR [8] [] []) mixed (by kernel_rfl) (by kernel_rfl) (fun _ _ h => h) ?_)
    | (refine at_done (by simp only [List.filterMap_cons, List.filterMap_nil, List.getElem?_toArray, List.getElem?_cons_zero, List.getElem?_cons_succ]; exact rfl) ?_) | (refine at_alt (by simp only [List.filterMap_cons, List.filterMap_nil, List.getElem?_toArray, List.getElem?_cons_zero, List.getElem?_cons_succ]; exact rfl) ?_) | refine qalt_normal ?_ | refine ats_cons ?_ ?_ | exact ats_nil
    | ((with_reducible first | refine awN (tyOf_ok _) [] ?_ | refine awO (tyOf_ok _) [] ?_ | refine awP (tyOf_ok _) [] ?_ | refine awQ ?_ | refine awR ?_ | refine awS ?_); intro r hr; simp only [go_sem, Nat.reduceBEq, Nat.reduceBneDiff, Nat.reduceLT, Nat.reduceLeDiff, Nat.reduceAdd, Nat.reduceMul, Nat.reduceSub, Nat.reduceEqDiff, reduceCtorEq, vSch, encTs_len, e1, e2, take_len (Nat.le_refl _)] at hr; subst hr; (first | refine caA (fun _ => hck) rfl ?_ ?_ ?_ | refine caA (fun _ => h4) rfl ?_ ?_ ?_ | refine awV ?_ ?_ | refine awW ?_ ?_ | refine endK ?_ ?_ | (refine condK (fun h => ?_) (fun h => ?_) <;> (try simp only [go_sem, reduceCtorEq] at h) <;> (try (exfalso; omega)))))
    | (refine go_callGE [] [(15000, 43)] [43] [] ?_; intro r hr; simp only [go_sem, Nat.reduceBEq, Nat.reduceBneDiff, Nat.reduceLT, Nat.reduceLeDiff, Nat.reduceAdd, Nat.reduceMul, Nat.reduceSub, Nat.reduceEqDiff, reduceCtorEq, vSch, encTs_len, e1, e2, take_len (Nat.le_refl _)] at hr; subst hr; refine callGK (hw) rfl rfl (by first | exact .inl rfl | exact .inr rfl) ?_ (.inl rfl) ?_) | fail)) <;> (try omega)
  rw [take_len (by rw [v8_len]; exact Nat.le_refl _)]
  exact AV.up_rfl _
end Go.Proofs.YtfgacgpicfknpaaDoor
end
section
namespace Go.Proofs.YtfgacgpicfknpaaDoor
open Go.RowKit
set_option maxRecDepth 100000
set_option maxHeartbeats 8000000
section
variable {P : Program} {E : Env} {s : AState} {n : Nat} {Q : Exit → AState → Prop}
/-- a cut behind a block -/
theorem go_cutK {α : Type} {c d : Code} (id : Nat) (ts os : List Nat) (sh : α → AState) (inv : α → Prop)
    (h1 : AWp P E n (.block id c) (ASeq (fun s' => ∃ y, s'.keep ts os = sh y ∧ inv y) Q) s) (h2 : ∀ y, inv y → AWp P E n d Q (sh y)) : AWp P E n (.block id c) (ASeq (AWp P E n d Q) Q) s := fun a w hw => wp_mono (h1 a w hw) fun e a' w' hl => by
  cases e with
  | normal =>
    obtain ⟨s', ⟨y, g1, g2⟩, g3⟩ := hl
    refine ⟨s'.keep ts os, ?_, g3.weaken (fun t p => lk_keep s'.fr t p ts) (fun d o => lk_keep s'.ob d o os)⟩
    rw [g1]
    exact h2 y g2
  | _ => exact hl
end
section
variable {P : Program} {E : Env} {s : AState} {n : Nat} {Q : Exit → AState → Prop}
/-- a cut behind a branching -/
theorem go_cutC {α : Type} {c e d : Code} (o : Operand) (ts os : List Nat) (sh : α → AState) (inv : α → Prop)
    (h1 : AWp P E n (.cond o c e) (ASeq (fun s' => ∃ y, s'.keep ts os = sh y ∧ inv y) Q) s) (h2 : ∀ y, inv y → AWp P E n d Q (sh y)) : AWp P E n (.cond o c e) (ASeq (AWp P E n d Q) Q) s := fun a w hw => wp_mono (h1 a w hw) fun e a' w' hl => by
  cases e with
  | normal =>
    obtain ⟨s', ⟨y, g1, g2⟩, g3⟩ := hl
    refine ⟨s'.keep ts os, ?_, g3.weaken (fun t p => lk_keep s'.fr t p ts) (fun d o => lk_keep s'.ob d o os)⟩
    rw [g1]
    exact h2 y g2
  | _ => exact hl
/-- a goal that waits -/
structure Hold (p : Prop) : Prop where
  out : p
theorem hold {p : Prop} (h : Hold p) : p := h.out
end
/-! Values that are made out of picks. -/
def u64 (n : Int) : Int := n % 18446744073709551616
/-- the node that a pick makes -/
def pickN (T : TypeM) (p : Int) : NodeM :=
  if T.kind = 1 then ⟨1, if T.n < 8 then p % 256 ^ T.n.toNat else p, 0⟩
  else if T.kind = 3 then ⟨1, p, 0⟩
  else if T.kind = 2 then ⟨2, p % 2, 0⟩
  else if T.kind = 4 then ⟨3, 0, T.n⟩
  else if T.kind = 5 then ⟨3, 0, p % (T.n + 1)⟩
  else if T.kind = 6 then ⟨5, 0, p % 2⟩
  else if T.kind = 7 then ⟨6, u64 ((T.parts[(p % T.parts.length).toNat]?).getD ⟨⟨#[]⟩, 0, 0⟩).tag, 1⟩
  else ⟨4, 0, T.parts.length⟩
def pickAt (ps : List Int) (i : Nat) : Int := match ps[i]? with | some z => u64 z | none => 0
/-- the value that picks lead to, as a tree -/
def mkL (T : TypeM) (x : NodeM) (mk : Nat → Nat → Tr) : Nat → Nat → Nat → List Tr
  | 0, _, _ => []
  | m + 1, k, pos => mk (elemF T x.n k).toNat pos :: mkL T x mk m (k + 1) (pos + (mk (elemF T x.n k).toNat pos).flat.length)
def mkT (ts : List TypeM) (ps : List Int) : Nat → Nat → Nat → Tr
  | 0, _, _ => .node ⟨0, 0, 0⟩ []
  | f + 1, t, pos => .node (pickN (tyA ts t) (pickAt ps pos)) (mkL (tyA ts t) (pickN (tyA ts t) (pickAt ps pos)) (mkT ts ps f) (pickN (tyA ts t) (pickAt ps pos)).kids.toNat 0 (pos + 1))
theorem u64_bd (z : Int) : 0 ≤ u64 z ∧ u64 z < 18446744073709551616 := by unfold u64; omega
theorem pickAt_bd (ps : List Int) (i : Nat) : 0 ≤ pickAt ps i ∧ pickAt ps i < 18446744073709551616 := by
  unfold pickAt
  split
  · exact u64_bd _
  · decide
theorem pow_256 {n : Int} (hn : n = 1 ∨ n = 2 ∨ n = 4) : 256 ≤ (256 : Int) ^ n.toNat ∧ (256 : Int) ^ n.toNat ≤ 4294967296 := by
  rcases hn with rfl | rfl | rfl <;> decide
/-- what a pick makes is of the type, and may be -/
theorem pick_ok {T : TypeM} {k : Nat} (hr : rightOK T k = true) {p : Int} (hp : 0 ≤ p ∧ p < 18446744073709551616) : nodeOK (pickN T p) ∧ rightN (pickN T p) = true ∧ fitsF T (pickN T p) = 0 := by
  rcases rightOK_kind hr with h | h | h
  · rcases h with h | h | h
    · have hn := right_1n hr h
      by_cases h8 : T.n < 8
      · have h124 : T.n = 1 ∨ T.n = 2 ∨ T.n = 4 := by omega
        have hpw := pow_256 h124
        have hm0 := Int.emod_nonneg p (show (256 : Int) ^ T.n.toNat ≠ 0 by omega)
        have hm1 := Int.emod_lt_of_pos p (show (0 : Int) < 256 ^ T.n.toNat by omega)
        have hfb : fitsB (p % 256 ^ T.n.toNat) T.n = true := by simp [fitsB]; omega
        have hP : pickN T p = ⟨1, p % 256 ^ T.n.toNat, 0⟩ := by unfold pickN; rw [if_pos h, if_pos h8]
        rw [hP]
        generalize p % 256 ^ T.n.toNat = q at *
        exact ⟨by unfold nodeOK I64; simp only; omega, by simp [rightN, numberN], by simp [fitsF, nkOf, h, hfb]⟩
      · have h8' : T.n = 8 := by omega
        have hfb : fitsB p T.n = true := by
          rw [h8']; simp [fitsB]
          have h2 : (256 : Int) ^ (8 : Int).toNat = 18446744073709551616 := by decide
          omega
        have hP : pickN T p = ⟨1, p, 0⟩ := by unfold pickN; rw [if_pos h, if_neg h8]
        rw [hP]
        exact ⟨by unfold nodeOK I64; simp only; omega, by simp [rightN, numberN], by simp [fitsF, nkOf, h, hfb]⟩
    · have hP : pickN T p = ⟨2, p % 2, 0⟩ := by unfold pickN; rw [if_neg (by omega), if_neg (by omega), if_pos h]
      rw [hP]
      exact ⟨by unfold nodeOK I64; simp only; omega, by simp [rightN, numberN]; omega, by simp [fitsF, nkOf, h]⟩
    · have hP : pickN T p = ⟨1, p, 0⟩ := by unfold pickN; rw [if_neg (by omega), if_pos h]
      rw [hP]
      exact ⟨by unfold nodeOK I64; simp only; omega, by simp [rightN, numberN], by simp [fitsF, nkOf, h]⟩
  · have hn := rightOK_n hr h
    rcases h with h | h | h
    · have hP : pickN T p = ⟨3, 0, T.n⟩ := by unfold pickN; rw [if_neg (by omega), if_neg (by omega), if_neg (by omega), if_pos h]
      rw [hP]
      exact ⟨by unfold nodeOK I64; simp only; omega, by simp [rightN, numberN]; omega, by simp [fitsF, nkOf, h]⟩
    · have hm0 := Int.emod_nonneg p (show T.n + 1 ≠ 0 by omega)
      have hm1 := Int.emod_lt_of_pos p (show 0 < T.n + 1 by omega)
      have hP : pickN T p = ⟨3, 0, p % (T.n + 1)⟩ := by unfold pickN; rw [if_neg (by omega), if_neg (by omega), if_neg (by omega), if_neg (by omega), if_pos h]
      rw [hP]
      generalize p % (T.n + 1) = q at *
      exact ⟨by unfold nodeOK I64; simp only; omega, by simp [rightN, numberN]; omega, by simp [fitsF, nkOf, h]; omega⟩
    · have hP : pickN T p = ⟨5, 0, p % 2⟩ := by unfold pickN; rw [if_neg (by omega), if_neg (by omega), if_neg (by omega), if_neg (by omega), if_neg (by omega), if_pos h]
      rw [hP]
      exact ⟨by unfold nodeOK I64; simp only; omega, by simp [rightN, numberN]; omega, by simp [fitsF, nkOf, h]⟩
  · have hl := right_parts hr h
    rcases h with h | h
    · have hm0 := Int.emod_nonneg p (show (T.parts.length : Int) ≠ 0 by omega)
      have hm1 := Int.emod_lt_of_pos p (show (0 : Int) < T.parts.length by omega)
      have hlt : (p % T.parts.length).toNat < T.parts.length := by omega
      have htag := right_tag hr h _ (List.getElem_mem hlt)
      have hu : u64 T.parts[(p % T.parts.length).toNat].tag = T.parts[(p % T.parts.length).toNat].tag := by unfold u64; omega
      have hP : pickN T p = ⟨6, T.parts[(p % T.parts.length).toNat].tag, 1⟩ := by
        unfold pickN
        rw [if_neg (by omega), if_neg (by omega), if_neg (by omega), if_neg (by omega), if_neg (by omega), if_neg (by omega), if_pos h, List.getElem?_eq_getElem hlt, Option.getD_some, hu]
      have hmem := List.getElem_mem hlt
      rw [hP]
      generalize T.parts[(p % T.parts.length).toNat] = q at *
      have harm : armOf T.parts q.tag ≠ none := by
        intro hn
        unfold armOf at hn
        rw [List.find?_eq_none] at hn
        have := hn q hmem
        simp at this
        omega
      exact ⟨by unfold nodeOK I64; simp only; omega, by simp [rightN, numberN]; omega, by simp [fitsF, nkOf, h, harm]⟩
    · have hP : pickN T p = ⟨4, 0, T.parts.length⟩ := by
        unfold pickN
        rw [if_neg (by omega), if_neg (by omega), if_neg (by omega), if_neg (by omega), if_neg (by omega), if_neg (by omega), if_neg (by omega)]
      rw [hP]
      exact ⟨by unfold nodeOK I64; simp only; omega, by simp [rightN, numberN]; omega, by simp [fitsF, nkOf, h]⟩
end Go.Proofs.YtfgacgpicfknpaaDoor
end
section
namespace Go.Proofs.YtfgacgpicfknpaaDoor
open Go.RowKit
set_option maxRecDepth 100000
set_option maxHeartbeats 8000000
def obM (ts : List TypeM) (rs : List RootM) (ps : List Int) (V : List NodeM) (many : Bool) : List (Nat × AObj) :=
  [(10000, .var [.lst 4 (encTs ts), .lst 2 (encRs rs), .lst 1 (v8 ps), .ref 43 3 15000 0 V.length, vB many]), (15000, .row 43 3 (encNs V))]
attribute [go_sem] obM
def SomeAt (ts : List TypeM) (rs : List RootM) (ps : List Int) (mk : Nat → Nat → Tr) (t : Nat) : Prop := ∀ V : List NodeM, V.length ≤ 1048576 →
  GCall Tryd.prog 52 [.ptr 1 10000 0 0, vI t] (obM ts rs ps V false) (.tup []) (obM ts rs ps ((V ++ (mk t V.length).flat).take 1048576) (decide (1048576 < V.length + (mk t V.length).flat.length)))
structure MOK (ts : List TypeM) (ps : List Int) : Prop where
  nts : ts.length ≤ 1000000000
  nps : ps.length ≤ 1000000000
  right : ∀ (k : Nat) (h : k < ts.length), rightOK ts[k] k = true
  parts : ∀ t ∈ ts, t.parts.length ≤ 1000000000
  tags : ∀ t ∈ ts, ∀ p ∈ t.parts, I64 p.tag
theorem encNs_app (l : List NodeM) (x : NodeM) : encNs l ++ [[vI x.kind, .v (.int .u64 x.n), vI x.kids]] = encNs (l ++ [x]) := by simp [encNs, encN, vU]
theorem wrapU (z : Int) : IntKind.u64.wrap z = u64 z := IntKind.wrap_u64 z
theorem pow_shl {n : Int} (hn : n = 1 ∨ n = 2 ∨ n = 4) : u64 (1 * 2 ^ min (8 * n).toNat 64) = 256 ^ n.toNat := by
  rcases hn with rfl | rfl | rfl <;> decide
theorem right_n {T : TypeM} {k : Int} (h : rightOK T k = true) : 0 ≤ T.n ∧ T.n ≤ 1048576 := by
  rw [rightOK, Bool.and_eq_true] at h
  have h := h.1
  unfold numberOK at h
  split at h
  · simp only [Bool.or_eq_true, decide_eq_true_eq] at h; omega
  · split at h
    · simp only [Bool.and_eq_true, decide_eq_true_eq] at h; omega
    · simp only [decide_eq_true_eq] at h; omega
theorem some_step {ts : List TypeM} {rs : List RootM} {ps : List Int} (W : MOK ts ps) (mk : Nat → Nat → Tr) (t : Nat) (ht : t < ts.length) (V : List NodeM) (hV : V.length ≤ 1048576) (x : NodeM) (hx : x = pickN ts[t] (pickAt ps V.length))
    (ks : List Tr) (hks : ks = mkL ts[t] x mk x.kids.toNat 0 (V.length + 1)) (H : ∀ t', t' < t → SomeAt ts rs ps mk t') :
    GCall Tryd.prog 52 [.ptr 1 10000 0 0, vI t] (obM ts rs ps V false) (.tup []) (obM ts rs ps ((V ++ (Tr.node x ks).flat).take 1048576) (decide (1048576 < V.length + (Tr.node x ks).flat.length))) := by
  have hNts := W.nts
  have hNps := W.nps
  have hr := W.right t ht
  have hgt := encTs_get ht
  have hpl := W.parts _ (List.getElem_mem ht)
  have htag := W.tags _ (List.getElem_mem ht)
  have hpb := pickAt_bd ps V.length
  obtain ⟨hxok, hxr, hxf⟩ := pick_ok hr hpb
  rw [← hx] at hxok hxr hxf
  have hxk := rightN_kids hxr
  have hflat : (Tr.node x ks).flat = x :: Tr.flat.flatL ks := rfl
  rw [hflat]
  generalize hp : pickAt ps V.length = p at *
  generalize hF : Tr.flat.flatL ks = F at *
  refine go_fnG (tyOf_ok _) Tryd.func52 rfl rfl (by rw [Tryd.results52]) Tryd.ntmps52 rfl fun E => ?_
  by_cases hfull : V.length = 1048576
  · have e1 : (1048576 ≤ (V.length : Int)) = True := eq_true (by omega)
    have hd : decide (1048576 < V.length + (x :: F).length) = true := by simp; omega
    have htk : (V ++ x :: F).take 1048576 = V := by rw [List.take_append_of_le_length (by omega), List.take_of_length_le (by omega)]
    rw [hd, htk]
    (repeat' (first
    | exact trivial
    | (with_reducible first | refine awA ?_ | refine awB ?_ | refine awC ?_ | refine awD ?_ | refine awE ?_ | refine awF ?_ | refine awG ?_ | refine awH ?_ | refine awI ?_ | refine awJ ?_ | refine awK ?_ | refine awL ?_ | refine awM (by decide) ?_)
    | (refine aw_draw (id := 4) (t := (.node [0, 1, 2, 3, 4, 5, 6, 7, 8, 9, 10] [])) (drR [10000] [] []) mixed (by kernel_rfl) (by kernel_rfl) (fun _ _ h => h) ?_)
    | (refine aw_draw (id := 5) (t := (.node [0, 1, 2, 3, 4, 5, 6, 7, 8, 9, 10, 11, 12] [])) (drR [10000] [43] []) mixed (by kernel_rfl) (by kernel_rfl) (fun _ _ h => h) ?_)
    | (refine aw_draw (id := 25) (t := (.node [0, 1, 2, 3, 4, 5, 6, 7, 8, 9, 10, 11] [])) (drR [5] [114] []) mixed (by kernel_rfl) (by kernel_rfl) (fun _ _ h => h) ?_)
    | (refine aw_draw (id := 27) (t := (.node [0, 1, 2, 3, 4, 5, 6, 7, 8, 9, 10] [])) (drR [6] [123] []) mixed (by kernel_rfl) (by kernel_rfl) (fun _ _ h => h) ?_)
    | (refine at_done (by simp only [List.filterMap_cons, List.filterMap_nil, List.getElem?_toArray, List.getElem?_cons_zero, List.getElem?_cons_succ]; exact rfl) ?_) | (refine at_alt (by simp only [List.filterMap_cons, List.filterMap_nil, List.getElem?_toArray, List.getElem?_cons_zero, List.getElem?_cons_succ]; exact rfl) ?_) | refine qalt_normal ?_ | refine ats_cons ?_ ?_ | exact ats_nil
    | ((with_reducible first | refine awN (tyOf_ok _) [] ?_ | refine awO (tyOf_ok _) [] ?_ | refine awP (tyOf_ok _) [] ?_ | refine awQ ?_ | refine awR ?_ | refine awS ?_ | refine awT ?_ | refine awU ?_); intro r hr; simp only [go_sem, Nat.reduceBEq, Nat.reduceBneDiff, Nat.reduceLT, Nat.reduceLeDiff, Nat.reduceAdd, Nat.reduceMul, Nat.reduceSub, Nat.reduceEqDiff, reduceCtorEq, encNs_len, e1] at hr; subst hr; (first | refine awV ?_ ?_ | refine awW ?_ ?_ | refine endK ?_ ?_ | refine endGK ?_ ?_ ?_ | (refine condK (fun h => ?_) (fun h => ?_) <;> (try simp only [go_sem, reduceCtorEq] at h) <;> (try (exfalso; omega))))) | fail)) <;> (try omega)
    · exact AV.up_rfl _
    · exact obUp_cons rfl (obUp_cons rfl obUp_nil)
  have e1 : (1048576 ≤ (V.length : Int)) = False := eq_false (by omega)
  have zV : ((V.length : Int)).toNat = V.length := by omega
  generalize hT : ts[t] = T at *
  (repeat' (first
    | exact trivial
    | (refine go_cutC (.tmp 32) [0, 1, 4] [10000, 15000] (fun _ : Unit => ⟨[(0, true, .ptr 1 10000 0 0), (1, true, vI t), (4, true, .v (.int .u64 p))], obM ts rs ps V false⟩) (fun _ => True) (hold ?_) ?_)
    | (with_reducible first | refine awA ?_ | refine awB ?_ | refine awC ?_ | refine awD ?_ | refine awE ?_ | refine awF ?_ | refine awG ?_ | refine awH ?_ | refine awI ?_ | refine awJ ?_ | refine awK ?_ | refine awL ?_ | refine awM (by decide) ?_)
    | (refine aw_draw (id := 4) (t := (.node [0, 1, 2, 3, 4, 5, 6, 7, 8, 9, 10] [])) (drR [10000] [] []) mixed (by kernel_rfl) (by kernel_rfl) (fun _ _ h => h) ?_)
    | (refine aw_draw (id := 5) (t := (.node [0, 1, 2, 3, 4, 5, 6, 7, 8, 9, 10, 11, 12] [])) (drR [10000] [43] []) mixed (by kernel_rfl) (by kernel_rfl) (fun _ _ h => h) ?_)
    | (refine aw_draw (id := 25) (t := (.node [0, 1, 2, 3, 4, 5, 6, 7, 8, 9, 10, 11] [])) (drR [5] [114] []) mixed (by kernel_rfl) (by kernel_rfl) (fun _ _ h => h) ?_)
    | (refine aw_draw (id := 27) (t := (.node [0, 1, 2, 3, 4, 5, 6, 7, 8, 9, 10] [])) (drR [6] [123] []) mixed (by kernel_rfl) (by kernel_rfl) (fun _ _ h => h) ?_)
    | (refine at_done (by simp only [List.filterMap_cons, List.filterMap_nil, List.getElem?_toArray, List.getElem?_cons_zero, List.getElem?_cons_succ]; exact rfl) ?_) | (refine at_alt (by simp only [List.filterMap_cons, List.filterMap_nil, List.getElem?_toArray, List.getElem?_cons_zero, List.getElem?_cons_succ]; exact rfl) ?_) | refine qalt_normal ?_ | refine ats_cons ?_ ?_ | exact ats_nil
    | ((with_reducible first | refine awN (tyOf_ok _) [] ?_ | refine awO (tyOf_ok _) [] ?_ | refine awP (tyOf_ok _) [] ?_ | refine awQ ?_ | refine awR ?_ | refine awS ?_ | refine awT ?_ | refine awU ?_); intro r hr; simp only [go_sem, Nat.reduceBEq, Nat.reduceBneDiff, Nat.reduceLT, Nat.reduceLeDiff, Nat.reduceAdd, Nat.reduceMul, Nat.reduceSub, Nat.reduceEqDiff, reduceCtorEq, encNs_len, e1] at hr; subst hr; (first | refine awV ?_ ?_ | refine awW ?_ ?_ | refine endK ?_ ?_ | refine endGK ?_ ?_ ?_ | (refine condK (fun h => ?_) (fun h => ?_) <;> (try simp only [go_sem, reduceCtorEq] at h) <;> (try (exfalso; omega))))) | fail)) <;> (try omega)
  · refine ⟨?_⟩
    by_cases hlp : V.length < ps.length
    · have e2 : ((V.length : Int) < ps.length) = True := eq_true (by omega)
      have g1 := v8_get hlp
      have hpp : u64 ps[V.length] = p := by rw [← hp, pickAt, List.getElem?_eq_getElem hlp]
      (repeat' (first
    | exact trivial
    | (with_reducible first | refine awA ?_ | refine awB ?_ | refine awC ?_ | refine awD ?_ | refine awE ?_ | refine awF ?_ | refine awG ?_ | refine awH ?_ | refine awI ?_ | refine awJ ?_ | refine awK ?_ | refine awL ?_ | refine awM (by decide) ?_)
    | (refine aw_draw (id := 4) (t := (.node [0, 1, 2, 3, 4, 5, 6, 7, 8, 9, 10] [])) (drR [10000] [] []) mixed (by kernel_rfl) (by kernel_rfl) (fun _ _ h => h) ?_)
    | (refine aw_draw (id := 5) (t := (.node [0, 1, 2, 3, 4, 5, 6, 7, 8, 9, 10, 11, 12] [])) (drR [10000] [43] []) mixed (by kernel_rfl) (by kernel_rfl) (fun _ _ h => h) ?_)
    | (refine aw_draw (id := 25) (t := (.node [0, 1, 2, 3, 4, 5, 6, 7, 8, 9, 10, 11] [])) (drR [5] [114] []) mixed (by kernel_rfl) (by kernel_rfl) (fun _ _ h => h) ?_)
    | (refine aw_draw (id := 27) (t := (.node [0, 1, 2, 3, 4, 5, 6, 7, 8, 9, 10] [])) (drR [6] [123] []) mixed (by kernel_rfl) (by kernel_rfl) (fun _ _ h => h) ?_)
    | (refine at_done (by simp only [List.filterMap_cons, List.filterMap_nil, List.getElem?_toArray, List.getElem?_cons_zero, List.getElem?_cons_succ]; exact rfl) ?_) | (refine at_alt (by simp only [List.filterMap_cons, List.filterMap_nil, List.getElem?_toArray, List.getElem?_cons_zero, List.getElem?_cons_succ]; exact rfl) ?_) | refine qalt_normal ?_ | refine ats_cons ?_ ?_ | exact ats_nil
    | ((with_reducible first | refine awN (tyOf_ok _) [] ?_ | refine awO (tyOf_ok _) [] ?_ | refine awP (tyOf_ok _) [] ?_ | refine awQ ?_ | refine awR ?_ | refine awS ?_ | refine awT ?_ | refine awU ?_); intro r hr; simp only [go_sem, Nat.reduceBEq, Nat.reduceBneDiff, Nat.reduceLT, Nat.reduceLeDiff, Nat.reduceAdd, Nat.reduceMul, Nat.reduceSub, Nat.reduceEqDiff, reduceCtorEq, encNs_len, e2, zV, g1, wrapU, hpp] at hr; subst hr; (first | refine awV ?_ ?_ | refine awW ?_ ?_ | refine endK ?_ ?_ | refine endGK ?_ ?_ ?_ | (refine condK (fun h => ?_) (fun h => ?_) <;> (try simp only [go_sem, reduceCtorEq] at h) <;> (try (exfalso; omega))))) | fail)) <;> (try omega)
      exact ⟨(), by simp only [go_sem, Nat.reduceBEq, Nat.reduceBneDiff, Nat.reduceLT, Nat.reduceLeDiff, Nat.reduceAdd, Nat.reduceMul, Nat.reduceSub, Nat.reduceEqDiff, reduceCtorEq] <;> exact rfl, trivial⟩
    · have e2 : ((V.length : Int) < ps.length) = False := eq_false (by omega)
      have hp0 : p = 0 := by rw [← hp, pickAt, List.getElem?_eq_none (by omega)]
      (repeat' (first
    | exact trivial
    | (with_reducible first | refine awA ?_ | refine awB ?_ | refine awC ?_ | refine awD ?_ | refine awE ?_ | refine awF ?_ | refine awG ?_ | refine awH ?_ | refine awI ?_ | refine awJ ?_ | refine awK ?_ | refine awL ?_ | refine awM (by decide) ?_)
    | (refine aw_draw (id := 4) (t := (.node [0, 1, 2, 3, 4, 5, 6, 7, 8, 9, 10] [])) (drR [10000] [] []) mixed (by kernel_rfl) (by kernel_rfl) (fun _ _ h => h) ?_)
    | (refine aw_draw (id := 5) (t := (.node [0, 1, 2, 3, 4, 5, 6, 7, 8, 9, 10, 11, 12] [])) (drR [10000] [43] []) mixed (by kernel_rfl) (by kernel_rfl) (fun _ _ h => h) ?_)
    | (refine aw_draw (id := 25) (t := (.node [0, 1, 2, 3, 4, 5, 6, 7, 8, 9, 10, 11] [])) (drR [5] [114] []) mixed (by kernel_rfl) (by kernel_rfl) (fun _ _ h => h) ?_)
    | (refine aw_draw (id := 27) (t := (.node [0, 1, 2, 3, 4, 5, 6, 7, 8, 9, 10] [])) (drR [6] [123] []) mixed (by kernel_rfl) (by kernel_rfl) (fun _ _ h => h) ?_)
    | (refine at_done (by simp only [List.filterMap_cons, List.filterMap_nil, List.getElem?_toArray, List.getElem?_cons_zero, List.getElem?_cons_succ]; exact rfl) ?_) | (refine at_alt (by simp only [List.filterMap_cons, List.filterMap_nil, List.getElem?_toArray, List.getElem?_cons_zero, List.getElem?_cons_succ]; exact rfl) ?_) | refine qalt_normal ?_ | refine ats_cons ?_ ?_ | exact ats_nil
    | ((with_reducible first | refine awN (tyOf_ok _) [] ?_ | refine awO (tyOf_ok _) [] ?_ | refine awP (tyOf_ok _) [] ?_ | refine awQ ?_ | refine awR ?_ | refine awS ?_ | refine awT ?_ | refine awU ?_); intro r hr; simp only [go_sem, Nat.reduceBEq, Nat.reduceBneDiff, Nat.reduceLT, Nat.reduceLeDiff, Nat.reduceAdd, Nat.reduceMul, Nat.reduceSub, Nat.reduceEqDiff, reduceCtorEq, encNs_len, e2] at hr; subst hr; (first | refine awV ?_ ?_ | refine awW ?_ ?_ | refine endK ?_ ?_ | refine endGK ?_ ?_ ?_ | (refine condK (fun h => ?_) (fun h => ?_) <;> (try simp only [go_sem, reduceCtorEq] at h) <;> (try (exfalso; omega))))) | fail)) <;> (try omega)
      exact ⟨(), by simp only [go_sem, Nat.reduceBEq, Nat.reduceBneDiff, Nat.reduceLT, Nat.reduceLeDiff, Nat.reduceAdd, Nat.reduceMul, Nat.reduceSub, Nat.reduceEqDiff, reduceCtorEq, hp0] <;> exact rfl, trivial⟩
  intro _ _
  have hn := right_n hr
  (repeat' (first
    | exact trivial
    | (refine go_cutK 0 [0, 5, 6] [5, 6, 10000, 15000] (fun _ : Unit => ⟨[(0, true, .ptr 1 10000 0 0), (5, true, .ptr 1 5 0 0), (6, true, .ptr 1 6 0 0)], [(5, .var [vI T.kind, vI T.n, vI T.elem, .lst 3 (encPs T.parts)]), (6, .var [vI x.kind, .v (.int .u64 x.n), vI x.kids])] ++ obM ts rs ps V false⟩) (fun _ => True) (hold ?_) ?_)
    | (with_reducible first | refine awA ?_ | refine awB ?_ | refine awC ?_ | refine awD ?_ | refine awE ?_ | refine awF ?_ | refine awG ?_ | refine awH ?_ | refine awI ?_ | refine awJ ?_ | refine awK ?_ | refine awL ?_ | refine awM (by decide) ?_)
    | (refine aw_draw (id := 4) (t := (.node [0, 1, 2, 3, 4, 5, 6, 7, 8, 9, 10] [])) (drR [10000] [] []) mixed (by kernel_rfl) (by kernel_rfl) (fun _ _ h => h) ?_)
    | (refine aw_draw (id := 5) (t := (.node [0, 1, 2, 3, 4, 5, 6, 7, 8, 9, 10, 11, 12] [])) (drR [10000] [43] []) mixed (by kernel_rfl) (by kernel_rfl) (fun _ _ h => h) ?_)
    | (refine aw_draw (id := 25) (t := (.node [0, 1, 2, 3, 4, 5, 6, 7, 8, 9, 10, 11] [])) (drR [5] [114] []) mixed (by kernel_rfl) (by kernel_rfl) (fun _ _ h => h) ?_)
    | (refine aw_draw (id := 27) (t := (.node [0, 1, 2, 3, 4, 5, 6, 7, 8, 9, 10] [])) (drR [6] [123] []) mixed (by kernel_rfl) (by kernel_rfl) (fun _ _ h => h) ?_)
    | (refine at_done (by simp only [List.filterMap_cons, List.filterMap_nil, List.getElem?_toArray, List.getElem?_cons_zero, List.getElem?_cons_succ]; exact rfl) ?_) | (refine at_alt (by simp only [List.filterMap_cons, List.filterMap_nil, List.getElem?_toArray, List.getElem?_cons_zero, List.getElem?_cons_succ]; exact rfl) ?_) | refine qalt_normal ?_ | refine ats_cons ?_ ?_ | exact ats_nil
    | ((with_reducible first | refine awN (tyOf_ok _) [] ?_ | refine awO (tyOf_ok _) [] ?_ | refine awP (tyOf_ok _) [] ?_ | refine awQ ?_ | refine awR ?_ | refine awS ?_ | refine awT ?_ | refine awU ?_); intro r hr; simp only [go_sem, Nat.reduceBEq, Nat.reduceBneDiff, Nat.reduceLT, Nat.reduceLeDiff, Nat.reduceAdd, Nat.reduceMul, Nat.reduceSub, Nat.reduceEqDiff, reduceCtorEq, hgt] at hr; subst hr; (first | refine awV ?_ ?_ | refine awW ?_ ?_ | refine endK ?_ ?_ | refine endGK ?_ ?_ ?_ | (refine condK (fun h => ?_) (fun h => ?_) <;> (try simp only [go_sem, reduceCtorEq] at h) <;> (try (exfalso; omega))))) | fail)) <;> (try omega)
  · refine ⟨?_⟩
    clear H hks hgt hF
    rcases rightOK_kind hr with h | h | h
    · rcases h with h | h | h
      · have k1 : (T.kind = 1) = True := eq_true h
        by_cases h8 : T.n < 8
        · have h124 : T.n = 1 ∨ T.n = 2 ∨ T.n = 4 := by have := right_1n hr h; omega
          have hpw := pow_shl h124
          have hpb2 := pow_256 h124
          have hw8 := wrap_i64 (n := 8 * T.n) (by omega)
          have e3 : (T.n < 8) = True := eq_true h8
          have hxe : x = ⟨1, p % 256 ^ T.n.toNat, 0⟩ := by rw [hx]; unfold pickN; rw [if_pos h, if_pos h8]
          generalize (256 : Int) ^ T.n.toNat = q at *
          have htm : p.tmod q = p % q := Int.tmod_eq_emod_of_nonneg hpb.1
          subst hxe
          (repeat' (first
    | exact trivial
    | (with_reducible first | refine awA ?_ | refine awB ?_ | refine awC ?_ | refine awD ?_ | refine awE ?_ | refine awF ?_ | refine awG ?_ | refine awH ?_ | refine awI ?_ | refine awJ ?_ | refine awK ?_ | refine awL ?_ | refine awM (by decide) ?_)
    | (refine aw_draw (id := 4) (t := (.node [0, 1, 2, 3, 4, 5, 6, 7, 8, 9, 10] [])) (drR [10000] [] []) mixed (by kernel_rfl) (by kernel_rfl) (fun _ _ h => h) ?_)
    | (refine aw_draw (id := 5) (t := (.node [0, 1, 2, 3, 4, 5, 6, 7, 8, 9, 10, 11, 12] [])) (drR [10000] [43] []) mixed (by kernel_rfl) (by kernel_rfl) (fun _ _ h => h) ?_)
    | (refine aw_draw (id := 25) (t := (.node [0, 1, 2, 3, 4, 5, 6, 7, 8, 9, 10, 11] [])) (drR [5] [114] []) mixed (by kernel_rfl) (by kernel_rfl) (fun _ _ h => h) ?_)
    | (refine aw_draw (id := 27) (t := (.node [0, 1, 2, 3, 4, 5, 6, 7, 8, 9, 10] [])) (drR [6] [123] []) mixed (by kernel_rfl) (by kernel_rfl) (fun _ _ h => h) ?_)
    | (refine at_done (by simp only [List.filterMap_cons, List.filterMap_nil, List.getElem?_toArray, List.getElem?_cons_zero, List.getElem?_cons_succ]; exact rfl) ?_) | (refine at_alt (by simp only [List.filterMap_cons, List.filterMap_nil, List.getElem?_toArray, List.getElem?_cons_zero, List.getElem?_cons_succ]; exact rfl) ?_) | refine qalt_normal ?_ | refine ats_cons ?_ ?_ | exact ats_nil
    | ((with_reducible first | refine awN (tyOf_ok _) [] ?_ | refine awO (tyOf_ok _) [] ?_ | refine awP (tyOf_ok _) [] ?_ | refine awQ ?_ | refine awR ?_ | refine awS ?_ | refine awT ?_ | refine awU ?_); intro r hr; simp only [go_sem, Nat.reduceBEq, Nat.reduceBneDiff, Nat.reduceLT, Nat.reduceLeDiff, Nat.reduceAdd, Nat.reduceMul, Nat.reduceSub, Nat.reduceEqDiff, reduceCtorEq, wrapU, k1, e3, hw8, hpw, htm] at hr; subst hr; (first | refine awV ?_ ?_ | refine awW ?_ ?_ | refine endK ?_ ?_ | refine endGK ?_ ?_ ?_ | (refine condK (fun h => ?_) (fun h => ?_) <;> (try simp only [go_sem, reduceCtorEq] at h) <;> (try (exfalso; omega))))) | fail)) <;> (try omega)
          exact ⟨(), by simp only [go_sem, Nat.reduceBEq, Nat.reduceBneDiff, Nat.reduceLT, Nat.reduceLeDiff, Nat.reduceAdd, Nat.reduceMul, Nat.reduceSub, Nat.reduceEqDiff, reduceCtorEq, List.cons_append, List.nil_append] <;> exact rfl, trivial⟩
        · have e3 : (T.n < 8) = False := eq_false h8
          have hxe : x = ⟨1, p, 0⟩ := by rw [hx]; unfold pickN; rw [if_pos h, if_neg h8]
          subst hxe
          (repeat' (first
    | exact trivial
    | (with_reducible first | refine awA ?_ | refine awB ?_ | refine awC ?_ | refine awD ?_ | refine awE ?_ | refine awF ?_ | refine awG ?_ | refine awH ?_ | refine awI ?_ | refine awJ ?_ | refine awK ?_ | refine awL ?_ | refine awM (by decide) ?_)
    | (refine aw_draw (id := 4) (t := (.node [0, 1, 2, 3, 4, 5, 6, 7, 8, 9, 10] [])) (drR [10000] [] []) mixed (by kernel_rfl) (by kernel_rfl) (fun _ _ h => h) ?_)
    | (refine aw_draw (id := 5) (t := (.node [0, 1, 2, 3, 4, 5, 6, 7, 8, 9, 10, 11, 12] [])) (drR [10000] [43] []) mixed (by kernel_rfl) (by kernel_rfl) (fun _ _ h => h) ?_)
    | (refine aw_draw (id := 25) (t := (.node [0, 1, 2, 3, 4, 5, 6, 7, 8, 9, 10, 11] [])) (drR [5] [114] []) mixed (by kernel_rfl) (by kernel_rfl) (fun _ _ h => h) ?_)
    | (refine aw_draw (id := 27) (t := (.node [0, 1, 2, 3, 4, 5, 6, 7, 8, 9, 10] [])) (drR [6] [123] []) mixed (by kernel_rfl) (by kernel_rfl) (fun _ _ h => h) ?_)
    | (refine at_done (by simp only [List.filterMap_cons, List.filterMap_nil, List.getElem?_toArray, List.getElem?_cons_zero, List.getElem?_cons_succ]; exact rfl) ?_) | (refine at_alt (by simp only [List.filterMap_cons, List.filterMap_nil, List.getElem?_toArray, List.getElem?_cons_zero, List.getElem?_cons_succ]; exact rfl) ?_) | refine qalt_normal ?_ | refine ats_cons ?_ ?_ | exact ats_nil
    | ((with_reducible first | refine awN (tyOf_ok _) [] ?_ | refine awO (tyOf_ok _) [] ?_ | refine awP (tyOf_ok _) [] ?_ | refine awQ ?_ | refine awR ?_ | refine awS ?_ | refine awT ?_ | refine awU ?_); intro r hr; simp only [go_sem, Nat.reduceBEq, Nat.reduceBneDiff, Nat.reduceLT, Nat.reduceLeDiff, Nat.reduceAdd, Nat.reduceMul, Nat.reduceSub, Nat.reduceEqDiff, reduceCtorEq, wrapU, k1, e3] at hr; subst hr; (first | refine awV ?_ ?_ | refine awW ?_ ?_ | refine endK ?_ ?_ | refine endGK ?_ ?_ ?_ | (refine condK (fun h => ?_) (fun h => ?_) <;> (try simp only [go_sem, reduceCtorEq] at h) <;> (try (exfalso; omega))))) | fail)) <;> (try omega)
          exact ⟨(), by simp only [go_sem, Nat.reduceBEq, Nat.reduceBneDiff, Nat.reduceLT, Nat.reduceLeDiff, Nat.reduceAdd, Nat.reduceMul, Nat.reduceSub, Nat.reduceEqDiff, reduceCtorEq, List.cons_append, List.nil_append] <;> exact rfl, trivial⟩
      · have k1 : (T.kind = 1) = False := eq_false (by omega)
        have k3 : (T.kind = 3) = False := eq_false (by omega)
        have k2 : (T.kind = 2) = True := eq_true h
        have hxe : x = ⟨2, p % 2, 0⟩ := by rw [hx]; unfold pickN; rw [if_neg (by omega), if_neg (by omega), if_pos h]
        have htm : p.tmod 2 = p % 2 := Int.tmod_eq_emod_of_nonneg hpb.1
        subst hxe
        (repeat' (first
    | exact trivial
    | (with_reducible first | refine awA ?_ | refine awB ?_ | refine awC ?_ | refine awD ?_ | refine awE ?_ | refine awF ?_ | refine awG ?_ | refine awH ?_ | refine awI ?_ | refine awJ ?_ | refine awK ?_ | refine awL ?_ | refine awM (by decide) ?_)
    | (refine aw_draw (id := 4) (t := (.node [0, 1, 2, 3, 4, 5, 6, 7, 8, 9, 10] [])) (drR [10000] [] []) mixed (by kernel_rfl) (by kernel_rfl) (fun _ _ h => h) ?_)
    | (refine aw_draw (id := 5) (t := (.node [0, 1, 2, 3, 4, 5, 6, 7, 8, 9, 10, 11, 12] [])) (drR [10000] [43] []) mixed (by kernel_rfl) (by kernel_rfl) (fun _ _ h => h) ?_)
    | (refine aw_draw (id := 25) (t := (.node [0, 1, 2, 3, 4, 5, 6, 7, 8, 9, 10, 11] [])) (drR [5] [114] []) mixed (by kernel_rfl) (by kernel_rfl) (fun _ _ h => h) ?_)
    | (refine aw_draw (id := 27) (t := (.node [0, 1, 2, 3, 4, 5, 6, 7, 8, 9, 10] [])) (drR [6] [123] []) mixed (by kernel_rfl) (by kernel_rfl) (fun _ _ h => h) ?_)
    | (refine at_done (by simp only [List.filterMap_cons, List.filterMap_nil, List.getElem?_toArray, List.getElem?_cons_zero, List.getElem?_cons_succ]; exact rfl) ?_) | (refine at_alt (by simp only [List.filterMap_cons, List.filterMap_nil, List.getElem?_toArray, List.getElem?_cons_zero, List.getElem?_cons_succ]; exact rfl) ?_) | refine qalt_normal ?_ | refine ats_cons ?_ ?_ | exact ats_nil
    | ((with_reducible first | refine awN (tyOf_ok _) [] ?_ | refine awO (tyOf_ok _) [] ?_ | refine awP (tyOf_ok _) [] ?_ | refine awQ ?_ | refine awR ?_ | refine awS ?_ | refine awT ?_ | refine awU ?_); intro r hr; simp only [go_sem, Nat.reduceBEq, Nat.reduceBneDiff, Nat.reduceLT, Nat.reduceLeDiff, Nat.reduceAdd, Nat.reduceMul, Nat.reduceSub, Nat.reduceEqDiff, reduceCtorEq, wrapU, k1, k3, k2, htm] at hr; subst hr; (first | refine awV ?_ ?_ | refine awW ?_ ?_ | refine endK ?_ ?_ | refine endGK ?_ ?_ ?_ | (refine condK (fun h => ?_) (fun h => ?_) <;> (try simp only [go_sem, reduceCtorEq] at h) <;> (try (exfalso; omega))))) | fail)) <;> (try omega)
        exact ⟨(), by simp only [go_sem, Nat.reduceBEq, Nat.reduceBneDiff, Nat.reduceLT, Nat.reduceLeDiff, Nat.reduceAdd, Nat.reduceMul, Nat.reduceSub, Nat.reduceEqDiff, reduceCtorEq, List.cons_append, List.nil_append] <;> exact rfl, trivial⟩
      · have k1 : (T.kind = 1) = False := eq_false (by omega)
        have k3 : (T.kind = 3) = True := eq_true h
        have hxe : x = ⟨1, p, 0⟩ := by rw [hx]; unfold pickN; rw [if_neg (by omega), if_pos h]
        subst hxe
        (repeat' (first
    | exact trivial
    | (with_reducible first | refine awA ?_ | refine awB ?_ | refine awC ?_ | refine awD ?_ | refine awE ?_ | refine awF ?_ | refine awG ?_ | refine awH ?_ | refine awI ?_ | refine awJ ?_ | refine awK ?_ | refine awL ?_ | refine awM (by decide) ?_)
    | (refine aw_draw (id := 4) (t := (.node [0, 1, 2, 3, 4, 5, 6, 7, 8, 9, 10] [])) (drR [10000] [] []) mixed (by kernel_rfl) (by kernel_rfl) (fun _ _ h => h) ?_)
    | (refine aw_draw (id := 5) (t := (.node [0, 1, 2, 3, 4, 5, 6, 7, 8, 9, 10, 11, 12] [])) (drR [10000] [43] []) mixed (by kernel_rfl) (by kernel_rfl) (fun _ _ h => h) ?_)
    | (refine aw_draw (id := 25) (t := (.node [0, 1, 2, 3, 4, 5, 6, 7, 8, 9, 10, 11] [])) (drR [5] [114] []) mixed (by kernel_rfl) (by kernel_rfl) (fun _ _ h => h) ?_)
    | (refine aw_draw (id := 27) (t := (.node [0, 1, 2, 3, 4, 5, 6, 7, 8, 9, 10] [])) (drR [6] [123] []) mixed (by kernel_rfl) (by kernel_rfl) (fun _ _ h => h) ?_)
    | (refine at_done (by simp only [List.filterMap_cons, List.filterMap_nil, List.getElem?_toArray, List.getElem?_cons_zero, List.getElem?_cons_succ]; exact rfl) ?_) | (refine at_alt (by simp only [List.filterMap_cons, List.filterMap_nil, List.getElem?_toArray, List.getElem?_cons_zero, List.getElem?_cons_succ]; exact rfl) ?_) | refine qalt_normal ?_ | refine ats_cons ?_ ?_ | exact ats_nil
    | ((with_reducible first | refine awN (tyOf_ok _) [] ?_ | refine awO (tyOf_ok _) [] ?_ | refine awP (tyOf_ok _) [] ?_ | refine awQ ?_ | refine awR ?_ | refine awS ?_ | refine awT ?_ | refine awU ?_); intro r hr; simp only [go_sem, Nat.reduceBEq, Nat.reduceBneDiff, Nat.reduceLT, Nat.reduceLeDiff, Nat.reduceAdd, Nat.reduceMul, Nat.reduceSub, Nat.reduceEqDiff, reduceCtorEq, wrapU, k1, k3] at hr; subst hr; (first | refine awV ?_ ?_ | refine awW ?_ ?_ | refine endK ?_ ?_ | refine endGK ?_ ?_ ?_ | (refine condK (fun h => ?_) (fun h => ?_) <;> (try simp only [go_sem, reduceCtorEq] at h) <;> (try (exfalso; omega))))) | fail)) <;> (try omega)
        exact ⟨(), by simp only [go_sem, Nat.reduceBEq, Nat.reduceBneDiff, Nat.reduceLT, Nat.reduceLeDiff, Nat.reduceAdd, Nat.reduceMul, Nat.reduceSub, Nat.reduceEqDiff, reduceCtorEq, List.cons_append, List.nil_append] <;> exact rfl, trivial⟩
    · rcases h with h | h | h
      · have k1 : (T.kind = 1) = False := eq_false (by omega)
        have k3 : (T.kind = 3) = False := eq_false (by omega)
        have k2 : (T.kind = 2) = False := eq_false (by omega)
        have k4 : (T.kind = 4) = True := eq_true h
        have hxe : x = ⟨3, 0, T.n⟩ := by rw [hx]; unfold pickN; rw [if_neg (by omega), if_neg (by omega), if_neg (by omega), if_pos h]
        subst hxe
        (repeat' (first
    | exact trivial
    | (with_reducible first | refine awA ?_ | refine awB ?_ | refine awC ?_ | refine awD ?_ | refine awE ?_ | refine awF ?_ | refine awG ?_ | refine awH ?_ | refine awI ?_ | refine awJ ?_ | refine awK ?_ | refine awL ?_ | refine awM (by decide) ?_)
    | (refine aw_draw (id := 4) (t := (.node [0, 1, 2, 3, 4, 5, 6, 7, 8, 9, 10] [])) (drR [10000] [] []) mixed (by kernel_rfl) (by kernel_rfl) (fun _ _ h => h) ?_)
    | (refine aw_draw (id := 5) (t := (.node [0, 1, 2, 3, 4, 5, 6, 7, 8, 9, 10, 11, 12] [])) (drR [10000] [43] []) mixed (by kernel_rfl) (by kernel_rfl) (fun _ _ h => h) ?_)
    | (refine aw_draw (id := 25) (t := (.node [0, 1, 2, 3, 4, 5, 6, 7, 8, 9, 10, 11] [])) (drR [5] [114] []) mixed (by kernel_rfl) (by kernel_rfl) (fun _ _ h => h) ?_)
    | (refine aw_draw (id := 27) (t := (.node [0, 1, 2, 3, 4, 5, 6, 7, 8, 9, 10] [])) (drR [6] [123] []) mixed (by kernel_rfl) (by kernel_rfl) (fun _ _ h => h) ?_)
    | (refine at_done (by simp only [List.filterMap_cons, List.filterMap_nil, List.getElem?_toArray, List.getElem?_cons_zero, List.getElem?_cons_succ]; exact rfl) ?_) | (refine at_alt (by simp only [List.filterMap_cons, List.filterMap_nil, List.getElem?_toArray, List.getElem?_cons_zero, List.getElem?_cons_succ]; exact rfl) ?_) | refine qalt_normal ?_ | refine ats_cons ?_ ?_ | exact ats_nil
    | ((with_reducible first | refine awN (tyOf_ok _) [] ?_ | refine awO (tyOf_ok _) [] ?_ | refine awP (tyOf_ok _) [] ?_ | refine awQ ?_ | refine awR ?_ | refine awS ?_ | refine awT ?_ | refine awU ?_); intro r hr; simp only [go_sem, Nat.reduceBEq, Nat.reduceBneDiff, Nat.reduceLT, Nat.reduceLeDiff, Nat.reduceAdd, Nat.reduceMul, Nat.reduceSub, Nat.reduceEqDiff, reduceCtorEq, wrapU, k1, k3, k2, k4] at hr; subst hr; (first | refine awV ?_ ?_ | refine awW ?_ ?_ | refine endK ?_ ?_ | refine endGK ?_ ?_ ?_ | (refine condK (fun h => ?_) (fun h => ?_) <;> (try simp only [go_sem, reduceCtorEq] at h) <;> (try (exfalso; omega))))) | fail)) <;> (try omega)
        exact ⟨(), by simp only [go_sem, Nat.reduceBEq, Nat.reduceBneDiff, Nat.reduceLT, Nat.reduceLeDiff, Nat.reduceAdd, Nat.reduceMul, Nat.reduceSub, Nat.reduceEqDiff, reduceCtorEq, List.cons_append, List.nil_append] <;> exact rfl, trivial⟩
      · have k1 : (T.kind = 1) = False := eq_false (by omega)
        have k3 : (T.kind = 3) = False := eq_false (by omega)
        have k2 : (T.kind = 2) = False := eq_false (by omega)
        have k4 : (T.kind = 4) = False := eq_false (by omega)
        have k5 : (T.kind = 5) = True := eq_true h
        have hxe : x = ⟨3, 0, p % (T.n + 1)⟩ := by rw [hx]; unfold pickN; rw [if_neg (by omega), if_neg (by omega), if_neg (by omega), if_neg (by omega), if_pos h]
        have hwn := wrap_i64 (n := T.n + 1) (by omega)
        have hun : u64 (T.n + 1) = T.n + 1 := by unfold u64; omega
        have htm : p.tmod (T.n + 1) = p % (T.n + 1) := Int.tmod_eq_emod_of_nonneg hpb.1
        have hm0 := Int.emod_nonneg p (show T.n + 1 ≠ 0 by omega)
        have hm1 := Int.emod_lt_of_pos p (show 0 < T.n + 1 by omega)
        generalize p % (T.n + 1) = q at *
        have hwq := wrap_i64 (n := q) (by omega)
        subst hxe
        (repeat' (first
    | exact trivial
    | (with_reducible first | refine awA ?_ | refine awB ?_ | refine awC ?_ | refine awD ?_ | refine awE ?_ | refine awF ?_ | refine awG ?_ | refine awH ?_ | refine awI ?_ | refine awJ ?_ | refine awK ?_ | refine awL ?_ | refine awM (by decide) ?_)
    | (refine aw_draw (id := 4) (t := (.node [0, 1, 2, 3, 4, 5, 6, 7, 8, 9, 10] [])) (drR [10000] [] []) mixed (by kernel_rfl) (by kernel_rfl) (fun _ _ h => h) ?_)
    | (refine aw_draw (id := 5) (t := (.node [0, 1, 2, 3, 4, 5, 6, 7, 8, 9, 10, 11, 12] [])) (drR [10000] [43] []) mixed (by kernel_rfl) (by kernel_rfl) (fun _ _ h => h) ?_)
    | (refine aw_draw (id := 25) (t := (.node [0, 1, 2, 3, 4, 5, 6, 7, 8, 9, 10, 11] [])) (drR [5] [114] []) mixed (by kernel_rfl) (by kernel_rfl) (fun _ _ h => h) ?_)
    | (refine aw_draw (id := 27) (t := (.node [0, 1, 2, 3, 4, 5, 6, 7, 8, 9, 10] [])) (drR [6] [123] []) mixed (by kernel_rfl) (by kernel_rfl) (fun _ _ h => h) ?_)
    | (refine at_done (by simp only [List.filterMap_cons, List.filterMap_nil, List.getElem?_toArray, List.getElem?_cons_zero, List.getElem?_cons_succ]; exact rfl) ?_) | (refine at_alt (by simp only [List.filterMap_cons, List.filterMap_nil, List.getElem?_toArray, List.getElem?_cons_zero, List.getElem?_cons_succ]; exact rfl) ?_) | refine qalt_normal ?_ | refine ats_cons ?_ ?_ | exact ats_nil
    | ((with_reducible first | refine awN (tyOf_ok _) [] ?_ | refine awO (tyOf_ok _) [] ?_ | refine awP (tyOf_ok _) [] ?_ | refine awQ ?_ | refine awR ?_ | refine awS ?_ | refine awT ?_ | refine awU ?_); intro r hr; simp only [go_sem, Nat.reduceBEq, Nat.reduceBneDiff, Nat.reduceLT, Nat.reduceLeDiff, Nat.reduceAdd, Nat.reduceMul, Nat.reduceSub, Nat.reduceEqDiff, reduceCtorEq, wrapU, k1, k3, k2, k4, k5, hwn, hun, htm, hwq] at hr; subst hr; (first | refine awV ?_ ?_ | refine awW ?_ ?_ | refine endK ?_ ?_ | refine endGK ?_ ?_ ?_ | (refine condK (fun h => ?_) (fun h => ?_) <;> (try simp only [go_sem, reduceCtorEq] at h) <;> (try (exfalso; omega))))) | fail)) <;> (try omega)
        exact ⟨(), by simp only [go_sem, Nat.reduceBEq, Nat.reduceBneDiff, Nat.reduceLT, Nat.reduceLeDiff, Nat.reduceAdd, Nat.reduceMul, Nat.reduceSub, Nat.reduceEqDiff, reduceCtorEq, List.cons_append, List.nil_append] <;> exact rfl, trivial⟩
      · have k1 : (T.kind = 1) = False := eq_false (by omega)
        have k3 : (T.kind = 3) = False := eq_false (by omega)
        have k2 : (T.kind = 2) = False := eq_false (by omega)
        have k4 : (T.kind = 4) = False := eq_false (by omega)
        have k5 : (T.kind = 5) = False := eq_false (by omega)
        have k6 : (T.kind = 6) = True := eq_true h
        have hxe : x = ⟨5, 0, p % 2⟩ := by rw [hx]; unfold pickN; rw [if_neg (by omega), if_neg (by omega), if_neg (by omega), if_neg (by omega), if_neg (by omega), if_pos h]
        have htm : p.tmod 2 = p % 2 := Int.tmod_eq_emod_of_nonneg hpb.1
        have hwq := wrap_i64 (n := p % 2) (by omega)
        subst hxe
        (repeat' (first
    | exact trivial
    | (with_reducible first | refine awA ?_ | refine awB ?_ | refine awC ?_ | refine awD ?_ | refine awE ?_ | refine awF ?_ | refine awG ?_ | refine awH ?_ | refine awI ?_ | refine awJ ?_ | refine awK ?_ | refine awL ?_ | refine awM (by decide) ?_)
    | (refine aw_draw (id := 4) (t := (.node [0, 1, 2, 3, 4, 5, 6, 7, 8, 9, 10] [])) (drR [10000] [] []) mixed (by kernel_rfl) (by kernel_rfl) (fun _ _ h => h) ?_)
    | (refine aw_draw (id := 5) (t := (.node [0, 1, 2, 3, 4, 5, 6, 7, 8, 9, 10, 11, 12] [])) (drR [10000] [43] []) mixed (by kernel_rfl) (by kernel_rfl) (fun _ _ h => h) ?_)
    | (refine aw_draw (id := 25) (t := (.node [0, 1, 2, 3, 4, 5, 6, 7, 8, 9, 10, 11] [])) (drR [5] [114] []) mixed (by kernel_rfl) (by kernel_rfl) (fun _ _ h => h) ?_)
    | (refine aw_draw (id := 27) (t := (.node [0, 1, 2, 3, 4, 5, 6, 7, 8, 9, 10] [])) (drR [6] [123] []) mixed (by kernel_rfl) (by kernel_rfl) (fun _ _ h => h) ?_)
    | (refine at_done (by simp only [List.filterMap_cons, List.filterMap_nil, List.getElem?_toArray, List.getElem?_cons_zero, List.getElem?_cons_succ]; exact rfl) ?_) | (refine at_alt (by simp only [List.filterMap_cons, List.filterMap_nil, List.getElem?_toArray, List.getElem?_cons_zero, List.getElem?_cons_succ]; exact rfl) ?_) | refine qalt_normal ?_ | refine ats_cons ?_ ?_ | exact ats_nil
    | ((with_reducible first | refine awN (tyOf_ok _) [] ?_ | refine awO (tyOf_ok _) [] ?_ | refine awP (tyOf_ok _) [] ?_ | refine awQ ?_ | refine awR ?_ | refine awS ?_ | refine awT ?_ | refine awU ?_); intro r hr; simp only [go_sem, Nat.reduceBEq, Nat.reduceBneDiff, Nat.reduceLT, Nat.reduceLeDiff, Nat.reduceAdd, Nat.reduceMul, Nat.reduceSub, Nat.reduceEqDiff, reduceCtorEq, wrapU, k1, k3, k2, k4, k5, k6, htm, hwq] at hr; subst hr; (first | refine awV ?_ ?_ | refine awW ?_ ?_ | refine endK ?_ ?_ | refine endGK ?_ ?_ ?_ | (refine condK (fun h => ?_) (fun h => ?_) <;> (try simp only [go_sem, reduceCtorEq] at h) <;> (try (exfalso; omega))))) | fail)) <;> (try omega)
        exact ⟨(), by simp only [go_sem, Nat.reduceBEq, Nat.reduceBneDiff, Nat.reduceLT, Nat.reduceLeDiff, Nat.reduceAdd, Nat.reduceMul, Nat.reduceSub, Nat.reduceEqDiff, reduceCtorEq, List.cons_append, List.nil_append] <;> exact rfl, trivial⟩
    · have hl := right_parts hr h
      rcases h with h | h
      · have k1 : (T.kind = 1) = False := eq_false (by omega)
        have k3 : (T.kind = 3) = False := eq_false (by omega)
        have k2 : (T.kind = 2) = False := eq_false (by omega)
        have k4 : (T.kind = 4) = False := eq_false (by omega)
        have k5 : (T.kind = 5) = False := eq_false (by omega)
        have k6 : (T.kind = 6) = False := eq_false (by omega)
        have k7 : (T.kind = 7) = True := eq_true h
        obtain ⟨a, ha, hal⟩ : ∃ a : Nat, p % (T.parts.length : Int) = a ∧ a < T.parts.length := ⟨(p % (T.parts.length : Int)).toNat, by
          have hm0 := Int.emod_nonneg p (show (T.parts.length : Int) ≠ 0 by omega)
          have hm1 := Int.emod_lt_of_pos p (show (0 : Int) < T.parts.length by omega)
          omega⟩
        have hun : u64 (T.parts.length : Int) = T.parts.length := by unfold u64; omega
        have htm : p.tmod T.parts.length = a := by rw [Int.tmod_eq_emod_of_nonneg hpb.1, ha]
        have hza : ((a : Int)).toNat = a := by omega
        have g3 := encPs_get hal
        have hxe : x = ⟨6, u64 T.parts[a].tag, 1⟩ := by
          rw [hx]; unfold pickN
          rw [if_neg (by omega), if_neg (by omega), if_neg (by omega), if_neg (by omega), if_neg (by omega), if_neg (by omega), if_pos h, ha, Int.toNat_natCast, List.getElem?_eq_getElem hal, Option.getD_some]
        subst hxe
        (repeat' (first
    | exact trivial
    | (with_reducible first | refine awA ?_ | refine awB ?_ | refine awC ?_ | refine awD ?_ | refine awE ?_ | refine awF ?_ | refine awG ?_ | refine awH ?_ | refine awI ?_ | refine awJ ?_ | refine awK ?_ | refine awL ?_ | refine awM (by decide) ?_)
    | (refine aw_draw (id := 4) (t := (.node [0, 1, 2, 3, 4, 5, 6, 7, 8, 9, 10] [])) (drR [10000] [] []) mixed (by kernel_rfl) (by kernel_rfl) (fun _ _ h => h) ?_)
    | (refine aw_draw (id := 5) (t := (.node [0, 1, 2, 3, 4, 5, 6, 7, 8, 9, 10, 11, 12] [])) (drR [10000] [43] []) mixed (by kernel_rfl) (by kernel_rfl) (fun _ _ h => h) ?_)
    | (refine aw_draw (id := 25) (t := (.node [0, 1, 2, 3, 4, 5, 6, 7, 8, 9, 10, 11] [])) (drR [5] [114] []) mixed (by kernel_rfl) (by kernel_rfl) (fun _ _ h => h) ?_)
    | (refine aw_draw (id := 27) (t := (.node [0, 1, 2, 3, 4, 5, 6, 7, 8, 9, 10] [])) (drR [6] [123] []) mixed (by kernel_rfl) (by kernel_rfl) (fun _ _ h => h) ?_)
    | (refine at_done (by simp only [List.filterMap_cons, List.filterMap_nil, List.getElem?_toArray, List.getElem?_cons_zero, List.getElem?_cons_succ]; exact rfl) ?_) | (refine at_alt (by simp only [List.filterMap_cons, List.filterMap_nil, List.getElem?_toArray, List.getElem?_cons_zero, List.getElem?_cons_succ]; exact rfl) ?_) | refine qalt_normal ?_ | refine ats_cons ?_ ?_ | exact ats_nil
    | ((with_reducible first | refine awN (tyOf_ok _) [] ?_ | refine awO (tyOf_ok _) [] ?_ | refine awP (tyOf_ok _) [] ?_ | refine awQ ?_ | refine awR ?_ | refine awS ?_ | refine awT ?_ | refine awU ?_); intro r hr; simp only [go_sem, Nat.reduceBEq, Nat.reduceBneDiff, Nat.reduceLT, Nat.reduceLeDiff, Nat.reduceAdd, Nat.reduceMul, Nat.reduceSub, Nat.reduceEqDiff, reduceCtorEq, wrapU, k1, k3, k2, k4, k5, k6, k7, encPs_len, hun, htm, hza, g3] at hr; subst hr; (first | refine awV ?_ ?_ | refine awW ?_ ?_ | refine endK ?_ ?_ | refine endGK ?_ ?_ ?_ | (refine condK (fun h => ?_) (fun h => ?_) <;> (try simp only [go_sem, reduceCtorEq] at h) <;> (try (exfalso; omega))))) | fail)) <;> (try omega)
        exact ⟨(), by simp only [go_sem, Nat.reduceBEq, Nat.reduceBneDiff, Nat.reduceLT, Nat.reduceLeDiff, Nat.reduceAdd, Nat.reduceMul, Nat.reduceSub, Nat.reduceEqDiff, reduceCtorEq, List.cons_append, List.nil_append] <;> exact rfl, trivial⟩
      · have k1 : (T.kind = 1) = False := eq_false (by omega)
        have k3 : (T.kind = 3) = False := eq_false (by omega)
        have k2 : (T.kind = 2) = False := eq_false (by omega)
        have k4 : (T.kind = 4) = False := eq_false (by omega)
        have k5 : (T.kind = 5) = False := eq_false (by omega)
        have k6 : (T.kind = 6) = False := eq_false (by omega)
        have k7 : (T.kind = 7) = False := eq_false (by omega)
        have hxe : x = ⟨4, 0, T.parts.length⟩ := by rw [hx]; unfold pickN; rw [if_neg (by omega), if_neg (by omega), if_neg (by omega), if_neg (by omega), if_neg (by omega), if_neg (by omega), if_neg (by omega)]
        subst hxe
        (repeat' (first
    | exact trivial
    | (with_reducible first | refine awA ?_ | refine awB ?_ | refine awC ?_ | refine awD ?_ | refine awE ?_ | refine awF ?_ | refine awG ?_ | refine awH ?_ | refine awI ?_ | refine awJ ?_ | refine awK ?_ | refine awL ?_ | refine awM (by decide) ?_)
    | (refine aw_draw (id := 4) (t := (.node [0, 1, 2, 3, 4, 5, 6, 7, 8, 9, 10] [])) (drR [10000] [] []) mixed (by kernel_rfl) (by kernel_rfl) (fun _ _ h => h) ?_)
    | (refine aw_draw (id := 5) (t := (.node [0, 1, 2, 3, 4, 5, 6, 7, 8, 9, 10, 11, 12] [])) (drR [10000] [43] []) mixed (by kernel_rfl) (by kernel_rfl) (fun _ _ h => h) ?_)
    | (refine aw_draw (id := 25) (t := (.node [0, 1, 2, 3, 4, 5, 6, 7, 8, 9, 10, 11] [])) (drR [5] [114] []) mixed (by kernel_rfl) (by kernel_rfl) (fun _ _ h => h) ?_)
    | (refine aw_draw (id := 27) (t := (.node [0, 1, 2, 3, 4, 5, 6, 7, 8, 9, 10] [])) (drR [6] [123] []) mixed (by kernel_rfl) (by kernel_rfl) (fun _ _ h => h) ?_)
    | (refine at_done (by simp only [List.filterMap_cons, List.filterMap_nil, List.getElem?_toArray, List.getElem?_cons_zero, List.getElem?_cons_succ]; exact rfl) ?_) | (refine at_alt (by simp only [List.filterMap_cons, List.filterMap_nil, List.getElem?_toArray, List.getElem?_cons_zero, List.getElem?_cons_succ]; exact rfl) ?_) | refine qalt_normal ?_ | refine ats_cons ?_ ?_ | exact ats_nil
    | ((with_reducible first | refine awN (tyOf_ok _) [] ?_ | refine awO (tyOf_ok _) [] ?_ | refine awP (tyOf_ok _) [] ?_ | refine awQ ?_ | refine awR ?_ | refine awS ?_ | refine awT ?_ | refine awU ?_); intro r hr; simp only [go_sem, Nat.reduceBEq, Nat.reduceBneDiff, Nat.reduceLT, Nat.reduceLeDiff, Nat.reduceAdd, Nat.reduceMul, Nat.reduceSub, Nat.reduceEqDiff, reduceCtorEq, wrapU, k1, k3, k2, k4, k5, k6, k7, encPs_len] at hr; subst hr; (first | refine awV ?_ ?_ | refine awW ?_ ?_ | refine endK ?_ ?_ | refine endGK ?_ ?_ ?_ | (refine condK (fun h => ?_) (fun h => ?_) <;> (try simp only [go_sem, reduceCtorEq] at h) <;> (try (exfalso; omega))))) | fail)) <;> (try omega)
        exact ⟨(), by simp only [go_sem, Nat.reduceBEq, Nat.reduceBneDiff, Nat.reduceLT, Nat.reduceLeDiff, Nat.reduceAdd, Nat.reduceMul, Nat.reduceSub, Nat.reduceEqDiff, reduceCtorEq, List.cons_append, List.nil_append] <;> exact rfl, trivial⟩
  intro _ _
  have htk : (encNs V).take V.length = encNs V := take_len (by rw [encNs_len]; exact Nat.le_refl _)
  have hl1 : (V ++ [x]).length = V.length + 1 := by simp
  (repeat' (first
    | exact trivial
    | (with_reducible first | refine awA ?_ | refine awB ?_ | refine awC ?_ | refine awD ?_ | refine awE ?_ | refine awF ?_ | refine awG ?_ | refine awH ?_ | refine awI ?_ | refine awJ ?_ | refine awK ?_ | refine awL ?_ | refine awM (by decide) ?_)
    | (refine aw_draw (id := 4) (t := (.node [0, 1, 2, 3, 4, 5, 6, 7, 8, 9, 10] [])) (drR [10000] [] []) mixed (by kernel_rfl) (by kernel_rfl) (fun _ _ h => h) ?_)
    | (refine aw_draw (id := 5) (t := (.node [0, 1, 2, 3, 4, 5, 6, 7, 8, 9, 10, 11, 12] [])) (drR [10000] [43] []) mixed (by kernel_rfl) (by kernel_rfl) (fun _ _ h => h) ?_)
    | (refine aw_draw (id := 25) (t := (.node [0, 1, 2, 3, 4, 5, 6, 7, 8, 9, 10, 11] [])) (drR [5] [114] []) mixed (by kernel_rfl) (by kernel_rfl) (fun _ _ h => h) ?_)
    | (refine aw_draw (id := 27) (t := (.node [0, 1, 2, 3, 4, 5, 6, 7, 8, 9, 10] [])) (drR [6] [123] []) mixed (by kernel_rfl) (by kernel_rfl) (fun _ _ h => h) ?_)
    | (refine at_done (by simp only [List.filterMap_cons, List.filterMap_nil, List.getElem?_toArray, List.getElem?_cons_zero, List.getElem?_cons_succ]; exact rfl) ?_) | (refine at_alt (by simp only [List.filterMap_cons, List.filterMap_nil, List.getElem?_toArray, List.getElem?_cons_zero, List.getElem?_cons_succ]; exact rfl) ?_) | refine qalt_normal ?_ | refine ats_cons ?_ ?_ | exact ats_nil
    | ((with_reducible first | refine awN (tyOf_ok _) [] ?_ | refine awO (tyOf_ok _) [] ?_ | refine awP (tyOf_ok _) [] ?_ | refine awQ ?_ | refine awR ?_ | refine awS ?_ | refine awT ?_ | refine awU ?_); intro r hr; simp only [go_sem, Nat.reduceBEq, Nat.reduceBneDiff, Nat.reduceLT, Nat.reduceLeDiff, Nat.reduceAdd, Nat.reduceMul, Nat.reduceSub, Nat.reduceEqDiff, reduceCtorEq, htk, encNs_app, encNs_len, hl1] at hr; subst hr; (first | refine awV ?_ ?_ | refine awW ?_ ?_ | refine endK ?_ ?_ | refine endGK ?_ ?_ ?_ | (refine condK (fun h => ?_) (fun h => ?_) <;> (try simp only [go_sem, reduceCtorEq] at h) <;> (try (exfalso; omega))))) | fail)) <;> (try omega)
  obtain ⟨m, hm⟩ : ∃ m : Nat, x.kids = m := ⟨x.kids.toNat, by omega⟩
  rw [hm, Int.toNat_natCast] at hks
  refine go_loop [0, 5, 6, 8] [5, 6, 10000, 15000] (fun q : Nat × List NodeM × Bool => ⟨[(0, true, .ptr 1 10000 0 0), (5, true, .ptr 1 5 0 0), (6, true, .ptr 1 6 0 0), (8, true, vI q.1)],
      [(5, .var [vI T.kind, vI T.n, vI T.elem, .lst 3 (encPs T.parts)]), (6, .var [vI x.kind, .v (.int .u64 x.n), vI x.kids])] ++ obM ts rs ps q.2.1 q.2.2⟩)
    (fun q => q.1 ≤ m ∧ q.2.1.length ≤ 1048576 ∧ (q.2.2 = false → ∃ done : List Tr, q.2.1 = V ++ x :: Tr.flat.flatL done ∧ done ++ mkL T x mk (m - q.1) q.1 q.2.1.length = ks) ∧ (q.2.2 = true → q.2.1 = (V ++ x :: F).take 1048576 ∧ 1048576 < V.length + (x :: F).length))
    (fun q => m - q.1) (0, V ++ [x], false) (by simp only [go_sem, Nat.reduceBEq, Nat.reduceBneDiff, Nat.reduceLT, Nat.reduceLeDiff, Nat.reduceAdd, Nat.reduceMul, Nat.reduceSub, Nat.reduceEqDiff, reduceCtorEq, List.cons_append, List.nil_append, hl1] <;> exact rfl) ⟨Nat.zero_le _, by simp only; omega, fun _ => ⟨[], by simp [Tr.flat.flatL], by simp only [List.nil_append, hl1]; exact hks.symm⟩, fun h => by cases h⟩ ?_
  intro ⟨k, U, many⟩ ⟨hk, hU, hf, ht⟩
  simp only at hk hU hf ht
  have hwk := wrap_i64 (n := (k : Int) + 1) (by omega)
  cases many with
  | true =>
    obtain ⟨hU1, hU2⟩ := ht rfl
    have hd : decide (1048576 < V.length + (x :: F).length) = true := by simpa using hU2
    rw [hd, ← hU1]
    by_cases hlt : k < m
    · have f1 : ((k : Int) < m) = True := eq_true (by omega)
      (repeat' (first
    | exact trivial
    | (with_reducible first | refine awA ?_ | refine awB ?_ | refine awC ?_ | refine awD ?_ | refine awE ?_ | refine awF ?_ | refine awG ?_ | refine awH ?_ | refine awI ?_ | refine awJ ?_ | refine awK ?_ | refine awL ?_ | refine awM (by decide) ?_)
    | (refine aw_draw (id := 4) (t := (.node [0, 1, 2, 3, 4, 5, 6, 7, 8, 9, 10] [])) (drR [10000] [] []) mixed (by kernel_rfl) (by kernel_rfl) (fun _ _ h => h) ?_)
    | (refine aw_draw (id := 5) (t := (.node [0, 1, 2, 3, 4, 5, 6, 7, 8, 9, 10, 11, 12] [])) (drR [10000] [43] []) mixed (by kernel_rfl) (by kernel_rfl) (fun _ _ h => h) ?_)
    | (refine aw_draw (id := 25) (t := (.node [0, 1, 2, 3, 4, 5, 6, 7, 8, 9, 10, 11] [])) (drR [5] [114] []) mixed (by kernel_rfl) (by kernel_rfl) (fun _ _ h => h) ?_)
    | (refine aw_draw (id := 27) (t := (.node [0, 1, 2, 3, 4, 5, 6, 7, 8, 9, 10] [])) (drR [6] [123] []) mixed (by kernel_rfl) (by kernel_rfl) (fun _ _ h => h) ?_)
    | (refine at_done (by simp only [List.filterMap_cons, List.filterMap_nil, List.getElem?_toArray, List.getElem?_cons_zero, List.getElem?_cons_succ]; exact rfl) ?_) | (refine at_alt (by simp only [List.filterMap_cons, List.filterMap_nil, List.getElem?_toArray, List.getElem?_cons_zero, List.getElem?_cons_succ]; exact rfl) ?_) | refine qalt_normal ?_ | refine ats_cons ?_ ?_ | exact ats_nil
    | ((with_reducible first | refine awN (tyOf_ok _) [] ?_ | refine awO (tyOf_ok _) [] ?_ | refine awP (tyOf_ok _) [] ?_ | refine awQ ?_ | refine awR ?_ | refine awS ?_ | refine awT ?_ | refine awU ?_); intro r hr; simp only [go_sem, Nat.reduceBEq, Nat.reduceBneDiff, Nat.reduceLT, Nat.reduceLeDiff, Nat.reduceAdd, Nat.reduceMul, Nat.reduceSub, Nat.reduceEqDiff, reduceCtorEq, List.cons_append, List.nil_append, hm, f1] at hr; subst hr; (first | refine awV ?_ ?_ | refine awW ?_ ?_ | refine endK ?_ ?_ | refine endGK ?_ ?_ ?_ | (refine condK (fun h => ?_) (fun h => ?_) <;> (try simp only [go_sem, reduceCtorEq] at h) <;> (try (exfalso; omega))))) | fail)) <;> (try omega)
      · exact AV.up_rfl _
      · exact obUp_cons rfl (obUp_cons rfl obUp_nil)
    · have f1 : ((k : Int) < m) = False := eq_false (by omega)
      (repeat' (first
    | exact trivial
    | (with_reducible first | refine awA ?_ | refine awB ?_ | refine awC ?_ | refine awD ?_ | refine awE ?_ | refine awF ?_ | refine awG ?_ | refine awH ?_ | refine awI ?_ | refine awJ ?_ | refine awK ?_ | refine awL ?_ | refine awM (by decide) ?_)
    | (refine aw_draw (id := 4) (t := (.node [0, 1, 2, 3, 4, 5, 6, 7, 8, 9, 10] [])) (drR [10000] [] []) mixed (by kernel_rfl) (by kernel_rfl) (fun _ _ h => h) ?_)
    | (refine aw_draw (id := 5) (t := (.node [0, 1, 2, 3, 4, 5, 6, 7, 8, 9, 10, 11, 12] [])) (drR [10000] [43] []) mixed (by kernel_rfl) (by kernel_rfl) (fun _ _ h => h) ?_)
    | (refine aw_draw (id := 25) (t := (.node [0, 1, 2, 3, 4, 5, 6, 7, 8, 9, 10, 11] [])) (drR [5] [114] []) mixed (by kernel_rfl) (by kernel_rfl) (fun _ _ h => h) ?_)
    | (refine aw_draw (id := 27) (t := (.node [0, 1, 2, 3, 4, 5, 6, 7, 8, 9, 10] [])) (drR [6] [123] []) mixed (by kernel_rfl) (by kernel_rfl) (fun _ _ h => h) ?_)
    | (refine at_done (by simp only [List.filterMap_cons, List.filterMap_nil, List.getElem?_toArray, List.getElem?_cons_zero, List.getElem?_cons_succ]; exact rfl) ?_) | (refine at_alt (by simp only [List.filterMap_cons, List.filterMap_nil, List.getElem?_toArray, List.getElem?_cons_zero, List.getElem?_cons_succ]; exact rfl) ?_) | refine qalt_normal ?_ | refine ats_cons ?_ ?_ | exact ats_nil
    | ((with_reducible first | refine awN (tyOf_ok _) [] ?_ | refine awO (tyOf_ok _) [] ?_ | refine awP (tyOf_ok _) [] ?_ | refine awQ ?_ | refine awR ?_ | refine awS ?_ | refine awT ?_ | refine awU ?_); intro r hr; simp only [go_sem, Nat.reduceBEq, Nat.reduceBneDiff, Nat.reduceLT, Nat.reduceLeDiff, Nat.reduceAdd, Nat.reduceMul, Nat.reduceSub, Nat.reduceEqDiff, reduceCtorEq, List.cons_append, List.nil_append, hm, f1] at hr; subst hr; (first | refine awV ?_ ?_ | refine awW ?_ ?_ | refine endK ?_ ?_ | refine endGK ?_ ?_ ?_ | (refine condK (fun h => ?_) (fun h => ?_) <;> (try simp only [go_sem, reduceCtorEq] at h) <;> (try (exfalso; omega))))) | fail)) <;> (try omega)
      · exact AV.up_rfl _
      · exact obUp_cons rfl (obUp_cons rfl obUp_nil)
  | false =>
    obtain ⟨done, hU1, hrest⟩ := hf rfl
    by_cases hlt : k < m
    · have f1 : ((k : Int) < m) = True := eq_true (by omega)
      obtain ⟨hel, hk8⟩ := elem_ok hr hxr hxf (i := k) (by omega)
      have hE := Elem_any T hpl htag x hxok.2.2 k hk8
      rw [hm] at hE
      obtain ⟨te, hte⟩ : ∃ te : Nat, elemF T x.n k = te := ⟨(elemF T x.n k).toNat, by omega⟩
      rw [show m - k = (m - (k + 1)) + 1 by omega, mkL] at hrest
      rw [hte] at hE hrest hel
      rw [Int.toNat_natCast] at hrest
      have hc := H te (by omega) U hU
      generalize mk te U.length = c at *
      have hF2 : V ++ x :: F = (U ++ c.flat) ++ Tr.flat.flatL (mkL T x mk (m - (k + 1)) (k + 1) (U.length + c.flat.length)) := by
        rw [← hF, ← hrest, flatL_app, hU1]
        simp [Tr.flat.flatL]
      have hlF : V.length + (x :: F).length = (V ++ x :: F).length := by rw [List.length_append]
      by_cases hb : 1048576 < U.length + c.flat.length
      · have hd : decide (1048576 < U.length + c.flat.length) = true := by simpa using hb
        rw [hd] at hc
        have hlU : ((U ++ c.flat).take 1048576).length ≤ 1048576 := by rw [List.length_take]; omega
        have hU2 : (V ++ x :: F).take 1048576 = (U ++ c.flat).take 1048576 := by rw [hF2, List.take_append_of_le_length (by rw [List.length_append]; omega)]
        have hN : 1048576 < V.length + (x :: F).length := by rw [hlF, hF2]; simp only [List.length_append]; omega
        generalize (U ++ c.flat).take 1048576 = U' at *
        (repeat' (first
    | exact trivial
    | (with_reducible first | refine awA ?_ | refine awB ?_ | refine awC ?_ | refine awD ?_ | refine awE ?_ | refine awF ?_ | refine awG ?_ | refine awH ?_ | refine awI ?_ | refine awJ ?_ | refine awK ?_ | refine awL ?_ | refine awM (by decide) ?_)
    | (refine aw_draw (id := 4) (t := (.node [0, 1, 2, 3, 4, 5, 6, 7, 8, 9, 10] [])) (drR [10000] [] []) mixed (by kernel_rfl) (by kernel_rfl) (fun _ _ h => h) ?_)
    | (refine aw_draw (id := 5) (t := (.node [0, 1, 2, 3, 4, 5, 6, 7, 8, 9, 10, 11, 12] [])) (drR [10000] [43] []) mixed (by kernel_rfl) (by kernel_rfl) (fun _ _ h => h) ?_)
    | (refine aw_draw (id := 25) (t := (.node [0, 1, 2, 3, 4, 5, 6, 7, 8, 9, 10, 11] [])) (drR [5] [114] []) mixed (by kernel_rfl) (by kernel_rfl) (fun _ _ h => h) ?_)
    | (refine aw_draw (id := 27) (t := (.node [0, 1, 2, 3, 4, 5, 6, 7, 8, 9, 10] [])) (drR [6] [123] []) mixed (by kernel_rfl) (by kernel_rfl) (fun _ _ h => h) ?_)
    | (refine at_done (by simp only [List.filterMap_cons, List.filterMap_nil, List.getElem?_toArray, List.getElem?_cons_zero, List.getElem?_cons_succ]; exact rfl) ?_) | (refine at_alt (by simp only [List.filterMap_cons, List.filterMap_nil, List.getElem?_toArray, List.getElem?_cons_zero, List.getElem?_cons_succ]; exact rfl) ?_) | refine qalt_normal ?_ | refine ats_cons ?_ ?_ | exact ats_nil
    | ((with_reducible first | refine awN (tyOf_ok _) [] ?_ | refine awO (tyOf_ok _) [] ?_ | refine awP (tyOf_ok _) [] ?_ | refine awQ ?_ | refine awR ?_ | refine awS ?_ | refine awT ?_ | refine awU ?_); intro r hr; simp only [go_sem, Nat.reduceBEq, Nat.reduceBneDiff, Nat.reduceLT, Nat.reduceLeDiff, Nat.reduceAdd, Nat.reduceMul, Nat.reduceSub, Nat.reduceEqDiff, reduceCtorEq, List.cons_append, List.nil_append, hm, f1, hwk] at hr; subst hr; (first | refine caA (fun _ => hE) rfl ?_ ?_ ?_ | refine awV ?_ ?_ | refine awW ?_ ?_ | refine endK ?_ ?_ | refine endGK ?_ ?_ ?_ | (refine condK (fun h => ?_) (fun h => ?_) <;> (try simp only [go_sem, reduceCtorEq] at h) <;> (try (exfalso; omega)))))
    | (refine go_callGE [(10000, 10000), (15000, 15000)] [(10000, 10000), (15000, 15000)] [15000] [10000] ?_; intro r hr; simp only [go_sem, Nat.reduceBEq, Nat.reduceBneDiff, Nat.reduceLT, Nat.reduceLeDiff, Nat.reduceAdd, Nat.reduceMul, Nat.reduceSub, Nat.reduceEqDiff, reduceCtorEq, List.cons_append, List.nil_append, hm, f1, hwk] at hr; subst hr; refine callGK (hc) rfl rfl (by first | exact .inl rfl | exact .inr rfl) ?_ (.inl rfl) ?_) | fail)) <;> (try omega)
        exact ⟨(k + 1, U', true), by simp only [go_sem, Nat.reduceBEq, Nat.reduceBneDiff, Nat.reduceLT, Nat.reduceLeDiff, Nat.reduceAdd, Nat.reduceMul, Nat.reduceSub, Nat.reduceEqDiff, reduceCtorEq, List.cons_append, List.nil_append, hm] <;> exact rfl, ⟨hlt, hlU, fun h => (by cases h), fun _ => ⟨hU2.symm, hN⟩⟩, by simp only; omega⟩
      · have hd : decide (1048576 < U.length + c.flat.length) = false := by simpa using hb
        have htk2 : (U ++ c.flat).take 1048576 = U ++ c.flat := List.take_of_length_le (by rw [List.length_append]; omega)
        rw [hd, htk2] at hc
        have hl2 : (U ++ c.flat).length = U.length + c.flat.length := List.length_append
        have hU3 : U ++ c.flat = V ++ x :: Tr.flat.flatL (done ++ [c]) := by rw [hU1, flatL_app]; simp [Tr.flat.flatL]
        have hre : (done ++ [c]) ++ mkL T x mk (m - (k + 1)) (k + 1) (U ++ c.flat).length = ks := by rw [hl2, ← hrest]; simp
        have hl3 : (U ++ c.flat).length ≤ 1048576 := by omega
        clear hF2 htk2 hl2
        generalize U ++ c.flat = U' at *
        (repeat' (first
    | exact trivial
    | (with_reducible first | refine awA ?_ | refine awB ?_ | refine awC ?_ | refine awD ?_ | refine awE ?_ | refine awF ?_ | refine awG ?_ | refine awH ?_ | refine awI ?_ | refine awJ ?_ | refine awK ?_ | refine awL ?_ | refine awM (by decide) ?_)
    | (refine aw_draw (id := 4) (t := (.node [0, 1, 2, 3, 4, 5, 6, 7, 8, 9, 10] [])) (drR [10000] [] []) mixed (by kernel_rfl) (by kernel_rfl) (fun _ _ h => h) ?_)
    | (refine aw_draw (id := 5) (t := (.node [0, 1, 2, 3, 4, 5, 6, 7, 8, 9, 10, 11, 12] [])) (drR [10000] [43] []) mixed (by kernel_rfl) (by kernel_rfl) (fun _ _ h => h) ?_)
    | (refine aw_draw (id := 25) (t := (.node [0, 1, 2, 3, 4, 5, 6, 7, 8, 9, 10, 11] [])) (drR [5] [114] []) mixed (by kernel_rfl) (by kernel_rfl) (fun _ _ h => h) ?_)
    | (refine aw_draw (id := 27) (t := (.node [0, 1, 2, 3, 4, 5, 6, 7, 8, 9, 10] [])) (drR [6] [123] []) mixed (by kernel_rfl) (by kernel_rfl) (fun _ _ h => h) ?_)
    | (refine at_done (by simp only [List.filterMap_cons, List.filterMap_nil, List.getElem?_toArray, List.getElem?_cons_zero, List.getElem?_cons_succ]; exact rfl) ?_) | (refine at_alt (by simp only [List.filterMap_cons, List.filterMap_nil, List.getElem?_toArray, List.getElem?_cons_zero, List.getElem?_cons_succ]; exact rfl) ?_) | refine qalt_normal ?_ | refine ats_cons ?_ ?_ | exact ats_nil
    | ((with_reducible first | refine awN (tyOf_ok _) [] ?_ | refine awO (tyOf_ok _) [] ?_ | refine awP (tyOf_ok _) [] ?_ | refine awQ ?_ | refine awR ?_ | refine awS ?_ | refine awT ?_ | refine awU ?_); intro r hr; simp only [go_sem, Nat.reduceBEq, Nat.reduceBneDiff, Nat.reduceLT, Nat.reduceLeDiff, Nat.reduceAdd, Nat.reduceMul, Nat.reduceSub, Nat.reduceEqDiff, reduceCtorEq, List.cons_append, List.nil_append, hm, f1, hwk] at hr; subst hr; (first | refine caA (fun _ => hE) rfl ?_ ?_ ?_ | refine awV ?_ ?_ | refine awW ?_ ?_ | refine endK ?_ ?_ | refine endGK ?_ ?_ ?_ | (refine condK (fun h => ?_) (fun h => ?_) <;> (try simp only [go_sem, reduceCtorEq] at h) <;> (try (exfalso; omega)))))
    | (refine go_callGE [(10000, 10000), (15000, 15000)] [(10000, 10000), (15000, 15000)] [15000] [10000] ?_; intro r hr; simp only [go_sem, Nat.reduceBEq, Nat.reduceBneDiff, Nat.reduceLT, Nat.reduceLeDiff, Nat.reduceAdd, Nat.reduceMul, Nat.reduceSub, Nat.reduceEqDiff, reduceCtorEq, List.cons_append, List.nil_append, hm, f1, hwk] at hr; subst hr; refine callGK (hc) rfl rfl (by first | exact .inl rfl | exact .inr rfl) ?_ (.inl rfl) ?_) | fail)) <;> (try omega)
        exact ⟨(k + 1, U', false), by simp only [go_sem, Nat.reduceBEq, Nat.reduceBneDiff, Nat.reduceLT, Nat.reduceLeDiff, Nat.reduceAdd, Nat.reduceMul, Nat.reduceSub, Nat.reduceEqDiff, reduceCtorEq, List.cons_append, List.nil_append, hm] <;> exact rfl, ⟨hlt, hl3, fun _ => ⟨done ++ [c], hU3, hre⟩, fun h => (by cases h)⟩, by simp only; omega⟩
    · have f1 : ((k : Int) < m) = False := eq_false (by omega)
      rw [show m - k = 0 by omega, mkL, List.append_nil] at hrest
      subst hrest
      rw [hF] at hU1
      have hlF : V.length + (x :: F).length = U.length := by rw [hU1, List.length_append]
      have hd : decide (1048576 < V.length + (x :: F).length) = false := by rw [hlF]; simp; omega
      have htk2 : (V ++ x :: F).take 1048576 = U := by rw [← hU1]; exact List.take_of_length_le hU
      rw [hd, htk2]
      (repeat' (first
    | exact trivial
    | (with_reducible first | refine awA ?_ | refine awB ?_ | refine awC ?_ | refine awD ?_ | refine awE ?_ | refine awF ?_ | refine awG ?_ | refine awH ?_ | refine awI ?_ | refine awJ ?_ | refine awK ?_ | refine awL ?_ | refine awM (by decide) ?_)
    | (refine aw_draw (id := 4) (t := (.node [0, 1, 2, 3, 4, 5, 6, 7, 8, 9, 10] [])) (drR [10000] [] []) mixed (by kernel_rfl) (by kernel_rfl) (fun _ _ h => h) ?_)
    | (refine aw_draw (id := 5) (t := (.node [0, 1, 2, 3, 4, 5, 6, 7, 8, 9, 10, 11, 12] [])) (drR [10000] [43] []) mixed (by kernel_rfl) (by kernel_rfl) (fun _ _ h => h) ?_)
    | (refine aw_draw (id := 25) (t := (.node [0, 1, 2, 3, 4, 5, 6, 7, 8, 9, 10, 11] [])) (drR [5] [114] []) mixed (by kernel_rfl) (by kernel_rfl) (fun _ _ h => h) ?_)
    | (refine aw_draw (id := 27) (t := (.node [0, 1, 2, 3, 4, 5, 6, 7, 8, 9, 10] [])) (drR [6] [123] []) mixed (by kernel_rfl) (by kernel_rfl) (fun _ _ h => h) ?_)
    | (refine at_done (by simp only [List.filterMap_cons, List.filterMap_nil, List.getElem?_toArray, List.getElem?_cons_zero, List.getElem?_cons_succ]; exact rfl) ?_) | (refine at_alt (by simp only [List.filterMap_cons, List.filterMap_nil, List.getElem?_toArray, List.getElem?_cons_zero, List.getElem?_cons_succ]; exact rfl) ?_) | refine qalt_normal ?_ | refine ats_cons ?_ ?_ | exact ats_nil
    | ((with_reducible first | refine awN (tyOf_ok _) [] ?_ | refine awO (tyOf_ok _) [] ?_ | refine awP (tyOf_ok _) [] ?_ | refine awQ ?_ | refine awR ?_ | refine awS ?_ | refine awT ?_ | refine awU ?_); intro r hr; simp only [go_sem, Nat.reduceBEq, Nat.reduceBneDiff, Nat.reduceLT, Nat.reduceLeDiff, Nat.reduceAdd, Nat.reduceMul, Nat.reduceSub, Nat.reduceEqDiff, reduceCtorEq, List.cons_append, List.nil_append, hm, f1] at hr; subst hr; (first | refine awV ?_ ?_ | refine awW ?_ ?_ | refine endK ?_ ?_ | refine endGK ?_ ?_ ?_ | (refine condK (fun h => ?_) (fun h => ?_) <;> (try simp only [go_sem, reduceCtorEq] at h) <;> (try (exfalso; omega))))) | fail)) <;> (try omega)
      · exact AV.up_rfl _
      · exact obUp_cons rfl (obUp_cons rfl obUp_nil)
end Go.Proofs.YtfgacgpicfknpaaDoor
end
section
namespace Go.Proofs.YtfgacgpicfknpaaDoor
open Go.RowKit
set_option maxRecDepth 100000
set_option maxHeartbeats 8000000
theorem some_any {ts : List TypeM} {rs : List RootM} {ps : List Int} (W : MOK ts ps) : ∀ (f t : Nat), t < f → t < ts.length → SomeAt ts rs ps (mkT ts ps f) t
  | 0, _, h, _ => absurd h (Nat.not_lt_zero _)
  | f + 1, t, hf, ht => fun V hV => by
    have h := some_step (rs := rs) W (mkT ts ps f) t ht V hV _ rfl _ rfl fun t' ht' => some_any W f t' (by omega) (by omega)
    have he : mkT ts ps (f + 1) t V.length = .node (pickN ts[t] (pickAt ps V.length)) (mkL ts[t] (pickN ts[t] (pickAt ps V.length)) (mkT ts ps f) (pickN ts[t] (pickAt ps V.length)).kids.toNat 0 (V.length + 1)) := by
      rw [mkT, tyA_lt ht]
    rw [he]
    exact h
def madeT (ts : List TypeM) (ps : List Int) (t : Int) : Tr := mkT ts ps ts.length t.toNat 0
def someF (ts : List TypeM) (rs : List RootM) (t : Int) (ps : List Int) : List NodeM × Int :=
  if (checkF ts rs).1 ≠ 0 then ([], (checkF ts rs).1)
  else if t < 0 ∨ (ts.length : Int) ≤ t then ([], 3)
  else if 1048576 < (madeT ts ps t).flat.length then ([], 5) else ((madeT ts ps t).flat, 0)
theorem Some_any (ts : List TypeM) (rs : List RootM) (hts : ts.length ≤ 1000000000) (hrs : rs.length ≤ 1000000000) (hp : ∀ t ∈ ts, t.parts.length ≤ 1000000000) (hg : ∀ t ∈ ts, ∀ p ∈ t.parts, I64 p.tag) (t : Int) (ht : I64 t) (ps : List Int) (hps : ps.length ≤ 1000000000) :
    PCall Tryd.prog 40 [vSch ts rs, vI t, .lst 1 (v8 ps)] (fun r => r = .tup [.lst 3 (encNs (someF ts rs t ps).1), vI (someF ts rs t ps).2]) := by
  refine go_fnU (tyOf_ok _) Tryd.func40 rfl rfl (by rw [Tryd.results40]) Tryd.ntmps40 rfl fun E => ?_
  have hck := rcheck_any ts rs hts hrs hp
  unfold vF at hck
  by_cases h0 : (checkF ts rs).1 = 0
  case neg =>
    rw [someF, if_pos h0]
    have e1 : ((checkF ts rs).1 = 0) = False := eq_false h0
    generalize checkF ts rs = C at *
    (repeat' (first
    | exact trivial
    | (with_reducible first | refine awA ?_ | refine awB ?_ | refine awC ?_ | refine awD ?_ | refine awE ?_ | refine awF ?_ | refine awG ?_ | refine awH ?_ | refine awI ?_ | refine awJ ?_ | refine awK ?_ | refine awL ?_ | refine awM (by decide) ?_)
    | (refine aw_draw (id := 3) (t := (.node [0, 1, 2, 3] [])) (drR [8] [] []) mixed (by kernel_rfl) (by kernel_rfl) (fun _ _ h => h) ?_)
    | (refine at_done (by simp only [List.filterMap_cons, List.filterMap_nil, List.getElem?_toArray, List.getElem?_cons_zero, List.getElem?_cons_succ]; exact rfl) ?_) | (refine at_alt (by simp only [List.filterMap_cons, List.filterMap_nil, List.getElem?_toArray, List.getElem?_cons_zero, List.getElem?_cons_succ]; exact rfl) ?_) | refine qalt_normal ?_ | refine ats_cons ?_ ?_ | exact ats_nil
    | ((with_reducible first | refine awN (tyOf_ok _) [] ?_ | refine awO (tyOf_ok _) [] ?_ | refine awP (tyOf_ok _) [] ?_ | refine awQ ?_ | refine awR ?_ | refine awS ?_); intro r hr; simp only [go_sem, Nat.reduceBEq, Nat.reduceBneDiff, Nat.reduceLT, Nat.reduceLeDiff, Nat.reduceAdd, Nat.reduceMul, Nat.reduceSub, Nat.reduceEqDiff, reduceCtorEq, vSch, e1] at hr; subst hr; (first | refine caA (fun _ => hck) rfl ?_ ?_ ?_ | refine awV ?_ ?_ | refine awW ?_ ?_ | refine endK ?_ ?_ | (refine condK (fun h => ?_) (fun h => ?_) <;> (try simp only [go_sem, reduceCtorEq] at h) <;> (try (exfalso; omega))))) | fail)) <;> (try omega)
    exact AV.up_nil2 _ _
  have W : MOK ts ps := ⟨hts, hps, check_right h0, hp, hg⟩
  rw [h0] at hck
  rw [someF, if_neg (by omega)]
  generalize (checkF ts rs).2 = C2 at *
  by_cases h1 : t < 0
  · have e1 : (t < 0) = True := eq_true h1
    rw [if_pos (.inl h1)]
    (repeat' (first
    | exact trivial
    | (with_reducible first | refine awA ?_ | refine awB ?_ | refine awC ?_ | refine awD ?_ | refine awE ?_ | refine awF ?_ | refine awG ?_ | refine awH ?_ | refine awI ?_ | refine awJ ?_ | refine awK ?_ | refine awL ?_ | refine awM (by decide) ?_)
    | (refine aw_draw (id := 3) (t := (.node [0, 1, 2, 3] [])) (drR [8] [] []) mixed (by kernel_rfl) (by kernel_rfl) (fun _ _ h => h) ?_)
    | (refine at_done (by simp only [List.filterMap_cons, List.filterMap_nil, List.getElem?_toArray, List.getElem?_cons_zero, List.getElem?_cons_succ]; exact rfl) ?_) | (refine at_alt (by simp only [List.filterMap_cons, List.filterMap_nil, List.getElem?_toArray, List.getElem?_cons_zero, List.getElem?_cons_succ]; exact rfl) ?_) | refine qalt_normal ?_ | refine ats_cons ?_ ?_ | exact ats_nil
    | ((with_reducible first | refine awN (tyOf_ok _) [] ?_ | refine awO (tyOf_ok _) [] ?_ | refine awP (tyOf_ok _) [] ?_ | refine awQ ?_ | refine awR ?_ | refine awS ?_); intro r hr; simp only [go_sem, Nat.reduceBEq, Nat.reduceBneDiff, Nat.reduceLT, Nat.reduceLeDiff, Nat.reduceAdd, Nat.reduceMul, Nat.reduceSub, Nat.reduceEqDiff, reduceCtorEq, vSch, encTs_len, e1] at hr; subst hr; (first | refine caA (fun _ => hck) rfl ?_ ?_ ?_ | refine awV ?_ ?_ | refine awW ?_ ?_ | refine endK ?_ ?_ | (refine condK (fun h => ?_) (fun h => ?_) <;> (try simp only [go_sem, reduceCtorEq] at h) <;> (try (exfalso; omega))))) | fail)) <;> (try omega)
    exact AV.up_nil2 _ _
  have e1 : (t < 0) = False := eq_false h1
  by_cases h2 : (ts.length : Int) ≤ t
  · have e2 : ((ts.length : Int) ≤ t) = True := eq_true h2
    rw [if_pos (.inr h2)]
    (repeat' (first
    | exact trivial
    | (with_reducible first | refine awA ?_ | refine awB ?_ | refine awC ?_ | refine awD ?_ | refine awE ?_ | refine awF ?_ | refine awG ?_ | refine awH ?_ | refine awI ?_ | refine awJ ?_ | refine awK ?_ | refine awL ?_ | refine awM (by decide) ?_)
    | (refine aw_draw (id := 3) (t := (.node [0, 1, 2, 3] [])) (drR [8] [] []) mixed (by kernel_rfl) (by kernel_rfl) (fun _ _ h => h) ?_)
    | (refine at_done (by simp only [List.filterMap_cons, List.filterMap_nil, List.getElem?_toArray, List.getElem?_cons_zero, List.getElem?_cons_succ]; exact rfl) ?_) | (refine at_alt (by simp only [List.filterMap_cons, List.filterMap_nil, List.getElem?_toArray, List.getElem?_cons_zero, List.getElem?_cons_succ]; exact rfl) ?_) | refine qalt_normal ?_ | refine ats_cons ?_ ?_ | exact ats_nil
    | ((with_reducible first | refine awN (tyOf_ok _) [] ?_ | refine awO (tyOf_ok _) [] ?_ | refine awP (tyOf_ok _) [] ?_ | refine awQ ?_ | refine awR ?_ | refine awS ?_); intro r hr; simp only [go_sem, Nat.reduceBEq, Nat.reduceBneDiff, Nat.reduceLT, Nat.reduceLeDiff, Nat.reduceAdd, Nat.reduceMul, Nat.reduceSub, Nat.reduceEqDiff, reduceCtorEq, vSch, encTs_len, e1, e2] at hr; subst hr; (first | refine caA (fun _ => hck) rfl ?_ ?_ ?_ | refine awV ?_ ?_ | refine awW ?_ ?_ | refine endK ?_ ?_ | (refine condK (fun h => ?_) (fun h => ?_) <;> (try simp only [go_sem, reduceCtorEq] at h) <;> (try (exfalso; omega))))) | fail)) <;> (try omega)
    exact AV.up_nil2 _ _
  have e2 : ((ts.length : Int) ≤ t) = False := eq_false h2
  rw [if_neg (by omega)]
  have hw := some_any (rs := rs) W ts.length t.toNat (by omega) (by omega) [] (Nat.zero_le _)
  rw [Int.toNat_of_nonneg (by omega)] at hw
  simp only [List.nil_append, List.length_nil, Nat.zero_add] at hw
  change GCall _ _ _ _ _ (obM ts rs ps ((madeT ts ps t).flat.take 1048576) (decide (1048576 < (madeT ts ps t).flat.length))) at hw
  generalize (madeT ts ps t).flat = F at *
  have hnn : encNs [] = [] := rfl
  by_cases hb : 1048576 < F.length
  · have hd : decide (1048576 < F.length) = true := by simpa using hb
    rw [if_pos hb]
    rw [hd] at hw
    (repeat' (first
    | exact trivial
    | (refine aw_nilvar 29 3 43 3 8000 (cs := [_, _, _, .v (.slice none 0 0), _]) (.inl (by decide)) (by decide) rfl rfl ?_)
    | (with_reducible first | refine awA ?_ | refine awB ?_ | refine awC ?_ | refine awD ?_ | refine awE ?_ | refine awF ?_ | refine awG ?_ | refine awH ?_ | refine awI ?_ | refine awJ ?_ | refine awK ?_ | refine awL ?_ | refine awM (by decide) ?_)
    | (refine aw_draw (id := 3) (t := (.node [0, 1, 2, 3] [])) (drR [8] [] []) mixed (by kernel_rfl) (by kernel_rfl) (fun _ _ h => h) ?_)
    | (refine at_done (by simp only [List.filterMap_cons, List.filterMap_nil, List.getElem?_toArray, List.getElem?_cons_zero, List.getElem?_cons_succ]; exact rfl) ?_) | (refine at_alt (by simp only [List.filterMap_cons, List.filterMap_nil, List.getElem?_toArray, List.getElem?_cons_zero, List.getElem?_cons_succ]; exact rfl) ?_) | refine qalt_normal ?_ | refine ats_cons ?_ ?_ | exact ats_nil
    | ((with_reducible first | refine awN (tyOf_ok _) [] ?_ | refine awO (tyOf_ok _) [] ?_ | refine awP (tyOf_ok _) [] ?_ | refine awQ ?_ | refine awR ?_ | refine awS ?_); intro r hr; simp only [go_sem, Nat.reduceBEq, Nat.reduceBneDiff, Nat.reduceLT, Nat.reduceLeDiff, Nat.reduceAdd, Nat.reduceMul, Nat.reduceSub, Nat.reduceEqDiff, reduceCtorEq, AState.nilvar, List.set_cons_succ, List.set_cons_zero, vSch, encTs_len, e1, e2, hnn] at hr; subst hr; (first | refine caA (fun _ => hck) rfl ?_ ?_ ?_ | refine awV ?_ ?_ | refine awW ?_ ?_ | refine endK ?_ ?_ | (refine condK (fun h => ?_) (fun h => ?_) <;> (try simp only [go_sem, reduceCtorEq] at h) <;> (try (exfalso; omega)))))
    | (refine go_callGE [(29, 10000), (8000, 15000)] [(10000, 29), (15000, 8000)] [8000] [29] ?_; intro r hr; simp only [go_sem, Nat.reduceBEq, Nat.reduceBneDiff, Nat.reduceLT, Nat.reduceLeDiff, Nat.reduceAdd, Nat.reduceMul, Nat.reduceSub, Nat.reduceEqDiff, reduceCtorEq, AState.nilvar, List.set_cons_succ, List.set_cons_zero, vSch, encTs_len, e1, e2, hnn] at hr; subst hr; refine callGK (hw) rfl rfl (by first | exact .inl rfl | exact .inr rfl) ?_ (.inl rfl) ?_) | fail)) <;> (try omega)
    exact AV.up_nil2 _ _
  · have hd : decide (1048576 < F.length) = false := by simpa using hb
    have htk : F.take 1048576 = F := List.take_of_length_le (by omega)
    rw [if_neg hb]
    rw [hd, htk] at hw
    (repeat' (first
    | exact trivial
    | (refine aw_nilvar 29 3 43 3 8000 (cs := [_, _, _, .v (.slice none 0 0), _]) (.inl (by decide)) (by decide) rfl rfl ?_)
    | (with_reducible first | refine awA ?_ | refine awB ?_ | refine awC ?_ | refine awD ?_ | refine awE ?_ | refine awF ?_ | refine awG ?_ | refine awH ?_ | refine awI ?_ | refine awJ ?_ | refine awK ?_ | refine awL ?_ | refine awM (by decide) ?_)
    | (refine aw_draw (id := 3) (t := (.node [0, 1, 2, 3] [])) (drR [8] [] []) mixed (by kernel_rfl) (by kernel_rfl) (fun _ _ h => h) ?_)
    | (refine at_done (by simp only [List.filterMap_cons, List.filterMap_nil, List.getElem?_toArray, List.getElem?_cons_zero, List.getElem?_cons_succ]; exact rfl) ?_) | (refine at_alt (by simp only [List.filterMap_cons, List.filterMap_nil, List.getElem?_toArray, List.getElem?_cons_zero, List.getElem?_cons_succ]; exact rfl) ?_) | refine qalt_normal ?_ | refine ats_cons ?_ ?_ | exact ats_nil
    | ((with_reducible first | refine awN (tyOf_ok _) [] ?_ | refine awO (tyOf_ok _) [] ?_ | refine awP (tyOf_ok _) [] ?_ | refine awQ ?_ | refine awR ?_ | refine awS ?_); intro r hr; simp only [go_sem, Nat.reduceBEq, Nat.reduceBneDiff, Nat.reduceLT, Nat.reduceLeDiff, Nat.reduceAdd, Nat.reduceMul, Nat.reduceSub, Nat.reduceEqDiff, reduceCtorEq, AState.nilvar, List.set_cons_succ, List.set_cons_zero, vSch, encTs_len, e1, e2, hnn] at hr; subst hr; (first | refine caA (fun _ => hck) rfl ?_ ?_ ?_ | refine awV ?_ ?_ | refine awW ?_ ?_ | refine endK ?_ ?_ | (refine condK (fun h => ?_) (fun h => ?_) <;> (try simp only [go_sem, reduceCtorEq] at h) <;> (try (exfalso; omega)))))
    | (refine go_callGE [(29, 10000), (8000, 15000)] [(10000, 29), (15000, 8000)] [8000] [29] ?_; intro r hr; simp only [go_sem, Nat.reduceBEq, Nat.reduceBneDiff, Nat.reduceLT, Nat.reduceLeDiff, Nat.reduceAdd, Nat.reduceMul, Nat.reduceSub, Nat.reduceEqDiff, reduceCtorEq, AState.nilvar, List.set_cons_succ, List.set_cons_zero, vSch, encTs_len, e1, e2, hnn] at hr; subst hr; refine callGK (hw) rfl rfl (by first | exact .inl rfl | exact .inr rfl) ?_ (.inl rfl) ?_) | fail)) <;> (try omega)
    rw [take_len (by rw [encNs_len]; exact Nat.le_refl _)]
    exact AV.up_rfl _
end Go.Proofs.YtfgacgpicfknpaaDoor
end

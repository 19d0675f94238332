import Derived.Test.YtfgacgpicfknpaaP11
set_option linter.all false
section
namespace Go.Proofs.Ytfgacgpicfknpaa
open Go.RowKit
set_option maxRecDepth 100000
set_option maxHeartbeats 8000000
/-! The document's lengths: by recursion. -/
theorem Leb_any (n : Int) (h0 : 0 ≤ n) (h1 : n < 18446744073709551616) : PCall Try.prog 97 [.v (.int .u64 n)] (fun r => r = vI (leb 10 n)) := by
  refine go_fn (tyOf_ok _) Try.func97 rfl rfl (by rw [Try.results97]) Try.ntmps97 rfl fun E => ?_
  (repeat' (first
    | exact trivial
    | (with_reducible first | refine awA ?_ | refine awB ?_ | refine awC ?_ | refine awD ?_ | refine awE ?_ | refine awF ?_ | refine awG ?_ | refine awH ?_ | refine awI ?_ | refine awJ ?_ | refine awK ?_ | refine awL ?_ | refine awM (by decide) ?_)
    | ((with_reducible first | refine awN (tyOf_ok _) [] ?_ | refine awO (tyOf_ok _) [] ?_ | refine awP (tyOf_ok _) [] ?_ | refine awQ ?_ | refine awR ?_ | refine awS ?_); intro r hr; simp only [go_sem, Nat.reduceBEq, Nat.reduceBneDiff, Nat.reduceLT, Nat.reduceLeDiff, Nat.reduceAdd, Nat.reduceMul, Nat.reduceSub, Nat.reduceEqDiff, reduceCtorEq] at hr; subst hr; (first | refine awV ?_ ?_ | refine awW ?_ ?_ | refine endK ?_ ?_ | (refine condK (fun h => ?_) (fun h => ?_) <;> (try simp only [go_sem, reduceCtorEq] at h) <;> (try (exfalso; omega))))) | fail)) <;> (try omega)
  generalize hZ : leb 10 n = Z
  refine go_loop [0, 3] [] (fun p : Nat × Nat × Int => ⟨[(0, true, vU p.2.2), (3, true, vI p.2.1)], []⟩) (fun p => p.1 + p.2.1 = 11 ∧ 1 ≤ p.2.1 ∧ 0 ≤ p.2.2 ∧ p.2.2 < 128 ^ (p.1 + 1) ∧ p.2.2 < 18446744073709551616 ∧ Z = leb p.1 p.2.2 + (p.2.1 - 1)) (fun p => p.1) (10, 1, n) (by simp only [go_sem, Nat.reduceBEq, Nat.reduceBneDiff, Nat.reduceLT, Nat.reduceLeDiff, Nat.reduceAdd, Nat.reduceMul, Nat.reduceSub, Nat.reduceEqDiff, reduceCtorEq, vU]; exact rfl)
    ⟨rfl, Nat.le_refl _, h0, by simp only; omega, h1, by rw [← hZ]; simp⟩ ?_
  intro ⟨f, k, m⟩ ⟨hk, hk1, hm0, hm1, hm2, heq⟩
  simp only at hk hk1 hm0 hm1 hm2 heq
  have hw1 := wrap_i64 (n := (k : Int) + 1) (by omega)
  have hf : IntKind.u64.wrap (m.tdiv 128) = m / 128 := by rw [Int.tdiv_eq_ediv_of_nonneg hm0, IntKind.wrap_u64]; omega
  by_cases hlt : 128 ≤ m
  · have e1 : (128 ≤ m) = True := eq_true hlt
    obtain ⟨f, rfl⟩ : ∃ g, f = g + 1 := ⟨f - 1, by
      cases f with
      | zero => simp at hm1; omega
      | succ f => rfl⟩
    rw [leb, if_neg (by omega)] at heq
    (repeat' (first
    | exact trivial
    | (with_reducible first | refine awA ?_ | refine awB ?_ | refine awC ?_ | refine awD ?_ | refine awE ?_ | refine awF ?_ | refine awG ?_ | refine awH ?_ | refine awI ?_ | refine awJ ?_ | refine awK ?_ | refine awL ?_ | refine awM (by decide) ?_)
    | ((with_reducible first | refine awN (tyOf_ok _) [] ?_ | refine awO (tyOf_ok _) [] ?_ | refine awP (tyOf_ok _) [] ?_ | refine awQ ?_ | refine awR ?_ | refine awS ?_); intro r hr; simp only [go_sem, Nat.reduceBEq, Nat.reduceBneDiff, Nat.reduceLT, Nat.reduceLeDiff, Nat.reduceAdd, Nat.reduceMul, Nat.reduceSub, Nat.reduceEqDiff, reduceCtorEq, vU, hw1, e1, hf] at hr; subst hr; (first | refine awV ?_ ?_ | refine awW ?_ ?_ | refine endK ?_ ?_ | (refine condK (fun h => ?_) (fun h => ?_) <;> (try simp only [go_sem, reduceCtorEq] at h) <;> (try (exfalso; omega))))) | fail)) <;> (try omega)
    refine ⟨(f, k + 1, m / 128), by simp only [go_sem, Nat.reduceBEq, Nat.reduceBneDiff, Nat.reduceLT, Nat.reduceLeDiff, Nat.reduceAdd, Nat.reduceMul, Nat.reduceSub, Nat.reduceEqDiff, reduceCtorEq, vU, hf]; exact rfl, ⟨by simp only; omega, by simp only; omega, by simp only; omega, Int.ediv_lt_of_lt_mul (by omega) (by rw [Int.pow_succ] at hm1; exact hm1), by simp only; omega, ?_⟩, by simp only; omega⟩
    rw [heq]; simp only [Int.natCast_add, Int.natCast_one]; omega
  · have e1 : (128 ≤ m) = False := eq_false hlt
    (repeat' (first
    | exact trivial
    | (with_reducible first | refine awA ?_ | refine awB ?_ | refine awC ?_ | refine awD ?_ | refine awE ?_ | refine awF ?_ | refine awG ?_ | refine awH ?_ | refine awI ?_ | refine awJ ?_ | refine awK ?_ | refine awL ?_ | refine awM (by decide) ?_)
    | ((with_reducible first | refine awN (tyOf_ok _) [] ?_ | refine awO (tyOf_ok _) [] ?_ | refine awP (tyOf_ok _) [] ?_ | refine awQ ?_ | refine awR ?_ | refine awS ?_); intro r hr; simp only [go_sem, Nat.reduceBEq, Nat.reduceBneDiff, Nat.reduceLT, Nat.reduceLeDiff, Nat.reduceAdd, Nat.reduceMul, Nat.reduceSub, Nat.reduceEqDiff, reduceCtorEq, vU, hw1, e1] at hr; subst hr; (first | refine awV ?_ ?_ | refine awW ?_ ?_ | refine endK ?_ ?_ | (refine condK (fun h => ?_) (fun h => ?_) <;> (try simp only [go_sem, reduceCtorEq] at h) <;> (try (exfalso; omega))))) | fail)) <;> (try omega)
    rw [heq]
    have : leb f m = 1 := by
      cases f with
      | zero => rfl
      | succ f => rw [leb, if_pos (by omega)]
    rw [this]
    exact congrArg (fun z => AV.v (.int .i64 z)) (by omega)
theorem valsL_bd {ts : List TypeM} {X : List ExtM} {T : TypeM} {m : Int} : ∀ (l : List Tr) (k : Nat) (s : Int), 0 ≤ s ∧ s ≤ 4611686018427387904 → 0 ≤ (Tr.vals.valsL ts X T m l k s).1 ∧ (Tr.vals.valsL ts X T m l k s).1 ≤ 4611686018427387904
  | [], _, _, h => h
  | _ :: l, k, _, _ => valsL_bd l (k + 1) _ (plusL_bd _)
theorem base_bd {T : TypeM} {t : Int} (hr : rightOK T t = true) (x : NodeM) : 0 ≤ baseF T x ∧ baseF T x ≤ 4611686018427387904 := by
  have h1 := right_n hr
  have h2 := leb_bd x.n
  unfold baseF
  split
  · omega
  · split
    · omega
    · split <;> omega
theorem plus_comm {a b : Int} (ha : 0 ≤ a ∧ a ≤ 4611686018427387904) (hb : 0 ≤ b ∧ b ≤ 4611686018427387904) : plusL [a, b] = plusL [b, a] := by rw [plus2 ha hb, plus2 hb ha, Int.add_comm]
/-- written into a list at a place -/
def put {α : Type} (ls : List α) (a : Nat) (l : List α) : List α := ls.take a ++ l ++ ls.drop (a + l.length)
theorem put_len {α : Type} {ls : List α} {a : Nat} {l : List α} (h : a + l.length ≤ ls.length) : (put ls a l).length = ls.length := by simp [put]; omega
theorem put_nil {α : Type} (ls : List α) (a : Nat) : put ls a [] = ls := by simp [put]
theorem put_put {α : Type} {ls : List α} {a : Nat} {l m : List α} (h : a + l.length + m.length ≤ ls.length) : put (put ls a l) (a + l.length) m = put ls a (l ++ m) := by
  have h1 : (ls.take a ++ l).length = a + l.length := by simp; omega
  unfold put
  rw [List.take_append_of_le_length (by omega), List.take_of_length_le (by omega), List.drop_append, List.drop_eq_nil_of_le (by omega), List.nil_append, h1, List.drop_drop]
  simp only [List.append_assoc, List.length_append]
  congr 4
  omega
theorem put_set {α : Type} {ls : List α} {a : Nat} {l : List α} (h : a + 1 + l.length ≤ ls.length) (z : α) : (put ls (a + 1) l).set a z = put ls a (z :: l) := by
  have h0 : a < ls.length := by omega
  unfold put
  rw [List.take_succ_eq_append_getElem h0]
  simp only [List.append_assoc, List.singleton_append, List.length_cons]
  rw [List.set_append_right _ _ (by simp; omega)]
  have : a - (ls.take a).length = 0 := by simp; omega
  rw [this, List.cons_append, List.set_cons_zero, List.cons_append]
  rw [show a + 1 + l.length = a + (l.length + 1) by omega]
def wlo (ts : List TypeM) (rs : List RootM) (X : List ExtM) (V : List NodeM) (ls : List Int) : List (Nat × AObj) :=
  [(10000, .var [.lst 4 (encTs ts), .lst 2 (encRs rs), .lst 4 (encEs X), .lst 3 (encNs V), .ref 3 1 10001 0 V.length]), (10001, .row 3 1 (v8 ls))]
section
variable {ts : List TypeM} {rs : List RootM} {X : List ExtM} {V : List NodeM}
def WlAt (ts : List TypeM) (rs : List RootM) (X : List ExtM) (V : List NodeM) (c : Tr) (t : Nat) : Prop := ∀ (pre post : List NodeM) (ls : List Int), V = pre ++ c.flat ++ post → ls.length = V.length →
  GCall Try.prog 76 [.ptr 1 10000 0 0, vI t, vI pre.length] (wlo ts rs X V ls) (.tup [vI (c.vals ts X t).1, vI ((pre.length + c.flat.length : Nat) : Int)]) (wlo ts rs X V (put ls pre.length (c.vals ts X t).2))
theorem wl_step (W : WOK ts rs X V) (hg : ∀ t ∈ ts, ∀ p ∈ t.parts, I64 p.tag) (x : NodeM) (ks : List Tr) (t : Nat) (hty : (Tr.node x ks).typed ts t) (H : ∀ c ∈ ks, ∀ t', t' < t → c.typed ts t' → WlAt ts rs X V c t') : WlAt ts rs X V (.node x ks) t := by
  intro pre post ls hV hls
  obtain ⟨ht, hf, hxr, hkk, hL⟩ := hty
  have hNts := W.nts
  have hNV := W.nV
  have hT : tyA ts t = ts[t] := tyA_lt ht
  rw [hT] at hf hL
  have hr := W.right t ht
  have hpl := W.parts _ (List.getElem_mem ht)
  have htag := hg _ (List.getElem_mem ht)
  have hgt := encTs_get ht
  have hxV : x ∈ V := by rw [hV]; simp [Tr.flat]
  have hxok := W.node x hxV
  have hlt : pre.length < V.length := by rw [hV]; simp [Tr.flat]
  have hgx : (encNs V)[pre.length]? = some [vI x.kind, vU x.n, vI x.kids] := by
    rw [encNs_get hlt]
    have h1 : V[pre.length]? = some x := by rw [hV, List.append_assoc, List.getElem?_append_right (Nat.le_refl _), Nat.sub_self]; simp [Tr.flat]
    rw [List.getElem?_eq_getElem hlt] at h1
    injection h1 with h1
    rw [h1]
  have hbase := base_bd hr x
  have hB : baseF ts[t] x = baseF ts[t] x := rfl
  have hvals : (Tr.node x ks).vals ts X t = ((Tr.vals.valsL ts X ts[t] x.n ks 0 (baseF ts[t] x)).1, (Tr.vals.valsL ts X ts[t] x.n ks 0 (baseF ts[t] x)).1 :: (Tr.vals.valsL ts X ts[t] x.n ks 0 (baseF ts[t] x)).2) := by rw [Tr.vals, hT]
  have hvl := vals_len (ts := ts) (X := X) _ (Tr.node x ks) (Nat.le_refl _) t
  rw [hvals] at hvl ⊢
  simp only [Tr.flat, List.length_cons] at hvl ⊢
  have hfl : (pre.length : Int) + 1 + (Tr.flat.flatL ks).length ≤ V.length := by rw [hV]; simp [Tr.flat]; omega
  have hleb := Leb_any x.n hxok.2.2.1 hxok.2.2.2
  have hwp := wrap_i64 (n := (pre.length : Int) + 1) (by omega)
  have zp : ((pre.length : Int)).toNat = pre.length := by omega
  generalize hTT : ts[t] = T at *
  refine go_fnG (tyOf_ok _) Try.func76 rfl rfl (by rw [Try.results76]) Try.ntmps76 rfl fun E => ?_
  (repeat' (first
    | exact trivial
    | (refine go_cutK 0 [0, 1, 2, 8, 9, 10] [8, 9, 10000, 10001] (fun _ : Unit => ⟨[(0, true, .ptr 1 10000 0 0), (1, true, vI t), (2, true, vI pre.length), (8, true, .ptr 1 8 0 0), (9, true, .ptr 1 9 0 0), (10, true, vI (baseF T x))], [(8, .var [vI T.kind, vI T.n, vI T.elem, .lst 3 (encPs T.parts)]), (9, .var [vI x.kind, .v (.int .u64 x.n), vI x.kids])] ++ wlo ts rs X V ls⟩) (fun _ => True) (hold ?_) ?_)
    | (with_reducible first | refine awA ?_ | refine awB ?_ | refine awC ?_ | refine awD ?_ | refine awE ?_ | refine awF ?_ | refine awG ?_ | refine awH ?_ | refine awI ?_ | refine awJ ?_ | refine awK ?_ | refine awL ?_ | refine awM (by decide) ?_)
    | ((with_reducible first | refine awN (tyOf_ok _) [] ?_ | refine awO (tyOf_ok _) [] ?_ | refine awP (tyOf_ok _) [] ?_ | refine awQ ?_ | refine awR ?_ | refine awS ?_ | refine awT ?_ | refine awU ?_); intro r hr; simp only [go_sem, Nat.reduceBEq, Nat.reduceBneDiff, Nat.reduceLT, Nat.reduceLeDiff, Nat.reduceAdd, Nat.reduceMul, Nat.reduceSub, Nat.reduceEqDiff, reduceCtorEq, wlo, hgt, hgx, zp, vU] at hr; subst hr; (first | refine awV ?_ ?_ | refine awW ?_ ?_ | refine endK ?_ ?_ | refine endGK ?_ ?_ ?_ | (refine condK (fun h => ?_) (fun h => ?_) <;> (try simp only [go_sem, reduceCtorEq] at h) <;> (try (exfalso; omega))))) | fail)) <;> (try omega)
  · refine ⟨?_⟩
    have hkc : T.kind = 1 ∨ T.kind = 2 ∨ T.kind = 3 ∨ T.kind = 4 ∨ T.kind = 5 ∨ T.kind = 6 ∨ T.kind = 7 ∨ T.kind = 8 := by rcases rightOK_kind hr with h | h | h <;> omega
    rcases hkc with h | h | h | h | h | h | h | h
    all_goals
      have k1 : (T.kind = 1) = _ := propext (by rw [h])
      have k2 : (T.kind = 2) = _ := propext (by rw [h])
      have k3 : (T.kind = 3) = _ := propext (by rw [h])
      have k6 : (T.kind = 6) = _ := propext (by rw [h])
      have k7 : (T.kind = 7) = _ := propext (by rw [h])
      have hb : baseF T x = baseF T x := rfl
      conv at hb => rhs; unfold baseF; rw [h]
      simp only [Int.reduceEq, if_true, if_false, or_false, false_or, or_true, true_or] at hb
      rw [hb]
      (repeat' (first
    | exact trivial
    | (with_reducible first | refine awA ?_ | refine awB ?_ | refine awC ?_ | refine awD ?_ | refine awE ?_ | refine awF ?_ | refine awG ?_ | refine awH ?_ | refine awI ?_ | refine awJ ?_ | refine awK ?_ | refine awL ?_ | refine awM (by decide) ?_)
    | ((with_reducible first | refine awN (tyOf_ok _) [] ?_ | refine awO (tyOf_ok _) [] ?_ | refine awP (tyOf_ok _) [] ?_ | refine awQ ?_ | refine awR ?_ | refine awS ?_ | refine awT ?_ | refine awU ?_); intro r hr; simp only [go_sem, Nat.reduceBEq, Nat.reduceBneDiff, Nat.reduceLT, Nat.reduceLeDiff, Nat.reduceAdd, Nat.reduceMul, Nat.reduceSub, Nat.reduceEqDiff, reduceCtorEq, Int.cast_ofNat_Int, Int.reduceToNat, Int.reduceEq, Int.reduceLT, Int.reduceLE, Int.reduceNe, k1, k2, k3, k6, k7] at hr; subst hr; (first | refine caA (fun _ => hleb) rfl ?_ ?_ ?_ | refine awV ?_ ?_ | refine awW ?_ ?_ | refine endK ?_ ?_ | refine endGK ?_ ?_ ?_ | (refine condK (fun h => ?_) (fun h => ?_) <;> (try simp only [go_sem, reduceCtorEq] at h) <;> (try (exfalso; omega))))) | fail)) <;> (try omega)
      exact ⟨(), by simp only [go_sem, Nat.reduceBEq, Nat.reduceBneDiff, Nat.reduceLT, Nat.reduceLeDiff, Nat.reduceAdd, Nat.reduceMul, Nat.reduceSub, Nat.reduceEqDiff, reduceCtorEq, List.cons_append, List.nil_append, wlo] <;> exact rfl, trivial⟩
  intro _ _
  (repeat' (first
    | exact trivial
    | (with_reducible first | refine awA ?_ | refine awB ?_ | refine awC ?_ | refine awD ?_ | refine awE ?_ | refine awF ?_ | refine awG ?_ | refine awH ?_ | refine awI ?_ | refine awJ ?_ | refine awK ?_ | refine awL ?_ | refine awM (by decide) ?_)
    | ((with_reducible first | refine awN (tyOf_ok _) [] ?_ | refine awO (tyOf_ok _) [] ?_ | refine awP (tyOf_ok _) [] ?_ | refine awQ ?_ | refine awR ?_ | refine awS ?_ | refine awT ?_ | refine awU ?_); intro r hr; simp only [go_sem, Nat.reduceBEq, Nat.reduceBneDiff, Nat.reduceLT, Nat.reduceLeDiff, Nat.reduceAdd, Nat.reduceMul, Nat.reduceSub, Nat.reduceEqDiff, reduceCtorEq, wlo, hwp, List.cons_append, List.nil_append] at hr; subst hr; (first | refine awV ?_ ?_ | refine awW ?_ ?_ | refine endK ?_ ?_ | refine endGK ?_ ?_ ?_ | (refine condK (fun h => ?_) (fun h => ?_) <;> (try simp only [go_sem, reduceCtorEq] at h) <;> (try (exfalso; omega))))) | fail)) <;> (try omega)
  have hxk := rightN_kids hxr
  obtain ⟨m, hm⟩ : ∃ m : Nat, x.kids = m := ⟨ks.length, hkk⟩
  have hmk : m = ks.length := by omega
  have hXl : X.length = ts.length := W.nX
  have hokX := W.ok
  refine go_loop [0, 1, 2, 8, 9, 10, 11, 12] [8, 9, 10000, 10001] (fun q : Nat × Int × List Int => ⟨[(0, true, .ptr 1 10000 0 0), (1, true, vI t), (2, true, vI pre.length), (8, true, .ptr 1 8 0 0), (9, true, .ptr 1 9 0 0), (10, true, vI q.2.1), (11, true, vI ((pre.length + 1 + q.2.2.length : Nat) : Int)), (12, true, vI q.1)],
      [(8, .var [vI T.kind, vI T.n, vI T.elem, .lst 3 (encPs T.parts)]), (9, .var [vI x.kind, .v (.int .u64 x.n), vI x.kids])] ++ wlo ts rs X V (put ls (pre.length + 1) q.2.2)⟩)
    (fun q => q.1 ≤ m ∧ 0 ≤ q.2.1 ∧ q.2.1 ≤ 4611686018427387904 ∧ ∃ done rest : List Tr, ks = done ++ rest ∧ done.length = q.1 ∧ q.2.2.length = (Tr.flat.flatL done).length ∧ Tr.typed.typedL ts T x.n rest q.1 ∧
      Tr.vals.valsL ts X T x.n ks 0 (baseF T x) = ((Tr.vals.valsL ts X T x.n rest q.1 q.2.1).1, q.2.2 ++ (Tr.vals.valsL ts X T x.n rest q.1 q.2.1).2)) (fun q => m - q.1) (0, baseF T x, [])
    (by simp only [go_sem, Nat.reduceBEq, Nat.reduceBneDiff, Nat.reduceLT, Nat.reduceLeDiff, Nat.reduceAdd, Nat.reduceMul, Nat.reduceSub, Nat.reduceEqDiff, reduceCtorEq, List.cons_append, List.nil_append, wlo, put_nil, Nat.add_zero, Int.natCast_add, Int.natCast_one] <;> exact rfl) ⟨Nat.zero_le _, hbase.1, hbase.2, [], ks, rfl, rfl, rfl, hL, by simp⟩ ?_
  intro ⟨k, s, U⟩ ⟨hk, hs0, hs1, done, rest, hks, hdl, hUl, hrt, heq⟩
  simp only at hk hs0 hs1 hdl hUl hrt heq
  have hwk := wrap_i64 (n := (k : Int) + 1) (by omega)
  have hfd : Tr.flat.flatL ks = Tr.flat.flatL done ++ Tr.flat.flatL rest := by rw [hks, flatL_app]
  have hfdl : (Tr.flat.flatL ks).length = (Tr.flat.flatL done).length + (Tr.flat.flatL rest).length := by rw [hfd, List.length_append]
  by_cases hkm : k < m
  · have f1 : ((k : Int) < m) = True := eq_true (by omega)
    cases rest with
    | nil => exfalso; rw [hks, List.append_nil] at hmk; omega
    | cons c rest =>
    obtain ⟨hct, hrt⟩ := hrt
    obtain ⟨hel, hk8⟩ := elem_ok hr hxr hf (i := k) (by omega)
    have hE := Elem_any T hpl htag x hxok.2.2 k hk8
    obtain ⟨te, hte⟩ : ∃ te : Nat, elemF T x.n k = te := ⟨(elemF T x.n k).toNat, by omega⟩
    rw [hte] at hE hel hct
    rw [hm] at hE
    rw [Int.toNat_natCast] at hct
    have hc := H c (by rw [hks]; simp) te (by omega) hct (pre ++ x :: Tr.flat.flatL done) (Tr.flat.flatL rest ++ post) (put ls (pre.length + 1) U) (by rw [hV]; simp only [Tr.flat, hfd, Tr.flat.flatL, List.append_assoc, List.cons_append]) (by rw [put_len (by omega)]; exact hls)
    have hpl2 : (pre ++ x :: Tr.flat.flatL done).length = pre.length + 1 + U.length := by simp; omega
    rw [hpl2] at hc
    simp only [Tr.flat.flatL, List.length_append] at hfdl
    have hvlc := vals_len (ts := ts) (X := X) _ c (Nat.le_refl _) te
    rw [put_put (by omega)] at hc
    have hvb : 0 ≤ (c.vals ts X te).1 ∧ (c.vals ts X te).1 ≤ 4611686018427387904 := by
      cases c with
      | node y ys =>
        simp only [Tr.vals]
        have hte' : te < ts.length := hct.1
        exact valsL_bd _ _ _ (base_bd (by rw [tyA_lt hte']; exact W.right te hte') y)
    simp only [Tr.vals.valsL, hte, Int.toNat_natCast] at heq
    have hgX : (encEs X)[te]? = some [vB (atE X te).fixed, vI (atE X te).least, vI (atE X te).most, vI (atE X te).depth] := by
      rw [encEs_get (by omega)]
      simp [atE, List.getElem?_eq_getElem (show te < X.length by omega)]
    have zt : ((te : Int)).toNat = te := by omega
    generalize hq : c.vals ts X te = q at *
    obtain ⟨l, Uc⟩ := q
    simp only at hc hvlc hvb heq
    have hUU : pre.length + 1 + U.length + c.flat.length = pre.length + 1 + (U ++ Uc).length := by rw [List.length_append]; omega
    rw [hUU] at hc
    have hp1 := rplus_any l 4 (by unfold I64; omega) (by decide)
    have hpb := plusL_bd [l, 4]
    unfold wlo at hc
    have hfin : ∀ z : Int, z = partF X T te l → ∃ done' rest' : List Tr, ks = done' ++ rest' ∧ done'.length = k + 1 ∧ (U ++ Uc).length = (Tr.flat.flatL done').length ∧ Tr.typed.typedL ts T x.n rest' (k + 1) ∧
        Tr.vals.valsL ts X T x.n ks 0 (baseF T x) = ((Tr.vals.valsL ts X T x.n rest' (k + 1) (plusL [s, z])).1, (U ++ Uc) ++ (Tr.vals.valsL ts X T x.n rest' (k + 1) (plusL [s, z])).2) := fun z hz =>
      ⟨done ++ [c], rest, by rw [hks]; simp, by simp [hdl], by rw [flatL_app]; simp [Tr.flat.flatL]; omega, hrt, by rw [hz, heq]; simp⟩
    clear hct H
    have hz67 : T.kind ≠ 6 → T.kind ≠ 7 → (atE X te).fixed = false → plusL [l, 4] = partF X T te l := fun h6 h7 hfx => by
      unfold partF withinM
      rw [if_neg (by omega), if_neg (by rw [hfx]; decide), plus_comm hvb (by decide)]
    have hzs : (T.kind = 6 ∨ T.kind = 7 ∨ (atE X te).fixed = true) → l = partF X T te l := fun h => by
      unfold partF withinM
      split
      · rfl
      · rw [if_pos (by rcases h with h | h | h <;> first | exact h | omega)]
    by_cases hfx : (atE X te).fixed = true
    · have hp2 := rplus_any s l (by unfold I64; omega) (by unfold I64; omega)
      (repeat' (first
    | exact trivial
    | (with_reducible first | refine awA ?_ | refine awB ?_ | refine awC ?_ | refine awD ?_ | refine awE ?_ | refine awF ?_ | refine awG ?_ | refine awH ?_ | refine awI ?_ | refine awJ ?_ | refine awK ?_ | refine awL ?_ | refine awM (by decide) ?_)
    | ((with_reducible first | refine awN (tyOf_ok _) [] ?_ | refine awO (tyOf_ok _) [] ?_ | refine awP (tyOf_ok _) [] ?_ | refine awQ ?_ | refine awR ?_ | refine awS ?_ | refine awT ?_ | refine awU ?_); intro r hr; simp only [go_sem, Nat.reduceBEq, Nat.reduceBneDiff, Nat.reduceLT, Nat.reduceLeDiff, Nat.reduceAdd, Nat.reduceMul, Nat.reduceSub, Nat.reduceEqDiff, reduceCtorEq, wlo, List.cons_append, List.nil_append, hm, f1, hwk, zt, hgX, hfx, vU] at hr; subst hr; (first | refine caA (fun _ => hE) rfl ?_ ?_ ?_ | refine caA (fun _ => hp2) rfl ?_ ?_ ?_ | refine caA (fun _ => hp1) rfl ?_ ?_ ?_ | refine awV ?_ ?_ | refine awW ?_ ?_ | refine endK ?_ ?_ | refine endGK ?_ ?_ ?_ | (refine condK (fun h => ?_) (fun h => ?_) <;> (try simp only [go_sem, reduceCtorEq] at h) <;> (try (exfalso; omega)))))
    | (refine go_callGE [(10000, 10000), (10001, 10001)] [(10000, 10000), (10001, 10001)] [] [10000, 10001] ?_; intro r hr; simp only [go_sem, Nat.reduceBEq, Nat.reduceBneDiff, Nat.reduceLT, Nat.reduceLeDiff, Nat.reduceAdd, Nat.reduceMul, Nat.reduceSub, Nat.reduceEqDiff, reduceCtorEq, wlo, List.cons_append, List.nil_append, hm, f1, hwk, zt, hgX, hfx, vU] at hr; subst hr; refine callGK (hc) rfl rfl (by first | exact .inl rfl | exact .inr rfl) ?_ (.inl rfl) ?_) | fail)) <;> (try omega)
      all_goals exact ⟨(k + 1, plusL [s, l], U ++ Uc), by simp only [go_sem, Nat.reduceBEq, Nat.reduceBneDiff, Nat.reduceLT, Nat.reduceLeDiff, Nat.reduceAdd, Nat.reduceMul, Nat.reduceSub, Nat.reduceEqDiff, reduceCtorEq, List.cons_append, List.nil_append, wlo, hm] <;> exact rfl, ⟨hkm, (plusL_bd _).1, (plusL_bd _).2, hfin l (hzs (.inr (.inr hfx)))⟩, by simp only; omega⟩
    · have hfx' : (atE X te).fixed = false := by simpa using hfx
      by_cases h67 : T.kind = 6 ∨ T.kind = 7
      · have hp2 := rplus_any s l (by unfold I64; omega) (by unfold I64; omega)
        have k67 : (decide (T.kind = 6) = true ∨ decide (T.kind = 7) = true) := by simpa using h67
        (repeat' (first
    | exact trivial
    | (with_reducible first | refine awA ?_ | refine awB ?_ | refine awC ?_ | refine awD ?_ | refine awE ?_ | refine awF ?_ | refine awG ?_ | refine awH ?_ | refine awI ?_ | refine awJ ?_ | refine awK ?_ | refine awL ?_ | refine awM (by decide) ?_)
    | ((with_reducible first | refine awN (tyOf_ok _) [] ?_ | refine awO (tyOf_ok _) [] ?_ | refine awP (tyOf_ok _) [] ?_ | refine awQ ?_ | refine awR ?_ | refine awS ?_ | refine awT ?_ | refine awU ?_); intro r hr; simp only [go_sem, Nat.reduceBEq, Nat.reduceBneDiff, Nat.reduceLT, Nat.reduceLeDiff, Nat.reduceAdd, Nat.reduceMul, Nat.reduceSub, Nat.reduceEqDiff, reduceCtorEq, wlo, List.cons_append, List.nil_append, hm, f1, hwk, zt, hgX, hfx', vU] at hr; subst hr; (first | refine caA (fun _ => hE) rfl ?_ ?_ ?_ | refine caA (fun _ => hp2) rfl ?_ ?_ ?_ | refine caA (fun _ => hp1) rfl ?_ ?_ ?_ | refine awV ?_ ?_ | refine awW ?_ ?_ | refine endK ?_ ?_ | refine endGK ?_ ?_ ?_ | (refine condK (fun h => ?_) (fun h => ?_) <;> (try simp only [go_sem, reduceCtorEq] at h) <;> (try (exfalso; omega)))))
    | (refine go_callGE [(10000, 10000), (10001, 10001)] [(10000, 10000), (10001, 10001)] [] [10000, 10001] ?_; intro r hr; simp only [go_sem, Nat.reduceBEq, Nat.reduceBneDiff, Nat.reduceLT, Nat.reduceLeDiff, Nat.reduceAdd, Nat.reduceMul, Nat.reduceSub, Nat.reduceEqDiff, reduceCtorEq, wlo, List.cons_append, List.nil_append, hm, f1, hwk, zt, hgX, hfx', vU] at hr; subst hr; refine callGK (hc) rfl rfl (by first | exact .inl rfl | exact .inr rfl) ?_ (.inl rfl) ?_) | fail)) <;> (try omega)
        all_goals exact ⟨(k + 1, plusL [s, l], U ++ Uc), by simp only [go_sem, Nat.reduceBEq, Nat.reduceBneDiff, Nat.reduceLT, Nat.reduceLeDiff, Nat.reduceAdd, Nat.reduceMul, Nat.reduceSub, Nat.reduceEqDiff, reduceCtorEq, List.cons_append, List.nil_append, wlo, hm] <;> exact rfl, ⟨hkm, (plusL_bd _).1, (plusL_bd _).2, hfin l (hzs (by omega))⟩, by simp only; omega⟩
      · have k6 : (T.kind = 6) = False := eq_false (by omega)
        have k7 : (T.kind = 7) = False := eq_false (by omega)
        have hp2 := rplus_any s (plusL [l, 4]) (by unfold I64; omega) (by unfold I64; omega)
        (repeat' (first
    | exact trivial
    | (with_reducible first | refine awA ?_ | refine awB ?_ | refine awC ?_ | refine awD ?_ | refine awE ?_ | refine awF ?_ | refine awG ?_ | refine awH ?_ | refine awI ?_ | refine awJ ?_ | refine awK ?_ | refine awL ?_ | refine awM (by decide) ?_)
    | ((with_reducible first | refine awN (tyOf_ok _) [] ?_ | refine awO (tyOf_ok _) [] ?_ | refine awP (tyOf_ok _) [] ?_ | refine awQ ?_ | refine awR ?_ | refine awS ?_ | refine awT ?_ | refine awU ?_); intro r hr; simp only [go_sem, Nat.reduceBEq, Nat.reduceBneDiff, Nat.reduceLT, Nat.reduceLeDiff, Nat.reduceAdd, Nat.reduceMul, Nat.reduceSub, Nat.reduceEqDiff, reduceCtorEq, wlo, List.cons_append, List.nil_append, hm, f1, hwk, zt, hgX, hfx', k6, k7, vU] at hr; subst hr; (first | refine caA (fun _ => hE) rfl ?_ ?_ ?_ | refine caA (fun _ => hp2) rfl ?_ ?_ ?_ | refine caA (fun _ => hp1) rfl ?_ ?_ ?_ | refine awV ?_ ?_ | refine awW ?_ ?_ | refine endK ?_ ?_ | refine endGK ?_ ?_ ?_ | (refine condK (fun h => ?_) (fun h => ?_) <;> (try simp only [go_sem, reduceCtorEq] at h) <;> (try (exfalso; omega)))))
    | (refine go_callGE [(10000, 10000), (10001, 10001)] [(10000, 10000), (10001, 10001)] [] [10000, 10001] ?_; intro r hr; simp only [go_sem, Nat.reduceBEq, Nat.reduceBneDiff, Nat.reduceLT, Nat.reduceLeDiff, Nat.reduceAdd, Nat.reduceMul, Nat.reduceSub, Nat.reduceEqDiff, reduceCtorEq, wlo, List.cons_append, List.nil_append, hm, f1, hwk, zt, hgX, hfx', k6, k7, vU] at hr; subst hr; refine callGK (hc) rfl rfl (by first | exact .inl rfl | exact .inr rfl) ?_ (.inl rfl) ?_) | fail)) <;> (try omega)
        all_goals exact ⟨(k + 1, plusL [s, plusL [l, 4]], U ++ Uc), by simp only [go_sem, Nat.reduceBEq, Nat.reduceBneDiff, Nat.reduceLT, Nat.reduceLeDiff, Nat.reduceAdd, Nat.reduceMul, Nat.reduceSub, Nat.reduceEqDiff, reduceCtorEq, List.cons_append, List.nil_append, wlo, hm] <;> exact rfl, ⟨hkm, (plusL_bd _).1, (plusL_bd _).2, hfin _ (hz67 (by omega) (by omega) hfx')⟩, by simp only; omega⟩
  · have f1 : ((k : Int) < m) = False := eq_false (by omega)
    have hrn : rest = [] := by
      rw [hks, List.length_append] at hmk
      exact List.eq_nil_of_length_eq_zero (by omega)
    subst hrn
    simp only [Tr.vals.valsL, List.append_nil] at heq
    rw [heq]
    simp only
    have hps := put_set (ls := ls) (a := pre.length) (l := U) (by simp only [Tr.flat.flatL, List.length_nil] at hfdl; omega) s
    have hsv : (v8 (put ls (pre.length + 1) U)).set pre.length [.v (.int .i64 s)] = v8 (put ls pre.length (s :: U)) := by rw [v8_set, hps]
    have hgl : (v8 (put ls (pre.length + 1) U))[pre.length]? = some [vI ((put ls (pre.length + 1) U)[pre.length]'(by rw [put_len (by simp only [Tr.flat.flatL, List.length_nil] at hfdl; omega)]; omega))] := v8_get _
    have hend : ((pre.length + 1 + U.length : Nat) : Int) = ((pre.length + ((Tr.flat.flatL ks).length + 1) : Nat) : Int) := by simp only [Tr.flat.flatL, List.length_nil] at hfdl; omega
    rw [← hend]
    (repeat' (first
    | exact trivial
    | (with_reducible first | refine awA ?_ | refine awB ?_ | refine awC ?_ | refine awD ?_ | refine awE ?_ | refine awF ?_ | refine awG ?_ | refine awH ?_ | refine awI ?_ | refine awJ ?_ | refine awK ?_ | refine awL ?_ | refine awM (by decide) ?_)
    | ((with_reducible first | refine awN (tyOf_ok _) [] ?_ | refine awO (tyOf_ok _) [] ?_ | refine awP (tyOf_ok _) [] ?_ | refine awQ ?_ | refine awR ?_ | refine awS ?_ | refine awT ?_ | refine awU ?_); intro r hr; simp only [go_sem, Nat.reduceBEq, Nat.reduceBneDiff, Nat.reduceLT, Nat.reduceLeDiff, Nat.reduceAdd, Nat.reduceMul, Nat.reduceSub, Nat.reduceEqDiff, reduceCtorEq, wlo, List.cons_append, List.nil_append, hm, f1, zp, hgl, hsv, v8_len, put_len, List.length_set] at hr; subst hr; (first | refine awV ?_ ?_ | refine awW ?_ ?_ | refine endK ?_ ?_ | refine endGK ?_ ?_ ?_ | (refine condK (fun h => ?_) (fun h => ?_) <;> (try simp only [go_sem, reduceCtorEq] at h) <;> (try (exfalso; omega))))) | fail)) <;> (try omega)
    · exact ⟨⟨by omega, by omega⟩, by rw [put_len (by simp only [Tr.flat.flatL, List.length_nil] at hfdl; omega)]; omega⟩
    · exact AV.up_rfl _
    · exact obUp_cons rfl (obUp_cons rfl obUp_nil)
theorem wl_any (W : WOK ts rs X V) (hg : ∀ t ∈ ts, ∀ p ∈ t.parts, I64 p.tag) : ∀ (n t : Nat), t < n → ∀ c : Tr, c.typed ts t → WlAt ts rs X V c t
  | 0, _, h => absurd h (Nat.not_lt_zero _)
  | n + 1, t, h => fun c hc => by
    cases c with
    | node x ks => exact wl_step W hg x ks t hc fun c _ t' ht' hc' => wl_any W hg n t' (by omega) c hc'
end
/-- lengths of a value that is of the type -/
theorem rlens_G (ts : List TypeM) (rs : List RootM) (hts : ts.length ≤ 1000000000) (hrs : rs.length ≤ 1000000000) (hp : ∀ t ∈ ts, t.parts.length ≤ 1000000000) (hg : ∀ t ∈ ts, ∀ p ∈ t.parts, I64 p.tag) (h0 : (checkF ts rs).1 = 0) (t : Nat) (V : List NodeM) (hV : V.length ≤ 1000000000) (hv : ∀ x ∈ V, nodeOK x)
    (c : Tr) (hc : c.typed ts t) (hf : c.flat = V) :
    GCall Try.prog 53 [vSch ts rs, vI t, .lst 3 (encNs V)] [] (.ref 3 1 20 0 V.length) [(20, .row 3 1 (v8 (c.vals ts (exts ts) t).2))] := by
  refine go_fnG (tyOf_ok _) Try.func53 rfl rfl (by rw [Try.results53]) Try.ntmps53 rfl fun E => ?_
  have W := wok_of (V := V) h0 hts hp hV hv
  have hO := rOf_any ts rs hts hrs hp
  rw [checkF_eq' h0] at hO
  have h := wl_any W hg (t + 1) t (by omega) c hc [] [] (List.replicate V.length 0) (by simp [hf]) (by simp)
  have hvl := vals_len (ts := ts) (X := exts ts) _ c (Nat.le_refl _) t
  rw [hf] at hvl h
  have hput : put (List.replicate V.length (0 : Int)) ([] : List NodeM).length (c.vals ts (exts ts) t).2 = (c.vals ts (exts ts) t).2 := by simp [put, hvl]
  rw [hput] at h
  have hrep : List.replicate V.length [vI 0] = v8 (List.replicate V.length 0) := by simp [v8]
  simp only [wlo, List.length_nil, Nat.zero_add] at h
  generalize c.vals ts (exts ts) t = q at *
  unfold vSch at hO
  (repeat' (first
    | exact trivial
    | (with_reducible first | refine awA ?_ | refine awB ?_ | refine awC ?_ | refine awD ?_ | refine awE ?_ | refine awF ?_ | refine awG ?_ | refine awH ?_ | refine awI ?_ | refine awJ ?_ | refine awK ?_ | refine awL ?_ | refine awM (by decide) ?_)
    | (refine aw_draw (id := 2) (t := (.node [0, 1, 2, 3, 4, 5, 6, 7, 8] [])) (drR [3] [] []) mixed (by kernel_rfl) (by kernel_rfl) (fun _ _ h => h) ?_)
    | (refine at_done (by simp only [List.filterMap_cons, List.filterMap_nil, List.getElem?_toArray, List.getElem?_cons_zero, List.getElem?_cons_succ]; exact rfl) ?_) | (refine at_alt (by simp only [List.filterMap_cons, List.filterMap_nil, List.getElem?_toArray, List.getElem?_cons_zero, List.getElem?_cons_succ]; exact rfl) ?_) | refine qalt_normal ?_ | refine ats_cons ?_ ?_ | exact ats_nil
    | ((with_reducible first | refine awN (tyOf_ok _) [] ?_ | refine awO (tyOf_ok _) [] ?_ | refine awP (tyOf_ok _) [] ?_ | refine awQ ?_ | refine awR ?_ | refine awS ?_ | refine awT ?_ | refine awU ?_); intro r hr; simp only [go_sem, Nat.reduceBEq, Nat.reduceBneDiff, Nat.reduceLT, Nat.reduceLeDiff, Nat.reduceAdd, Nat.reduceMul, Nat.reduceSub, Nat.reduceEqDiff, reduceCtorEq, vSch, encNs_len, hrep] at hr; subst hr; (first | refine caC (hO) rfl ?_ ?_ ?_ | refine awV ?_ ?_ | refine awW ?_ ?_ | refine endK ?_ ?_ | refine endGK ?_ ?_ ?_ | (refine condK (fun h => ?_) (fun h => ?_) <;> (try simp only [go_sem, reduceCtorEq] at h) <;> (try (exfalso; omega)))))
    | (refine go_callGd 25 rfl [(22, 10000), (20, 10001)] [(10000, 22), (10001, 20)] [] [22, 20] (by simp only [go_sem, Nat.reduceBEq, Nat.reduceBneDiff, Nat.reduceLT, Nat.reduceLeDiff, Nat.reduceAdd, Nat.reduceMul, Nat.reduceSub, Nat.reduceEqDiff, reduceCtorEq, vSch, encNs_len, hrep]; exact rfl) ?_ rfl rfl (by first | exact .inl rfl | exact .inr rfl) (by simp only [go_sem, Nat.reduceBEq, Nat.reduceBneDiff, Nat.reduceLT, Nat.reduceLeDiff, Nat.reduceAdd, Nat.reduceMul, Nat.reduceSub, Nat.reduceEqDiff, reduceCtorEq, vSch, encNs_len, hrep] <;> exact rfl) (h) (.inl rfl) ?_) | fail)) <;> (try omega)
  all_goals (first | exact AV.up_rfl _ | (repeat first | exact obUp_nil | refine obUp_cons rfl ?_))
end Go.Proofs.Ytfgacgpicfknpaa
end
section
namespace Go.Proofs.Ytfgacgpicfknpaa
open Go.RowKit
set_option maxRecDepth 100000
set_option maxHeartbeats 8000000
/-! What lists are compared by: each is like itself. -/
theorem equal04_refl (l : List NodeM) (hl : l.length ≤ 1000000000) : PCall Try.prog 55 [.lst 3 (encNs l), .lst 3 (encNs l)] (fun r => r = vB true) := by
  refine go_fn (tyOf_ok _) Try.func55 rfl rfl (by rw [Try.results55]) Try.ntmps55 rfl fun E => ?_
  (repeat' (first
    | exact trivial
    | (with_reducible first | refine awA ?_ | refine awB ?_ | refine awC ?_ | refine awD ?_ | refine awE ?_ | refine awF ?_ | refine awG ?_ | refine awH ?_ | refine awI ?_ | refine awJ ?_ | refine awK ?_ | refine awL ?_ | refine awM (by decide) ?_)
    | (refine aw_draw (id := 6) (t := (.node [0, 1, 2, 3, 4, 5, 6, 7, 8] [])) (drR [] [20, 24] []) mixed (by kernel_rfl) (by kernel_rfl) (fun _ _ h => h) ?_)
    | (refine at_done (by simp only [List.filterMap_cons, List.filterMap_nil, List.getElem?_toArray, List.getElem?_cons_zero, List.getElem?_cons_succ]; exact rfl) ?_) | (refine at_alt (by simp only [List.filterMap_cons, List.filterMap_nil, List.getElem?_toArray, List.getElem?_cons_zero, List.getElem?_cons_succ]; exact rfl) ?_) | refine qalt_normal ?_ | refine ats_cons ?_ ?_ | exact ats_nil
    | ((with_reducible first | refine awN (tyOf_ok _) [] ?_ | refine awO (tyOf_ok _) [] ?_ | refine awP (tyOf_ok _) [] ?_ | refine awQ ?_ | refine awR ?_ | refine awS ?_); intro r hr; simp only [go_sem, Nat.reduceBEq, Nat.reduceBneDiff, Nat.reduceLT, Nat.reduceLeDiff, Nat.reduceAdd, Nat.reduceMul, Nat.reduceSub, Nat.reduceEqDiff, reduceCtorEq, encNs_len, ne_eq, not_true_eq_false, decide_false] at hr; subst hr; (first | refine awV ?_ ?_ | refine awW ?_ ?_ | refine endK ?_ ?_ | (refine condK (fun h => ?_) (fun h => ?_) <;> (try simp only [go_sem, reduceCtorEq] at h) <;> (try (exfalso; omega))))) | fail)) <;> (try omega)
  refine go_loop [0, 1, 5] [] (fun k : Nat => ⟨[(0, true, .lst 3 (encNs l)), (1, true, .lst 3 (encNs l)), (5, true, vI k)], []⟩) (fun k => k ≤ l.length) (fun k => l.length - k) 0 (by simp only [go_sem, Nat.reduceBEq, Nat.reduceBneDiff, Nat.reduceLT, Nat.reduceLeDiff, Nat.reduceAdd, Nat.reduceMul, Nat.reduceSub, Nat.reduceEqDiff, reduceCtorEq]; exact rfl) (Nat.zero_le _) ?_
  intro k hk
  have hw := wrap_i64 (n := (k : Int) + 1) (by omega)
  by_cases hlt : k < l.length
  · have e1 : ((k : Int) < l.length) = True := eq_true (by omega)
    have g1 := encNs_get hlt
    (repeat' (first
    | exact trivial
    | (with_reducible first | refine awA ?_ | refine awB ?_ | refine awC ?_ | refine awD ?_ | refine awE ?_ | refine awF ?_ | refine awG ?_ | refine awH ?_ | refine awI ?_ | refine awJ ?_ | refine awK ?_ | refine awL ?_ | refine awM (by decide) ?_)
    | (refine aw_draw (id := 6) (t := (.node [0, 1, 2, 3, 4, 5, 6, 7, 8] [])) (drR [] [20, 24] []) mixed (by kernel_rfl) (by kernel_rfl) (fun _ _ h => h) ?_)
    | (refine at_done (by simp only [List.filterMap_cons, List.filterMap_nil, List.getElem?_toArray, List.getElem?_cons_zero, List.getElem?_cons_succ]; exact rfl) ?_) | (refine at_alt (by simp only [List.filterMap_cons, List.filterMap_nil, List.getElem?_toArray, List.getElem?_cons_zero, List.getElem?_cons_succ]; exact rfl) ?_) | refine qalt_normal ?_ | refine ats_cons ?_ ?_ | exact ats_nil
    | ((with_reducible first | refine awN (tyOf_ok _) [] ?_ | refine awO (tyOf_ok _) [] ?_ | refine awP (tyOf_ok _) [] ?_ | refine awQ ?_ | refine awR ?_ | refine awS ?_); intro r hr; simp only [go_sem, Nat.reduceBEq, Nat.reduceBneDiff, Nat.reduceLT, Nat.reduceLeDiff, Nat.reduceAdd, Nat.reduceMul, Nat.reduceSub, Nat.reduceEqDiff, reduceCtorEq, encNs_len, hw, e1, g1, ne_eq, not_true_eq_false, decide_false, decide_true, Bool.and_self, Bool.not_true] at hr; subst hr; (first | refine awV ?_ ?_ | refine awW ?_ ?_ | refine endK ?_ ?_ | (refine condK (fun h => ?_) (fun h => ?_) <;> (try simp only [go_sem, reduceCtorEq] at h) <;> (try (exfalso; omega))))) | fail)) <;> (try omega)
    exact ⟨k + 1, by simp only [go_sem, Nat.reduceBEq, Nat.reduceBneDiff, Nat.reduceLT, Nat.reduceLeDiff, Nat.reduceAdd, Nat.reduceMul, Nat.reduceSub, Nat.reduceEqDiff, reduceCtorEq]; exact rfl, hlt, by omega⟩
  · have e1 : ((k : Int) < l.length) = False := eq_false (by omega)
    (repeat' (first
    | exact trivial
    | (with_reducible first | refine awA ?_ | refine awB ?_ | refine awC ?_ | refine awD ?_ | refine awE ?_ | refine awF ?_ | refine awG ?_ | refine awH ?_ | refine awI ?_ | refine awJ ?_ | refine awK ?_ | refine awL ?_ | refine awM (by decide) ?_)
    | (refine aw_draw (id := 6) (t := (.node [0, 1, 2, 3, 4, 5, 6, 7, 8] [])) (drR [] [20, 24] []) mixed (by kernel_rfl) (by kernel_rfl) (fun _ _ h => h) ?_)
    | (refine at_done (by simp only [List.filterMap_cons, List.filterMap_nil, List.getElem?_toArray, List.getElem?_cons_zero, List.getElem?_cons_succ]; exact rfl) ?_) | (refine at_alt (by simp only [List.filterMap_cons, List.filterMap_nil, List.getElem?_toArray, List.getElem?_cons_zero, List.getElem?_cons_succ]; exact rfl) ?_) | refine qalt_normal ?_ | refine ats_cons ?_ ?_ | exact ats_nil
    | ((with_reducible first | refine awN (tyOf_ok _) [] ?_ | refine awO (tyOf_ok _) [] ?_ | refine awP (tyOf_ok _) [] ?_ | refine awQ ?_ | refine awR ?_ | refine awS ?_); intro r hr; simp only [go_sem, Nat.reduceBEq, Nat.reduceBneDiff, Nat.reduceLT, Nat.reduceLeDiff, Nat.reduceAdd, Nat.reduceMul, Nat.reduceSub, Nat.reduceEqDiff, reduceCtorEq, encNs_len, hw, e1] at hr; subst hr; (first | refine awV ?_ ?_ | refine awW ?_ ?_ | refine endK ?_ ?_ | (refine condK (fun h => ?_) (fun h => ?_) <;> (try simp only [go_sem, reduceCtorEq] at h) <;> (try (exfalso; omega))))) | fail)) <;> (try omega)
    exact rfl
theorem sameExt_refl (l : List ExtM) (hl : l.length ≤ 1000000000) : PCall Try.prog 50 [.lst 4 (encEs l), .lst 4 (encEs l)] (fun r => r = vB true) := by
  refine go_fn (tyOf_ok _) Try.func50 rfl rfl (by rw [Try.results50]) Try.ntmps50 rfl fun E => ?_
  (repeat' (first
    | exact trivial
    | (with_reducible first | refine awA ?_ | refine awB ?_ | refine awC ?_ | refine awD ?_ | refine awE ?_ | refine awF ?_ | refine awG ?_ | refine awH ?_ | refine awI ?_ | refine awJ ?_ | refine awK ?_ | refine awL ?_ | refine awM (by decide) ?_)
    | (refine aw_draw (id := 6) (t := (.node [0, 1, 2, 3, 4, 5, 6, 7, 8] [])) (drR [] [20, 24] []) mixed (by kernel_rfl) (by kernel_rfl) (fun _ _ h => h) ?_)
    | (refine at_done (by simp only [List.filterMap_cons, List.filterMap_nil, List.getElem?_toArray, List.getElem?_cons_zero, List.getElem?_cons_succ]; exact rfl) ?_) | (refine at_alt (by simp only [List.filterMap_cons, List.filterMap_nil, List.getElem?_toArray, List.getElem?_cons_zero, List.getElem?_cons_succ]; exact rfl) ?_) | refine qalt_normal ?_ | refine ats_cons ?_ ?_ | exact ats_nil
    | ((with_reducible first | refine awN (tyOf_ok _) [] ?_ | refine awO (tyOf_ok _) [] ?_ | refine awP (tyOf_ok _) [] ?_ | refine awQ ?_ | refine awR ?_ | refine awS ?_); intro r hr; simp only [go_sem, Nat.reduceBEq, Nat.reduceBneDiff, Nat.reduceLT, Nat.reduceLeDiff, Nat.reduceAdd, Nat.reduceMul, Nat.reduceSub, Nat.reduceEqDiff, reduceCtorEq, encEs_len, ne_eq, not_true_eq_false, decide_false] at hr; subst hr; (first | refine awV ?_ ?_ | refine awW ?_ ?_ | refine endK ?_ ?_ | (refine condK (fun h => ?_) (fun h => ?_) <;> (try simp only [go_sem, reduceCtorEq] at h) <;> (try (exfalso; omega))))) | fail)) <;> (try omega)
  refine go_loop [0, 1, 5] [] (fun k : Nat => ⟨[(0, true, .lst 4 (encEs l)), (1, true, .lst 4 (encEs l)), (5, true, vI k)], []⟩) (fun k => k ≤ l.length) (fun k => l.length - k) 0 (by simp only [go_sem, Nat.reduceBEq, Nat.reduceBneDiff, Nat.reduceLT, Nat.reduceLeDiff, Nat.reduceAdd, Nat.reduceMul, Nat.reduceSub, Nat.reduceEqDiff, reduceCtorEq]; exact rfl) (Nat.zero_le _) ?_
  intro k hk
  have hw := wrap_i64 (n := (k : Int) + 1) (by omega)
  by_cases hlt : k < l.length
  · have e1 : ((k : Int) < l.length) = True := eq_true (by omega)
    have g1 := encEs_get hlt
    unfold encE at g1
    (repeat' (first
    | exact trivial
    | (with_reducible first | refine awA ?_ | refine awB ?_ | refine awC ?_ | refine awD ?_ | refine awE ?_ | refine awF ?_ | refine awG ?_ | refine awH ?_ | refine awI ?_ | refine awJ ?_ | refine awK ?_ | refine awL ?_ | refine awM (by decide) ?_)
    | (refine aw_draw (id := 6) (t := (.node [0, 1, 2, 3, 4, 5, 6, 7, 8] [])) (drR [] [20, 24] []) mixed (by kernel_rfl) (by kernel_rfl) (fun _ _ h => h) ?_)
    | (refine at_done (by simp only [List.filterMap_cons, List.filterMap_nil, List.getElem?_toArray, List.getElem?_cons_zero, List.getElem?_cons_succ]; exact rfl) ?_) | (refine at_alt (by simp only [List.filterMap_cons, List.filterMap_nil, List.getElem?_toArray, List.getElem?_cons_zero, List.getElem?_cons_succ]; exact rfl) ?_) | refine qalt_normal ?_ | refine ats_cons ?_ ?_ | exact ats_nil
    | ((with_reducible first | refine awN (tyOf_ok _) [] ?_ | refine awO (tyOf_ok _) [] ?_ | refine awP (tyOf_ok _) [] ?_ | refine awQ ?_ | refine awR ?_ | refine awS ?_); intro r hr; simp only [go_sem, Nat.reduceBEq, Nat.reduceBneDiff, Nat.reduceLT, Nat.reduceLeDiff, Nat.reduceAdd, Nat.reduceMul, Nat.reduceSub, Nat.reduceEqDiff, reduceCtorEq, encEs_len, hw, e1, g1, ne_eq, not_true_eq_false, decide_false, decide_true, Bool.and_self, Bool.not_true, beq_self_eq_true] at hr; subst hr; (first | refine awV ?_ ?_ | refine awW ?_ ?_ | refine endK ?_ ?_ | (refine condK (fun h => ?_) (fun h => ?_) <;> (try simp only [go_sem, reduceCtorEq] at h) <;> (try (exfalso; omega))))) | fail)) <;> (try omega)
    exact ⟨k + 1, by simp only [go_sem, Nat.reduceBEq, Nat.reduceBneDiff, Nat.reduceLT, Nat.reduceLeDiff, Nat.reduceAdd, Nat.reduceMul, Nat.reduceSub, Nat.reduceEqDiff, reduceCtorEq]; exact rfl, hlt, by omega⟩
  · have e1 : ((k : Int) < l.length) = False := eq_false (by omega)
    (repeat' (first
    | exact trivial
    | (with_reducible first | refine awA ?_ | refine awB ?_ | refine awC ?_ | refine awD ?_ | refine awE ?_ | refine awF ?_ | refine awG ?_ | refine awH ?_ | refine awI ?_ | refine awJ ?_ | refine awK ?_ | refine awL ?_ | refine awM (by decide) ?_)
    | (refine aw_draw (id := 6) (t := (.node [0, 1, 2, 3, 4, 5, 6, 7, 8] [])) (drR [] [20, 24] []) mixed (by kernel_rfl) (by kernel_rfl) (fun _ _ h => h) ?_)
    | (refine at_done (by simp only [List.filterMap_cons, List.filterMap_nil, List.getElem?_toArray, List.getElem?_cons_zero, List.getElem?_cons_succ]; exact rfl) ?_) | (refine at_alt (by simp only [List.filterMap_cons, List.filterMap_nil, List.getElem?_toArray, List.getElem?_cons_zero, List.getElem?_cons_succ]; exact rfl) ?_) | refine qalt_normal ?_ | refine ats_cons ?_ ?_ | exact ats_nil
    | ((with_reducible first | refine awN (tyOf_ok _) [] ?_ | refine awO (tyOf_ok _) [] ?_ | refine awP (tyOf_ok _) [] ?_ | refine awQ ?_ | refine awR ?_ | refine awS ?_); intro r hr; simp only [go_sem, Nat.reduceBEq, Nat.reduceBneDiff, Nat.reduceLT, Nat.reduceLeDiff, Nat.reduceAdd, Nat.reduceMul, Nat.reduceSub, Nat.reduceEqDiff, reduceCtorEq, encEs_len, hw, e1] at hr; subst hr; (first | refine awV ?_ ?_ | refine awW ?_ ?_ | refine endK ?_ ?_ | (refine condK (fun h => ?_) (fun h => ?_) <;> (try simp only [go_sem, reduceCtorEq] at h) <;> (try (exfalso; omega))))) | fail)) <;> (try omega)
    exact rfl
theorem same09_refl (ts : List TypeM) (rs : List RootM) (hts : ts.length ≤ 1000000000) (hrs : rs.length ≤ 1000000000) (hp : ∀ t ∈ ts, t.parts.length ≤ 1000000000) : PCall Try.prog 54 [vSch ts rs, vSch ts rs] (fun r => r = vB true) := by
  refine go_fn (tyOf_ok _) Try.func54 rfl rfl (by rw [Try.results54]) Try.ntmps54 rfl fun E => ?_
  (repeat' (first
    | exact trivial
    | (with_reducible first | refine awA ?_ | refine awB ?_ | refine awC ?_ | refine awD ?_ | refine awE ?_ | refine awF ?_ | refine awG ?_ | refine awH ?_ | refine awI ?_ | refine awJ ?_ | refine awK ?_ | refine awL ?_ | refine awM (by decide) ?_)
    | (refine aw_draw (id := 13) (t := (.node [0, 1, 2, 3, 4, 5, 6, 7, 8, 9, 10] [])) (drR [6, 7] [82, 87] []) mixed (by kernel_rfl) (by kernel_rfl) (fun _ _ h => h) ?_)
    | (refine aw_draw (id := 18) (t := (.node [0, 1, 2, 3, 4, 5, 6, 7, 8, 9, 10] [])) (drR [2, 3] [100, 105] []) mixed (by kernel_rfl) (by kernel_rfl) (fun _ _ h => h) ?_)
    | (refine at_done (by simp only [List.filterMap_cons, List.filterMap_nil, List.getElem?_toArray, List.getElem?_cons_zero, List.getElem?_cons_succ]; exact rfl) ?_) | (refine at_alt (by simp only [List.filterMap_cons, List.filterMap_nil, List.getElem?_toArray, List.getElem?_cons_zero, List.getElem?_cons_succ]; exact rfl) ?_) | refine qalt_normal ?_ | refine ats_cons ?_ ?_ | exact ats_nil
    | ((with_reducible first | refine awN (tyOf_ok _) [] ?_ | refine awO (tyOf_ok _) [] ?_ | refine awP (tyOf_ok _) [] ?_ | refine awQ ?_ | refine awR ?_ | refine awS ?_); intro r hr; simp only [go_sem, Nat.reduceBEq, Nat.reduceBneDiff, Nat.reduceLT, Nat.reduceLeDiff, Nat.reduceAdd, Nat.reduceMul, Nat.reduceSub, Nat.reduceEqDiff, reduceCtorEq, vSch, encTs_len, encRs_len, ne_eq, not_true_eq_false, decide_false] at hr; subst hr; (first | refine awV ?_ ?_ | refine awW ?_ ?_ | refine endK ?_ ?_ | (refine condK (fun h => ?_) (fun h => ?_) <;> (try simp only [go_sem, reduceCtorEq] at h) <;> (try (exfalso; omega))))) | fail)) <;> (try omega)
  refine go_loop [2, 3, 4, 5] [2, 3] (fun k : Nat => ⟨[(2, true, .ptr 1 2 0 0), (3, true, .ptr 1 3 0 0), (4, true, vB false), (5, true, vI k)], [(2, .var [.lst 4 (encTs ts), .lst 2 (encRs rs)]), (3, .var [.lst 4 (encTs ts), .lst 2 (encRs rs)])]⟩) (fun k => k ≤ ts.length) (fun k => ts.length - k) 0 (by simp only [go_sem, Nat.reduceBEq, Nat.reduceBneDiff, Nat.reduceLT, Nat.reduceLeDiff, Nat.reduceAdd, Nat.reduceMul, Nat.reduceSub, Nat.reduceEqDiff, reduceCtorEq]; exact rfl) (Nat.zero_le _) ?_
  intro k hk
  have hw := wrap_i64 (n := (k : Int) + 1) (by omega)
  by_cases hlt : k < ts.length
  · have e1 : ((k : Int) < ts.length) = True := eq_true (by omega)
    have g1 := encTs_get hlt
    have hpl := hp _ (List.getElem_mem hlt)
    generalize ts[k] = t at *
    (repeat' (first
    | exact trivial
    | (with_reducible first | refine awA ?_ | refine awB ?_ | refine awC ?_ | refine awD ?_ | refine awE ?_ | refine awF ?_ | refine awG ?_ | refine awH ?_ | refine awI ?_ | refine awJ ?_ | refine awK ?_ | refine awL ?_ | refine awM (by decide) ?_)
    | (refine aw_draw (id := 13) (t := (.node [0, 1, 2, 3, 4, 5, 6, 7, 8, 9, 10] [])) (drR [6, 7] [82, 87] []) mixed (by kernel_rfl) (by kernel_rfl) (fun _ _ h => h) ?_)
    | (refine aw_draw (id := 18) (t := (.node [0, 1, 2, 3, 4, 5, 6, 7, 8, 9, 10] [])) (drR [2, 3] [100, 105] []) mixed (by kernel_rfl) (by kernel_rfl) (fun _ _ h => h) ?_)
    | (refine at_done (by simp only [List.filterMap_cons, List.filterMap_nil, List.getElem?_toArray, List.getElem?_cons_zero, List.getElem?_cons_succ]; exact rfl) ?_) | (refine at_alt (by simp only [List.filterMap_cons, List.filterMap_nil, List.getElem?_toArray, List.getElem?_cons_zero, List.getElem?_cons_succ]; exact rfl) ?_) | refine qalt_normal ?_ | refine ats_cons ?_ ?_ | exact ats_nil
    | ((with_reducible first | refine awN (tyOf_ok _) [] ?_ | refine awO (tyOf_ok _) [] ?_ | refine awP (tyOf_ok _) [] ?_ | refine awQ ?_ | refine awR ?_ | refine awS ?_); intro r hr; simp only [go_sem, Nat.reduceBEq, Nat.reduceBneDiff, Nat.reduceLT, Nat.reduceLeDiff, Nat.reduceAdd, Nat.reduceMul, Nat.reduceSub, Nat.reduceEqDiff, reduceCtorEq, encTs_len, encPs_len, hw, e1, g1, ne_eq, not_true_eq_false, decide_false] at hr; subst hr; (first | refine awV ?_ ?_ | refine awW ?_ ?_ | refine endK ?_ ?_ | (refine condK (fun h => ?_) (fun h => ?_) <;> (try simp only [go_sem, reduceCtorEq] at h) <;> (try (exfalso; omega))))) | fail)) <;> (try omega)
    refine go_loop [2, 3, 4, 5, 6, 7, 8] [2, 3, 6, 7] (fun j : Nat => ⟨[(2, true, .ptr 1 2 0 0), (3, true, .ptr 1 3 0 0), (4, true, vB false), (5, true, vI k), (6, true, .ptr 1 6 0 0), (7, true, .ptr 1 7 0 0), (8, true, vI j)],
      [(2, .var [.lst 4 (encTs ts), .lst 2 (encRs rs)]), (3, .var [.lst 4 (encTs ts), .lst 2 (encRs rs)]), (6, .var [vI t.kind, vI t.n, vI t.elem, .lst 3 (encPs t.parts)]), (7, .var [vI t.kind, vI t.n, vI t.elem, .lst 3 (encPs t.parts)])]⟩) (fun j => j ≤ t.parts.length) (fun j => t.parts.length - j) 0 (by simp only [go_sem, Nat.reduceBEq, Nat.reduceBneDiff, Nat.reduceLT, Nat.reduceLeDiff, Nat.reduceAdd, Nat.reduceMul, Nat.reduceSub, Nat.reduceEqDiff, reduceCtorEq]; exact rfl) (Nat.zero_le _) ?_
    intro j hj
    have hwj := wrap_i64 (n := (j : Int) + 1) (by omega)
    by_cases hjl : j < t.parts.length
    · have f1 : ((j : Int) < t.parts.length) = True := eq_true (by omega)
      have g2 := encPs_get hjl
      (repeat' (first
    | exact trivial
    | (with_reducible first | refine awA ?_ | refine awB ?_ | refine awC ?_ | refine awD ?_ | refine awE ?_ | refine awF ?_ | refine awG ?_ | refine awH ?_ | refine awI ?_ | refine awJ ?_ | refine awK ?_ | refine awL ?_ | refine awM (by decide) ?_)
    | (refine aw_draw (id := 13) (t := (.node [0, 1, 2, 3, 4, 5, 6, 7, 8, 9, 10] [])) (drR [6, 7] [82, 87] []) mixed (by kernel_rfl) (by kernel_rfl) (fun _ _ h => h) ?_)
    | (refine aw_draw (id := 18) (t := (.node [0, 1, 2, 3, 4, 5, 6, 7, 8, 9, 10] [])) (drR [2, 3] [100, 105] []) mixed (by kernel_rfl) (by kernel_rfl) (fun _ _ h => h) ?_)
    | (refine at_done (by simp only [List.filterMap_cons, List.filterMap_nil, List.getElem?_toArray, List.getElem?_cons_zero, List.getElem?_cons_succ]; exact rfl) ?_) | (refine at_alt (by simp only [List.filterMap_cons, List.filterMap_nil, List.getElem?_toArray, List.getElem?_cons_zero, List.getElem?_cons_succ]; exact rfl) ?_) | refine qalt_normal ?_ | refine ats_cons ?_ ?_ | exact ats_nil
    | ((with_reducible first | refine awN (tyOf_ok _) [] ?_ | refine awO (tyOf_ok _) [] ?_ | refine awP (tyOf_ok _) [] ?_ | refine awQ ?_ | refine awR ?_ | refine awS ?_); intro r hr; simp only [go_sem, Nat.reduceBEq, Nat.reduceBneDiff, Nat.reduceLT, Nat.reduceLeDiff, Nat.reduceAdd, Nat.reduceMul, Nat.reduceSub, Nat.reduceEqDiff, reduceCtorEq, encPs_len, hwj, f1, g2, ne_eq, not_true_eq_false, decide_false, decide_true, Bool.and_self, Bool.not_true] at hr; subst hr; (first | refine awV ?_ ?_ | refine awW ?_ ?_ | refine endK ?_ ?_ | (refine condK (fun h => ?_) (fun h => ?_) <;> (try simp only [go_sem, reduceCtorEq] at h) <;> (try (exfalso; omega))))) | fail)) <;> (try omega)
      exact ⟨j + 1, by simp only [go_sem, Nat.reduceBEq, Nat.reduceBneDiff, Nat.reduceLT, Nat.reduceLeDiff, Nat.reduceAdd, Nat.reduceMul, Nat.reduceSub, Nat.reduceEqDiff, reduceCtorEq]; exact rfl, hjl, by omega⟩
    · have f1 : ((j : Int) < t.parts.length) = False := eq_false (by omega)
      (repeat' (first
    | exact trivial
    | (with_reducible first | refine awA ?_ | refine awB ?_ | refine awC ?_ | refine awD ?_ | refine awE ?_ | refine awF ?_ | refine awG ?_ | refine awH ?_ | refine awI ?_ | refine awJ ?_ | refine awK ?_ | refine awL ?_ | refine awM (by decide) ?_)
    | (refine aw_draw (id := 13) (t := (.node [0, 1, 2, 3, 4, 5, 6, 7, 8, 9, 10] [])) (drR [6, 7] [82, 87] []) mixed (by kernel_rfl) (by kernel_rfl) (fun _ _ h => h) ?_)
    | (refine aw_draw (id := 18) (t := (.node [0, 1, 2, 3, 4, 5, 6, 7, 8, 9, 10] [])) (drR [2, 3] [100, 105] []) mixed (by kernel_rfl) (by kernel_rfl) (fun _ _ h => h) ?_)
    | (refine at_done (by simp only [List.filterMap_cons, List.filterMap_nil, List.getElem?_toArray, List.getElem?_cons_zero, List.getElem?_cons_succ]; exact rfl) ?_) | (refine at_alt (by simp only [List.filterMap_cons, List.filterMap_nil, List.getElem?_toArray, List.getElem?_cons_zero, List.getElem?_cons_succ]; exact rfl) ?_) | refine qalt_normal ?_ | refine ats_cons ?_ ?_ | exact ats_nil
    | ((with_reducible first | refine awN (tyOf_ok _) [] ?_ | refine awO (tyOf_ok _) [] ?_ | refine awP (tyOf_ok _) [] ?_ | refine awQ ?_ | refine awR ?_ | refine awS ?_); intro r hr; simp only [go_sem, Nat.reduceBEq, Nat.reduceBneDiff, Nat.reduceLT, Nat.reduceLeDiff, Nat.reduceAdd, Nat.reduceMul, Nat.reduceSub, Nat.reduceEqDiff, reduceCtorEq, encPs_len, hw, f1] at hr; subst hr; (first | refine awV ?_ ?_ | refine awW ?_ ?_ | refine endK ?_ ?_ | (refine condK (fun h => ?_) (fun h => ?_) <;> (try simp only [go_sem, reduceCtorEq] at h) <;> (try (exfalso; omega))))) | fail)) <;> (try omega)
      exact ⟨k + 1, by simp only [go_sem, Nat.reduceBEq, Nat.reduceBneDiff, Nat.reduceLT, Nat.reduceLeDiff, Nat.reduceAdd, Nat.reduceMul, Nat.reduceSub, Nat.reduceEqDiff, reduceCtorEq]; exact rfl, hlt, by omega⟩
  · have e1 : ((k : Int) < ts.length) = False := eq_false (by omega)
    (repeat' (first
    | exact trivial
    | (with_reducible first | refine awA ?_ | refine awB ?_ | refine awC ?_ | refine awD ?_ | refine awE ?_ | refine awF ?_ | refine awG ?_ | refine awH ?_ | refine awI ?_ | refine awJ ?_ | refine awK ?_ | refine awL ?_ | refine awM (by decide) ?_)
    | (refine aw_draw (id := 13) (t := (.node [0, 1, 2, 3, 4, 5, 6, 7, 8, 9, 10] [])) (drR [6, 7] [82, 87] []) mixed (by kernel_rfl) (by kernel_rfl) (fun _ _ h => h) ?_)
    | (refine aw_draw (id := 18) (t := (.node [0, 1, 2, 3, 4, 5, 6, 7, 8, 9, 10] [])) (drR [2, 3] [100, 105] []) mixed (by kernel_rfl) (by kernel_rfl) (fun _ _ h => h) ?_)
    | (refine at_done (by simp only [List.filterMap_cons, List.filterMap_nil, List.getElem?_toArray, List.getElem?_cons_zero, List.getElem?_cons_succ]; exact rfl) ?_) | (refine at_alt (by simp only [List.filterMap_cons, List.filterMap_nil, List.getElem?_toArray, List.getElem?_cons_zero, List.getElem?_cons_succ]; exact rfl) ?_) | refine qalt_normal ?_ | refine ats_cons ?_ ?_ | exact ats_nil
    | ((with_reducible first | refine awN (tyOf_ok _) [] ?_ | refine awO (tyOf_ok _) [] ?_ | refine awP (tyOf_ok _) [] ?_ | refine awQ ?_ | refine awR ?_ | refine awS ?_); intro r hr; simp only [go_sem, Nat.reduceBEq, Nat.reduceBneDiff, Nat.reduceLT, Nat.reduceLeDiff, Nat.reduceAdd, Nat.reduceMul, Nat.reduceSub, Nat.reduceEqDiff, reduceCtorEq, encTs_len, hw, e1] at hr; subst hr; (first | refine awV ?_ ?_ | refine awW ?_ ?_ | refine endK ?_ ?_ | (refine condK (fun h => ?_) (fun h => ?_) <;> (try simp only [go_sem, reduceCtorEq] at h) <;> (try (exfalso; omega))))) | fail)) <;> (try omega)
    refine go_loop [2, 3, 4, 9] [2, 3] (fun k : Nat => ⟨[(2, true, .ptr 1 2 0 0), (3, true, .ptr 1 3 0 0), (4, true, vB false), (9, true, vI k)], [(2, .var [.lst 4 (encTs ts), .lst 2 (encRs rs)]), (3, .var [.lst 4 (encTs ts), .lst 2 (encRs rs)])]⟩) (fun k => k ≤ rs.length) (fun k => rs.length - k) 0 (by simp only [go_sem, Nat.reduceBEq, Nat.reduceBneDiff, Nat.reduceLT, Nat.reduceLeDiff, Nat.reduceAdd, Nat.reduceMul, Nat.reduceSub, Nat.reduceEqDiff, reduceCtorEq]; exact rfl) (Nat.zero_le _) ?_
    intro j hj
    have hwj := wrap_i64 (n := (j : Int) + 1) (by omega)
    by_cases hjl : j < rs.length
    · have f1 : ((j : Int) < rs.length) = True := eq_true (by omega)
      have g2 := encRs_get hjl
      (repeat' (first
    | exact trivial
    | (with_reducible first | refine awA ?_ | refine awB ?_ | refine awC ?_ | refine awD ?_ | refine awE ?_ | refine awF ?_ | refine awG ?_ | refine awH ?_ | refine awI ?_ | refine awJ ?_ | refine awK ?_ | refine awL ?_ | refine awM (by decide) ?_)
    | (refine aw_draw (id := 13) (t := (.node [0, 1, 2, 3, 4, 5, 6, 7, 8, 9, 10] [])) (drR [6, 7] [82, 87] []) mixed (by kernel_rfl) (by kernel_rfl) (fun _ _ h => h) ?_)
    | (refine aw_draw (id := 18) (t := (.node [0, 1, 2, 3, 4, 5, 6, 7, 8, 9, 10] [])) (drR [2, 3] [100, 105] []) mixed (by kernel_rfl) (by kernel_rfl) (fun _ _ h => h) ?_)
    | (refine at_done (by simp only [List.filterMap_cons, List.filterMap_nil, List.getElem?_toArray, List.getElem?_cons_zero, List.getElem?_cons_succ]; exact rfl) ?_) | (refine at_alt (by simp only [List.filterMap_cons, List.filterMap_nil, List.getElem?_toArray, List.getElem?_cons_zero, List.getElem?_cons_succ]; exact rfl) ?_) | refine qalt_normal ?_ | refine ats_cons ?_ ?_ | exact ats_nil
    | ((with_reducible first | refine awN (tyOf_ok _) [] ?_ | refine awO (tyOf_ok _) [] ?_ | refine awP (tyOf_ok _) [] ?_ | refine awQ ?_ | refine awR ?_ | refine awS ?_); intro r hr; simp only [go_sem, Nat.reduceBEq, Nat.reduceBneDiff, Nat.reduceLT, Nat.reduceLeDiff, Nat.reduceAdd, Nat.reduceMul, Nat.reduceSub, Nat.reduceEqDiff, reduceCtorEq, encRs_len, hwj, f1, g2, ne_eq, not_true_eq_false, decide_false, decide_true, Bool.and_self, Bool.not_true] at hr; subst hr; (first | refine awV ?_ ?_ | refine awW ?_ ?_ | refine endK ?_ ?_ | (refine condK (fun h => ?_) (fun h => ?_) <;> (try simp only [go_sem, reduceCtorEq] at h) <;> (try (exfalso; omega))))) | fail)) <;> (try omega)
      exact ⟨j + 1, by simp only [go_sem, Nat.reduceBEq, Nat.reduceBneDiff, Nat.reduceLT, Nat.reduceLeDiff, Nat.reduceAdd, Nat.reduceMul, Nat.reduceSub, Nat.reduceEqDiff, reduceCtorEq]; exact rfl, hjl, by omega⟩
    · have f1 : ((j : Int) < rs.length) = False := eq_false (by omega)
      (repeat' (first
    | exact trivial
    | (with_reducible first | refine awA ?_ | refine awB ?_ | refine awC ?_ | refine awD ?_ | refine awE ?_ | refine awF ?_ | refine awG ?_ | refine awH ?_ | refine awI ?_ | refine awJ ?_ | refine awK ?_ | refine awL ?_ | refine awM (by decide) ?_)
    | (refine aw_draw (id := 13) (t := (.node [0, 1, 2, 3, 4, 5, 6, 7, 8, 9, 10] [])) (drR [6, 7] [82, 87] []) mixed (by kernel_rfl) (by kernel_rfl) (fun _ _ h => h) ?_)
    | (refine aw_draw (id := 18) (t := (.node [0, 1, 2, 3, 4, 5, 6, 7, 8, 9, 10] [])) (drR [2, 3] [100, 105] []) mixed (by kernel_rfl) (by kernel_rfl) (fun _ _ h => h) ?_)
    | (refine at_done (by simp only [List.filterMap_cons, List.filterMap_nil, List.getElem?_toArray, List.getElem?_cons_zero, List.getElem?_cons_succ]; exact rfl) ?_) | (refine at_alt (by simp only [List.filterMap_cons, List.filterMap_nil, List.getElem?_toArray, List.getElem?_cons_zero, List.getElem?_cons_succ]; exact rfl) ?_) | refine qalt_normal ?_ | refine ats_cons ?_ ?_ | exact ats_nil
    | ((with_reducible first | refine awN (tyOf_ok _) [] ?_ | refine awO (tyOf_ok _) [] ?_ | refine awP (tyOf_ok _) [] ?_ | refine awQ ?_ | refine awR ?_ | refine awS ?_); intro r hr; simp only [go_sem, Nat.reduceBEq, Nat.reduceBneDiff, Nat.reduceLT, Nat.reduceLeDiff, Nat.reduceAdd, Nat.reduceMul, Nat.reduceSub, Nat.reduceEqDiff, reduceCtorEq, encRs_len, f1] at hr; subst hr; (first | refine awV ?_ ?_ | refine awW ?_ ?_ | refine endK ?_ ?_ | (refine condK (fun h => ?_) (fun h => ?_) <;> (try simp only [go_sem, reduceCtorEq] at h) <;> (try (exfalso; omega))))) | fail)) <;> (try omega)
      exact rfl
end Go.Proofs.Ytfgacgpicfknpaa
end
section
namespace Go.Proofs.Ytfgacgpicfknpaa
open Go.RowKit
set_option maxRecDepth 100000
set_option maxHeartbeats 8000000
/-! A schema in memory of the caller's own, with a mark behind each list. -/
def mP : List AV := [.v (.string ByteArray.empty), vI 23130, vI 0]
def mR : List AV := [.v (.string ByteArray.empty), vI 23130]
def mT : List AV := [vI 23130, vI 0, vI 0, nilS]
def encTx (t : TypeM) : List AV := [vI t.kind, vI t.n, vI t.elem, .lsx 3 (encPs t.parts) [mP]]
def encTxs (l : List TypeM) : List (List AV) := l.map encTx
theorem encTxs_len (l : List TypeM) : (encTxs l).length = l.length := by simp [encTxs]
theorem encTxs_get {l : List TypeM} {k : Nat} (h : k < l.length) (zs : List (List AV)) : (encTxs l ++ zs)[k]? = some [vI l[k].kind, vI l[k].n, vI l[k].elem, .lsx 3 (encPs l[k].parts) [mP]] := by
  rw [List.getElem?_append_left (by rw [encTxs_len]; exact h)]
  simp [encTxs, encTx, h]
theorem encTxs_app (l : List TypeM) (t : TypeM) : encTxs l ++ [[vI t.kind, vI t.n, vI t.elem, .lsx 3 (encPs t.parts) [mP]]] = encTxs (l ++ [t]) := by simp [encTxs, encTx]
theorem take_app {α : Type} (l m : List α) {n : Nat} (h : n = l.length) : (l ++ m).take n = l := by subst h; simp
theorem drop_app {α : Type} (l m : List α) {n : Nat} (h : n = l.length) : (l ++ m).drop n = m := by subst h; simp
def lentV (d1 d2 : Nat) (ts : List TypeM) (rs : List RootM) : AV := .agg [.rfx 55 4 d1 0 ts.length 1, .rfx 90 2 d2 0 rs.length 1]
def lentO (d1 d2 : Nat) (ts : List TypeM) (rs : List RootM) : List (Nat × AObj) := [(d1, .row 55 4 (encTxs ts ++ [mT])), (d2, .row 90 2 (encRs rs ++ [mR]))]
/-- a schema in memory of the caller's own -/
def sV (d1 d2 : Nat) (ts : List TypeM) (rs : List RootM) : AV := .agg [.ref 55 4 d1 0 ts.length, .ref 90 2 d2 0 rs.length]
def sO (d1 d2 : Nat) (ts : List TypeM) (rs : List RootM) : List (Nat × AObj) := [(d1, .row 55 4 (encTs ts)), (d2, .row 90 2 (encRs rs))]
theorem lent10_G (ts : List TypeM) (rs : List RootM) (hts : ts.length ≤ 1000000000) (hrs : rs.length ≤ 1000000000) (hp : ∀ t ∈ ts, t.parts.length ≤ 1000000000) :
    GCall Try.prog 25 [sV 10000 10001 ts rs] (sO 10000 10001 ts rs) (lentV 8000 47 ts rs) (lentO 8000 47 ts rs ++ sO 10000 10001 ts rs) := by
  refine go_fnG (tyOf_ok _) Try.func25 rfl rfl (by rw [Try.results25]) Try.ntmps25 rfl fun E => ?_
  (repeat' (first
    | exact trivial
    | (refine aw_nilvar 3 0 55 4 8000 (cs := [nilS, _]) (.inl (by decide)) (by decide) rfl rfl ?_)
    | (with_reducible first | refine awA ?_ | refine awB ?_ | refine awC ?_ | refine awD ?_ | refine awE ?_ | refine awF ?_ | refine awG ?_ | refine awH ?_ | refine awI ?_ | refine awJ ?_ | refine awK ?_ | refine awL ?_ | refine awM (by decide) ?_)
    | (refine aw_draw (id := 6) (t := (.node [0, 1, 3, 6] [(.node [2] [(.node [4] [(.node [5, 7, 8, 9, 10, 11] []), (.node [7, 8, 5, 9, 10, 11] [])]), (.node [7, 8, 4, 5, 9, 10, 11] [])]), (.node [4] [(.node [2] [(.node [5, 7, 8, 9, 10, 11] []), (.node [7, 8, 5, 9, 10, 11] [])]), (.node [7, 8, 2, 5, 9, 10, 11] [])]), (.node [7, 8] [(.node [2, 4, 5, 9, 10, 11] []), (.node [4, 2, 5, 9, 10, 11] [])])])) (drR [] [19, 25] []) mixed (by kernel_rfl) (by kernel_rfl) (fun _ _ h => h) ?_)
    | (refine aw_draw (id := 8) (t := (.node [0, 1, 2, 5, 6, 7, 3, 4, 8, 9, 10] [])) (drR [1] [36] []) mixed (by kernel_rfl) (by kernel_rfl) (fun _ _ h => h) ?_)
    | (refine aw_draw (id := 9) (t := (.node [0, 1, 3, 6, 7, 8] [(.node [2, 4, 5, 9, 10, 11] []), (.node [4, 2, 5, 9, 10, 11] [])])) (drR [1] [] []) mixed (by kernel_rfl) (by kernel_rfl) (fun _ _ h => h) ?_)
    | (refine at_done (by simp only [List.filterMap_cons, List.filterMap_nil, List.getElem?_toArray, List.getElem?_cons_zero, List.getElem?_cons_succ]; exact rfl) ?_) | (refine at_alt (by simp only [List.filterMap_cons, List.filterMap_nil, List.getElem?_toArray, List.getElem?_cons_zero, List.getElem?_cons_succ]; exact rfl) ?_) | refine qalt_normal ?_ | refine ats_cons ?_ ?_ | exact ats_nil
    | ((with_reducible first | refine awN (tyOf_ok _) [] ?_ | refine awO (tyOf_ok _) [] ?_ | refine awP (tyOf_ok _) [] ?_ | refine awQ ?_ | refine awR ?_ | refine awS ?_ | refine awT ?_ | refine awU ?_); intro r hr; simp only [go_sem, Nat.reduceBEq, Nat.reduceBneDiff, Nat.reduceLT, Nat.reduceLeDiff, Nat.reduceAdd, Nat.reduceMul, Nat.reduceSub, Nat.reduceEqDiff, reduceCtorEq, AState.nilvar, List.set_cons_succ, List.set_cons_zero, sV, sO] at hr; subst hr; (first | refine awV ?_ ?_ | refine awW ?_ ?_ | refine endK ?_ ?_ | refine endGK ?_ ?_ ?_ | (refine condK (fun h => ?_) (fun h => ?_) <;> (try simp only [go_sem, reduceCtorEq] at h) <;> (try (exfalso; omega))))) | fail)) <;> (try omega)
  refine go_loop [1, 2, 3, 4] [1, 2, 3, 8000, 10000, 10001] (fun k : Nat => ⟨[(1, true, .ptr 1 1 0 0), (2, true, .ptr 1 2 0 0), (3, true, .ptr 1 3 0 0), (4, true, vI k)],
    [(1, .var [.ref 55 4 10000 0 ts.length, .ref 90 2 10001 0 rs.length]), (2, .var [nilS, nilS]), (3, .var [.ref 55 4 8000 0 k, nilS]), (8000, .row 55 4 (encTxs (ts.take k))), (10000, .row 55 4 (encTs ts)), (10001, .row 90 2 (encRs rs))]⟩)
    (fun k => k ≤ ts.length) (fun k => ts.length - k) 0 (by simp only [AState.nilvar, go_sem, Nat.reduceBEq, Nat.reduceBneDiff, Nat.reduceLT, Nat.reduceLeDiff, Nat.reduceAdd, Nat.reduceMul, Nat.reduceSub, Nat.reduceEqDiff, reduceCtorEq]; exact rfl) (Nat.zero_le _) ?_
  intro k hk
  have hw1 := wrap_i64 (n := (k : Int) + 1) (by omega)
  have hlk : (encTxs (ts.take k)).length = k := by rw [encTxs_len, List.length_take]; omega
  have htk : (encTxs (ts.take k)).take k = encTxs (ts.take k) := take_len (by omega)
  by_cases hlt : k < ts.length
  · have e1 : ((k : Int) < ts.length) = True := eq_true (by omega)
    have g1 := encTs_get hlt
    have hpl := hp _ (List.getElem_mem hlt)
    have hnext : encTxs (ts.take k) ++ [[vI ts[k].kind, vI ts[k].n, vI ts[k].elem, .lsx 3 (encPs ts[k].parts) [mP]]] = encTxs (ts.take (k + 1)) := by
      rw [List.take_succ_eq_append_getElem hlt]
      exact encTxs_app _ _
    have hlk1 : (encTxs (ts.take (k + 1))).length = k + 1 := by rw [encTxs_len, List.length_take]; omega
    have hm : [[AV.v (.string ByteArray.empty), vI 23130, vI 0]] = [mP] := rfl
    generalize ts[k] = t at *
    have hz : ((t.parts.length : Int)).toNat = t.parts.length := by omega
    have h1 : (encPs t.parts ++ [mP]).take t.parts.length = encPs t.parts := take_app _ _ (by rw [encPs_len])
    have h2 : (encPs t.parts ++ [mP]).drop t.parts.length = [mP] := drop_app _ _ (by rw [encPs_len])
    have hpk : (encPs t.parts).take t.parts.length = encPs t.parts := take_len (by rw [encPs_len]; exact Nat.le_refl _)
    have hl5 : (encPs t.parts ++ [mP]).length = t.parts.length + 1 := by simp [encPs]
    have htl : (encPs t.parts ++ [mP]).take (t.parts.length + 1) = encPs t.parts ++ [mP] := take_len (by rw [hl5]; exact Nat.le_refl _)
    (repeat' (first
    | exact trivial
    | (with_reducible first | refine awA ?_ | refine awB ?_ | refine awC ?_ | refine awD ?_ | refine awE ?_ | refine awF ?_ | refine awG ?_ | refine awH ?_ | refine awI ?_ | refine awJ ?_ | refine awK ?_ | refine awL ?_ | refine awM (by decide) ?_)
    | (refine aw_draw (id := 6) (t := (.node [0, 1, 3, 6] [(.node [2] [(.node [4] [(.node [5, 7, 8, 9, 10, 11] []), (.node [7, 8, 5, 9, 10, 11] [])]), (.node [7, 8, 4, 5, 9, 10, 11] [])]), (.node [4] [(.node [2] [(.node [5, 7, 8, 9, 10, 11] []), (.node [7, 8, 5, 9, 10, 11] [])]), (.node [7, 8, 2, 5, 9, 10, 11] [])]), (.node [7, 8] [(.node [2, 4, 5, 9, 10, 11] []), (.node [4, 2, 5, 9, 10, 11] [])])])) (drR [] [19, 25] []) mixed (by kernel_rfl) (by kernel_rfl) (fun _ _ h => h) ?_)
    | (refine aw_draw (id := 8) (t := (.node [0, 1, 2, 5, 6, 7, 3, 4, 8, 9, 10] [])) (drR [1] [36] []) mixed (by kernel_rfl) (by kernel_rfl) (fun _ _ h => h) ?_)
    | (refine aw_draw (id := 9) (t := (.node [0, 1, 3, 6, 7, 8] [(.node [2, 4, 5, 9, 10, 11] []), (.node [4, 2, 5, 9, 10, 11] [])])) (drR [1] [] []) mixed (by kernel_rfl) (by kernel_rfl) (fun _ _ h => h) ?_)
    | (refine at_done (by simp only [List.filterMap_cons, List.filterMap_nil, List.getElem?_toArray, List.getElem?_cons_zero, List.getElem?_cons_succ]; exact rfl) ?_) | (refine at_alt (by simp only [List.filterMap_cons, List.filterMap_nil, List.getElem?_toArray, List.getElem?_cons_zero, List.getElem?_cons_succ]; exact rfl) ?_) | refine qalt_normal ?_ | refine ats_cons ?_ ?_ | exact ats_nil
    | ((with_reducible first | refine awN (tyOf_ok _) [23] ?_ | refine awO (tyOf_ok _) [23] ?_ | refine awP (tyOf_ok _) [23] ?_ | refine awQ ?_ | refine awR ?_ | refine awS ?_ | refine awT ?_ | refine awU ?_); intro r hr; simp only [go_sem, Nat.reduceBEq, Nat.reduceBneDiff, Nat.reduceLT, Nat.reduceLeDiff, Nat.reduceAdd, Nat.reduceMul, Nat.reduceSub, Nat.reduceEqDiff, reduceCtorEq, encTs_len, encPs_len, Nat.zero_add, Int.toNat_natCast, hw1, hlk, htk, e1, g1, hnext, hlk1, hm, hz, h1, h2, hpk, hl5, htl, Int.toNat_zero, Nat.sub_zero, Nat.le_refl, if_true] at hr; subst hr; (first | refine awV ?_ ?_ | refine awW ?_ ?_ | refine endK ?_ ?_ | refine endGK ?_ ?_ ?_ | (refine condK (fun h => ?_) (fun h => ?_) <;> (try simp only [go_sem, reduceCtorEq] at h) <;> (try (exfalso; omega))))) | fail)) <;> (try omega)
    all_goals exact ⟨k + 1, by simp only [go_sem, Nat.reduceBEq, Nat.reduceBneDiff, Nat.reduceLT, Nat.reduceLeDiff, Nat.reduceAdd, Nat.reduceMul, Nat.reduceSub, Nat.reduceEqDiff, reduceCtorEq]; exact rfl, hlt, by omega⟩
  · have e1 : ((k : Int) < ts.length) = False := eq_false (by omega)
    have hke : ts.take k = ts := take_len (by omega)
    have hkl : k = ts.length := by omega
    rw [hke] at hlk htk ⊢
    subst hkl
    have hz1 : ((ts.length : Int)).toNat = ts.length := by omega
    have hz2 : ((rs.length : Int)).toNat = rs.length := by omega
    have hmT : [[vI 23130, vI 0, vI 0, nilS]] = [mT] := rfl
    have hmR : [[AV.v (.string ByteArray.empty), vI 23130]] = [mR] := rfl
    have hl1 : (encTxs ts ++ [mT]).length = ts.length + 1 := by simp [encTxs]
    have hl2 : (encRs rs ++ [mR]).length = rs.length + 1 := by simp [encRs]
    have hrk : (encRs rs).take rs.length = encRs rs := take_len (by rw [encRs_len]; exact Nat.le_refl _)
    (repeat' (first
    | exact trivial
    | (with_reducible first | refine awA ?_ | refine awB ?_ | refine awC ?_ | refine awD ?_ | refine awE ?_ | refine awF ?_ | refine awG ?_ | refine awH ?_ | refine awI ?_ | refine awJ ?_ | refine awK ?_ | refine awL ?_ | refine awM (by decide) ?_)
    | (refine aw_draw (id := 6) (t := (.node [0, 1, 3, 6] [(.node [2] [(.node [4] [(.node [5, 7, 8, 9, 10, 11] []), (.node [7, 8, 5, 9, 10, 11] [])]), (.node [7, 8, 4, 5, 9, 10, 11] [])]), (.node [4] [(.node [2] [(.node [5, 7, 8, 9, 10, 11] []), (.node [7, 8, 5, 9, 10, 11] [])]), (.node [7, 8, 2, 5, 9, 10, 11] [])]), (.node [7, 8] [(.node [2, 4, 5, 9, 10, 11] []), (.node [4, 2, 5, 9, 10, 11] [])])])) (drR [] [19, 25] []) mixed (by kernel_rfl) (by kernel_rfl) (fun _ _ h => h) ?_)
    | (refine aw_draw (id := 8) (t := (.node [0, 1, 2, 5, 6, 7, 3, 4, 8, 9, 10] [])) (drR [1] [36] []) mixed (by kernel_rfl) (by kernel_rfl) (fun _ _ h => h) ?_)
    | (refine aw_draw (id := 9) (t := (.node [0, 1, 3, 6, 7, 8] [(.node [2, 4, 5, 9, 10, 11] []), (.node [4, 2, 5, 9, 10, 11] [])])) (drR [1] [] []) mixed (by kernel_rfl) (by kernel_rfl) (fun _ _ h => h) ?_)
    | (refine at_done (by simp only [List.filterMap_cons, List.filterMap_nil, List.getElem?_toArray, List.getElem?_cons_zero, List.getElem?_cons_succ]; exact rfl) ?_) | (refine at_alt (by simp only [List.filterMap_cons, List.filterMap_nil, List.getElem?_toArray, List.getElem?_cons_zero, List.getElem?_cons_succ]; exact rfl) ?_) | refine qalt_normal ?_ | refine ats_cons ?_ ?_ | exact ats_nil
    | ((with_reducible first | refine awN (tyOf_ok _) [1000039, 1000050] ?_ | refine awO (tyOf_ok _) [1000039, 1000050] ?_ | refine awP (tyOf_ok _) [1000039, 1000050] ?_ | refine awQ ?_ | refine awR ?_ | refine awS ?_ | refine awT ?_ | refine awU ?_); intro r hr; simp only [go_sem, Nat.reduceBEq, Nat.reduceBneDiff, Nat.reduceLT, Nat.reduceLeDiff, Nat.reduceAdd, Nat.reduceMul, Nat.reduceSub, Nat.reduceEqDiff, reduceCtorEq, encTs_len, encRs_len, hw1, hlk, htk, e1, hz1, hz2, hmT, hmR, hl1, hl2, hrk, Nat.zero_add, List.drop_zero, Nat.le_refl, Nat.add_zero, Nat.add_sub_cancel_left, Int.toNat_zero, Nat.sub_zero] at hr; subst hr; (first | refine awV ?_ ?_ | refine awW ?_ ?_ | refine endK ?_ ?_ | refine endGK ?_ ?_ ?_ | (refine condK (fun h => ?_) (fun h => ?_) <;> (try simp only [go_sem, reduceCtorEq] at h) <;> (try (exfalso; omega))))) | fail)) <;> (try omega)
    all_goals (first | exact AV.up_rfl _ | (repeat first | exact obUp_nil | refine obUp_cons rfl ?_))
theorem up_txs : ∀ l : List TypeM, UpLL (encTxs l) (encTs l)
  | [] => .nil
  | t :: l => .cons (.cons (.rfl _) (.cons (.rfl _) (.cons (.rfl _) (.cons (.lsx (UpLL.rfl' _)) .nil)))) (up_txs l)
theorem up_schx (ts : List TypeM) (rs : List RootM) : Up (.agg [.lst 4 (encTxs ts), .lst 2 (encRs rs)]) (vSch ts rs) := .agg (.cons (.lst (up_txs ts)) (.cons (.rfl _) .nil))
theorem kept10_G (ts : List TypeM) (rs : List RootM) (hts : ts.length ≤ 1000000000) (hrs : rs.length ≤ 1000000000) (hp : ∀ t ∈ ts, t.parts.length ≤ 1000000000) :
    GCall Try.prog 33 [lentV 10000 10001 ts rs, sV 10002 10003 ts rs] (lentO 10000 10001 ts rs ++ sO 10002 10003 ts rs) (vB true) (lentO 10000 10001 ts rs ++ sO 10002 10003 ts rs) := by
  refine go_fnG (tyOf_ok _) Try.func33 rfl rfl (by rw [Try.results33]) Try.ntmps33 rfl fun E => ?_
  have hS := PCall.args (.cons (up_schx ts rs) (.cons (.rfl _) .nil)) (same09_refl ts rs hts hrs hp)
  unfold vSch at hS
  have hT : (encTxs ts ++ [mT]).take ts.length = encTxs ts := take_app _ _ (by rw [encTxs_len])
  have hR : (encRs rs ++ [mR]).take rs.length = encRs rs := take_app _ _ (by rw [encRs_len])
  have hgT : (encTxs ts ++ [mT])[ts.length]? = some mT := by rw [List.getElem?_append_right (by rw [encTxs_len]; exact Nat.le_refl _), encTxs_len, Nat.sub_self]; rfl
  have hgR : (encRs rs ++ [mR])[rs.length]? = some mR := by rw [List.getElem?_append_right (by rw [encRs_len]; exact Nat.le_refl _), encRs_len, Nat.sub_self]; rfl
  have hl1 : (encTxs ts ++ [mT]).length = ts.length + 1 := by simp [encTxs]
  have hl2 : (encRs rs ++ [mR]).length = rs.length + 1 := by simp [encRs]
  have hwT := wrap_i64 (n := (ts.length : Int) + 1) (by omega)
  have hwR := wrap_i64 (n := (rs.length : Int) + 1) (by omega)
  have hzT : ((ts.length : Int) + 1).toNat = ts.length + 1 := by omega
  have hzR : ((rs.length : Int) + 1).toNat = rs.length + 1 := by omega
  have hz1 : ((ts.length : Int)).toNat = ts.length := by omega
  have hz2 : ((rs.length : Int)).toNat = rs.length := by omega
  simp only [mT, mR] at hT hR hgT hgR hl1 hl2
  have hrk : (encRs rs).take rs.length = encRs rs := take_len (by rw [encRs_len]; exact Nat.le_refl _)
  have htk : (encTs ts).take ts.length = encTs ts := take_len (by rw [encTs_len]; exact Nat.le_refl _)
  (repeat' (first
    | exact trivial
    | (with_reducible first | refine awA ?_ | refine awB ?_ | refine awC ?_ | refine awD ?_ | refine awE ?_ | refine awF ?_ | refine awG ?_ | refine awH ?_ | refine awI ?_ | refine awJ ?_ | refine awK ?_ | refine awL ?_ | refine awM (by decide) ?_)
    | (refine aw_draw (id := 1) (t := (.node [0, 1, 2, 3, 4, 5, 6, 7, 8, 9, 10, 11, 12, 13, 14, 15, 16, 17, 18, 19, 20, 21, 22, 23, 24, 25, 26, 27, 28, 29, 30, 31, 32, 33, 34, 35] [])) (drR [2, 3] [25, 41] []) mixed (by kernel_rfl) (by kernel_rfl) (fun _ _ h => h) ?_)
    | (refine at_done (by simp only [List.filterMap_cons, List.filterMap_nil, List.getElem?_toArray, List.getElem?_cons_zero, List.getElem?_cons_succ]; exact rfl) ?_) | (refine at_alt (by simp only [List.filterMap_cons, List.filterMap_nil, List.getElem?_toArray, List.getElem?_cons_zero, List.getElem?_cons_succ]; exact rfl) ?_) | refine qalt_normal ?_ | refine ats_cons ?_ ?_ | exact ats_nil
    | ((with_reducible first | refine awN (tyOf_ok _) [] ?_ | refine awO (tyOf_ok _) [] ?_ | refine awP (tyOf_ok _) [] ?_ | refine awQ ?_ | refine awR ?_ | refine awS ?_ | refine awT ?_ | refine awU ?_); intro r hr; simp only [go_sem, Nat.reduceBEq, Nat.reduceBneDiff, Nat.reduceLT, Nat.reduceLeDiff, Nat.reduceAdd, Nat.reduceMul, Nat.reduceSub, Nat.reduceEqDiff, reduceCtorEq, lentV, lentO, sV, sO, hrk, htk, encTs_len, encRs_len, hT, hR, hgT, hgR, hl1, hl2, hwT, hwR, hzT, hzR, hz1, hz2, mT, mR, Int.cast_ofNat_Int, Int.reduceToNat, Int.reduceEq, Int.reduceLT, Int.reduceLE, Int.reduceNe, ne_eq, not_true_eq_false, decide_false, Int.toNat_zero, Nat.sub_zero, Nat.add_zero, Nat.zero_add] at hr; subst hr; (first | refine caA (fun _ => hS) rfl ?_ ?_ ?_ | refine awV ?_ ?_ | refine awW ?_ ?_ | refine endK ?_ ?_ | refine endGK ?_ ?_ ?_ | (refine condK (fun h => ?_) (fun h => ?_) <;> (try simp only [go_sem, reduceCtorEq] at h) <;> (try (exfalso; omega))))) | fail)) <;> (try omega)
  refine go_loop [2, 3, 4, 5] [2, 3, 10000, 10001, 10002, 10003] (fun k : Nat => ⟨[(2, true, .ptr 1 2 0 0), (3, true, .ptr 1 3 0 0), (4, true, vB false), (5, true, vI k)],
    [(2, .var [.rfx 55 4 10000 0 ts.length 1, .rfx 90 2 10001 0 rs.length 1]), (3, .var [.ref 55 4 10002 0 ts.length, .ref 90 2 10003 0 rs.length])] ++ lentO 10000 10001 ts rs ++ sO 10002 10003 ts rs⟩) (fun k => k ≤ ts.length) (fun k => ts.length - k) 0 (by simp only [go_sem, Nat.reduceBEq, Nat.reduceBneDiff, Nat.reduceLT, Nat.reduceLeDiff, Nat.reduceAdd, Nat.reduceMul, Nat.reduceSub, Nat.reduceEqDiff, reduceCtorEq, lentO, sO, mT, mR]; exact rfl) (Nat.zero_le _) ?_
  intro k hk
  have hw := wrap_i64 (n := (k : Int) + 1) (by omega)
  by_cases hlt : k < ts.length
  · have e1 : ((k : Int) < ts.length) = True := eq_true (by omega)
    have g1 := encTs_get hlt
    have g2 := encTxs_get hlt [mT]
    have hpl := hp _ (List.getElem_mem hlt)
    generalize ts[k] = t at *
    have hw2 := wrap_i64 (n := (t.parts.length : Int) + 1) (by omega)
    have hz3 : ((t.parts.length : Int) + 1).toNat = t.parts.length + 1 := by omega
    have hz4 : ((t.parts.length : Int)).toNat = t.parts.length := by omega
    have hl5 : (encPs t.parts ++ [mP]).length = t.parts.length + 1 := by simp [encPs]
    have htl : (encPs t.parts ++ [mP]).take (t.parts.length + 1) = encPs t.parts ++ [mP] := take_len (by rw [hl5]; exact Nat.le_refl _)
    have hgP : (encPs t.parts ++ [mP])[t.parts.length]? = some [.v (.string ByteArray.empty), vI 23130, vI 0] := by rw [List.getElem?_append_right (by rw [encPs_len]; exact Nat.le_refl _), encPs_len, Nat.sub_self]; rfl
    (repeat' (first
    | exact trivial
    | (with_reducible first | refine awA ?_ | refine awB ?_ | refine awC ?_ | refine awD ?_ | refine awE ?_ | refine awF ?_ | refine awG ?_ | refine awH ?_ | refine awI ?_ | refine awJ ?_ | refine awK ?_ | refine awL ?_ | refine awM (by decide) ?_)
    | (refine aw_draw (id := 1) (t := (.node [0, 1, 2, 3, 4, 5, 6, 7, 8, 9, 10, 11, 12, 13, 14, 15, 16, 17, 18, 19, 20, 21, 22, 23, 24, 25, 26, 27, 28, 29, 30, 31, 32, 33, 34, 35] [])) (drR [2, 3] [25, 41] []) mixed (by kernel_rfl) (by kernel_rfl) (fun _ _ h => h) ?_)
    | (refine at_done (by simp only [List.filterMap_cons, List.filterMap_nil, List.getElem?_toArray, List.getElem?_cons_zero, List.getElem?_cons_succ]; exact rfl) ?_) | (refine at_alt (by simp only [List.filterMap_cons, List.filterMap_nil, List.getElem?_toArray, List.getElem?_cons_zero, List.getElem?_cons_succ]; exact rfl) ?_) | refine qalt_normal ?_ | refine ats_cons ?_ ?_ | exact ats_nil
    | ((with_reducible first | refine awN (tyOf_ok _) [] ?_ | refine awO (tyOf_ok _) [] ?_ | refine awP (tyOf_ok _) [] ?_ | refine awQ ?_ | refine awR ?_ | refine awS ?_ | refine awT ?_ | refine awU ?_); intro r hr; simp only [go_sem, Nat.reduceBEq, Nat.reduceBneDiff, Nat.reduceLT, Nat.reduceLeDiff, Nat.reduceAdd, Nat.reduceMul, Nat.reduceSub, Nat.reduceEqDiff, reduceCtorEq, lentO, sO, Int.toNat_natCast, encTs_len, encPs_len, hw, e1, g1, g2, hw2, hz3, hz4, hl5, htl, hgP, Int.cast_ofNat_Int, Int.reduceToNat, Int.reduceEq, Int.reduceLT, Int.reduceLE, Int.reduceNe, ne_eq, not_true_eq_false, decide_false, Int.toNat_zero, Nat.sub_zero, Nat.add_zero, Nat.zero_add] at hr; subst hr; (first | refine awV ?_ ?_ | refine awW ?_ ?_ | refine endK ?_ ?_ | refine endGK ?_ ?_ ?_ | (refine condK (fun h => ?_) (fun h => ?_) <;> (try simp only [go_sem, reduceCtorEq] at h) <;> (try (exfalso; omega))))) | fail)) <;> (try omega)
    exact ⟨k + 1, by simp only [go_sem, Nat.reduceBEq, Nat.reduceBneDiff, Nat.reduceLT, Nat.reduceLeDiff, Nat.reduceAdd, Nat.reduceMul, Nat.reduceSub, Nat.reduceEqDiff, reduceCtorEq, lentO, sO]; exact rfl, hlt, by omega⟩
  · have e1 : ((k : Int) < ts.length) = False := eq_false (by omega)
    (repeat' (first
    | exact trivial
    | (with_reducible first | refine awA ?_ | refine awB ?_ | refine awC ?_ | refine awD ?_ | refine awE ?_ | refine awF ?_ | refine awG ?_ | refine awH ?_ | refine awI ?_ | refine awJ ?_ | refine awK ?_ | refine awL ?_ | refine awM (by decide) ?_)
    | (refine aw_draw (id := 1) (t := (.node [0, 1, 2, 3, 4, 5, 6, 7, 8, 9, 10, 11, 12, 13, 14, 15, 16, 17, 18, 19, 20, 21, 22, 23, 24, 25, 26, 27, 28, 29, 30, 31, 32, 33, 34, 35] [])) (drR [2, 3] [25, 41] []) mixed (by kernel_rfl) (by kernel_rfl) (fun _ _ h => h) ?_)
    | (refine at_done (by simp only [List.filterMap_cons, List.filterMap_nil, List.getElem?_toArray, List.getElem?_cons_zero, List.getElem?_cons_succ]; exact rfl) ?_) | (refine at_alt (by simp only [List.filterMap_cons, List.filterMap_nil, List.getElem?_toArray, List.getElem?_cons_zero, List.getElem?_cons_succ]; exact rfl) ?_) | refine qalt_normal ?_ | refine ats_cons ?_ ?_ | exact ats_nil
    | ((with_reducible first | refine awN (tyOf_ok _) [] ?_ | refine awO (tyOf_ok _) [] ?_ | refine awP (tyOf_ok _) [] ?_ | refine awQ ?_ | refine awR ?_ | refine awS ?_ | refine awT ?_ | refine awU ?_); intro r hr; simp only [go_sem, Nat.reduceBEq, Nat.reduceBneDiff, Nat.reduceLT, Nat.reduceLeDiff, Nat.reduceAdd, Nat.reduceMul, Nat.reduceSub, Nat.reduceEqDiff, reduceCtorEq, lentO, sO, encTs_len, e1] at hr; subst hr; (first | refine awV ?_ ?_ | refine awW ?_ ?_ | refine endK ?_ ?_ | refine endGK ?_ ?_ ?_ | (refine condK (fun h => ?_) (fun h => ?_) <;> (try simp only [go_sem, reduceCtorEq] at h) <;> (try (exfalso; omega))))) | fail)) <;> (try omega)
    all_goals (first | exact AV.up_rfl _ | (repeat first | exact obUp_nil | refine obUp_cons rfl ?_))
end Go.Proofs.Ytfgacgpicfknpaa
end
section
namespace Go.Proofs.Ytfgacgpicfknpaa
open Go.RowKit
set_option maxRecDepth 100000
set_option maxHeartbeats 8000000
/-! What the document says of lengths. -/
theorem fitsF_big (T : TypeM) (x : NodeM) : fitsF T x = 0 ∨ 110 ≤ fitsF T x := by
  unfold fitsF
  split
  · omega
  · split
    · omega
    · split
      · omega
      · split <;> omega
theorem walk_big {ts : List TypeM} : ∀ (n : Nat) (c : Tr), c.flat.length ≤ n → ∀ (t : Nat) (p : Int) (out : List Int), (c.walk ts t p out).2.2.1 = 0 ∨ 110 ≤ (c.walk ts t p out).2.2.1
  | 0, c, h => absurd (flat_pos c) (by omega)
  | n + 1, .node x ks, h => fun t p out => by
    simp only [Tr.flat, List.length_cons] at h
    have hL : ∀ (l : List Tr), (∀ c ∈ l, c.flat.length ≤ n) → ∀ (T : TypeM) (m : Int) (k : Nat) (p : Int) (out : List Int), (Tr.walk.walkL ts T m l k p out).2.2.1 = 0 ∨ 110 ≤ (Tr.walk.walkL ts T m l k p out).2.2.1 := by
      intro l
      induction l with
      | nil => intro _ _ _ _ _ _; exact .inl rfl
      | cons c cs ih =>
        intro hc T m k p out
        rw [Tr.walk.walkL]
        split
        · exact walk_big n c (hc c (.head _)) _ _ _
        · exact ih (fun d hd => hc d (.tail _ hd)) _ _ _ _ _
    rw [Tr.walk]
    split
    · exact fitsF_big _ _
    · exact hL ks (fun c hc => by have := flatL_mem hc; omega) _ _ _ _ _
theorem chkL_40 : ∀ (l : List NodeM) (w i : Int), (chkL l w i).1 = 0 ∨ (chkL l w i).1 = 40
  | [], w, i => by unfold chkL; split <;> simp
  | x :: l, w, i => by
    unfold chkL
    split
    · exact .inr rfl
    · exact chkL_40 l _ _
theorem lens_spec {ts : List TypeM} {rs : List RootM} {V : List NodeM} (h0 : (checkF ts rs).1 = 0) (hv : ∀ x ∈ V, nodeOK x) (t : Nat) (ht : t < ts.length) :
    (∃ c : Tr, c.typed ts t ∧ c.flat = V ∧ lensF ts rs t V = ((c.vals ts (exts ts) t).2, 0)) ∨ (lensF ts rs t V = ([], 40) ∧ ∀ c : Tr, ((chkN V).1 = 0 → c.flat = V ∧ c.ok) → (typesF ts rs t V c).2.1 ≠ 0 ∧ (typesF ts rs t V c).2.1 ≠ 3) := by
  have hr := check_right h0
  unfold lensF
  rw [if_neg (by omega), if_neg (by omega), Int.toNat_natCast]
  by_cases hw : (valW ts (exts ts) V ts.length t []).2.1 = true ∧ (valW ts (exts ts) V ts.length t []).2.2.length = V.length
  · rw [if_pos hw]
    obtain ⟨c, post, h1, h2, h3⟩ := val_conv (X := exts ts) (V := V) hr ts.length t ht ht [] hw.1
    have h4 := hw.2
    rw [h3] at h4 ⊢
    simp only [List.nil_append, List.length_nil, List.drop_zero] at h2 h4 ⊢
    rw [vals_len _ c (Nat.le_refl _) t] at h4
    refine .inl ⟨c, h1, ?_, rfl⟩
    have : post = [] := List.eq_nil_of_length_eq_zero (by rw [h2, List.length_append] at h4; omega)
    rw [h2, this, List.append_nil]
  · rw [if_neg hw]
    refine .inr ⟨rfl, fun c hc => ?_⟩
    unfold typesF
    rw [if_neg (by omega), if_neg (by omega), Int.toNat_natCast]
    by_cases hch : (chkN V).1 = 0
    · obtain ⟨g1, g2⟩ := hc hch
      rw [if_neg (by omega)]
      simp only
      rcases walk_big (ts := ts) _ c (Nat.le_refl _) t 0 [] with h | h
      · exfalso
        have hty := walk_typed hr _ c (Nat.le_refl _) g2 t ht 0 [] h
        obtain ⟨l, n, e1, e2, _⟩ := typed_lens h0 c g1 hv t hty
        unfold lensF at e1
        rw [if_neg (by omega), if_neg (by omega), Int.toNat_natCast, if_neg hw] at e1
        cases e1
      · omega
    · rw [if_pos hch]
      simp only
      rcases chkL_40 V 1 0 with h | h
      · exact absurd h hch
      · show (chkN V).1 ≠ 0 ∧ (chkN V).1 ≠ 3
        unfold chkN
        rw [h]; decide
theorem rcheck10_any (ts : List TypeM) (rs : List RootM) (hts : ts.length ≤ 1000000000) (hrs : rs.length ≤ 1000000000) (hp : ∀ t ∈ ts, t.parts.length ≤ 1000000000) (hg : ∀ t ∈ ts, ∀ p ∈ t.parts, I64 p.tag) (t : Int) (ht : I64 t) (V : List NodeM) (hV : V.length ≤ 1000000000) (hv : ∀ x ∈ V, nodeOK x)
    (c : Tr) (hc : (chkN V).1 = 0 → c.flat = V ∧ c.ok) :
    PCall Try.prog 52 [vSch ts rs, vI t, .lst 3 (encNs V)] (fun r => r = .agg [vI (typesF ts rs t V c).2.1, vI (typesF ts rs t V c).2.2]) := by
  refine go_fn (tyOf_ok _) Try.func52 rfl rfl (by rw [Try.results52]) Try.ntmps52 rfl fun E => ?_
  have h := Types_any ts rs hts hrs hp hg t ht V hV hv c hc
  generalize typesF ts rs t V c = q at *
  unfold vSch at h
  (repeat' (first
    | exact trivial
    | (with_reducible first | refine awA ?_ | refine awB ?_ | refine awC ?_ | refine awD ?_ | refine awE ?_ | refine awF ?_ | refine awG ?_ | refine awH ?_ | refine awI ?_ | refine awJ ?_ | refine awK ?_ | refine awL ?_ | refine awM (by decide) ?_)
    | ((with_reducible first | refine awN (tyOf_ok _) [] ?_ | refine awO (tyOf_ok _) [] ?_ | refine awP (tyOf_ok _) [] ?_ | refine awQ ?_ | refine awR ?_ | refine awS ?_); intro r hr; simp only [go_sem, Nat.reduceBEq, Nat.reduceBneDiff, Nat.reduceLT, Nat.reduceLeDiff, Nat.reduceAdd, Nat.reduceMul, Nat.reduceSub, Nat.reduceEqDiff, reduceCtorEq, vSch] at hr; subst hr; (first | refine caC (h) rfl ?_ ?_ ?_ | refine awV ?_ ?_ | refine awW ?_ ?_ | refine endK ?_ ?_ | (refine condK (fun h => ?_) (fun h => ?_) <;> (try simp only [go_sem, reduceCtorEq] at h) <;> (try (exfalso; omega))))) | fail)) <;> (try omega)
  exact rfl
/-- the tree of nodes, if they are one's -/
theorem a_tree (V : List NodeM) : ∃ c : Tr, (chkN V).1 = 0 → c.flat = V ∧ c.ok := by
  by_cases h : (chkN V).1 = 0
  · obtain ⟨c, h1, h2⟩ := chk_tree h
    exact ⟨c, fun _ => ⟨h1, h2⟩⟩
  · exact ⟨.node ⟨0, 0, 0⟩ [], fun h' => absurd h' h⟩
theorem lengths10_G (ts : List TypeM) (rs : List RootM) (hts : ts.length ≤ 1000000000) (hrs : rs.length ≤ 1000000000) (hp : ∀ t ∈ ts, t.parts.length ≤ 1000000000) (hg : ∀ t ∈ ts, ∀ p ∈ t.parts, I64 p.tag) (t : Int) (ht : I64 t) (V : List NodeM) (hV : V.length ≤ 1000000000) (hv : ∀ x ∈ V, nodeOK x) :
    GCall Try.prog 30 [vSch ts rs, vI t, .lst 3 (encNs V)] [] (.tup [.ref 3 1 32 0 (lensF ts rs t V).1.length, vI (lensF ts rs t V).2]) (obI 32 (lensF ts rs t V).1) := by
  refine go_fnG (tyOf_ok _) Try.func30 rfl rfl (by rw [Try.results30]) Try.ntmps30 rfl fun E => ?_
  have hck := rcheck_any ts rs hts hrs hp
  unfold vF vSch at hck
  obtain ⟨c0, hc0⟩ := a_tree V
  have hch := rcheck10_any ts rs hts hrs hp hg t ht V hV hv c0 hc0
  unfold vSch at hch
  by_cases h0 : (checkF ts rs).1 = 0
  case neg =>
    have e1 : ((checkF ts rs).1 = 0) = False := eq_false h0
    have ht1 : typesF ts rs t V c0 = ([], (checkF ts rs).1, (checkF ts rs).2) := by unfold typesF; rw [if_pos h0]
    rw [ht1] at hch
    rw [lensF, if_pos h0]
    simp only at hch ⊢
    generalize checkF ts rs = C at *
    (repeat' (first
    | exact trivial
    | (with_reducible first | refine awA ?_ | refine awB ?_ | refine awC ?_ | refine awD ?_ | refine awE ?_ | refine awF ?_ | refine awG ?_ | refine awH ?_ | refine awI ?_ | refine awJ ?_ | refine awK ?_ | refine awL ?_ | refine awM (by decide) ?_)
    | ((with_reducible first | refine awN (tyOf_ok _) [] ?_ | refine awO (tyOf_ok _) [] ?_ | refine awP (tyOf_ok _) [] ?_ | refine awQ ?_ | refine awR ?_ | refine awS ?_ | refine awT ?_ | refine awU ?_); intro r hr; simp only [go_sem, Nat.reduceBEq, Nat.reduceBneDiff, Nat.reduceLT, Nat.reduceLeDiff, Nat.reduceAdd, Nat.reduceMul, Nat.reduceSub, Nat.reduceEqDiff, reduceCtorEq, vSch, e1, obI] at hr; subst hr; (first | refine caA (fun _ => hch) rfl ?_ ?_ ?_ | refine caA (fun _ => hck) rfl ?_ ?_ ?_ | refine caA (fun _ => num_any _) rfl ?_ ?_ ?_ | refine awV ?_ ?_ | refine awW ?_ ?_ | refine endK ?_ ?_ | refine endGK ?_ ?_ ?_ | (refine condK (fun h => ?_) (fun h => ?_) <;> (try simp only [go_sem, reduceCtorEq] at h) <;> (try (exfalso; omega))))) | fail)) <;> (try omega)
    all_goals first | exact up_nI _ _ | exact obUp_row0 obUp_nil
  rw [h0] at hck
  generalize (checkF ts rs).2 = C2 at hck
  by_cases h1 : t < 0 ∨ (ts.length : Int) ≤ t
  · have ht1 : typesF ts rs t V c0 = ([], 3, 0) := by unfold typesF; rw [if_neg (by omega), if_pos h1]
    rw [ht1] at hch
    rw [lensF, if_neg (by omega), if_pos h1]
    simp only at hch ⊢
    (repeat' (first
    | exact trivial
    | (with_reducible first | refine awA ?_ | refine awB ?_ | refine awC ?_ | refine awD ?_ | refine awE ?_ | refine awF ?_ | refine awG ?_ | refine awH ?_ | refine awI ?_ | refine awJ ?_ | refine awK ?_ | refine awL ?_ | refine awM (by decide) ?_)
    | ((with_reducible first | refine awN (tyOf_ok _) [] ?_ | refine awO (tyOf_ok _) [] ?_ | refine awP (tyOf_ok _) [] ?_ | refine awQ ?_ | refine awR ?_ | refine awS ?_ | refine awT ?_ | refine awU ?_); intro r hr; simp only [go_sem, Nat.reduceBEq, Nat.reduceBneDiff, Nat.reduceLT, Nat.reduceLeDiff, Nat.reduceAdd, Nat.reduceMul, Nat.reduceSub, Nat.reduceEqDiff, reduceCtorEq, vSch, obI] at hr; subst hr; (first | refine caA (fun _ => hch) rfl ?_ ?_ ?_ | refine caA (fun _ => hck) rfl ?_ ?_ ?_ | refine caA (fun _ => num_any _) rfl ?_ ?_ ?_ | refine awV ?_ ?_ | refine awW ?_ ?_ | refine endK ?_ ?_ | refine endGK ?_ ?_ ?_ | (refine condK (fun h => ?_) (fun h => ?_) <;> (try simp only [go_sem, reduceCtorEq] at h) <;> (try (exfalso; omega))))) | fail)) <;> (try omega)
    all_goals first | exact up_nI _ _ | exact obUp_row0 obUp_nil
  obtain ⟨tn, rfl⟩ : ∃ tn : Nat, t = tn := ⟨t.toNat, by omega⟩
  rcases lens_spec (rs := rs) h0 hv tn (by omega) with ⟨c, hc1, hc2, hc3⟩ | ⟨hl, hT⟩
  · have hok := typed_ok _ c (Nat.le_refl _) tn hc1
    have hch := rcheck10_any ts rs hts hrs hp hg tn ht V hV hv c fun _ => ⟨hc2, hok⟩
    have hcn := ok_chkN hok
    rw [hc2] at hcn
    have ht1 : (typesF ts rs tn V c).2 = (0, 0) := by
      unfold typesF
      rw [if_neg (by omega), if_neg h1, if_neg (by rw [hcn]; decide), Int.toNat_natCast, typed_walk _ c (Nat.le_refl _) tn hc1]
    rw [ht1] at hch
    unfold vSch at hch
    have hR := rlens_G ts rs hts hrs hp hg h0 tn V hV hv c hc1 hc2
    have hvl := vals_len (ts := ts) (X := exts ts) _ c (Nat.le_refl _) tn
    rw [hc2] at hvl
    unfold vSch at hR
    rw [hc3]
    simp only
    generalize (c.vals ts (exts ts) tn).2 = L at *
    (repeat' (first
    | exact trivial
    | (with_reducible first | refine awA ?_ | refine awB ?_ | refine awC ?_ | refine awD ?_ | refine awE ?_ | refine awF ?_ | refine awG ?_ | refine awH ?_ | refine awI ?_ | refine awJ ?_ | refine awK ?_ | refine awL ?_ | refine awM (by decide) ?_)
    | ((with_reducible first | refine awN (tyOf_ok _) [] ?_ | refine awO (tyOf_ok _) [] ?_ | refine awP (tyOf_ok _) [] ?_ | refine awQ ?_ | refine awR ?_ | refine awS ?_ | refine awT ?_ | refine awU ?_); intro r hr; simp only [go_sem, Nat.reduceBEq, Nat.reduceBneDiff, Nat.reduceLT, Nat.reduceLeDiff, Nat.reduceAdd, Nat.reduceMul, Nat.reduceSub, Nat.reduceEqDiff, reduceCtorEq, vSch, obI] at hr; subst hr; (first | refine caA (fun _ => hch) rfl ?_ ?_ ?_ | refine caA (fun _ => hck) rfl ?_ ?_ ?_ | refine caA (fun _ => num_any _) rfl ?_ ?_ ?_ | refine awV ?_ ?_ | refine awW ?_ ?_ | refine endK ?_ ?_ | refine endGK ?_ ?_ ?_ | (refine condK (fun h => ?_) (fun h => ?_) <;> (try simp only [go_sem, reduceCtorEq] at h) <;> (try (exfalso; omega)))))
    | (refine go_callGE [] [(20, 32)] [32] [] ?_; intro r hr; simp only [go_sem, Nat.reduceBEq, Nat.reduceBneDiff, Nat.reduceLT, Nat.reduceLeDiff, Nat.reduceAdd, Nat.reduceMul, Nat.reduceSub, Nat.reduceEqDiff, reduceCtorEq, vSch, obI] at hr; subst hr; refine callGK (hR) rfl rfl (by first | exact .inl rfl | exact .inr rfl) ?_ (.inl rfl) ?_) | fail)) <;> (try omega)
    · rw [hvl]; exact AV.up_rfl _
    · exact obUp_cons rfl obUp_nil
  · have hch := hT c0 hc0
    have hch2 := rcheck10_any ts rs hts hrs hp hg tn ht V hV hv c0 hc0
    generalize typesF ts rs tn V c0 = q at *
    obtain ⟨_, e, a⟩ := q
    simp only at hch hch2
    have e1 : (e = 0) = False := eq_false hch.1
    have e2 : (e = 3) = False := eq_false hch.2
    unfold vSch at hch2
    rw [hl]
    (repeat' (first
    | exact trivial
    | (with_reducible first | refine awA ?_ | refine awB ?_ | refine awC ?_ | refine awD ?_ | refine awE ?_ | refine awF ?_ | refine awG ?_ | refine awH ?_ | refine awI ?_ | refine awJ ?_ | refine awK ?_ | refine awL ?_ | refine awM (by decide) ?_)
    | ((with_reducible first | refine awN (tyOf_ok _) [] ?_ | refine awO (tyOf_ok _) [] ?_ | refine awP (tyOf_ok _) [] ?_ | refine awQ ?_ | refine awR ?_ | refine awS ?_ | refine awT ?_ | refine awU ?_); intro r hr; simp only [go_sem, Nat.reduceBEq, Nat.reduceBneDiff, Nat.reduceLT, Nat.reduceLeDiff, Nat.reduceAdd, Nat.reduceMul, Nat.reduceSub, Nat.reduceEqDiff, reduceCtorEq, vSch, obI, e1, e2] at hr; subst hr; (first | refine caA (fun _ => hch2) rfl ?_ ?_ ?_ | refine caA (fun _ => hck) rfl ?_ ?_ ?_ | refine caA (fun _ => num_any _) rfl ?_ ?_ ?_ | refine awV ?_ ?_ | refine awW ?_ ?_ | refine endK ?_ ?_ | refine endGK ?_ ?_ ?_ | (refine condK (fun h => ?_) (fun h => ?_) <;> (try simp only [go_sem, reduceCtorEq] at h) <;> (try (exfalso; omega))))) | fail)) <;> (try omega)
    all_goals first | exact up_nI _ _ | exact obUp_row0 obUp_nil
end Go.Proofs.Ytfgacgpicfknpaa
end
section
namespace Go.Proofs.Ytfgacgpicfknpaa
open Go.RowKit
set_option maxRecDepth 100000
set_option maxHeartbeats 8000000
/-! The extents of a schema that is lent, asked twice. -/
/-- written over from the front -/
def ovr {α : Type} (z : α) (xs : List α) (i : Nat) : List α := List.replicate i z ++ xs.drop i
theorem ovr_0 {α : Type} (z : α) (xs : List α) : ovr z xs 0 = xs := by simp [ovr]
theorem ovr_end {α : Type} (z : α) (xs : List α) : ovr z xs xs.length = List.replicate xs.length z := by simp [ovr]
theorem ovr_len {α : Type} (z : α) {xs : List α} {i : Nat} (h : i ≤ xs.length) : (ovr z xs i).length = xs.length := by simp [ovr]; omega
theorem ovr_get {α : Type} (z : α) {xs : List α} {i : Nat} (h : i < xs.length) : (ovr z xs i)[i]? = some xs[i] := by
  rw [ovr, List.getElem?_append_right (by simp), List.length_replicate, Nat.sub_self, List.getElem?_drop]; simp [h]
theorem ovr_set {α : Type} (z : α) {xs : List α} {i : Nat} (h : i < xs.length) : (ovr z xs i).set i z = ovr z xs (i + 1) := by
  apply List.ext_getElem?
  intro j
  rw [List.getElem?_set, ovr_len z (by omega)]
  by_cases hj : i = j
  · subst hj
    rw [if_pos rfl, if_pos h, ovr, List.getElem?_append_left (by simp), List.getElem?_replicate, if_pos (by omega)]
  · rw [if_neg hj, ovr, ovr, List.getElem?_append, List.getElem?_append, List.length_replicate, List.length_replicate, List.getElem?_replicate, List.getElem?_replicate, List.getElem?_drop, List.getElem?_drop]
    by_cases h1 : j < i
    · rw [if_pos h1, if_pos h1, if_pos (by omega), if_pos (by omega)]
    · rw [if_neg h1, if_neg (by omega)]
      congr 1
      omega
def mE : List AV := [vB false, vI 0, vI 0, vI (-1)]
theorem encEs_nm (l : List ExtM) : ∀ cs ∈ encEs l, ∀ u ∈ cs, ∃ x, u = .v x := by
  intro cs hcs u hu
  obtain ⟨e, _, rfl⟩ := List.mem_map.1 hcs
  simp only [encE, List.mem_cons, List.not_mem_nil, or_false] at hu
  rcases hu with rfl | rfl | rfl | rfl <;> exact ⟨_, rfl⟩
theorem rOf_G (ts : List TypeM) (rs : List RootM) (hts : ts.length ≤ 1000000000) (hrs : rs.length ≤ 1000000000) (hp : ∀ t ∈ ts, t.parts.length ≤ 1000000000) :
    GCall Try.prog 42 [vSch ts rs] [] (.tup [.ref 57 4 8000 0 (sizesF ts rs).1.length, vI (sizesF ts rs).2]) [(8000, .row 57 4 (encEs (sizesF ts rs).1))] := by
  refine go_fnG (tyOf_ok _) Try.func42 rfl rfl (by rw [Try.results42]) Try.ntmps42 rfl fun E => ?_
  have hck := rcheck_any ts rs hts hrs hp
  unfold vF at hck
  by_cases h0 : (checkF ts rs).1 = 0
  case neg =>
    rw [checkF_ne' h0]
    have e1 : ((checkF ts rs).1 = 0) = False := eq_false h0
    generalize checkF ts rs = C at *
    (repeat' (first
    | exact trivial
    | (with_reducible first | refine awA ?_ | refine awB ?_ | refine awC ?_ | refine awD ?_ | refine awE ?_ | refine awF ?_ | refine awG ?_ | refine awH ?_ | refine awI ?_ | refine awJ ?_ | refine awK ?_ | refine awL ?_ | refine awM (by decide) ?_)
    | (refine aw_draw (id := 3) (t := (.node [0, 1, 2, 3] [])) (drR [4] [] []) mixed (by kernel_rfl) (by kernel_rfl) (fun _ _ h => h) ?_)
    | (refine at_done (by simp only [List.filterMap_cons, List.filterMap_nil, List.getElem?_toArray, List.getElem?_cons_zero, List.getElem?_cons_succ]; exact rfl) ?_) | (refine at_alt (by simp only [List.filterMap_cons, List.filterMap_nil, List.getElem?_toArray, List.getElem?_cons_zero, List.getElem?_cons_succ]; exact rfl) ?_) | refine qalt_normal ?_ | refine ats_cons ?_ ?_ | exact ats_nil
    | ((with_reducible first | refine awN (tyOf_ok _) [] ?_ | refine awO (tyOf_ok _) [] ?_ | refine awP (tyOf_ok _) [] ?_ | refine awQ ?_ | refine awR ?_ | refine awS ?_ | refine awT ?_ | refine awU ?_); intro r hr; simp only [go_sem, Nat.reduceBEq, Nat.reduceBneDiff, Nat.reduceLT, Nat.reduceLeDiff, Nat.reduceAdd, Nat.reduceMul, Nat.reduceSub, Nat.reduceEqDiff, reduceCtorEq, vSch, e1] at hr; subst hr; (first | refine caA (fun _ => hck) rfl ?_ ?_ ?_ | refine awV ?_ ?_ | refine awW ?_ ?_ | refine endK ?_ ?_ | refine endGK ?_ ?_ ?_ | (refine condK (fun h => ?_) (fun h => ?_) <;> (try simp only [go_sem, reduceCtorEq] at h) <;> (try (exfalso; omega))))) | fail)) <;> (try omega)
    · exact AV.up_tup (AV.up_cons (AV.up_nilref _ _ _ _) (AV.up_cons (AV.up_rfl _) AV.up_nilL))
    · exact obUp_row0 obUp_nil
  have hr := check_right h0
  have hD := exts_D h0 hts
  rw [checkF_eq' h0]
  rw [h0] at hck
  generalize (checkF ts rs).2 = C2 at *
  (repeat' (first
    | exact trivial
    | (with_reducible first | refine awA ?_ | refine awB ?_ | refine awC ?_ | refine awD ?_ | refine awE ?_ | refine awF ?_ | refine awG ?_ | refine awH ?_ | refine awI ?_ | refine awJ ?_ | refine awK ?_ | refine awL ?_ | refine awM (by decide) ?_)
    | (refine aw_draw (id := 3) (t := (.node [0, 1, 2, 3] [])) (drR [4] [] []) mixed (by kernel_rfl) (by kernel_rfl) (fun _ _ h => h) ?_)
    | (refine at_done (by simp only [List.filterMap_cons, List.filterMap_nil, List.getElem?_toArray, List.getElem?_cons_zero, List.getElem?_cons_succ]; exact rfl) ?_) | (refine at_alt (by simp only [List.filterMap_cons, List.filterMap_nil, List.getElem?_toArray, List.getElem?_cons_zero, List.getElem?_cons_succ]; exact rfl) ?_) | refine qalt_normal ?_ | refine ats_cons ?_ ?_ | exact ats_nil
    | ((with_reducible first | refine awN (tyOf_ok _) [] ?_ | refine awO (tyOf_ok _) [] ?_ | refine awP (tyOf_ok _) [] ?_ | refine awQ ?_ | refine awR ?_ | refine awS ?_ | refine awT ?_ | refine awU ?_); intro r hr; simp only [go_sem, Nat.reduceBEq, Nat.reduceBneDiff, Nat.reduceLT, Nat.reduceLeDiff, Nat.reduceAdd, Nat.reduceMul, Nat.reduceSub, Nat.reduceEqDiff, reduceCtorEq, vSch] at hr; subst hr; (first | refine caA (fun _ => hck) rfl ?_ ?_ ?_ | refine awV ?_ ?_ | refine awW ?_ ?_ | refine endK ?_ ?_ | refine endGK ?_ ?_ ?_ | (refine condK (fun h => ?_) (fun h => ?_) <;> (try simp only [go_sem, reduceCtorEq] at h) <;> (try (exfalso; omega))))) | fail)) <;> (try omega)
  refine aw_nilrow 5 57 4 8000 (.inl (by decide)) (by simp only [go_sem, Nat.reduceBEq, Nat.reduceBneDiff, Nat.reduceLT, Nat.reduceLeDiff, Nat.reduceAdd, Nat.reduceMul, Nat.reduceSub, Nat.reduceEqDiff, reduceCtorEq]) ?_
  refine go_loop [1, 5, 6] [1, 8000] (fun k : Nat => ⟨[(1, true, .ptr 1 1 0 0), (5, true, .ref 57 4 8000 0 k), (6, true, vI k)], [(1, .var [.lst 4 (encTs ts), .lst 2 (encRs rs)]), (8000, .row 57 4 (encEs (exts (ts.take k))))]⟩)
    (fun k => k ≤ ts.length) (fun k => ts.length - k) 0 (by simp only [AState.nilrow, go_sem, Nat.reduceBEq, Nat.reduceBneDiff, Nat.reduceLT, Nat.reduceLeDiff, Nat.reduceAdd, Nat.reduceMul, Nat.reduceSub, Nat.reduceEqDiff, reduceCtorEq] <;> exact rfl) (Nat.zero_le _) ?_
  intro k hk
  have hwk := wrap_i64 (n := (k : Int) + 1) (by omega)
  have hEl := exts_len ts k hk
  by_cases hlt : k < ts.length
  · have f1 : ((k : Int) < ts.length) = True := eq_true (by omega)
    have g1 := encTs_get hlt
    have hnext := exts_succ hlt
    have hc := rone_any ts[k] (exts (ts.take k)) (by rw [hEl]; exact hr k hlt) (hD k hk)
    unfold vE at hc
    generalize exts (ts.take k) = L at *
    have happ : encEs L ++ [[vB (extM ts[k] L).fixed, vI (extM ts[k] L).least, vI (extM ts[k] L).most, vI (extM ts[k] L).depth]] = encEs (exts (ts.take (k + 1))) := by rw [hnext]; simp [encEs, encE]
    have hlL : (exts (ts.take (k + 1))).length = k + 1 := by rw [hnext]; simp [hEl]
    have htk : (encEs L).take k = encEs L := take_len (by rw [encEs_len]; omega)
    (repeat' (first
    | exact trivial
    | (with_reducible first | refine awA ?_ | refine awB ?_ | refine awC ?_ | refine awD ?_ | refine awE ?_ | refine awF ?_ | refine awG ?_ | refine awH ?_ | refine awI ?_ | refine awJ ?_ | refine awK ?_ | refine awL ?_ | refine awM (by decide) ?_)
    | (refine aw_draw (id := 3) (t := (.node [0, 1, 2, 3] [])) (drR [4] [] []) mixed (by kernel_rfl) (by kernel_rfl) (fun _ _ h => h) ?_)
    | (refine at_done (by simp only [List.filterMap_cons, List.filterMap_nil, List.getElem?_toArray, List.getElem?_cons_zero, List.getElem?_cons_succ]; exact rfl) ?_) | (refine at_alt (by simp only [List.filterMap_cons, List.filterMap_nil, List.getElem?_toArray, List.getElem?_cons_zero, List.getElem?_cons_succ]; exact rfl) ?_) | refine qalt_normal ?_ | refine ats_cons ?_ ?_ | exact ats_nil
    | ((with_reducible first | refine awN (tyOf_ok _) [] ?_ | refine awO (tyOf_ok _) [] ?_ | refine awP (tyOf_ok _) [] ?_ | refine awQ ?_ | refine awR ?_ | refine awS ?_ | refine awT ?_ | refine awU ?_); intro r hr; simp only [go_sem, Nat.reduceBEq, Nat.reduceBneDiff, Nat.reduceLT, Nat.reduceLeDiff, Nat.reduceAdd, Nat.reduceMul, Nat.reduceSub, Nat.reduceEqDiff, reduceCtorEq, encTs_len, encEs_len, hwk, f1, g1, happ, htk, hlL] at hr; subst hr; (first | refine caA (fun _ => hc) rfl ?_ ?_ ?_ | refine awV ?_ ?_ | refine awW ?_ ?_ | refine endK ?_ ?_ | refine endGK ?_ ?_ ?_ | (refine condK (fun h => ?_) (fun h => ?_) <;> (try simp only [go_sem, reduceCtorEq] at h) <;> (try (exfalso; omega))))) | fail)) <;> (try omega)
    exact ⟨k + 1, by simp only [go_sem, Nat.reduceBEq, Nat.reduceBneDiff, Nat.reduceLT, Nat.reduceLeDiff, Nat.reduceAdd, Nat.reduceMul, Nat.reduceSub, Nat.reduceEqDiff, reduceCtorEq] <;> exact rfl, hlt, by omega⟩
  · have f1 : ((k : Int) < ts.length) = False := eq_false (by omega)
    have hke : ts.take k = ts := take_len (by omega)
    rw [hke] at hEl ⊢
    (repeat' (first
    | exact trivial
    | (with_reducible first | refine awA ?_ | refine awB ?_ | refine awC ?_ | refine awD ?_ | refine awE ?_ | refine awF ?_ | refine awG ?_ | refine awH ?_ | refine awI ?_ | refine awJ ?_ | refine awK ?_ | refine awL ?_ | refine awM (by decide) ?_)
    | (refine aw_draw (id := 3) (t := (.node [0, 1, 2, 3] [])) (drR [4] [] []) mixed (by kernel_rfl) (by kernel_rfl) (fun _ _ h => h) ?_)
    | (refine at_done (by simp only [List.filterMap_cons, List.filterMap_nil, List.getElem?_toArray, List.getElem?_cons_zero, List.getElem?_cons_succ]; exact rfl) ?_) | (refine at_alt (by simp only [List.filterMap_cons, List.filterMap_nil, List.getElem?_toArray, List.getElem?_cons_zero, List.getElem?_cons_succ]; exact rfl) ?_) | refine qalt_normal ?_ | refine ats_cons ?_ ?_ | exact ats_nil
    | ((with_reducible first | refine awN (tyOf_ok _) [] ?_ | refine awO (tyOf_ok _) [] ?_ | refine awP (tyOf_ok _) [] ?_ | refine awQ ?_ | refine awR ?_ | refine awS ?_ | refine awT ?_ | refine awU ?_); intro r hr; simp only [go_sem, Nat.reduceBEq, Nat.reduceBneDiff, Nat.reduceLT, Nat.reduceLeDiff, Nat.reduceAdd, Nat.reduceMul, Nat.reduceSub, Nat.reduceEqDiff, reduceCtorEq, encTs_len, f1] at hr; subst hr; (first | refine awV ?_ ?_ | refine awW ?_ ?_ | refine endK ?_ ?_ | refine endGK ?_ ?_ ?_ | (refine condK (fun h => ?_) (fun h => ?_) <;> (try simp only [go_sem, reduceCtorEq] at h) <;> (try (exfalso; omega))))) | fail)) <;> (try omega)
    · rw [hEl]; exact AV.up_rfl _
    · exact obUp_cons rfl obUp_nil
theorem extents10_G (ts : List TypeM) (rs : List RootM) (hts : ts.length ≤ 1000000000) (hrs : rs.length ≤ 1000000000) (hp : ∀ t ∈ ts, t.parts.length ≤ 1000000000) :
    GCall Try.prog 26 [lentV 10000 10001 ts rs, sV 10002 10003 ts rs] (lentO 10000 10001 ts rs ++ sO 10002 10003 ts rs) (vB true) (lentO 10000 10001 ts rs ++ sO 10002 10003 ts rs) := by
  refine go_fnG (tyOf_ok _) Try.func26 rfl rfl (by rw [Try.results26]) Try.ntmps26 rfl fun E => ?_
  have hO := GCall.weak (sizeOf_G ts rs hts hrs hp) (as' := [.agg [.lst 4 (encTxs ts), .lst 2 (encRs rs)]]) (ob' := []) (UpL.up (.cons (up_schx ts rs) .nil)) obUp_nil
  have hRO := rOf_G ts rs hts hrs hp
  have hrk : (encRs rs).take rs.length = encRs rs := take_len (by rw [encRs_len]; exact Nat.le_refl _)
  have htk : (encTs ts).take ts.length = encTs ts := take_len (by rw [encTs_len]; exact Nat.le_refl _)
  have hK := kept10_G ts rs hts hrs hp
  have hT : (encTxs ts ++ [mT]).take ts.length = encTxs ts := take_app _ _ (by rw [encTxs_len])
  have hR : (encRs rs ++ [mR]).take rs.length = encRs rs := take_app _ _ (by rw [encRs_len])
  have hXl : (sizesF ts rs).1.length ≤ 1000000000 := by
    unfold sizesF
    split
    · exact Nat.zero_le _
    · have := exts_len ts ts.length (Nat.le_refl _)
      rw [List.take_length] at this
      simp only [this]; exact hts
  generalize sizesF ts rs = O at *
  obtain ⟨X, e⟩ := O
  simp only at hO hRO hXl
  have hS := sameExt_refl X hXl
  have htX : (encEs X).take X.length = encEs X := take_len (by rw [encEs_len]; exact Nat.le_refl _)
  unfold lentV lentO sV sO at hK
  unfold vSch at hRO
  have hlT : ts.length ≤ (encTxs ts ++ [mT]).length ∧ rs.length ≤ (encRs rs ++ [mR]).length := by simp [encTxs, encRs]
  (repeat' (first
    | exact trivial
    | (with_reducible first | refine awA ?_ | refine awB ?_ | refine awC ?_ | refine awD ?_ | refine awE ?_ | refine awF ?_ | refine awG ?_ | refine awH ?_ | refine awI ?_ | refine awJ ?_ | refine awK ?_ | refine awL ?_ | refine awM (by decide) ?_)
    | ((with_reducible first | refine awN (tyOf_ok _) [] ?_ | refine awO (tyOf_ok _) [] ?_ | refine awP (tyOf_ok _) [] ?_ | refine awQ ?_ | refine awR ?_ | refine awS ?_ | refine awT ?_ | refine awU ?_); intro r hr; simp only [go_sem, Nat.reduceBEq, Nat.reduceBneDiff, Nat.reduceLT, Nat.reduceLeDiff, Nat.reduceAdd, Nat.reduceMul, Nat.reduceSub, Nat.reduceEqDiff, reduceCtorEq, lentV, lentO, sV, sO, hT, hR, htX, hrk, htk, Int.cast_ofNat_Int, Int.reduceToNat, Int.reduceEq, Int.reduceLT, Int.reduceLE, Int.reduceNe, ne_eq, not_true_eq_false, decide_false, Bool.not_true] at hr; subst hr; (first | refine caA (fun _ => num_any _) rfl ?_ ?_ ?_ | refine caA (fun _ => hS) rfl ?_ ?_ ?_ | refine awV ?_ ?_ | refine awW ?_ ?_ | refine endK ?_ ?_ | refine endGK ?_ ?_ ?_ | (refine condK (fun h => ?_) (fun h => ?_) <;> (try simp only [go_sem, reduceCtorEq] at h) <;> (try (exfalso; omega)))))
    | (refine go_callGd 15 rfl [] [(5, 15)] [15] [] (by simp only [go_sem, Nat.reduceBEq, Nat.reduceBneDiff, Nat.reduceLT, Nat.reduceLeDiff, Nat.reduceAdd, Nat.reduceMul, Nat.reduceSub, Nat.reduceEqDiff, reduceCtorEq, lentV, lentO, sV, sO, hT, hR, htX, hrk, htk, Int.cast_ofNat_Int, Int.reduceToNat, Int.reduceEq, Int.reduceLT, Int.reduceLE, Int.reduceNe, ne_eq, not_true_eq_false, decide_false, Bool.not_true]; exact rfl) ?_ rfl rfl (by first | exact .inl rfl | exact .inr rfl) (by simp only [go_sem, Nat.reduceBEq, Nat.reduceBneDiff, Nat.reduceLT, Nat.reduceLeDiff, Nat.reduceAdd, Nat.reduceMul, Nat.reduceSub, Nat.reduceEqDiff, reduceCtorEq, lentV, lentO, sV, sO, hT, hR, htX, hrk, htk, Int.cast_ofNat_Int, Int.reduceToNat, Int.reduceEq, Int.reduceLT, Int.reduceLE, Int.reduceNe, ne_eq, not_true_eq_false, decide_false, Bool.not_true] <;> exact rfl) (hO) (.inr ⟨rfl, ?_⟩) ?_)
    | (refine go_callGd 20 rfl [] [(5, 20)] [20] [] (by simp only [go_sem, Nat.reduceBEq, Nat.reduceBneDiff, Nat.reduceLT, Nat.reduceLeDiff, Nat.reduceAdd, Nat.reduceMul, Nat.reduceSub, Nat.reduceEqDiff, reduceCtorEq, lentV, lentO, sV, sO, hT, hR, htX, hrk, htk, Int.cast_ofNat_Int, Int.reduceToNat, Int.reduceEq, Int.reduceLT, Int.reduceLE, Int.reduceNe, ne_eq, not_true_eq_false, decide_false, Bool.not_true]; exact rfl) ?_ rfl rfl (by first | exact .inl rfl | exact .inr rfl) (by simp only [go_sem, Nat.reduceBEq, Nat.reduceBneDiff, Nat.reduceLT, Nat.reduceLeDiff, Nat.reduceAdd, Nat.reduceMul, Nat.reduceSub, Nat.reduceEqDiff, reduceCtorEq, lentV, lentO, sV, sO, hT, hR, htX, hrk, htk, Int.cast_ofNat_Int, Int.reduceToNat, Int.reduceEq, Int.reduceLT, Int.reduceLE, Int.reduceNe, ne_eq, not_true_eq_false, decide_false, Bool.not_true] <;> exact rfl) (hO) (.inr ⟨rfl, ?_⟩) ?_)
    | (refine go_callGd 25 rfl [] [(8000, 25)] [25] [] (by simp only [go_sem, Nat.reduceBEq, Nat.reduceBneDiff, Nat.reduceLT, Nat.reduceLeDiff, Nat.reduceAdd, Nat.reduceMul, Nat.reduceSub, Nat.reduceEqDiff, reduceCtorEq, lentV, lentO, sV, sO, hT, hR, htX, hrk, htk, Int.cast_ofNat_Int, Int.reduceToNat, Int.reduceEq, Int.reduceLT, Int.reduceLE, Int.reduceNe, ne_eq, not_true_eq_false, decide_false, Bool.not_true]; exact rfl) ?_ rfl rfl (by first | exact .inl rfl | exact .inr rfl) (by simp only [go_sem, Nat.reduceBEq, Nat.reduceBneDiff, Nat.reduceLT, Nat.reduceLeDiff, Nat.reduceAdd, Nat.reduceMul, Nat.reduceSub, Nat.reduceEqDiff, reduceCtorEq, lentV, lentO, sV, sO, hT, hR, htX, hrk, htk, Int.cast_ofNat_Int, Int.reduceToNat, Int.reduceEq, Int.reduceLT, Int.reduceLE, Int.reduceNe, ne_eq, not_true_eq_false, decide_false, Bool.not_true] <;> exact rfl) (hRO) (.inr ⟨rfl, ?_⟩) ?_)
    | (refine go_callGE [(10000, 10000), (10001, 10001), (10002, 10002), (10003, 10003)] [(10000, 10000), (10001, 10001), (10002, 10002), (10003, 10003)] [] [10000, 10001, 10002, 10003] ?_; intro r hr; simp only [go_sem, Nat.reduceBEq, Nat.reduceBneDiff, Nat.reduceLT, Nat.reduceLeDiff, Nat.reduceAdd, Nat.reduceMul, Nat.reduceSub, Nat.reduceEqDiff, reduceCtorEq, lentV, lentO, sV, sO, hT, hR, htX, hrk, htk, Int.cast_ofNat_Int, Int.reduceToNat, Int.reduceEq, Int.reduceLT, Int.reduceLE, Int.reduceNe, ne_eq, not_true_eq_false, decide_false, Bool.not_true] at hr; subst hr; refine callGK (hK) rfl rfl (by first | exact .inl rfl | exact .inr rfl) ?_ (.inl rfl) ?_)
    | (exact ⟨encEs_nm _, trivial⟩)
    | (exact hlT) | fail)) <;> (try omega)
  have hel : (encEs X).length = X.length := encEs_len X
  refine go_loop [5, 7, 9, 11] [15, 20, 25, 10000, 10001, 10002, 10003] (fun i : Nat => ⟨[(5, true, .ref 57 4 15 0 X.length), (7, true, .ref 57 4 20 0 X.length), (9, true, .ref 57 4 25 0 X.length), (11, true, vI i)],
    [(15, .row 57 4 (ovr mE (encEs X) i)), (20, .row 57 4 (encEs X)), (25, .row 57 4 (encEs X)), (10000, .row 55 4 (encTxs ts ++ [mT])), (10001, .row 90 2 (encRs rs ++ [mR])), (10002, .row 55 4 (encTs ts)), (10003, .row 90 2 (encRs rs))]⟩) (fun i => i ≤ X.length) (fun i => X.length - i) 0 (by simp only [go_sem, Nat.reduceBEq, Nat.reduceBneDiff, Nat.reduceLT, Nat.reduceLeDiff, Nat.reduceAdd, Nat.reduceMul, Nat.reduceSub, Nat.reduceEqDiff, reduceCtorEq, ovr_0]; exact rfl) (Nat.zero_le _) ?_
  intro i hi
  have hw1 := wrap_i64 (n := (i : Int) + 1) (by omega)
  by_cases hlt : i < X.length
  · have e1 : ((i : Int) < X.length) = True := eq_true (by omega)
    have g1 := ovr_get mE (xs := encEs X) (i := i) (by omega)
    have g2 := ovr_set mE (xs := encEs X) (i := i) (by omega)
    have g3 := ovr_len mE (xs := encEs X) (i := i) (by omega)
    have g4 : (encEs X)[i]'(by omega) = encE X[i] := by simp [encEs]
    rw [g4] at g1
    unfold encE at g1
    have g2' : (ovr mE (encEs X) i).set i [vB false, vI 0, vI 0, vI (-1)] = ovr mE (encEs X) (i + 1) := g2
    (repeat' (first
    | exact trivial
    | (with_reducible first | refine awA ?_ | refine awB ?_ | refine awC ?_ | refine awD ?_ | refine awE ?_ | refine awF ?_ | refine awG ?_ | refine awH ?_ | refine awI ?_ | refine awJ ?_ | refine awK ?_ | refine awL ?_ | refine awM (by decide) ?_)
    | ((with_reducible first | refine awN (tyOf_ok _) [] ?_ | refine awO (tyOf_ok _) [] ?_ | refine awP (tyOf_ok _) [] ?_ | refine awQ ?_ | refine awR ?_ | refine awS ?_ | refine awT ?_ | refine awU ?_); intro r hr; simp only [go_sem, Nat.reduceBEq, Nat.reduceBneDiff, Nat.reduceLT, Nat.reduceLeDiff, Nat.reduceAdd, Nat.reduceMul, Nat.reduceSub, Nat.reduceEqDiff, reduceCtorEq, hw1, e1, g1, g2', g3, hel] at hr; subst hr; (first | refine awV ?_ ?_ | refine awW ?_ ?_ | refine endK ?_ ?_ | refine endGK ?_ ?_ ?_ | (refine condK (fun h => ?_) (fun h => ?_) <;> (try simp only [go_sem, reduceCtorEq] at h) <;> (try (exfalso; omega))))) | fail)) <;> (try omega)
    exact ⟨i + 1, by simp only [go_sem, Nat.reduceBEq, Nat.reduceBneDiff, Nat.reduceLT, Nat.reduceLeDiff, Nat.reduceAdd, Nat.reduceMul, Nat.reduceSub, Nat.reduceEqDiff, reduceCtorEq]; exact rfl, hlt, by omega⟩
  · have e1 : ((i : Int) < X.length) = False := eq_false (by omega)
    have hiX : i = (encEs X).length := by omega
    subst hiX
    rw [hel] at hw1 hlt e1
    have hoe := ovr_end mE (encEs X)
    rw [hel] at hoe
    have hl1 : (List.replicate X.length mE).length = X.length := by simp
    have hl2 : (List.replicate X.length mE ++ [mE]).length = X.length + 1 := by simp
    have htr : (List.replicate X.length mE).take X.length = List.replicate X.length mE := take_len (by simp)
    have hgl : (List.replicate X.length mE ++ [mE])[X.length]? = some [vB false, vI 0, vI 0, vI (-1)] := by rw [List.getElem?_append_right (by simp)]; simp [mE]
    have hw2 : IntKind.i64.wrap (((X.length + 1 : Nat) : Int) - 1) = X.length := by rw [wrap_i64 (by omega)]; omega
    have hz : ((X.length : Int)).toNat = X.length := by omega
    have hm : [[vB false, vI 0, vI 0, vI (-1)]] = [mE] := rfl
    (repeat' (first
    | exact trivial
    | (with_reducible first | refine awA ?_ | refine awB ?_ | refine awC ?_ | refine awD ?_ | refine awE ?_ | refine awF ?_ | refine awG ?_ | refine awH ?_ | refine awI ?_ | refine awJ ?_ | refine awK ?_ | refine awL ?_ | refine awM (by decide) ?_)
    | ((with_reducible first | refine awN (tyOf_ok _) [] ?_ | refine awO (tyOf_ok _) [] ?_ | refine awP (tyOf_ok _) [] ?_ | refine awQ ?_ | refine awR ?_ | refine awS ?_ | refine awT ?_ | refine awU ?_); intro r hr; simp only [go_sem, Nat.reduceBEq, Nat.reduceBneDiff, Nat.reduceLT, Nat.reduceLeDiff, Nat.reduceAdd, Nat.reduceMul, Nat.reduceSub, Nat.reduceEqDiff, reduceCtorEq, hw1, e1, hel, hoe, hl1, hl2, htr, hgl, hw2, hz, hm, htX, Int.cast_ofNat_Int, Int.reduceToNat, Int.reduceEq, Int.reduceLT, Int.reduceLE, Int.reduceNe, Nat.zero_add, decide_true] at hr; subst hr; (first | refine caA (fun _ => hS) rfl ?_ ?_ ?_ | refine awV ?_ ?_ | refine awW ?_ ?_ | refine endK ?_ ?_ | refine endGK ?_ ?_ ?_ | (refine condK (fun h => ?_) (fun h => ?_) <;> (try simp only [go_sem, reduceCtorEq] at h) <;> (try (exfalso; omega))))) | fail)) <;> (try omega)
    all_goals (first | exact AV.up_rfl _ | (repeat first | exact obUp_nil | refine obUp_cons rfl ?_))
end Go.Proofs.Ytfgacgpicfknpaa
end

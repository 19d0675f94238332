import Derived.Test.YtfgacgpicfknpaaP8
set_option linter.all false
section
namespace Go.Proofs.Ytfgacgpicfknpaa
open Go.RowKit
set_option maxRecDepth 100000
set_option maxHeartbeats 4000000
/-! Lengths of values: what package size computes. -/
structure NodeM where
  kind : Int
  n : Int
  kids : Int
deriving DecidableEq
def vU (n : Int) : AV := .v (.int .u64 n)
def encN (x : NodeM) : List AV := [vI x.kind, vU x.n, vI x.kids]
def encNs (l : List NodeM) : List (List AV) := l.map encN
theorem encNs_len (l : List NodeM) : (encNs l).length = l.length := by simp [encNs]
theorem encNs_get {l : List NodeM} {k : Nat} (h : k < l.length) : (encNs l)[k]? = some [vI l[k].kind, vU l[k].n, vI l[k].kids] := by simp [encNs, encN, h]
attribute [go_sem] encNs_len vU
def vN (x : NodeM) : AV := .agg [vI x.kind, vU x.n, vI x.kids]
def nodeOK (x : NodeM) : Prop := I64 x.kind ∧ I64 x.kids ∧ 0 ≤ x.n ∧ x.n < 18446744073709551616
def isN (x : NodeM) (kind kids : Int) : Bool := decide (x.kind = kind) && decide (x.kids = kids) && (decide (kind = 1) || decide (kind = 6) || decide (x.n = 0))
/-- how many bytes a varint takes, of a number that is below 128 to the f -/
def leb : Nat → Int → Int
  | 0, _ => 1
  | f + 1, n => if n < 128 then 1 else leb f (n / 128) + 1
abbrev Rec := Nat → List Int → Int × Bool × List Int
def kidsW (X : List ExtM) (rec : Rec) (t : Int) : Nat → Int → List Int → Int × Bool × List Int
  | 0, sum, ls => (sum, true, ls)
  | m + 1, sum, ls => if (rec t.toNat ls).2.1 = true then kidsW X rec t m (plusL [sum, withinM (atE X t).fixed (rec t.toNat ls).1]) (rec t.toNat ls).2.2 else (0, false, (rec t.toNat ls).2.2)
def fieldsW (X : List ExtM) (rec : Rec) : List PartM → Int → List Int → Int × Bool × List Int
  | [], sum, ls => (sum, true, ls)
  | p :: l, sum, ls => if (rec p.ty.toNat ls).2.1 = true then fieldsW X rec l (plusL [sum, withinM (atE X p.ty).fixed (rec p.ty.toNat ls).1]) (rec p.ty.toNat ls).2.2 else (0, false, (rec p.ty.toNat ls).2.2)
def one1 (r : Int × Bool × List Int) : Int × Bool × List Int := (plusL [1, r.1], r.2.1, r.2.2)
def armOf (l : List PartM) (n : Int) : Option PartM := l.find? fun p => decide (p.tag % 18446744073709551616 = n)
def armW (rec : Rec) (l : List PartM) (n : Int) (ls : List Int) : Int × Bool × List Int := match armOf l n with
  | some p => one1 (rec p.ty.toNat ls)
  | none => (0, false, ls)
def nodeW (X : List ExtM) (rec : Rec) (v : NodeM) (x : TypeM) (ls : List Int) : Int × Bool × List Int :=
  if x.kind = 1 then (x.n, isN v 1 0 && fitsB v.n x.n, ls)
  else if x.kind = 2 then (1, decide (v.kind = 2) && decide (v.kids = 0) && decide (v.n ≤ 1), ls)
  else if x.kind = 3 then (leb 10 v.n, isN v 1 0, ls)
  else if x.kind = 4 then if isN v 3 x.n = true then kidsW X rec x.elem x.n.toNat 0 ls else (0, false, ls)
  else if x.kind = 5 then if 0 ≤ v.kids ∧ v.kids ≤ x.n ∧ isN v 3 v.kids = true then kidsW X rec x.elem v.kids.toNat 0 ls else (0, false, ls)
  else if x.kind = 6 then if 0 ≤ v.kids ∧ v.kids ≤ 1 ∧ isN v 5 v.kids = true then (if v.kids = 0 then (1, true, ls) else one1 (rec x.elem.toNat ls)) else (0, false, ls)
  else if x.kind = 7 then if isN v 6 1 = true then armW rec x.parts v.n ls else (0, false, ls)
  else if isN v 4 x.parts.length = true then fieldsW X rec x.parts 0 ls else (0, false, ls)
def setL (r : Int × Bool × List Int) (k : Nat) : Int × Bool × List Int := (r.1, r.2.1, r.2.2.set k r.1)
/-- the walk through a value, as deep as f types -/
def valW (ts : List TypeM) (X : List ExtM) (V : List NodeM) : Nat → Rec
  | 0, _, ls => (0, false, ls)
  | f + 1, t, ls => match V[ls.length]? with
    | some v => setL (nodeW X (valW ts X V f) v ((ts[t]?).getD ⟨0, 0, 0, []⟩) (ls ++ [0])) ls.length
    | none => (0, false, ls)
end Go.Proofs.Ytfgacgpicfknpaa
end
section
namespace Go.Proofs.Ytfgacgpicfknpaa
open Go.RowKit
set_option maxRecDepth 100000
set_option maxHeartbeats 4000000
theorem is_any (x : NodeM) (kind kids : Int) : PCall Try.prog 92 [.agg [vI x.kind, .v (.int .u64 x.n), vI x.kids], vI kind, vI kids] (fun r => r = vB (isN x kind kids)) := by
  refine go_fn (tyOf_ok _) Try.func92 rfl rfl (by rw [Try.results92]) Try.ntmps92 rfl fun E => ?_
  (repeat' (first
    | exact trivial
    | (with_reducible first | refine aw_seq ?_ | refine aw_block ?_ | refine aw_skip ?_ | refine aw_ret ?_ | refine aw_exit ?_ | refine aseq_normal ?_ | refine aseq_ret ?_ | refine aseq_exit ?_ | refine ablk_normal ?_ | refine ablk_ret ?_ | refine ablk_hit ?_ | refine aw_region ?_ | refine go_nil ?_ | refine al_of ?_)
    | with_reducible refine ablk_miss (by decide) ?_
    | ((with_reducible refine al_id ?_); refine go_run (tyOf_ok _) [] (by simp only [go_sem, Nat.reduceBEq, Nat.reduceBneDiff, Nat.reduceLT, Nat.reduceLeDiff, Nat.reduceAdd, Nat.reduceMul, Nat.reduceSub, Nat.reduceEqDiff, reduceCtorEq]; exact rfl) ?_ ?_)
    | (refine aw_cond (by simp only [go_sem, Nat.reduceBEq, Nat.reduceBneDiff, Nat.reduceLT, Nat.reduceLeDiff, Nat.reduceAdd, Nat.reduceMul, Nat.reduceSub, Nat.reduceEqDiff, reduceCtorEq]; exact rfl) (by simp only [go_sem, Nat.reduceBEq, Nat.reduceBneDiff, Nat.reduceLT, Nat.reduceLeDiff, Nat.reduceAdd, Nat.reduceMul, Nat.reduceSub, Nat.reduceEqDiff, reduceCtorEq]) (fun h => ?_) (fun h => ?_) <;> (try simp only [decide_eq_true_eq, decide_eq_false_iff_not, Bool.not_eq_true', Bool.not_eq_false', Bool.or_eq_true, Bool.or_eq_false_iff, Bool.and_eq_true, Bool.and_eq_false_iff, Decidable.not_not, reduceCtorEq] at h) <;> (try (exfalso; omega)))
    | (first | refine aend_ret (by simp only [go_sem, Nat.reduceBEq, Nat.reduceBneDiff, Nat.reduceLT, Nat.reduceLeDiff, Nat.reduceAdd, Nat.reduceMul, Nat.reduceSub, Nat.reduceEqDiff, reduceCtorEq]; exact rfl) ?_ ?_ | refine aend_normal (by simp only [go_sem, Nat.reduceBEq, Nat.reduceBneDiff, Nat.reduceLT, Nat.reduceLeDiff, Nat.reduceAdd, Nat.reduceMul, Nat.reduceSub, Nat.reduceEqDiff, reduceCtorEq]; exact rfl) ?_ ?_) | fail)) <;> (try omega)
  · exact ⟨fun h => ⟨h, fun h' => by rw [h, h']; rfl⟩, fun h => ⟨h, fun h' => by rw [h, h']; rfl⟩⟩
  exact congrArg (fun b => AV.v (.bool b)) (by simp [isN])
theorem leb_big (f : Nat) : ∀ n : Int, 0 ≤ n → n < 128 ^ (f + 1) → leb f n ≤ f + 1 ∧ 1 ≤ leb f n := by
  induction f with
  | zero => intro n _ _; simp [leb]
  | succ f ih =>
    intro n h0 h1
    unfold leb
    split
    · omega
    · have := ih (n / 128) (by omega) (Int.ediv_lt_of_lt_mul (by omega) (by rw [Int.pow_succ] at h1; exact h1))
      omega
theorem varint_any (n : Int) (h0 : 0 ≤ n) (h1 : n < 18446744073709551616) : PCall Try.prog 94 [.v (.int .u64 n)] (fun r => r = vI (leb 10 n)) := by
  refine go_fn (tyOf_ok _) Try.func94 rfl rfl (by rw [Try.results94]) Try.ntmps94 rfl fun E => ?_
  (repeat' (first
    | exact trivial
    | (with_reducible first | refine aw_seq ?_ | refine aw_block ?_ | refine aw_skip ?_ | refine aw_ret ?_ | refine aw_exit ?_ | refine aseq_normal ?_ | refine aseq_ret ?_ | refine aseq_exit ?_ | refine ablk_normal ?_ | refine ablk_ret ?_ | refine ablk_hit ?_ | refine aw_region ?_ | refine go_nil ?_ | refine al_of ?_)
    | with_reducible refine ablk_miss (by decide) ?_
    | ((with_reducible refine al_id ?_); refine go_run (tyOf_ok _) [] (by simp only [go_sem, Nat.reduceBEq, Nat.reduceBneDiff, Nat.reduceLT, Nat.reduceLeDiff, Nat.reduceAdd, Nat.reduceMul, Nat.reduceSub, Nat.reduceEqDiff, reduceCtorEq]; exact rfl) ?_ ?_)
    | (refine aw_cond (by simp only [go_sem, Nat.reduceBEq, Nat.reduceBneDiff, Nat.reduceLT, Nat.reduceLeDiff, Nat.reduceAdd, Nat.reduceMul, Nat.reduceSub, Nat.reduceEqDiff, reduceCtorEq]; exact rfl) (by simp only [go_sem, Nat.reduceBEq, Nat.reduceBneDiff, Nat.reduceLT, Nat.reduceLeDiff, Nat.reduceAdd, Nat.reduceMul, Nat.reduceSub, Nat.reduceEqDiff, reduceCtorEq]) (fun h => ?_) (fun h => ?_) <;> (try simp only [decide_eq_true_eq, decide_eq_false_iff_not, Bool.not_eq_true', Bool.not_eq_false', Bool.or_eq_true, Bool.or_eq_false_iff, Bool.and_eq_true, Bool.and_eq_false_iff, Decidable.not_not, reduceCtorEq] at h) <;> (try (exfalso; omega)))
    | (first | refine aend_ret (by simp only [go_sem, Nat.reduceBEq, Nat.reduceBneDiff, Nat.reduceLT, Nat.reduceLeDiff, Nat.reduceAdd, Nat.reduceMul, Nat.reduceSub, Nat.reduceEqDiff, reduceCtorEq]; exact rfl) ?_ ?_ | refine aend_normal (by simp only [go_sem, Nat.reduceBEq, Nat.reduceBneDiff, Nat.reduceLT, Nat.reduceLeDiff, Nat.reduceAdd, Nat.reduceMul, Nat.reduceSub, Nat.reduceEqDiff, reduceCtorEq]; exact rfl) ?_ ?_) | fail)) <;> (try omega)
  generalize hZ : leb 10 n = Z
  refine go_loop [0, 3] [] (fun p : Nat × Nat × Int => ⟨[(0, true, vU p.2.2), (3, true, vI p.2.1)], []⟩) (fun p => p.1 + p.2.1 = 11 ∧ 1 ≤ p.2.1 ∧ 0 ≤ p.2.2 ∧ p.2.2 < 128 ^ (p.1 + 1) ∧ Z = leb p.1 p.2.2 + (p.2.1 - 1)) (fun p => p.1) (10, 1, n) (by simp only [go_sem, Nat.reduceBEq, Nat.reduceBneDiff, Nat.reduceLT, Nat.reduceLeDiff, Nat.reduceAdd, Nat.reduceMul, Nat.reduceSub, Nat.reduceEqDiff, reduceCtorEq, vU]; exact rfl)
    ⟨rfl, Nat.le_refl _, h0, by simp only; omega, by rw [← hZ]; simp⟩ ?_
  intro ⟨f, k, m⟩ ⟨hk, hk1, hm0, hm1, heq⟩
  simp only at hk hk1 hm0 hm1 heq
  have hw1 := wrap_i64 (n := (k : Int) + 1) (by omega)
  have hf : m.fdiv (2 ^ min (Int.toNat 7) 64) = m / 128 := Int.fdiv_eq_ediv_of_nonneg _ (by decide)
  by_cases hlt : 128 ≤ m
  · have e1 : (128 ≤ m) = True := eq_true hlt
    obtain ⟨f, rfl⟩ : ∃ g, f = g + 1 := ⟨f - 1, by
      cases f with
      | zero => simp at hm1; omega
      | succ f => rfl⟩
    rw [leb, if_neg (by omega)] at heq
    (repeat' (first
    | exact trivial
    | (with_reducible first | refine aw_seq ?_ | refine aw_block ?_ | refine aw_skip ?_ | refine aw_ret ?_ | refine aw_exit ?_ | refine aseq_normal ?_ | refine aseq_ret ?_ | refine aseq_exit ?_ | refine ablk_normal ?_ | refine ablk_ret ?_ | refine ablk_hit ?_ | refine aw_region ?_ | refine go_nil ?_ | refine al_of ?_)
    | with_reducible refine ablk_miss (by decide) ?_
    | ((with_reducible refine al_id ?_); refine go_run (tyOf_ok _) [] (by simp only [go_sem, Nat.reduceBEq, Nat.reduceBneDiff, Nat.reduceLT, Nat.reduceLeDiff, Nat.reduceAdd, Nat.reduceMul, Nat.reduceSub, Nat.reduceEqDiff, reduceCtorEq, vU, hw1, e1]; exact rfl) ?_ ?_)
    | (refine aw_cond (by simp only [go_sem, Nat.reduceBEq, Nat.reduceBneDiff, Nat.reduceLT, Nat.reduceLeDiff, Nat.reduceAdd, Nat.reduceMul, Nat.reduceSub, Nat.reduceEqDiff, reduceCtorEq, vU, hw1, e1]; exact rfl) (by simp only [go_sem, Nat.reduceBEq, Nat.reduceBneDiff, Nat.reduceLT, Nat.reduceLeDiff, Nat.reduceAdd, Nat.reduceMul, Nat.reduceSub, Nat.reduceEqDiff, reduceCtorEq]) (fun h => ?_) (fun h => ?_) <;> (try simp only [decide_eq_true_eq, decide_eq_false_iff_not, Bool.not_eq_true', Bool.not_eq_false', Bool.or_eq_true, Bool.or_eq_false_iff, Bool.and_eq_true, Bool.and_eq_false_iff, Decidable.not_not, reduceCtorEq] at h) <;> (try (exfalso; omega)))
    | (first | refine aend_ret (by simp only [go_sem, Nat.reduceBEq, Nat.reduceBneDiff, Nat.reduceLT, Nat.reduceLeDiff, Nat.reduceAdd, Nat.reduceMul, Nat.reduceSub, Nat.reduceEqDiff, reduceCtorEq, vU, hw1, e1]; exact rfl) ?_ ?_ | refine aend_normal (by simp only [go_sem, Nat.reduceBEq, Nat.reduceBneDiff, Nat.reduceLT, Nat.reduceLeDiff, Nat.reduceAdd, Nat.reduceMul, Nat.reduceSub, Nat.reduceEqDiff, reduceCtorEq, vU, hw1, e1]; exact rfl) ?_ ?_) | fail)) <;> (try omega)
    refine ⟨(f, k + 1, m / 128), by simp only [go_sem, Nat.reduceBEq, Nat.reduceBneDiff, Nat.reduceLT, Nat.reduceLeDiff, Nat.reduceAdd, Nat.reduceMul, Nat.reduceSub, Nat.reduceEqDiff, reduceCtorEq, vU, hf]; exact rfl, ⟨by simp only; omega, by simp only; omega, by simp only; omega, Int.ediv_lt_of_lt_mul (by omega) (by rw [Int.pow_succ] at hm1; exact hm1), ?_⟩, by simp only; omega⟩
    rw [heq]; simp only [Int.natCast_add, Int.natCast_one]; omega
  · have e1 : (128 ≤ m) = False := eq_false hlt
    (repeat' (first
    | exact trivial
    | (with_reducible first | refine aw_seq ?_ | refine aw_block ?_ | refine aw_skip ?_ | refine aw_ret ?_ | refine aw_exit ?_ | refine aseq_normal ?_ | refine aseq_ret ?_ | refine aseq_exit ?_ | refine ablk_normal ?_ | refine ablk_ret ?_ | refine ablk_hit ?_ | refine aw_region ?_ | refine go_nil ?_ | refine al_of ?_)
    | with_reducible refine ablk_miss (by decide) ?_
    | ((with_reducible refine al_id ?_); refine go_run (tyOf_ok _) [] (by simp only [go_sem, Nat.reduceBEq, Nat.reduceBneDiff, Nat.reduceLT, Nat.reduceLeDiff, Nat.reduceAdd, Nat.reduceMul, Nat.reduceSub, Nat.reduceEqDiff, reduceCtorEq, vU, hw1, e1]; exact rfl) ?_ ?_)
    | (refine aw_cond (by simp only [go_sem, Nat.reduceBEq, Nat.reduceBneDiff, Nat.reduceLT, Nat.reduceLeDiff, Nat.reduceAdd, Nat.reduceMul, Nat.reduceSub, Nat.reduceEqDiff, reduceCtorEq, vU, hw1, e1]; exact rfl) (by simp only [go_sem, Nat.reduceBEq, Nat.reduceBneDiff, Nat.reduceLT, Nat.reduceLeDiff, Nat.reduceAdd, Nat.reduceMul, Nat.reduceSub, Nat.reduceEqDiff, reduceCtorEq]) (fun h => ?_) (fun h => ?_) <;> (try simp only [decide_eq_true_eq, decide_eq_false_iff_not, Bool.not_eq_true', Bool.not_eq_false', Bool.or_eq_true, Bool.or_eq_false_iff, Bool.and_eq_true, Bool.and_eq_false_iff, Decidable.not_not, reduceCtorEq] at h) <;> (try (exfalso; omega)))
    | (first | refine aend_ret (by simp only [go_sem, Nat.reduceBEq, Nat.reduceBneDiff, Nat.reduceLT, Nat.reduceLeDiff, Nat.reduceAdd, Nat.reduceMul, Nat.reduceSub, Nat.reduceEqDiff, reduceCtorEq, vU, hw1, e1]; exact rfl) ?_ ?_ | refine aend_normal (by simp only [go_sem, Nat.reduceBEq, Nat.reduceBneDiff, Nat.reduceLT, Nat.reduceLeDiff, Nat.reduceAdd, Nat.reduceMul, Nat.reduceSub, Nat.reduceEqDiff, reduceCtorEq, vU, hw1, e1]; exact rfl) ?_ ?_) | fail)) <;> (try omega)
    rw [heq]
    have : leb f m = 1 := by
      cases f with
      | zero => rfl
      | succ f => rw [leb, if_pos (by omega)]
    rw [this]
    exact congrArg (fun z => AV.v (.int .i64 z)) (by omega)
end Go.Proofs.Ytfgacgpicfknpaa
end
section
namespace Go.Proofs.Ytfgacgpicfknpaa
open Go.RowKit
set_option maxRecDepth 100000
set_option maxHeartbeats 8000000
def wob (ts : List TypeM) (rs : List RootM) (X : List ExtM) (V : List NodeM) (ls : List Int) : List (Nat × AObj) :=
  [(10000, .var [.lst 4 (encTs ts), .lst 2 (encRs rs), .lst 4 (encEs X), .lst 3 (encNs V), vI ls.length, .ref 3 1 15000 0 ls.length]), (15000, .row 3 1 (v8 ls))]
def tupR (r : Int × Bool × List Int) : AV := .tup [vI r.1, vB r.2.1]
attribute [go_sem] wob tupR vN
def bdR (V : List NodeM) (ls : List Int) (r : Int × Bool × List Int) : Prop := (0 ≤ r.1 ∧ r.1 ≤ 4611686018427387904) ∧ ls.length ≤ r.2.2.length ∧ r.2.2.length ≤ V.length
def RecAt (ts : List TypeM) (rs : List RootM) (X : List ExtM) (V : List NodeM) (rec : Rec) (t : Nat) : Prop :=
  ∀ ls : List Int, ls.length ≤ V.length → GCall Try.prog 51 [.ptr 1 10000 0 0, vI t] (wob ts rs X V ls) (tupR (rec t ls)) (wob ts rs X V (rec t ls).2.2) ∧ bdR V ls (rec t ls)
structure WOK (ts : List TypeM) (rs : List RootM) (X : List ExtM) (V : List NodeM) : Prop where
  nts : ts.length ≤ 1000000000
  nV : V.length ≤ 1000000000
  nX : X.length = ts.length
  ok : ∀ e ∈ X, extOK e
  right : ∀ (k : Nat) (h : k < ts.length), rightOK ts[k] k = true
  parts : ∀ t ∈ ts, t.parts.length ≤ 1000000000
  node : ∀ x ∈ V, nodeOK x
section
variable {ts : List TypeM} {rs : List RootM} {X : List ExtM} {V : List NodeM} {rec : Rec}
theorem kid_any (W : WOK ts rs X V) {t : Nat} (ht : t < ts.length) (H : RecAt ts rs X V rec t) (ls : List Int) (hl : ls.length ≤ V.length) :
    GCall Try.prog 103 [.ptr 1 10000 0 0, vI t] (wob ts rs X V ls) (.tup [vI (withinM (atE X t).fixed (rec t ls).1), vB (rec t ls).2.1]) (wob ts rs X V (rec t ls).2.2) := by
  obtain ⟨hc, hb, _⟩ := H ls hl
  have hx := W.nX
  have g1 := encEs_get (l := X) (k := t) (by omega)
  have hat : X[t]'(by omega) = atE X t := by rw [atE, Int.toNat_natCast, List.getElem?_eq_getElem (by omega)]; rfl
  rw [hat] at g1
  generalize rec t ls = r at *
  obtain ⟨n, ok, ls'⟩ := r
  simp only at hb
  have hw := within_any (atE X t) n (by unfold I64; omega)
  refine go_fnG (tyOf_ok _) Try.func103 rfl rfl (by rw [Try.results103]) Try.ntmps103 rfl fun E => ?_
  (repeat' (first
    | exact trivial
    | (with_reducible first | refine aw_seq ?_ | refine aw_block ?_ | refine aw_skip ?_ | refine aw_ret ?_ | refine aw_exit ?_ | refine aseq_normal ?_ | refine aseq_ret ?_ | refine aseq_exit ?_ | refine ablk_normal ?_ | refine ablk_ret ?_ | refine ablk_hit ?_ | refine aw_region ?_ | refine go_nil ?_ | refine al_of ?_)
    | with_reducible refine ablk_miss (by decide) ?_
    | ((with_reducible refine al_id ?_); refine go_run (tyOf_ok _) [] (by simp only [go_sem, Nat.reduceBEq, Nat.reduceBneDiff, Nat.reduceLT, Nat.reduceLeDiff, Nat.reduceAdd, Nat.reduceMul, Nat.reduceSub, Nat.reduceEqDiff, reduceCtorEq, wob, tupR, g1, encEs_len, hx]; exact rfl) ?_ ?_)
    | (refine aw_cond (by simp only [go_sem, Nat.reduceBEq, Nat.reduceBneDiff, Nat.reduceLT, Nat.reduceLeDiff, Nat.reduceAdd, Nat.reduceMul, Nat.reduceSub, Nat.reduceEqDiff, reduceCtorEq, wob, tupR, g1, encEs_len, hx]; exact rfl) (by simp only [go_sem, Nat.reduceBEq, Nat.reduceBneDiff, Nat.reduceLT, Nat.reduceLeDiff, Nat.reduceAdd, Nat.reduceMul, Nat.reduceSub, Nat.reduceEqDiff, reduceCtorEq]) (fun h => ?_) (fun h => ?_) <;> (try simp only [decide_eq_true_eq, decide_eq_false_iff_not, Bool.not_eq_true', Bool.not_eq_false', Bool.or_eq_true, Bool.or_eq_false_iff, Bool.and_eq_true, Bool.and_eq_false_iff, Decidable.not_not, reduceCtorEq] at h) <;> (try (exfalso; omega)))
    | (first | refine aendG_ret (by simp only [go_sem, Nat.reduceBEq, Nat.reduceBneDiff, Nat.reduceLT, Nat.reduceLeDiff, Nat.reduceAdd, Nat.reduceMul, Nat.reduceSub, Nat.reduceEqDiff, reduceCtorEq, wob, tupR, g1, encEs_len, hx]; exact rfl) ?_ ?_ ?_ | refine aendG_normal (by simp only [go_sem, Nat.reduceBEq, Nat.reduceBneDiff, Nat.reduceLT, Nat.reduceLeDiff, Nat.reduceAdd, Nat.reduceMul, Nat.reduceSub, Nat.reduceEqDiff, reduceCtorEq, wob, tupR, g1, encEs_len, hx]; exact rfl) ?_ ?_ ?_)
    | (refine go_callG [(10000, 10000), (15000, 15000)] [(10000, 10000), (15000, 15000)] [15000] [10000] (by simp only [go_sem, Nat.reduceBEq, Nat.reduceBneDiff, Nat.reduceLT, Nat.reduceLeDiff, Nat.reduceAdd, Nat.reduceMul, Nat.reduceSub, Nat.reduceEqDiff, reduceCtorEq, wob, tupR, g1, encEs_len, hx]; exact rfl) ?_ rfl rfl (by first | exact .inl rfl | exact .inr rfl) (by simp only [go_sem, Nat.reduceBEq, Nat.reduceBneDiff, Nat.reduceLT, Nat.reduceLeDiff, Nat.reduceAdd, Nat.reduceMul, Nat.reduceSub, Nat.reduceEqDiff, reduceCtorEq, wob, tupR, g1, encEs_len, hx] <;> exact rfl) (hc) (.inl rfl) ?_)
    | (refine go_call (by simp only [go_sem, Nat.reduceBEq, Nat.reduceBneDiff, Nat.reduceLT, Nat.reduceLeDiff, Nat.reduceAdd, Nat.reduceMul, Nat.reduceSub, Nat.reduceEqDiff, reduceCtorEq, wob, tupR, g1, encEs_len, hx]; exact rfl) ?_ (fun _ => hw) rfl ?_) | fail)) <;> (try omega)
  all_goals (first | exact AV.up_rfl _ | exact obUp_cons rfl (obUp_cons rfl obUp_nil))
theorem kids_any (W : WOK ts rs X V) {t : Nat} (ht : t < ts.length) (H : RecAt ts rs X V rec t) (m : Nat) (hm : m ≤ 1000000000) (ls0 : List Int) (hl0 : ls0.length ≤ V.length) :
    GCall Try.prog 95 [.ptr 1 10000 0 0, vI t, vI m] (wob ts rs X V ls0) (tupR (kidsW X rec t m 0 ls0)) (wob ts rs X V (kidsW X rec t m 0 ls0).2.2) := by
  refine go_fnG (tyOf_ok _) Try.func95 rfl rfl (by rw [Try.results95]) Try.ntmps95 rfl fun E => ?_
  (repeat' (first
    | exact trivial
    | (with_reducible first | refine aw_seq ?_ | refine aw_block ?_ | refine aw_skip ?_ | refine aw_ret ?_ | refine aw_exit ?_ | refine aseq_normal ?_ | refine aseq_ret ?_ | refine aseq_exit ?_ | refine ablk_normal ?_ | refine ablk_ret ?_ | refine ablk_hit ?_ | refine aw_region ?_ | refine go_nil ?_ | refine al_of ?_)
    | with_reducible refine ablk_miss (by decide) ?_
    | ((with_reducible refine al_id ?_); refine go_run (tyOf_ok _) [] (by simp only [go_sem, Nat.reduceBEq, Nat.reduceBneDiff, Nat.reduceLT, Nat.reduceLeDiff, Nat.reduceAdd, Nat.reduceMul, Nat.reduceSub, Nat.reduceEqDiff, reduceCtorEq]; exact rfl) ?_ ?_)
    | (refine aw_cond (by simp only [go_sem, Nat.reduceBEq, Nat.reduceBneDiff, Nat.reduceLT, Nat.reduceLeDiff, Nat.reduceAdd, Nat.reduceMul, Nat.reduceSub, Nat.reduceEqDiff, reduceCtorEq]; exact rfl) (by simp only [go_sem, Nat.reduceBEq, Nat.reduceBneDiff, Nat.reduceLT, Nat.reduceLeDiff, Nat.reduceAdd, Nat.reduceMul, Nat.reduceSub, Nat.reduceEqDiff, reduceCtorEq]) (fun h => ?_) (fun h => ?_) <;> (try simp only [decide_eq_true_eq, decide_eq_false_iff_not, Bool.not_eq_true', Bool.not_eq_false', Bool.or_eq_true, Bool.or_eq_false_iff, Bool.and_eq_true, Bool.and_eq_false_iff, Decidable.not_not, reduceCtorEq] at h) <;> (try (exfalso; omega)))
    | (first | refine aendG_ret (by simp only [go_sem, Nat.reduceBEq, Nat.reduceBneDiff, Nat.reduceLT, Nat.reduceLeDiff, Nat.reduceAdd, Nat.reduceMul, Nat.reduceSub, Nat.reduceEqDiff, reduceCtorEq]; exact rfl) ?_ ?_ ?_ | refine aendG_normal (by simp only [go_sem, Nat.reduceBEq, Nat.reduceBneDiff, Nat.reduceLT, Nat.reduceLeDiff, Nat.reduceAdd, Nat.reduceMul, Nat.reduceSub, Nat.reduceEqDiff, reduceCtorEq]; exact rfl) ?_ ?_ ?_) | fail)) <;> (try omega)
  refine go_loop [0, 1, 8, 11, 12] [10000, 15000] (fun p : Nat × Int × List Int => ⟨[(0, true, .ptr 1 10000 0 0), (1, true, vI t), (8, true, vI p.2.1), (11, true, vI m), (12, true, vI p.1)], wob ts rs X V p.2.2⟩)
    (fun p => p.1 ≤ m ∧ (0 ≤ p.2.1 ∧ p.2.1 ≤ 4611686018427387904) ∧ p.2.2.length ≤ V.length ∧ kidsW X rec t m 0 ls0 = kidsW X rec t (m - p.1) p.2.1 p.2.2) (fun p => m - p.1) (0, 0, ls0) (by simp only [go_sem, Nat.reduceBEq, Nat.reduceBneDiff, Nat.reduceLT, Nat.reduceLeDiff, Nat.reduceAdd, Nat.reduceMul, Nat.reduceSub, Nat.reduceEqDiff, reduceCtorEq, wob]; exact rfl)
    ⟨Nat.zero_le _, by simp only; omega, hl0, rfl⟩ ?_
  intro ⟨k, sum, ls⟩ ⟨hk, hs, hl, heq⟩
  simp only at hk hs hl heq
  have hw1 := wrap_i64 (n := (k : Int) + 1) (by omega)
  by_cases hlt : k < m
  · have e1 : ((k : Int) < m) = True := eq_true (by omega)
    have hc := kid_any W ht H ls hl
    have hb := (H ls hl).2
    rw [show m - k = (m - (k + 1)) + 1 by omega, kidsW, Int.toNat_natCast] at heq
    generalize rec t ls = r at *
    obtain ⟨n, ok, ls'⟩ := r
    obtain ⟨hb1, hb2, hb3⟩ := hb
    simp only at hb1 hb2 hb3 heq
    have hwb := withinM_bd (f := (atE X t).fixed) hb1
    have hpl := plus_p (zs := [sum, withinM (atE X t).fixed n]) (by intro z hz; simp at hz; rcases hz with rfl | rfl <;> (unfold I64; omega))
    cases ok with
    | false =>
      rw [if_neg (by decide)] at heq
      (repeat' (first
    | exact trivial
    | (with_reducible first | refine aw_seq ?_ | refine aw_block ?_ | refine aw_skip ?_ | refine aw_ret ?_ | refine aw_exit ?_ | refine aseq_normal ?_ | refine aseq_ret ?_ | refine aseq_exit ?_ | refine ablk_normal ?_ | refine ablk_ret ?_ | refine ablk_hit ?_ | refine aw_region ?_ | refine go_nil ?_ | refine al_of ?_)
    | with_reducible refine ablk_miss (by decide) ?_
    | ((with_reducible refine al_id ?_); refine go_run (tyOf_ok _) [] (by simp only [go_sem, Nat.reduceBEq, Nat.reduceBneDiff, Nat.reduceLT, Nat.reduceLeDiff, Nat.reduceAdd, Nat.reduceMul, Nat.reduceSub, Nat.reduceEqDiff, reduceCtorEq, wob, hw1, e1]; exact rfl) ?_ ?_)
    | (refine aw_cond (by simp only [go_sem, Nat.reduceBEq, Nat.reduceBneDiff, Nat.reduceLT, Nat.reduceLeDiff, Nat.reduceAdd, Nat.reduceMul, Nat.reduceSub, Nat.reduceEqDiff, reduceCtorEq, wob, hw1, e1]; exact rfl) (by simp only [go_sem, Nat.reduceBEq, Nat.reduceBneDiff, Nat.reduceLT, Nat.reduceLeDiff, Nat.reduceAdd, Nat.reduceMul, Nat.reduceSub, Nat.reduceEqDiff, reduceCtorEq]) (fun h => ?_) (fun h => ?_) <;> (try simp only [decide_eq_true_eq, decide_eq_false_iff_not, Bool.not_eq_true', Bool.not_eq_false', Bool.or_eq_true, Bool.or_eq_false_iff, Bool.and_eq_true, Bool.and_eq_false_iff, Decidable.not_not, reduceCtorEq] at h) <;> (try (exfalso; omega)))
    | (first | refine aendG_ret (by simp only [go_sem, Nat.reduceBEq, Nat.reduceBneDiff, Nat.reduceLT, Nat.reduceLeDiff, Nat.reduceAdd, Nat.reduceMul, Nat.reduceSub, Nat.reduceEqDiff, reduceCtorEq, wob, hw1, e1]; exact rfl) ?_ ?_ ?_ | refine aendG_normal (by simp only [go_sem, Nat.reduceBEq, Nat.reduceBneDiff, Nat.reduceLT, Nat.reduceLeDiff, Nat.reduceAdd, Nat.reduceMul, Nat.reduceSub, Nat.reduceEqDiff, reduceCtorEq, wob, hw1, e1]; exact rfl) ?_ ?_ ?_)
    | (refine go_callG [(10000, 10000), (15000, 15000)] [(10000, 10000), (15000, 15000)] [15000] [10000] (by simp only [go_sem, Nat.reduceBEq, Nat.reduceBneDiff, Nat.reduceLT, Nat.reduceLeDiff, Nat.reduceAdd, Nat.reduceMul, Nat.reduceSub, Nat.reduceEqDiff, reduceCtorEq, wob, hw1, e1]; exact rfl) ?_ rfl rfl (by first | exact .inl rfl | exact .inr rfl) (by simp only [go_sem, Nat.reduceBEq, Nat.reduceBneDiff, Nat.reduceLT, Nat.reduceLeDiff, Nat.reduceAdd, Nat.reduceMul, Nat.reduceSub, Nat.reduceEqDiff, reduceCtorEq, wob, hw1, e1] <;> exact rfl) (hc) (.inl rfl) ?_)
    | (refine go_call (by simp only [go_sem, Nat.reduceBEq, Nat.reduceBneDiff, Nat.reduceLT, Nat.reduceLeDiff, Nat.reduceAdd, Nat.reduceMul, Nat.reduceSub, Nat.reduceEqDiff, reduceCtorEq, wob, hw1, e1]; exact rfl) ?_ (fun _ => hpl) rfl ?_) | fail)) <;> (try omega)
      all_goals rw [heq]
      all_goals (first | exact AV.up_rfl _ | exact obUp_cons rfl (obUp_cons rfl obUp_nil))
    | true =>
      rw [if_pos rfl] at heq
      (repeat' (first
    | exact trivial
    | (with_reducible first | refine aw_seq ?_ | refine aw_block ?_ | refine aw_skip ?_ | refine aw_ret ?_ | refine aw_exit ?_ | refine aseq_normal ?_ | refine aseq_ret ?_ | refine aseq_exit ?_ | refine ablk_normal ?_ | refine ablk_ret ?_ | refine ablk_hit ?_ | refine aw_region ?_ | refine go_nil ?_ | refine al_of ?_)
    | with_reducible refine ablk_miss (by decide) ?_
    | ((with_reducible refine al_id ?_); refine go_run (tyOf_ok _) [] (by simp only [go_sem, Nat.reduceBEq, Nat.reduceBneDiff, Nat.reduceLT, Nat.reduceLeDiff, Nat.reduceAdd, Nat.reduceMul, Nat.reduceSub, Nat.reduceEqDiff, reduceCtorEq, wob, hw1, e1]; exact rfl) ?_ ?_)
    | (refine aw_cond (by simp only [go_sem, Nat.reduceBEq, Nat.reduceBneDiff, Nat.reduceLT, Nat.reduceLeDiff, Nat.reduceAdd, Nat.reduceMul, Nat.reduceSub, Nat.reduceEqDiff, reduceCtorEq, wob, hw1, e1]; exact rfl) (by simp only [go_sem, Nat.reduceBEq, Nat.reduceBneDiff, Nat.reduceLT, Nat.reduceLeDiff, Nat.reduceAdd, Nat.reduceMul, Nat.reduceSub, Nat.reduceEqDiff, reduceCtorEq]) (fun h => ?_) (fun h => ?_) <;> (try simp only [decide_eq_true_eq, decide_eq_false_iff_not, Bool.not_eq_true', Bool.not_eq_false', Bool.or_eq_true, Bool.or_eq_false_iff, Bool.and_eq_true, Bool.and_eq_false_iff, Decidable.not_not, reduceCtorEq] at h) <;> (try (exfalso; omega)))
    | (first | refine aendG_ret (by simp only [go_sem, Nat.reduceBEq, Nat.reduceBneDiff, Nat.reduceLT, Nat.reduceLeDiff, Nat.reduceAdd, Nat.reduceMul, Nat.reduceSub, Nat.reduceEqDiff, reduceCtorEq, wob, hw1, e1]; exact rfl) ?_ ?_ ?_ | refine aendG_normal (by simp only [go_sem, Nat.reduceBEq, Nat.reduceBneDiff, Nat.reduceLT, Nat.reduceLeDiff, Nat.reduceAdd, Nat.reduceMul, Nat.reduceSub, Nat.reduceEqDiff, reduceCtorEq, wob, hw1, e1]; exact rfl) ?_ ?_ ?_)
    | (refine go_callG [(10000, 10000), (15000, 15000)] [(10000, 10000), (15000, 15000)] [15000] [10000] (by simp only [go_sem, Nat.reduceBEq, Nat.reduceBneDiff, Nat.reduceLT, Nat.reduceLeDiff, Nat.reduceAdd, Nat.reduceMul, Nat.reduceSub, Nat.reduceEqDiff, reduceCtorEq, wob, hw1, e1]; exact rfl) ?_ rfl rfl (by first | exact .inl rfl | exact .inr rfl) (by simp only [go_sem, Nat.reduceBEq, Nat.reduceBneDiff, Nat.reduceLT, Nat.reduceLeDiff, Nat.reduceAdd, Nat.reduceMul, Nat.reduceSub, Nat.reduceEqDiff, reduceCtorEq, wob, hw1, e1] <;> exact rfl) (hc) (.inl rfl) ?_)
    | (refine go_call (by simp only [go_sem, Nat.reduceBEq, Nat.reduceBneDiff, Nat.reduceLT, Nat.reduceLeDiff, Nat.reduceAdd, Nat.reduceMul, Nat.reduceSub, Nat.reduceEqDiff, reduceCtorEq, wob, hw1, e1]; exact rfl) ?_ (fun _ => hpl) rfl ?_) | fail)) <;> (try omega)
      exact ⟨(k + 1, plusL [sum, withinM (atE X t).fixed n], ls'), by simp only [go_sem, Nat.reduceBEq, Nat.reduceBneDiff, Nat.reduceLT, Nat.reduceLeDiff, Nat.reduceAdd, Nat.reduceMul, Nat.reduceSub, Nat.reduceEqDiff, reduceCtorEq, wob]; exact rfl, ⟨by simp only; omega, plusL_bd _, by simp only; omega, heq⟩, by simp only; omega⟩
  · have e1 : ((k : Int) < m) = False := eq_false (by omega)
    have hz : m - k = 0 := by omega
    rw [hz, kidsW] at heq
    (repeat' (first
    | exact trivial
    | (with_reducible first | refine aw_seq ?_ | refine aw_block ?_ | refine aw_skip ?_ | refine aw_ret ?_ | refine aw_exit ?_ | refine aseq_normal ?_ | refine aseq_ret ?_ | refine aseq_exit ?_ | refine ablk_normal ?_ | refine ablk_ret ?_ | refine ablk_hit ?_ | refine aw_region ?_ | refine go_nil ?_ | refine al_of ?_)
    | with_reducible refine ablk_miss (by decide) ?_
    | ((with_reducible refine al_id ?_); refine go_run (tyOf_ok _) [] (by simp only [go_sem, Nat.reduceBEq, Nat.reduceBneDiff, Nat.reduceLT, Nat.reduceLeDiff, Nat.reduceAdd, Nat.reduceMul, Nat.reduceSub, Nat.reduceEqDiff, reduceCtorEq, wob, hw1, e1]; exact rfl) ?_ ?_)
    | (refine aw_cond (by simp only [go_sem, Nat.reduceBEq, Nat.reduceBneDiff, Nat.reduceLT, Nat.reduceLeDiff, Nat.reduceAdd, Nat.reduceMul, Nat.reduceSub, Nat.reduceEqDiff, reduceCtorEq, wob, hw1, e1]; exact rfl) (by simp only [go_sem, Nat.reduceBEq, Nat.reduceBneDiff, Nat.reduceLT, Nat.reduceLeDiff, Nat.reduceAdd, Nat.reduceMul, Nat.reduceSub, Nat.reduceEqDiff, reduceCtorEq]) (fun h => ?_) (fun h => ?_) <;> (try simp only [decide_eq_true_eq, decide_eq_false_iff_not, Bool.not_eq_true', Bool.not_eq_false', Bool.or_eq_true, Bool.or_eq_false_iff, Bool.and_eq_true, Bool.and_eq_false_iff, Decidable.not_not, reduceCtorEq] at h) <;> (try (exfalso; omega)))
    | (first | refine aendG_ret (by simp only [go_sem, Nat.reduceBEq, Nat.reduceBneDiff, Nat.reduceLT, Nat.reduceLeDiff, Nat.reduceAdd, Nat.reduceMul, Nat.reduceSub, Nat.reduceEqDiff, reduceCtorEq, wob, hw1, e1]; exact rfl) ?_ ?_ ?_ | refine aendG_normal (by simp only [go_sem, Nat.reduceBEq, Nat.reduceBneDiff, Nat.reduceLT, Nat.reduceLeDiff, Nat.reduceAdd, Nat.reduceMul, Nat.reduceSub, Nat.reduceEqDiff, reduceCtorEq, wob, hw1, e1]; exact rfl) ?_ ?_ ?_) | fail)) <;> (try omega)
    all_goals rw [heq]
    all_goals (first | exact AV.up_rfl _ | exact obUp_cons rfl (obUp_cons rfl obUp_nil))
theorem fields_any (W : WOK ts rs X V) (x : TypeM) (hp : x.parts.length ≤ 1000000000) (H : ∀ p ∈ x.parts, 0 ≤ p.ty ∧ p.ty < ts.length ∧ RecAt ts rs X V rec p.ty.toNat) (v : NodeM) (hv : nodeOK v) (ls0 : List Int) (hl0 : ls0.length ≤ V.length) :
    GCall Try.prog 96 [.ptr 1 10000 0 0, .agg [vI v.kind, .v (.int .u64 v.n), vI v.kids], .agg [vI x.kind, vI x.n, vI x.elem, .lst 3 (encPs x.parts)]] (wob ts rs X V ls0)
      (tupR (if isN v 4 x.parts.length = true then fieldsW X rec x.parts 0 ls0 else (0, false, ls0))) (wob ts rs X V (if isN v 4 x.parts.length = true then fieldsW X rec x.parts 0 ls0 else (0, false, ls0)).2.2) := by
  refine go_fnG (tyOf_ok _) Try.func96 rfl rfl (by rw [Try.results96]) Try.ntmps96 rfl fun E => ?_
  have his := is_any v 4 x.parts.length
  by_cases hi : isN v 4 x.parts.length = true
  case neg =>
    have e0 : isN v 4 x.parts.length = false := by simpa using hi
    rw [if_neg hi]
    (repeat' (first
    | exact trivial
    | (with_reducible first | refine aw_seq ?_ | refine aw_block ?_ | refine aw_skip ?_ | refine aw_ret ?_ | refine aw_exit ?_ | refine aseq_normal ?_ | refine aseq_ret ?_ | refine aseq_exit ?_ | refine ablk_normal ?_ | refine ablk_ret ?_ | refine ablk_hit ?_ | refine aw_region ?_ | refine go_nil ?_ | refine al_of ?_)
    | with_reducible refine ablk_miss (by decide) ?_
    | ((with_reducible refine al_id ?_); refine go_run (tyOf_ok _) [] (by simp only [go_sem, Nat.reduceBEq, Nat.reduceBneDiff, Nat.reduceLT, Nat.reduceLeDiff, Nat.reduceAdd, Nat.reduceMul, Nat.reduceSub, Nat.reduceEqDiff, reduceCtorEq, wob, encPs_len, e0]; exact rfl) ?_ ?_)
    | (refine aw_cond (by simp only [go_sem, Nat.reduceBEq, Nat.reduceBneDiff, Nat.reduceLT, Nat.reduceLeDiff, Nat.reduceAdd, Nat.reduceMul, Nat.reduceSub, Nat.reduceEqDiff, reduceCtorEq, wob, encPs_len, e0]; exact rfl) (by simp only [go_sem, Nat.reduceBEq, Nat.reduceBneDiff, Nat.reduceLT, Nat.reduceLeDiff, Nat.reduceAdd, Nat.reduceMul, Nat.reduceSub, Nat.reduceEqDiff, reduceCtorEq]) (fun h => ?_) (fun h => ?_) <;> (try simp only [decide_eq_true_eq, decide_eq_false_iff_not, Bool.not_eq_true', Bool.not_eq_false', Bool.or_eq_true, Bool.or_eq_false_iff, Bool.and_eq_true, Bool.and_eq_false_iff, Decidable.not_not, reduceCtorEq] at h) <;> (try (exfalso; omega)))
    | (first | refine aendG_ret (by simp only [go_sem, Nat.reduceBEq, Nat.reduceBneDiff, Nat.reduceLT, Nat.reduceLeDiff, Nat.reduceAdd, Nat.reduceMul, Nat.reduceSub, Nat.reduceEqDiff, reduceCtorEq, wob, encPs_len, e0]; exact rfl) ?_ ?_ ?_ | refine aendG_normal (by simp only [go_sem, Nat.reduceBEq, Nat.reduceBneDiff, Nat.reduceLT, Nat.reduceLeDiff, Nat.reduceAdd, Nat.reduceMul, Nat.reduceSub, Nat.reduceEqDiff, reduceCtorEq, wob, encPs_len, e0]; exact rfl) ?_ ?_ ?_)
    | (refine go_call (by simp only [go_sem, Nat.reduceBEq, Nat.reduceBneDiff, Nat.reduceLT, Nat.reduceLeDiff, Nat.reduceAdd, Nat.reduceMul, Nat.reduceSub, Nat.reduceEqDiff, reduceCtorEq, wob, encPs_len, e0]; exact rfl) ?_ (fun _ => his) rfl ?_) | fail)) <;> (try omega)
    all_goals (first | exact AV.up_rfl _ | exact obUp_cons rfl (obUp_cons rfl obUp_nil))
  rw [if_pos hi]
  (repeat' (first
    | exact trivial
    | (with_reducible first | refine aw_seq ?_ | refine aw_block ?_ | refine aw_skip ?_ | refine aw_ret ?_ | refine aw_exit ?_ | refine aseq_normal ?_ | refine aseq_ret ?_ | refine aseq_exit ?_ | refine ablk_normal ?_ | refine ablk_ret ?_ | refine ablk_hit ?_ | refine aw_region ?_ | refine go_nil ?_ | refine al_of ?_)
    | with_reducible refine ablk_miss (by decide) ?_
    | ((with_reducible refine al_id ?_); refine go_run (tyOf_ok _) [] (by simp only [go_sem, Nat.reduceBEq, Nat.reduceBneDiff, Nat.reduceLT, Nat.reduceLeDiff, Nat.reduceAdd, Nat.reduceMul, Nat.reduceSub, Nat.reduceEqDiff, reduceCtorEq, wob, encPs_len, hi]; exact rfl) ?_ ?_)
    | (refine aw_cond (by simp only [go_sem, Nat.reduceBEq, Nat.reduceBneDiff, Nat.reduceLT, Nat.reduceLeDiff, Nat.reduceAdd, Nat.reduceMul, Nat.reduceSub, Nat.reduceEqDiff, reduceCtorEq, wob, encPs_len, hi]; exact rfl) (by simp only [go_sem, Nat.reduceBEq, Nat.reduceBneDiff, Nat.reduceLT, Nat.reduceLeDiff, Nat.reduceAdd, Nat.reduceMul, Nat.reduceSub, Nat.reduceEqDiff, reduceCtorEq]) (fun h => ?_) (fun h => ?_) <;> (try simp only [decide_eq_true_eq, decide_eq_false_iff_not, Bool.not_eq_true', Bool.not_eq_false', Bool.or_eq_true, Bool.or_eq_false_iff, Bool.and_eq_true, Bool.and_eq_false_iff, Decidable.not_not, reduceCtorEq] at h) <;> (try (exfalso; omega)))
    | (first | refine aendG_ret (by simp only [go_sem, Nat.reduceBEq, Nat.reduceBneDiff, Nat.reduceLT, Nat.reduceLeDiff, Nat.reduceAdd, Nat.reduceMul, Nat.reduceSub, Nat.reduceEqDiff, reduceCtorEq, wob, encPs_len, hi]; exact rfl) ?_ ?_ ?_ | refine aendG_normal (by simp only [go_sem, Nat.reduceBEq, Nat.reduceBneDiff, Nat.reduceLT, Nat.reduceLeDiff, Nat.reduceAdd, Nat.reduceMul, Nat.reduceSub, Nat.reduceEqDiff, reduceCtorEq, wob, encPs_len, hi]; exact rfl) ?_ ?_ ?_)
    | (refine go_call (by simp only [go_sem, Nat.reduceBEq, Nat.reduceBneDiff, Nat.reduceLT, Nat.reduceLeDiff, Nat.reduceAdd, Nat.reduceMul, Nat.reduceSub, Nat.reduceEqDiff, reduceCtorEq, wob, encPs_len, hi]; exact rfl) ?_ (fun _ => his) rfl ?_) | fail)) <;> (try omega)
  refine go_loop [0, 8, 20, 21, 22] [10000, 15000] (fun p : Nat × Int × List Int => ⟨[(0, true, .ptr 1 10000 0 0), (8, true, vI p.2.1), (20, true, .lst 3 (encPs x.parts)), (21, true, vI x.parts.length), (22, true, vI p.1)], wob ts rs X V p.2.2⟩)
    (fun p => p.1 ≤ x.parts.length ∧ (0 ≤ p.2.1 ∧ p.2.1 ≤ 4611686018427387904) ∧ p.2.2.length ≤ V.length ∧ fieldsW X rec x.parts 0 ls0 = fieldsW X rec (x.parts.drop p.1) p.2.1 p.2.2) (fun p => x.parts.length - p.1) (0, 0, ls0) (by simp only [go_sem, Nat.reduceBEq, Nat.reduceBneDiff, Nat.reduceLT, Nat.reduceLeDiff, Nat.reduceAdd, Nat.reduceMul, Nat.reduceSub, Nat.reduceEqDiff, reduceCtorEq, wob]; exact rfl)
    ⟨Nat.zero_le _, by simp only; omega, hl0, rfl⟩ ?_
  intro ⟨k, sum, ls⟩ ⟨hk, hs, hl, heq⟩
  simp only at hk hs hl heq
  have hw1 := wrap_i64 (n := (k : Int) + 1) (by omega)
  by_cases hlt : k < x.parts.length
  · have e1 : ((k : Int) < x.parts.length) = True := eq_true (by omega)
    have g1 := encPs_get hlt
    obtain ⟨h0, h1, hr⟩ := H _ (List.getElem_mem hlt)
    have hc := kid_any W (t := x.parts[k].ty.toNat) (by omega) hr ls hl
    have hb := (hr ls hl).2
    rw [List.drop_eq_getElem_cons hlt, fieldsW] at heq
    rw [Int.toNat_of_nonneg h0] at hc
    generalize x.parts[k] = p at *
    generalize rec p.ty.toNat ls = r at *
    obtain ⟨n, ok, ls'⟩ := r
    obtain ⟨hb1, hb2, hb3⟩ := hb
    simp only at hb1 hb2 hb3 heq
    have hwb := withinM_bd (f := (atE X p.ty).fixed) hb1
    have hpl := plus_p (zs := [sum, withinM (atE X p.ty).fixed n]) (by intro z hz; simp at hz; rcases hz with rfl | rfl <;> (unfold I64; omega))
    cases ok with
    | false =>
      rw [if_neg (by decide)] at heq
      (repeat' (first
    | exact trivial
    | (with_reducible first | refine aw_seq ?_ | refine aw_block ?_ | refine aw_skip ?_ | refine aw_ret ?_ | refine aw_exit ?_ | refine aseq_normal ?_ | refine aseq_ret ?_ | refine aseq_exit ?_ | refine ablk_normal ?_ | refine ablk_ret ?_ | refine ablk_hit ?_ | refine aw_region ?_ | refine go_nil ?_ | refine al_of ?_)
    | with_reducible refine ablk_miss (by decide) ?_
    | ((with_reducible refine al_id ?_); refine go_run (tyOf_ok _) [] (by simp only [go_sem, Nat.reduceBEq, Nat.reduceBneDiff, Nat.reduceLT, Nat.reduceLeDiff, Nat.reduceAdd, Nat.reduceMul, Nat.reduceSub, Nat.reduceEqDiff, reduceCtorEq, wob, hw1, e1, g1]; exact rfl) ?_ ?_)
    | (refine aw_cond (by simp only [go_sem, Nat.reduceBEq, Nat.reduceBneDiff, Nat.reduceLT, Nat.reduceLeDiff, Nat.reduceAdd, Nat.reduceMul, Nat.reduceSub, Nat.reduceEqDiff, reduceCtorEq, wob, hw1, e1, g1]; exact rfl) (by simp only [go_sem, Nat.reduceBEq, Nat.reduceBneDiff, Nat.reduceLT, Nat.reduceLeDiff, Nat.reduceAdd, Nat.reduceMul, Nat.reduceSub, Nat.reduceEqDiff, reduceCtorEq]) (fun h => ?_) (fun h => ?_) <;> (try simp only [decide_eq_true_eq, decide_eq_false_iff_not, Bool.not_eq_true', Bool.not_eq_false', Bool.or_eq_true, Bool.or_eq_false_iff, Bool.and_eq_true, Bool.and_eq_false_iff, Decidable.not_not, reduceCtorEq] at h) <;> (try (exfalso; omega)))
    | (first | refine aendG_ret (by simp only [go_sem, Nat.reduceBEq, Nat.reduceBneDiff, Nat.reduceLT, Nat.reduceLeDiff, Nat.reduceAdd, Nat.reduceMul, Nat.reduceSub, Nat.reduceEqDiff, reduceCtorEq, wob, hw1, e1, g1]; exact rfl) ?_ ?_ ?_ | refine aendG_normal (by simp only [go_sem, Nat.reduceBEq, Nat.reduceBneDiff, Nat.reduceLT, Nat.reduceLeDiff, Nat.reduceAdd, Nat.reduceMul, Nat.reduceSub, Nat.reduceEqDiff, reduceCtorEq, wob, hw1, e1, g1]; exact rfl) ?_ ?_ ?_)
    | (refine go_callG [(10000, 10000), (15000, 15000)] [(10000, 10000), (15000, 15000)] [15000] [10000] (by simp only [go_sem, Nat.reduceBEq, Nat.reduceBneDiff, Nat.reduceLT, Nat.reduceLeDiff, Nat.reduceAdd, Nat.reduceMul, Nat.reduceSub, Nat.reduceEqDiff, reduceCtorEq, wob, hw1, e1, g1]; exact rfl) ?_ rfl rfl (by first | exact .inl rfl | exact .inr rfl) (by simp only [go_sem, Nat.reduceBEq, Nat.reduceBneDiff, Nat.reduceLT, Nat.reduceLeDiff, Nat.reduceAdd, Nat.reduceMul, Nat.reduceSub, Nat.reduceEqDiff, reduceCtorEq, wob, hw1, e1, g1] <;> exact rfl) (hc) (.inl rfl) ?_)
    | (refine go_call (by simp only [go_sem, Nat.reduceBEq, Nat.reduceBneDiff, Nat.reduceLT, Nat.reduceLeDiff, Nat.reduceAdd, Nat.reduceMul, Nat.reduceSub, Nat.reduceEqDiff, reduceCtorEq, wob, hw1, e1, g1]; exact rfl) ?_ (fun _ => hpl) rfl ?_) | fail)) <;> (try omega)
      all_goals rw [heq]
      all_goals (first | exact AV.up_rfl _ | exact obUp_cons rfl (obUp_cons rfl obUp_nil))
    | true =>
      rw [if_pos rfl] at heq
      (repeat' (first
    | exact trivial
    | (with_reducible first | refine aw_seq ?_ | refine aw_block ?_ | refine aw_skip ?_ | refine aw_ret ?_ | refine aw_exit ?_ | refine aseq_normal ?_ | refine aseq_ret ?_ | refine aseq_exit ?_ | refine ablk_normal ?_ | refine ablk_ret ?_ | refine ablk_hit ?_ | refine aw_region ?_ | refine go_nil ?_ | refine al_of ?_)
    | with_reducible refine ablk_miss (by decide) ?_
    | ((with_reducible refine al_id ?_); refine go_run (tyOf_ok _) [] (by simp only [go_sem, Nat.reduceBEq, Nat.reduceBneDiff, Nat.reduceLT, Nat.reduceLeDiff, Nat.reduceAdd, Nat.reduceMul, Nat.reduceSub, Nat.reduceEqDiff, reduceCtorEq, wob, hw1, e1, g1]; exact rfl) ?_ ?_)
    | (refine aw_cond (by simp only [go_sem, Nat.reduceBEq, Nat.reduceBneDiff, Nat.reduceLT, Nat.reduceLeDiff, Nat.reduceAdd, Nat.reduceMul, Nat.reduceSub, Nat.reduceEqDiff, reduceCtorEq, wob, hw1, e1, g1]; exact rfl) (by simp only [go_sem, Nat.reduceBEq, Nat.reduceBneDiff, Nat.reduceLT, Nat.reduceLeDiff, Nat.reduceAdd, Nat.reduceMul, Nat.reduceSub, Nat.reduceEqDiff, reduceCtorEq]) (fun h => ?_) (fun h => ?_) <;> (try simp only [decide_eq_true_eq, decide_eq_false_iff_not, Bool.not_eq_true', Bool.not_eq_false', Bool.or_eq_true, Bool.or_eq_false_iff, Bool.and_eq_true, Bool.and_eq_false_iff, Decidable.not_not, reduceCtorEq] at h) <;> (try (exfalso; omega)))
    | (first | refine aendG_ret (by simp only [go_sem, Nat.reduceBEq, Nat.reduceBneDiff, Nat.reduceLT, Nat.reduceLeDiff, Nat.reduceAdd, Nat.reduceMul, Nat.reduceSub, Nat.reduceEqDiff, reduceCtorEq, wob, hw1, e1, g1]; exact rfl) ?_ ?_ ?_ | refine aendG_normal (by simp only [go_sem, Nat.reduceBEq, Nat.reduceBneDiff, Nat.reduceLT, Nat.reduceLeDiff, Nat.reduceAdd, Nat.reduceMul, Nat.reduceSub, Nat.reduceEqDiff, reduceCtorEq, wob, hw1, e1, g1]; exact rfl) ?_ ?_ ?_)
    | (refine go_callG [(10000, 10000), (15000, 15000)] [(10000, 10000), (15000, 15000)] [15000] [10000] (by simp only [go_sem, Nat.reduceBEq, Nat.reduceBneDiff, Nat.reduceLT, Nat.reduceLeDiff, Nat.reduceAdd, Nat.reduceMul, Nat.reduceSub, Nat.reduceEqDiff, reduceCtorEq, wob, hw1, e1, g1]; exact rfl) ?_ rfl rfl (by first | exact .inl rfl | exact .inr rfl) (by simp only [go_sem, Nat.reduceBEq, Nat.reduceBneDiff, Nat.reduceLT, Nat.reduceLeDiff, Nat.reduceAdd, Nat.reduceMul, Nat.reduceSub, Nat.reduceEqDiff, reduceCtorEq, wob, hw1, e1, g1] <;> exact rfl) (hc) (.inl rfl) ?_)
    | (refine go_call (by simp only [go_sem, Nat.reduceBEq, Nat.reduceBneDiff, Nat.reduceLT, Nat.reduceLeDiff, Nat.reduceAdd, Nat.reduceMul, Nat.reduceSub, Nat.reduceEqDiff, reduceCtorEq, wob, hw1, e1, g1]; exact rfl) ?_ (fun _ => hpl) rfl ?_) | fail)) <;> (try omega)
      exact ⟨(k + 1, plusL [sum, withinM (atE X p.ty).fixed n], ls'), by simp only [go_sem, Nat.reduceBEq, Nat.reduceBneDiff, Nat.reduceLT, Nat.reduceLeDiff, Nat.reduceAdd, Nat.reduceMul, Nat.reduceSub, Nat.reduceEqDiff, reduceCtorEq, wob]; exact rfl, ⟨by simp only; omega, plusL_bd _, by simp only; omega, heq⟩, by simp only; omega⟩
  · have e1 : ((k : Int) < x.parts.length) = False := eq_false (by omega)
    rw [List.drop_eq_nil_of_le (by omega), fieldsW] at heq
    (repeat' (first
    | exact trivial
    | (with_reducible first | refine aw_seq ?_ | refine aw_block ?_ | refine aw_skip ?_ | refine aw_ret ?_ | refine aw_exit ?_ | refine aseq_normal ?_ | refine aseq_ret ?_ | refine aseq_exit ?_ | refine ablk_normal ?_ | refine ablk_ret ?_ | refine ablk_hit ?_ | refine aw_region ?_ | refine go_nil ?_ | refine al_of ?_)
    | with_reducible refine ablk_miss (by decide) ?_
    | ((with_reducible refine al_id ?_); refine go_run (tyOf_ok _) [] (by simp only [go_sem, Nat.reduceBEq, Nat.reduceBneDiff, Nat.reduceLT, Nat.reduceLeDiff, Nat.reduceAdd, Nat.reduceMul, Nat.reduceSub, Nat.reduceEqDiff, reduceCtorEq, wob, hw1, e1]; exact rfl) ?_ ?_)
    | (refine aw_cond (by simp only [go_sem, Nat.reduceBEq, Nat.reduceBneDiff, Nat.reduceLT, Nat.reduceLeDiff, Nat.reduceAdd, Nat.reduceMul, Nat.reduceSub, Nat.reduceEqDiff, reduceCtorEq, wob, hw1, e1]; exact rfl) (by simp only [go_sem, Nat.reduceBEq, Nat.reduceBneDiff, Nat.reduceLT, Nat.reduceLeDiff, Nat.reduceAdd, Nat.reduceMul, Nat.reduceSub, Nat.reduceEqDiff, reduceCtorEq]) (fun h => ?_) (fun h => ?_) <;> (try simp only [decide_eq_true_eq, decide_eq_false_iff_not, Bool.not_eq_true', Bool.not_eq_false', Bool.or_eq_true, Bool.or_eq_false_iff, Bool.and_eq_true, Bool.and_eq_false_iff, Decidable.not_not, reduceCtorEq] at h) <;> (try (exfalso; omega)))
    | (first | refine aendG_ret (by simp only [go_sem, Nat.reduceBEq, Nat.reduceBneDiff, Nat.reduceLT, Nat.reduceLeDiff, Nat.reduceAdd, Nat.reduceMul, Nat.reduceSub, Nat.reduceEqDiff, reduceCtorEq, wob, hw1, e1]; exact rfl) ?_ ?_ ?_ | refine aendG_normal (by simp only [go_sem, Nat.reduceBEq, Nat.reduceBneDiff, Nat.reduceLT, Nat.reduceLeDiff, Nat.reduceAdd, Nat.reduceMul, Nat.reduceSub, Nat.reduceEqDiff, reduceCtorEq, wob, hw1, e1]; exact rfl) ?_ ?_ ?_) | fail)) <;> (try omega)
    all_goals rw [heq]
    all_goals (first | exact AV.up_rfl _ | exact obUp_cons rfl (obUp_cons rfl obUp_nil))
end
end Go.Proofs.Ytfgacgpicfknpaa
end

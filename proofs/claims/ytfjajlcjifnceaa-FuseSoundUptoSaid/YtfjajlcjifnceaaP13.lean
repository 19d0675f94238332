import Derived.Test.YtfjajlcjifnceaaRows
import Derived.ProofKit
import Derived.OpenShut
import Derived.ShutString
import Derived.ChangeOld
import Derived.Deep.Slices
import Derived.JoinedCond
import Derived.Test.YtfjajlcjifnceaaP12
set_option linter.all false
set_option maxRecDepth 100000
set_option maxHeartbeats 8000000
namespace Go.Proofs.Ytfjajlcjifnceaa
section
open Go.RowKit
theorem Vq : zN Try.prog 11 [.agg [vB false, .lst 4 (zz []), .lst 1 (v8 [])], .agg [vB false, .v (.slice none 0 0), .v (.slice none 0 0)]] (fun r => r = vB true) := by
 have e0 : ((0 : Int) < 0) = False := by simp
 have e1 : (((0 : Nat) : Int) < ((0 : Nat) : Int)) = False := by simp
 refine zB (za _) Try.func11 rfl rfl (by rw [Try.results11]) Try.ntmps11 rfl fun E => ?_
 (repeat' (first | exact trivial | (with_reducible first | apply awA | apply awB | apply awC | apply awD | apply awE | apply awF | apply awG | apply awH | apply awI | apply awJ | apply awK | apply awL | refine awM (by decide) ?_) | (refine zn (id := 6) (t := (.node [0, 1, 2, 3, 4, 5, 6, 7, 8, 9, 10] [])) (drR [2, 3] [41, 46] []) zD (by kernel_rfl) (by kernel_rfl) (fun _ _ h => h) ?_) | (refine zn (id := 11) (t := (.node [0, 1, 2, 3, 4, 5, 6, 7, 8, 9, 10] [])) (drR [2, 3] [59, 64] []) zD (by kernel_rfl) (by kernel_rfl) (fun _ _ h => h) ?_) | (refine zx (by simp only [go_sem]; exact rfl) ?_) | (refine zA (by simp only [go_sem]; exact rfl) ?_) | refine ze ?_ | refine zl ?_ ?_ | exact zy | ((with_reducible first | apply awn | apply awo | apply awp | refine awQ ?_ | refine awR ?_ | refine awS ?_); intro r hr; simp only [go_sem, Nat.reduceBEq, Nat.reduceLT, Nat.reduceLeDiff, Nat.reduceAdd, Nat.reduceMul, reduceCtorEq, zd, zq, List.length_nil, Int.cast_ofNat_Int] at hr; subst hr; (first | refine awV ?_ ?_ | refine awW ?_ ?_ | refine zR ?_ ?_ | (refine zf (fun h => ?_) (fun h => ?_) <;> (try simp only [go_sem, reduceCtorEq] at h) <;> (try (exfalso; omega))))))) <;> (try omega)
 refine zC [2, 3, 5] [2, 3] (fun _ : Unit => ⟨[(2, true, .ptr 1 2 0 0), (3, true, .ptr 1 3 0 0), (5, true, vI 0)], [(2, .var [vB false, .lst 4 (zz []), .lst 1 (v8 [])]), (3, .var [vB false, .v (.slice none 0 0), .v (.slice none 0 0)])]⟩) (fun _ => True) (fun _ => 0) () (by simp only [go_sem, Nat.reduceBEq] <;> exact rfl) trivial ?_
 intro _ _
 (repeat' (first | exact trivial | (with_reducible first | apply awA | apply awB | apply awC | apply awD | apply awE | apply awF | apply awG | apply awH | apply awI | apply awJ | apply awK | apply awL | refine awM (by decide) ?_) | (refine zn (id := 6) (t := (.node [0, 1, 2, 3, 4, 5, 6, 7, 8, 9, 10] [])) (drR [2, 3] [41, 46] []) zD (by kernel_rfl) (by kernel_rfl) (fun _ _ h => h) ?_) | (refine zn (id := 11) (t := (.node [0, 1, 2, 3, 4, 5, 6, 7, 8, 9, 10] [])) (drR [2, 3] [59, 64] []) zD (by kernel_rfl) (by kernel_rfl) (fun _ _ h => h) ?_) | (refine zx (by simp only [go_sem]; exact rfl) ?_) | (refine zA (by simp only [go_sem]; exact rfl) ?_) | refine ze ?_ | refine zl ?_ ?_ | exact zy | ((with_reducible first | apply awn | apply awo | apply awp | refine awQ ?_ | refine awR ?_ | refine awS ?_); intro r hr; simp only [go_sem, Nat.reduceBEq, Nat.reduceLT, Nat.reduceLeDiff, Nat.reduceAdd, Nat.reduceMul, zd, List.length_nil, e0, Int.cast_ofNat_Int] at hr; subst hr; (first | refine awV ?_ ?_ | refine awW ?_ ?_ | refine zR ?_ ?_ | (refine zf (fun h => ?_) (fun h => ?_) <;> (try simp only [go_sem, reduceCtorEq] at h) <;> (try (exfalso; omega))))))) <;> (try omega)
 refine zC [2, 3, 6] [2, 3] (fun _ : Unit => ⟨[(2, true, .ptr 1 2 0 0), (3, true, .ptr 1 3 0 0), (6, true, vI 0)], [(2, .var [vB false, .lst 4 (zz []), .lst 1 (v8 [])]), (3, .var [vB false, .v (.slice none 0 0), .v (.slice none 0 0)])]⟩) (fun _ => True) (fun _ => 0) () (by simp only [go_sem, Nat.reduceBEq] <;> exact rfl) trivial ?_
 intro _ _
 (repeat' (first | exact trivial | (with_reducible first | apply awA | apply awB | apply awC | apply awD | apply awE | apply awF | apply awG | apply awH | apply awI | apply awJ | apply awK | apply awL | refine awM (by decide) ?_) | (refine zn (id := 6) (t := (.node [0, 1, 2, 3, 4, 5, 6, 7, 8, 9, 10] [])) (drR [2, 3] [41, 46] []) zD (by kernel_rfl) (by kernel_rfl) (fun _ _ h => h) ?_) | (refine zn (id := 11) (t := (.node [0, 1, 2, 3, 4, 5, 6, 7, 8, 9, 10] [])) (drR [2, 3] [59, 64] []) zD (by kernel_rfl) (by kernel_rfl) (fun _ _ h => h) ?_) | (refine zx (by simp only [go_sem]; exact rfl) ?_) | (refine zA (by simp only [go_sem]; exact rfl) ?_) | refine ze ?_ | refine zl ?_ ?_ | exact zy | ((with_reducible first | apply awn | apply awo | apply awp | refine awQ ?_ | refine awR ?_ | refine awS ?_); intro r hr; simp only [go_sem, Nat.reduceBEq, Nat.reduceLT, Nat.reduceLeDiff, Nat.reduceAdd, Nat.reduceMul, zq, List.length_nil, e0, Int.cast_ofNat_Int] at hr; subst hr; (first | refine awV ?_ ?_ | refine awW ?_ ?_ | refine zR ?_ ?_ | (refine zf (fun h => ?_) (fun h => ?_) <;> (try simp only [go_sem, reduceCtorEq] at h) <;> (try (exfalso; omega))))))) <;> (try omega)
 all_goals exact rfl
theorem Zp (e : Bool) (C : List InsM) (N : List Int) (hC : C.length ≤ 100000000) (hN : N.length ≤ 100000000) : zN Try.prog 3 [pG e C N] (fun r => r = vB true) := by
 have hm := WJ e C N hC hN
 have hfi := UQ
 unfold pG at hm ⊢
 refine zB (za _) Try.func3 rfl rfl (by rw [Try.results3]) Try.ntmps3 rfl fun E => ?_
 (repeat' (first | exact trivial | (with_reducible first | apply awA | apply awB | apply awC | apply awD | apply awE | apply awF | apply awG | apply awH | apply awI | apply awJ | apply awK | apply awL | refine awM (by decide) ?_) | (refine zn (id := 12) (t := (.node [0, 1, 2, 3, 4, 5, 6, 7, 8, 9, 10, 11, 12, 13, 14, 15, 16, 17, 18, 19, 20, 21, 22, 23, 24, 25, 26, 27, 28, 29, 30, 31, 32, 33, 34, 35, 36, 37, 38, 39, 40, 41] [])) (drR [5, 3, 7] [] []) zD (by kernel_rfl) (by kernel_rfl) (fun _ _ h => h) ?_) | (refine zx (by simp only [go_sem]; exact rfl) ?_) | (refine zA (by simp only [go_sem]; exact rfl) ?_) | refine ze ?_ | refine zl ?_ ?_ | exact zy | ((with_reducible first | apply awn | apply awo | apply awp | refine awQ ?_ | refine awR ?_ | refine awS ?_); intro r hr; simp only [go_sem, Nat.reduceBEq, Nat.reduceLT, Nat.reduceLeDiff, Nat.reduceAdd, Nat.reduceMul] at hr; subst hr; (first | refine caA (fun _ => hfi) rfl ?_ ?_ ?_ | refine caD (hm) rfl ?_ ?_ (fun r hr => wl ?_) | refine awV ?_ ?_ | refine awW ?_ ?_ | refine zR ?_ ?_ | (refine zf (fun h => ?_) (fun h => ?_) <;> (try simp only [go_sem, reduceCtorEq] at h) <;> (try (exfalso; omega))))))) <;> (try omega)
 refine ⟨?_⟩
 obtain ⟨X, Z, rfl, hc, hx1, hx2⟩ := hr
 have hZ := (z9 hc).1.2
 have hver := xy e X Z (by omega) (by omega)
 have hf := vJ e X Z (by omega) (by omega)
 have hs := vi e X Z (by omega) (by omega)
 unfold Vp at hf
 unfold Yk at hs
 by_cases hv : (wX e X Z).1 = 0
 ·rw [if_pos hv] at hf hs
  have l1 := Qj hc
  have l2 := Jm hc
  have l3 := kN hc
  have c1 := (x9 hc).1
  have c2 := uM hc (by omega)
  have v1 := xy e (ye e X Z) (yX e X Z) (by omega) (by rw [x8]; omega)
  have v2 := xy e (zF e X) (yb e X Z) (by omega) (by rw [xr]; omega)
  rw [Wv hv] at v1
  rw [Yt hv (by omega)] at v2
  rw [(vF hv).2.2.2] at hver
  have q1 : zN Try.prog 11 [pG e (ye e X Z) (yX e X Z), pG e X Z] (fun r => r = vB (decide ((ye e X Z).length = X.length))) := by
   by_cases h : (ye e X Z).length = X.length
   ·obtain ⟨h1, h2⟩ := Qi hc h
    rw [decide_eq_true h, h1, h2]
    exact x1 e X Z (by omega) (by omega)
   ·rw [decide_eq_false h]
    exact jE e _ _ _ _ (by omega) (by omega) h
  have q2 : zN Try.prog 11 [pG e (zF e X) (yb e X Z), pG e X Z] (fun r => r = vB (decide ((zF e X).length = X.length))) := by
   by_cases h : (zF e X).length = X.length
   ·obtain ⟨h1, h2⟩ := Vs hc h
    rw [decide_eq_true h, h1, h2]
    exact x1 e X Z (by omega) (by omega)
   ·rw [decide_eq_false h]
    exact jE e _ _ _ _ (by omega) (by omega) h
  have o1 := jH e X Z (ye e X Z) (yX e X Z) hc c1 (Qh hc)
  have o2 := jH e X Z (zF e X) (yb e X Z) hc c2 (Vr hc)
  have n1 := x8 e X Z
  have n2 := xr e X Z
  generalize ye e X Z = A at *
  generalize yX e X Z = AN at *
  generalize zF e X = B at *
  generalize yb e X Z = BN at *
  have e1 : ((A.length : Int) > (X.length : Int)) = False := eq_false (by omega)
  have e2 : ((B.length : Int) < (X.length : Int)) = False := eq_false (by omega)
  have e3 : ((A.length : Int) = (X.length : Int)) = (A.length = X.length) := propext ⟨fun h => by omega, fun h => by omega⟩
  have e4 : ((B.length : Int) = (X.length : Int)) = (B.length = X.length) := propext ⟨fun h => by omega, fun h => by omega⟩
  clear l1 l2 l3 c1 c2 hc hv
  unfold pG at *
  (repeat' (first | exact trivial | (with_reducible first | apply awA | apply awB | apply awC | apply awD | apply awE | apply awF | apply awG | apply awH | apply awI | apply awJ | apply awK | apply awL | refine awM (by decide) ?_) | (refine zn (id := 12) (t := (.node [0, 1, 2, 3, 4, 5, 6, 7, 8, 9, 10, 11, 12, 13, 14, 15, 16, 17, 18, 19, 20, 21, 22, 23, 24, 25, 26, 27, 28, 29, 30, 31, 32, 33, 34, 35, 36, 37, 38, 39, 40, 41] [])) (drR [5, 3, 7] [] []) zD (by kernel_rfl) (by kernel_rfl) (fun _ _ h => h) ?_) | (refine zx (by simp only [go_sem]; exact rfl) ?_) | (refine zA (by simp only [go_sem]; exact rfl) ?_) | refine ze ?_ | refine zl ?_ ?_ | exact zy | ((with_reducible first | apply awn | apply awo | apply awp | refine awQ ?_ | refine awR ?_ | refine awS ?_); intro r hr; simp only [go_sem, Nat.reduceBEq, Nat.reduceLT, Nat.reduceLeDiff, Nat.reduceAdd, Nat.reduceMul, reduceCtorEq, e1, e2, e3, e4, n1, n2, zd, zq, ne_eq, not_true_eq_false, decide_false] at hr; subst hr; (first | refine caA (fun _ => hver) rfl ?_ ?_ ?_ | refine caC (hf) rfl ?_ ?_ ?_ | refine caC (hs) rfl ?_ ?_ ?_ | refine caA (fun _ => v1) rfl ?_ ?_ ?_ | refine caA (fun _ => v2) rfl ?_ ?_ ?_ | refine caA (fun _ => q1) rfl ?_ ?_ ?_ | refine caA (fun _ => q2) rfl ?_ ?_ ?_ | refine caA (fun _ => o1) rfl ?_ ?_ ?_ | refine caA (fun _ => o2) rfl ?_ ?_ ?_ | refine awV ?_ ?_ | refine awW ?_ ?_ | refine zR ?_ ?_ | (refine zf (fun h => ?_) (fun h => ?_) <;> (try simp only [go_sem, reduceCtorEq] at h) <;> (try (exfalso; omega))))))) <;> (try omega)
  all_goals exact rfl
 ·rw [if_neg hv] at hf hs
  have hq := Vq
  generalize wX e X Z = f at *
  obtain ⟨f1, f2⟩ := f
  have e1 : (f1 = 0) = False := eq_false hv
  unfold Xj at *
  unfold pG at *
  (repeat' (first | exact trivial | (with_reducible first | apply awA | apply awB | apply awC | apply awD | apply awE | apply awF | apply awG | apply awH | apply awI | apply awJ | apply awK | apply awL | refine awM (by decide) ?_) | (refine zn (id := 12) (t := (.node [0, 1, 2, 3, 4, 5, 6, 7, 8, 9, 10, 11, 12, 13, 14, 15, 16, 17, 18, 19, 20, 21, 22, 23, 24, 25, 26, 27, 28, 29, 30, 31, 32, 33, 34, 35, 36, 37, 38, 39, 40, 41] [])) (drR [5, 3, 7] [] []) zD (by kernel_rfl) (by kernel_rfl) (fun _ _ h => h) ?_) | (refine zx (by simp only [go_sem]; exact rfl) ?_) | (refine zA (by simp only [go_sem]; exact rfl) ?_) | refine ze ?_ | refine zl ?_ ?_ | exact zy | ((with_reducible first | apply awn | apply awo | apply awp | refine awQ ?_ | refine awR ?_ | refine awS ?_); intro r hr; simp only [go_sem, Nat.reduceBEq, Nat.reduceLT, Nat.reduceLeDiff, Nat.reduceAdd, Nat.reduceMul, reduceCtorEq, e1] at hr; subst hr; (first | refine caA (fun _ => hver) rfl ?_ ?_ ?_ | refine caC (hf) rfl ?_ ?_ ?_ | refine caC (hs) rfl ?_ ?_ ?_ | refine caA (fun _ => hq) rfl ?_ ?_ ?_ | refine awV ?_ ?_ | refine awW ?_ ?_ | refine zR ?_ ?_ | (refine zf (fun h => ?_) (fun h => ?_) <;> (try simp only [go_sem, reduceCtorEq] at h) <;> (try (exfalso; omega))))))) <;> (try omega)
  all_goals exact rfl
end
section
open Go.ChangeShapes Go.WideShapes Go.ChangeAt Go.RowKit
theorem own : ownKnob Try.prog.godebug = none := by kernel_rfl
theorem UT : laidOutB Try.prog = true := by kernel_rfl
end
section
open Go.ChangeShapes Go.WideShapes Go.ChangeAt Go.RowKit Go.Deep
theorem V0 (b off j : Nat) : (⟨b, off, none⟩ : Addr).add j = ⟨b, off + j, none⟩ := by
 unfold Addr.add; by_cases h : j = 0 <;> simp [h]
section
variable {H : Type} {enc : TypeId × Value → H} {P : Program} {w : World} {base : Nat} {spare : Nat → Bool} {held : Bool}
end
end
section
open Go.RowKit
section
variable {P : Program} {w : World}
theorem zN.row {f : Nat} {args : List AV} (h : zN P f args (fun r => r = .v (.bool true))) (vs : Array Value) (hl : vs.size = args.length)
  (ha : ∀ (i : Nat) (x : AV) (v : Value), args[i]? = some x → vs[i]? = some v → AVR (fun b => b < w.heap.size) (fun _ => none) w x v) (hg : FOK (fun b => b < w.heap.size) w) :
  Calls P f vs w fun e w' => e = .returned (.bool true) ∧ Below w.heap.size w w' :=
 (h.2 w _ vs hg hl ha).mono fun e w' ⟨v, r, h1, h2, h3, h4⟩ => by
  subst h2
  cases h4 with
  | s h4 =>
  cases h4 with
  | v _ => exact ⟨h1, h3⟩
end
end
end Go.Proofs.Ytfjajlcjifnceaa
section
namespace Go.Proofs.Ytfjajlcjifnceaa.bulks
open Go.ChangeShapes Go.WideShapes Go.ChangeAt Go.RowKit
theorem zcj {H : Type} (d : DataW H) : 1 ≤ Rows.uptoBulk d := by
 cases d with
 | lit l => cases l <;> simp [Rows.uptoBulk]
 | nil => simp [Rows.uptoBulk]
 | ptr d => simp [Rows.uptoBulk]
 | slice elems spare => simp [Rows.uptoBulk]
 | agg parts => simp [Rows.uptoBulk]
 | iface t d => simp [Rows.uptoBulk]
 | map entries => simp [Rows.uptoBulk]
 | held h => simp [Rows.uptoBulk]
theorem part_le {H : Type} {d : DataW H} {l : List (DataW H)} (h : d ∈ l) : Rows.uptoBulk d ≤ Rows.uptoBulkAll l := by
 induction l with
 | nil => cases h
 | cons x r ih =>
  simp only [Rows.uptoBulkAll]
  cases List.mem_cons.1 h with
  | inl e => subst e; omega
  | inr e => have := ih e; omega
theorem length_le {H : Type} (l : List (DataW H)) : l.length ≤ Rows.uptoBulkAll l := by
 induction l with
 | nil => simp [Rows.uptoBulkAll]
 | cons x r ih => have := zcj x; simp only [Rows.uptoBulkAll, List.length_cons]; omega
theorem bound {H : Type} {l : List (DataW H)} (hk : Rows.uptoSmall H l = true) : Rows.uptoBulkAll l ≤ 1048576 := of_decide_eq_true hk
end Go.Proofs.Ytfjajlcjifnceaa.bulks
end
namespace Go.Proofs.Ytfjajlcjifnceaa
section
open Go.ChangeShapes Go.WideShapes Go.ChangeAt Go.RowKit Go.Deep
def QV (P : Program) : List Field → Nat → Nat → Bool
 | [], o, n => o == n
 | f :: l, o, n => (f.offset == o) && QV P l (o + P.cellsOf f.type) n
def vw (P : Program) : Nat → TypeId → Bool
 | 0, _ => false
 | n + 1, t =>
  match P.underlying t with
  | some .bool | some .string => P.cellsOf t == 1
  | some (.int _) => P.cellsOf t == 1
  | some (.slice e) => P.cellsOf t == 1 && Nat.blt 0 (P.cellsOf e) && vw P n e
  | some (.struct fs) => QV P fs.toList 0 (P.cellsOf t) && fs.toList.all fun f => vw P n f.type
  | _ => false
def y6 (P : Program) (B : Nat) : Nat → TypeId → List AV → Prop
 | 0, _, _ => False
 | n + 1, t, us =>
  match P.underlying t with
  | some .bool => ∃ b, us = [.v (.bool b)]
  | some (.int k) => ∃ z, us = [.v (.int k z)] ∧ (Lit.int k z).wf = true
  | some .string => ∃ s : ByteArray, us = [.v (.string s)] ∧ s.size ≤ B
  | some (.slice e) => ∃ xs, us = [.lst (P.cellsOf e) xs] ∧ xs.length ≤ B ∧ ∀ cs ∈ xs, cs.length = P.cellsOf e ∧ y6 P B n e cs
  | some (.struct fs) => us.length = P.cellsOf t ∧ ∀ (i : Nat) (f : Field), fs[i]? = some f → y6 P B n f.type ((us.drop f.offset).take (P.cellsOf f.type))
  | _ => False
def uS (P : Program) (B n : Nat) (t : TypeId) (x : AV) : Prop :=
 match P.underlying t with
 | some (.struct _) => ∃ us, x = .agg us ∧ y6 P B n t us
 | _ => y6 P B n t [x]
def qE (P : Program) (B n : Nat) : List TypeId → List AV → Prop
 | [], [] => True
 | t :: ts, x :: xs => uS P B n t x ∧ qE P B n ts xs
 | _, _ => False
theorem jW {H : Type} {elems spare : List (DataW H)} {B : Nat} (h : Rows.uptoBulk (.slice elems spare) ≤ B) : elems.length ≤ B ∧ ∀ d ∈ elems, Rows.uptoBulk d ≤ B := by
 simp only [Rows.uptoBulk] at h
 have h1 := bulks.length_le elems
 exact ⟨by omega, fun d hd => by have := bulks.part_le hd; omega⟩
theorem JI {H : Type} {parts : List (DataW H)} {B : Nat} (h : Rows.uptoBulk (.agg parts) ≤ B) : ∀ d ∈ parts, Rows.uptoBulk d ≤ B := fun d hd => by
 simp only [Rows.uptoBulk] at h
 have := bulks.part_le hd; omega
section
variable {H : Type} {enc : TypeId × Value → H} {P : Program} {w : World} {base : Nat} {spare : Nat → Bool} {held : Bool}
theorem VD : ∀ (l : List Field) (o n : Nat), QV P l o n = true → ∀ (us : Nat → List AV), (∀ (i : Nat) (f : Field), l[i]? = some f → (us i).length = P.cellsOf f.type) →
  ∃ r : List AV, r.length = n - o ∧ o ≤ n ∧ (∀ (i : Nat) (f : Field), l[i]? = some f → o ≤ f.offset ∧ (r.drop (f.offset - o)).take (P.cellsOf f.type) = us i) ∧
   ∀ j, j < n - o → ∃ i f q, l[i]? = some f ∧ q < P.cellsOf f.type ∧ o + j = f.offset + q ∧ r[j]? = (us i)[q]? := by
 intro l
 induction l with
 | nil =>
  intro o n h us _
  simp only [QV, beq_iff_eq] at h
  subst h
  exact ⟨[], by simp, Nat.le_refl _, fun i f h => by simp at h, fun j hj => by omega⟩
 | cons g l ih =>
  intro o n h us hus
  simp only [QV, Bool.and_eq_true, beq_iff_eq] at h
  obtain ⟨rfl, h⟩ := h
  obtain ⟨r, h1, h2, h3, h4⟩ := ih _ _ h (fun i => us (i + 1)) fun i f hf => hus (i + 1) f (by simpa using hf)
  have hl0 := hus 0 g rfl
  refine ⟨us 0 ++ r, by rw [List.length_append]; omega, by omega, fun i f hf => ?_, fun j hj => ?_⟩
  ·cases i with
   | zero =>
    simp only [List.getElem?_cons_zero, Option.some.injEq] at hf
    subst hf
    refine ⟨Nat.le_refl _, ?_⟩
    rw [Nat.sub_self, List.drop_zero, ← hl0, List.take_left]
   | succ i =>
    obtain ⟨g1, g2⟩ := h3 i f (by simpa using hf)
    refine ⟨by omega, ?_⟩
    rw [show f.offset - g.offset = (us 0).length + (f.offset - (g.offset + P.cellsOf g.type)) by omega, List.drop_append, List.drop_of_length_le (by omega), List.nil_append]
    rw [show (us 0).length + (f.offset - (g.offset + P.cellsOf g.type)) - (us 0).length = f.offset - (g.offset + P.cellsOf g.type) by omega]
    exact g2
  ·rcases Nat.lt_or_ge j (us 0).length with hlt | hge
   ·exact ⟨0, g, j, rfl, by omega, rfl, by rw [List.getElem?_append_left hlt]⟩
   ·obtain ⟨i, f, q, g1, g2, g3, g4⟩ := h4 (j - (us 0).length) (by omega)
    exact ⟨i + 1, f, q, by simpa using g1, g2, by omega, by rw [List.getElem?_append_right hge]; exact g4⟩
theorem JJ (B : Nat) : ∀ (n : Nat) (t : TypeId), vw P n t = true → ∀ (fuel : Nat) (cs : List Value) (x : DataW H × List MemPlace), DataW.trod enc P w base spare held fuel t cs = some x → (Rows.uptoBulk x.1 ≤ B ∨ maxLen ≤ B) →
  ∃ us : List AV, us.length = cs.length ∧ cs.length = P.cellsOf t ∧ (∀ (j : Nat) (u : AV) (v : Value), us[j]? = some u → cs[j]? = some v → SVR (fun b => b < w.heap.size) w u v) ∧ y6 P B n t us := by
 intro n
 induction n with
 | zero => intro t h; cases h
 | succ n ih =>
  intro t hp fuel cs x h hB
  have one : ∀ (u : AV) (v : Value), SVR (fun b => b < w.heap.size) w u v → ∀ (j : Nat) (u' : AV) (v' : Value), [u][j]? = some u' → [v][j]? = some v' → SVR (fun b => b < w.heap.size) w u' v' := fun u v hs j u' v' h1 h2 => by
   cases j with
   | zero => simp only [List.getElem?_cons_zero, Option.some.injEq] at h1 h2; subst h1; subst h2; exact hs
   | succ j => simp at h1
  unfold vw at hp
  split at hp
  ·rename_i ht
   obtain ⟨b, rfl, rfl⟩ := DataW.trod_bool ht h
   simp only [beq_iff_eq] at hp
   exact ⟨[.v (.bool b)], rfl, hp.symm, one _ _ (.v rfl), by unfold y6; rw [ht]; exact ⟨b, rfl⟩⟩
  ·rename_i ht
   obtain ⟨s, rfl, rfl, hs⟩ := DataW.trod_string ht h
   simp only [beq_iff_eq] at hp
   have hsB : s.size ≤ B := by
    rcases hB with hB | hB
    ·simp only [Rows.uptoBulk] at hB
     have h1 : s.data.toList.length = s.size := by rw [Array.length_toList]; rfl
     omega
    ·exact Nat.le_trans hs hB
   refine ⟨[.v (.string s)], rfl, hp.symm, one _ _ (.v rfl), ?_⟩
   unfold y6
   rw [ht]
   exact ⟨s, rfl, hsB⟩
  ·rename_i k ht
   obtain ⟨z, rfl, rfl, hz⟩ := DataW.trod_int ht h
   simp only [beq_iff_eq] at hp
   exact ⟨[.v (.int k z)], rfl, hp.symm, one _ _ (.v rfl), by unfold y6; rw [ht]; exact ⟨z, rfl, hz⟩⟩
  ·rename_i e ht
   simp only [Bool.and_eq_true, beq_iff_eq] at hp
   obtain ⟨⟨hp1, hp2⟩, hp3⟩ := hp
   have hk0 : 0 < P.cellsOf e := Nat.le_of_ble_eq_true hp2
   rcases open_slice ht h with ⟨h0, _⟩ | ⟨a, len, cap, m, f', D, Pl, rfl, hb, hl, hm, hmm, hx0, hx⟩
   ·subst h0
    refine ⟨[.lst (P.cellsOf e) []], rfl, hp1.symm, one _ _ (.lst (fun _ _ => .nilFunc) rfl (Nat.le_refl _) (by decide) (fun cs h => by cases h) (fun h => absurd h (Nat.lt_irrefl _)) (fun i j hi => absurd hi (Nat.not_lt_zero _)) (fun i j cs u h => by simp at h)), ?_⟩
    unfold y6
    rw [ht]
    exact ⟨[], rfl, Nat.zero_le _, fun cs h => by cases h⟩
   ·have hlm : len ≤ m := by rw [hmm]; split <;> omega
    have hBe : ∀ i, i < len → Rows.uptoBulk (D i) ≤ B ∨ maxLen ≤ B := fun i hi => by
     rcases hB with hB | hB
     ·rw [hx0] at hB
      exact .inl ((jW hB).2 _ (List.mem_map.2 ⟨i, List.mem_range.2 hi, rfl⟩))
     ·exact .inr hB
    have hBl : len ≤ B := by
     rcases hB with hB | hB
     ·rw [hx0] at hB
      have := (jW hB).1
      simpa using this
     ·omega
    obtain ⟨f, hf⟩ := choose_lt (n := len) (p := fun i (y : List AV × List Value) => w.cells? base (a.add (i * P.cellsOf e)) (P.cellsOf e) = some y.2 ∧ y.1.length = y.2.length ∧ y.2.length = P.cellsOf e ∧
      (∀ (j : Nat) (u : AV) (v : Value), y.1[j]? = some u → y.2[j]? = some v → SVR (fun b => b < w.heap.size) w u v) ∧ y6 P B n e y.1) (fun i hi => by
     obtain ⟨cs', h1, h2⟩ := hx i (by omega)
     obtain ⟨us, g1, g2, g3, g4⟩ := ih e hp3 _ _ _ h2 (hBe i hi)
     exact ⟨(us, cs'), h1, g1, g2, g3, g4⟩)
    refine ⟨[.lst (P.cellsOf e) ((List.range len).map fun i => (f i).1)], rfl, hp1.symm, one _ _ ?_, ?_⟩
    ·refine .lst (fun i j => ((f i).2[j]?).getD undef) (by simp) hl hm (fun cs hcs => ?_) (fun hn => ?_) (fun i j hi hj => ?_) (fun i j cs u hc hu => ?_)
     ·obtain ⟨i, hi, rfl⟩ := List.mem_map.1 hcs
      have := hf i (List.mem_range.1 hi)
      omega
     ·have hcell : ∀ i j, i < len → j < P.cellsOf e → w.cell? ((a.add (i * P.cellsOf e)).add j) = (f i).2[j]? := fun i j hi hj => (World.cells?_some (hf i hi).1).2.2 j hj
      obtain ⟨b, off, spot⟩ := a
      have h00 := hcell 0 0 hn hk0
      rw [Nat.zero_mul] at h00
      have hz : ((⟨b, off, spot⟩ : Addr).add 0).add 0 = ⟨b, off, spot⟩ := by simp [Addr.add]
      rw [hz, List.getElem?_eq_getElem (by have := hf 0 hn; omega)] at h00
      have hspot : spot = none := World.cell?_spot h00
      subst hspot
      refine ⟨b, off, rfl, World.block_lt_of_cell? w _ h00, fun i j hi hj => ?_⟩
      have h5 := hcell i j hi hj
      rw [add_add, V0] at h5
      rw [h5, List.getElem?_eq_getElem (by have := hf i hi; omega)]
      rfl
     ·have h5 := hf i hi
      have hj1 : j < (f i).1.length := by omega
      have hj2 : j < (f i).2.length := by omega
      rw [List.getElem?_eq_getElem hj2, Option.getD_some]
      exact (h5.2.2.2.1 j _ _ (List.getElem?_eq_getElem hj1) (List.getElem?_eq_getElem hj2)).one
     ·rw [List.getElem?_map] at hc
      rcases Nat.lt_or_ge i len with hi | hi
      ·rw [List.getElem?_range hi] at hc
       simp only [Option.map_some, Option.some.injEq] at hc
       subst hc
       have h5 := hf i hi
       have hj1 : j < (f i).1.length := zE hu
       have hj2 : j < (f i).2.length := by omega
       rw [List.getElem?_eq_getElem hj2, Option.getD_some]
       exact h5.2.2.2.1 j _ _ hu (List.getElem?_eq_getElem hj2)
      ·rw [List.getElem?_eq_none (by simpa using hi)] at hc; cases hc
    ·unfold y6
     rw [ht]
     refine ⟨_, rfl, by simpa using hBl, fun cs hcs => ?_⟩
     obtain ⟨i, hi, rfl⟩ := List.mem_map.1 hcs
     have := hf i (List.mem_range.1 hi)
     exact ⟨by omega, this.2.2.2.2⟩
  ·rename_i fs ht
   simp only [Bool.and_eq_true, List.all_eq_true] at hp
   obtain ⟨hp1, hp2⟩ := hp
   obtain ⟨xs, n', rfl, hx0, hlen, hxl, hf⟩ := DataW.trod_struct ht h
   have hBe : ∀ (i : Nat) (y : DataW H × List MemPlace), xs[i]? = some y → Rows.uptoBulk y.1 ≤ B ∨ maxLen ≤ B := fun i y hy => by
    rcases hB with hB | hB
    ·rw [hx0] at hB
     exact .inl (JI hB _ (List.mem_map.2 ⟨y, List.mem_of_getElem? hy, rfl⟩))
    ·exact .inr hB
   obtain ⟨us, hus⟩ := choose_lt (n := fs.size) (p := fun i (u : List AV) => ∀ f, fs[i]? = some f → u.length = P.cellsOf f.type ∧ ((cs.drop f.offset).take (P.cellsOf f.type)).length = P.cellsOf f.type ∧
     (∀ (j : Nat) (a : AV) (v : Value), u[j]? = some a → ((cs.drop f.offset).take (P.cellsOf f.type))[j]? = some v → SVR (fun b => b < w.heap.size) w a v) ∧ y6 P B n f.type u) (fun i hi => by
    have hix : i < xs.length := by omega
    have hfi := hf i fs[i] (Array.getElem?_eq_getElem hi)
    rw [List.getElem?_eq_getElem hix] at hfi
    obtain ⟨u, g1, g2, g3, g4⟩ := ih (fs[i]).type (hp2 _ (by simp)) _ _ _ hfi (hBe i _ (List.getElem?_eq_getElem hix))
    refine ⟨u, fun f hf' => ?_⟩
    rw [Array.getElem?_eq_getElem hi] at hf'
    injection hf' with hf'
    subst hf'
    exact ⟨by omega, g2, g3, g4⟩)
   have lt_of : ∀ (i : Nat) (f : Field), fs[i]? = some f → i < fs.size := fun i f h => by
    rcases Nat.lt_or_ge i fs.size with h' | h'
    ·exact h'
    ·rw [Array.getElem?_eq_none h'] at h; cases h
   obtain ⟨r, r1, r2, r3, r4⟩ := VD fs.toList 0 (P.cellsOf t) hp1 us fun i f hf' => by
    have hf'' : fs[i]? = some f := by simpa using hf'
    exact (hus i (lt_of i f hf'') f hf'').1
   refine ⟨r, by omega, hlen, fun j u v hu hv => ?_, ?_⟩
   ·obtain ⟨i, f, q, g1, g2, g3, g4⟩ := r4 j (by have := zE hu; omega)
    have g1' : fs[i]? = some f := by simpa using g1
    rw [hu] at g4
    refine (hus i (lt_of i f g1') f g1').2.2.1 q u v g4.symm ?_
    rw [List.getElem?_take_of_lt g2, List.getElem?_drop, ← g3, Nat.zero_add]
    exact hv
   ·unfold y6
    rw [ht]
    refine ⟨by omega, fun i f hf' => ?_⟩
    have := (r3 i f (by simpa using hf')).2
    rw [Nat.sub_zero] at this
    rw [this]
    exact (hus i (lt_of i f hf') f hf').2.2.2
  ·cases hp
theorem JK {B n : Nat} {t : TypeId} (hp : vw P n t = true) {v : Value} {d : DataW H} {p : List MemPlace} (h : DataW.Trod enc P w base spare held t v d p) {r : Reach} {b0 : Nat} (ho : Value.okWide P w r b0 t v) (hB : Rows.uptoBulk d ≤ B ∨ maxLen ≤ B) :
  ∃ x, AVR (fun b => b < w.heap.size) (fun _ => none) w x v ∧ uS P B n t x := by
 obtain ⟨fuel, hf⟩ := h
 obtain ⟨us, h1, h2, h3, h4⟩ := JJ B n t hp fuel _ _ hf hB
 have leaf : v.cells = #[v] → (∀ fs, P.underlying t ≠ some (.struct fs)) → ∃ x, AVR (fun b => b < w.heap.size) (fun _ => none) w x v ∧ uS P B n t x := fun hv hns => by
  rw [hv] at h1 h3
  obtain ⟨u, rfl⟩ := List.length_eq_one_iff.1 (show us.length = 1 by simpa using h1)
  refine ⟨u, .s (h3 0 u v rfl rfl), ?_⟩
  unfold uS
  split
  ·rename_i fs ht; exact absurd ht (hns fs)
  ·exact h4
 have hp' := hp
 cases n with
 | zero => cases hp
 | succ n =>
 unfold vw at hp'
 split at hp'
 ·rename_i ht
  obtain ⟨b, rfl⟩ := okWide_bool ht ho
  exact leaf rfl fun fs h => by rw [ht] at h; cases h
 ·rename_i ht
  obtain ⟨b, rfl⟩ := okWide_string ht ho
  exact leaf rfl fun fs h => by rw [ht] at h; cases h
 ·rename_i k ht
  obtain ⟨b, rfl⟩ := okWide_int ht ho
  exact leaf rfl fun fs h => by rw [ht] at h; cases h
 ·rename_i e ht
  obtain ⟨a, l, c, rfl⟩ := okWide_slice ht ho
  exact leaf rfl fun fs h => by rw [ht] at h; cases h
 ·rename_i fs ht
  obtain ⟨cs, rfl, hcs⟩ := okWide_struct ht ho
  have hc : (Value.agg cs).cells = cs := rfl
  rw [hc] at h1 h3
  refine ⟨.agg us, .agg (by simpa using h1.symm) (fun i u hu => ?_) (fun i c u hc hu => .s (h3 i c u hc (by simpa using hu))), ?_⟩
  ·have hi : i < us.length := by
    rw [h1]
    have := zE (l := cs.toList) (i := i) (x := u) (by simpa using hu)
    exact this
   exact (h3 i _ u (List.getElem?_eq_getElem hi) (by simpa using hu)).one
  ·unfold uS
   rw [ht]
   exact ⟨us, rfl, h4⟩
 ·cases hp'
theorem QW {B n : Nat} {r : Reach} {b0 : Nat} : ∀ (ts : List TypeId) (vs : List Value) (ds : List (DataW H)) (p : List MemPlace), DataW.TrodAll enc P w base spare held ts vs ds p → (∀ t ∈ ts, vw P n t = true) →
  (∀ (j : Nat) t v, ts[j]? = some t → vs[j]? = some v → Value.okWide P w r b0 t v) → (Rows.uptoBulkAll ds ≤ B ∨ maxLen ≤ B) →
  ds.length = ts.length ∧ vs.length = ts.length ∧ ∃ as' : List AV, as'.length = vs.length ∧ (∀ (i : Nat) (x : AV) (v : Value), as'[i]? = some x → vs[i]? = some v → AVR (fun b => b < w.heap.size) (fun _ => none) w x v) ∧ qE P B n ts as' := by
 intro ts
 induction ts with
 | nil =>
  intro vs ds p h _ _ _
  obtain ⟨rfl, rfl, rfl⟩ := trodAll_nil h
  exact ⟨rfl, rfl, [], rfl, fun i x v h => by simp at h, trivial⟩
 | cons t ts ih =>
  intro vs ds p h hp ho hB
  obtain ⟨v, vs', d, ds', p1, q, rfl, rfl, rfl, h1, h2⟩ := trodAll_cons h
  have hB1 : Rows.uptoBulk d ≤ B ∨ maxLen ≤ B := hB.imp (fun h => by simp only [Rows.uptoBulkAll] at h; omega) id
  have hB2 : Rows.uptoBulkAll ds' ≤ B ∨ maxLen ≤ B := hB.imp (fun h => by simp only [Rows.uptoBulkAll] at h; omega) id
  obtain ⟨x, g1, g2⟩ := JK (hp t (.head _)) h1 (ho 0 t v rfl rfl) hB1
  obtain ⟨e1, e2, as', g3, g4, g5⟩ := ih vs' ds' q h2 (fun t ht => hp t (.tail _ ht)) (fun j t v h1 h2 => ho (j + 1) t v (by simpa using h1) (by simpa using h2)) hB2
  refine ⟨by simp [e1], by simp [e2], x :: as', by simp [g3], fun i y u hy hu => ?_, g2, g5⟩
  cases i with
  | zero => simp only [List.getElem?_cons_zero, Option.some.injEq] at hy hu; subst hy; subst hu; exact g1
  | succ i => exact g4 i y u (by simpa using hy) (by simpa using hu)
end
theorem ZI {H : Type} {enc : TypeId × Value → H} {P : Program} (hl : laidOutB P = true) {W W' : World} (hb : Below W.heap.size W W') : ∀ (ts : List TypeId) (vs : List Value) (ds : List (DataW H)) (p : List MemPlace),
  (∀ t ∈ ts, P.readableRec t = true ∧ t < P.types.size) → DataW.TrodAll enc P W 0 (fun _ => true) true ts vs ds p → DataW.TrodAll enc P W' 0 (fun b => decide (b < W.heap.size)) true ts vs ds p := by
 intro ts
 induction ts with
 | nil =>
  intro vs ds p _ h
  obtain ⟨rfl, rfl, rfl⟩ := trodAll_nil h
  exact trodAll_mk0
 | cons t ts ih =>
  intro vs ds p hr h
  obtain ⟨v, vs', d, ds', p1, q, rfl, rfl, rfl, h1, h2⟩ := trodAll_cons h
  have hlt : ∀ x ∈ p1, x.block < W.heap.size := by obtain ⟨m, hm⟩ := h1; exact DataW.trod_lt m _ _ _ hm
  exact trodAll_cons_mk (Below.trod hl (hr t (.head _)).1 (hr t (.head _)).2 h1 hb hlt) (ih vs' ds' q (fun t ht => hr t (.tail _ ht)) h2)
theorem uT {P : Program} (hl : laidOutB P = true) {f : FuncId} {fn : Func} {spec : ChangeSpec} {tb B n : Nat} (hvars : spec.vars = []) (hres : fn.resultTypes = #[tb]) (htb : P.underlying tb = some .bool)
  (hfn : ∀ (H : Type) (ds : List (DataW H)), ds.length = fn.params.toList.length → spec.fn H ds = { results := [.lit (.bool true)], args := ds, vars := [] })
  (hplain : (fn.params.toList.all fun t => vw P n t && P.readableRec t && decide (t < P.types.size)) = true)
  (walk : ∀ as', qE P B n fn.params.toList as' → zN P f as' (fun r => r = .v (.bool true)))
  (H : Type) (enc : TypeId × Value → H) (W : World) (base : Nat) (args : Array Value) (ds gs : List (DataW H)) (before : List MemPlace)
  (hval : ∀ (j : Nat) t v, fn.params[j]? = some t → args[j]? = some v → Value.okWide P W .any base t v)
  (hW : DataW.Whole enc P fn.params.toList spec.vars false W args.toList ds gs before) (hk : Rows.uptoBulkAll (ds ++ gs) ≤ B ∨ maxLen ≤ B) (hF : FOK (fun b => b < W.heap.size) W) :
  Calls P f args W fun e W' => ∃ v, e = .returned v ∧ spec.post enc P fn false true false false W args v W' := by
 have hW' := hW
 obtain ⟨p, q, hA, hV, rfl, hfz, hnd⟩ := hW
 rw [hvars] at hV
 obtain ⟨rfl, rfl⟩ := trodVars_none hV
 rw [List.append_nil] at hk
 simp only [List.all_eq_true, Bool.and_eq_true, decide_eq_true_eq] at hplain
 obtain ⟨e1, e2, as', g1, g2, g3⟩ := QW _ _ _ _ hA (fun t ht => (hplain t ht).1.1) (fun j t v h1 h2 => hval j t v (by simpa using h1) (by simpa using h2)) hk
 refine (zN.row (walk as' g3) args (by simpa using g1.symm) (fun i x v hx hv => g2 i x v hx (by simpa using hv)) hF).mono fun e W' ⟨he, bel⟩ => ?_
 subst he
 have hs : spec.fn H (ds ++ []) = { results := [.lit (.bool true)], args := ds, vars := [] } := by rw [List.append_nil]; exact hfn H ds e1
 refine ⟨_, rfl, ds, [], _, [], p, [], hW', ?_, ?_, ?_, bel.frame _, fun h => by cases h⟩
 ·rw [hs, hres]
  exact trodAll_mk1 (shut_bool htb _)
 ·rw [hs]
  exact ZI hl bel _ _ _ _ (fun t ht => ⟨(hplain t ht).1.2, (hplain t ht).2⟩) hA
 ·rw [hs, hvars]; rfl
end
section
open Go.ChangeShapes Go.WideShapes Go.ChangeAt Go.RowKit
section
variable {P : Program} {B n : Nat} {t e : TypeId} {us : List AV}
theorem YX {k : IntKind} (ht : P.underlying t = some (.int k)) (h : y6 P B (n + 1) t us) : ∃ z, us = [.v (.int k z)] ∧ (Lit.int k z).wf = true := by
 unfold y6 at h; rw [ht] at h; exact h
theorem zbN (ht : P.underlying t = some .bool) (h : y6 P B (n + 1) t us) : ∃ b, us = [.v (.bool b)] := by
 unfold y6 at h; rw [ht] at h; exact h
theorem Kr {ts : List TypeId} {as' : List AV} (h : qE P B n (t :: ts) as') : ∃ x xs, as' = x :: xs ∧ uS P B n t x ∧ qE P B n ts xs := by
 cases as' with
 | nil => exact h.elim
 | cons x xs => exact ⟨x, xs, rfl, h.1, h.2⟩
theorem zaC {as' : List AV} (h : qE P B n [] as') : as' = [] := by
 cases as' with
 | nil => rfl
 | cons x xs => exact h.elim
theorem YY {fs : Array Field} {k : Nat} (ht : P.underlying t = some (.struct fs)) (hk : P.cellsOf t = k) (h : y6 P B (n + 1) t us) : us.length = k ∧ ∀ (i : Nat) (f : Field), fs[i]? = some f → y6 P B n f.type ((us.drop f.offset).take (P.cellsOf f.type)) := by
 unfold y6 at h; rw [ht, hk] at h; exact h
theorem zbO {fs : Array Field} {x : AV} (ht : P.underlying t = some (.struct fs)) (h : uS P B n t x) : ∃ us, x = .agg us ∧ y6 P B n t us := by
 unfold uS at h; rw [ht] at h; exact h
theorem zbP {α : Type} {xs : List (List AV)} {enc : α → List AV} {p : α → Prop} (h : ∀ cs ∈ xs, ∃ a, cs = enc a ∧ p a) : ∃ l : List α, xs = l.map enc ∧ ∀ a ∈ l, p a := by
 induction xs with
 | nil => exact ⟨[], rfl, fun a h => by cases h⟩
 | cons x xs ih =>
  obtain ⟨a, rfl, ha⟩ := h x (.head _)
  obtain ⟨l, rfl, hl⟩ := ih fun cs hcs => h cs (.tail _ hcs)
  exact ⟨a :: l, rfl, fun b hb => by rcases List.mem_cons.1 hb with rfl | hb; (· exact ha); exact hl b hb⟩
theorem W9 {α : Type} {enc : α → List AV} {p : α → Prop} {k : Nat} (ht : P.underlying t = some (.slice e)) (hk : P.cellsOf e = k) (h : y6 P B (n + 1) t us) (he : ∀ cs, y6 P B n e cs → ∃ a, cs = enc a ∧ p a) :
  ∃ l : List α, us = [.lst k (l.map enc)] ∧ l.length ≤ B ∧ ∀ a ∈ l, p a := by
 unfold y6 at h
 rw [ht] at h
 obtain ⟨xs, rfl, h1, h2⟩ := h
 obtain ⟨l, rfl, h3⟩ := zbP (enc := enc) (p := p) fun cs hcs => he cs (h2 cs hcs).2
 exact ⟨l, by rw [hk], by simpa using h1, h3⟩
theorem zbQ {k : IntKind} (ht : P.underlying t = some (.slice e)) (he : P.underlying e = some (.int k)) (hk : P.cellsOf e = 1) (h : y6 P B (n + 2) t us) :
  ∃ l : List Int, us = [.lst 1 (l.map fun z => [.v (.int k z)])] ∧ l.length ≤ B ∧ ∀ z ∈ l, (Lit.int k z).wf = true :=
 W9 ht hk h fun cs hcs => by obtain ⟨z, h1, h2⟩ := YX he hcs; exact ⟨z, h1, h2⟩
end
end
section
open Go.ChangeShapes Go.WideShapes Go.ChangeAt Go.RowKit
theorem zaD : (Try.prog).cellsOf 3 = 1 := by kernel_rfl
theorem zbR : (Try.prog).cellsOf 4 = 1 := by kernel_rfl
theorem zaE : (Try.prog).cellsOf 38 = 4 := by kernel_rfl
theorem zbS : (Try.prog).cellsOf 22 = 1 := by kernel_rfl
theorem zbT : (Try.prog).cellsOf 23 = 1 := by kernel_rfl
theorem zbU : (Try.prog).cellsOf 25 = 3 := by kernel_rfl
theorem zc7 {B n : Nat} {us : List AV} (h : y6 Try.prog B (n + 2) 38 us) : ∃ x : InsM, us = zau x ∧ True := by
 obtain ⟨hl, hf⟩ := YY Try.underlying38 zaE h
 have h0 : y6 Try.prog B _ 3 ((us.drop 0).take ((Try.prog).cellsOf 3)) := hf 0 _ rfl
 have h1 : y6 Try.prog B _ 3 ((us.drop 1).take ((Try.prog).cellsOf 3)) := hf 1 _ rfl
 have h2 : y6 Try.prog B _ 3 ((us.drop 2).take ((Try.prog).cellsOf 3)) := hf 2 _ rfl
 have h3 : y6 Try.prog B _ 3 ((us.drop 3).take ((Try.prog).cellsOf 3)) := hf 3 _ rfl
 match us, hl, h0, h1, h2, h3 with
 | [u0, u1, u2, u3], _, h0, h1, h2, h3 =>
 simp only [zaD, List.drop_zero, List.drop_succ_cons, List.take_succ_cons, List.take_zero] at h0 h1 h2 h3
 obtain ⟨a, g1, _⟩ := YX Try.underlying3 h0
 obtain ⟨b, g3, _⟩ := YX Try.underlying3 h1
 obtain ⟨c, g5, _⟩ := YX Try.underlying3 h2
 obtain ⟨d, g7, _⟩ := YX Try.underlying3 h3
 injection g1 with g1; injection g3 with g3; injection g5 with g5; injection g7 with g7
 subst g1; subst g3; subst g5; subst g7
 exact ⟨⟨a, b, c, d⟩, rfl, trivial⟩
theorem Ks {B n : Nat} {x : AV} (h : uS Try.prog B (n + 6) 25 x) : ∃ e C N, x = pG e C N ∧ C.length ≤ B ∧ N.length ≤ B := by
 obtain ⟨us, rfl, h'⟩ := zbO Try.underlying25 h
 obtain ⟨hl, hf⟩ := YY Try.underlying25 zbU h'
 have h0 : y6 Try.prog B _ 4 ((us.drop 0).take ((Try.prog).cellsOf 4)) := hf 0 _ rfl
 have h1 : y6 Try.prog B _ 22 ((us.drop 1).take ((Try.prog).cellsOf 22)) := hf 1 _ rfl
 have h2 : y6 Try.prog B _ 23 ((us.drop 2).take ((Try.prog).cellsOf 23)) := hf 2 _ rfl
 match us, hl, h0, h1, h2 with
 | [u0, u1, u2], _, h0, h1, h2 =>
 simp only [zbR, zbS, zbT, List.drop_zero, List.drop_succ_cons, List.take_succ_cons, List.take_zero] at h0 h1 h2
 obtain ⟨e, g0⟩ := zbN Try.underlying4 h0
 obtain ⟨C, g1, g2, _⟩ := W9 (enc := zau) Try.underlying22 zaE h1 (fun cs => zc7)
 obtain ⟨N, g4, g5, _⟩ := zbQ Try.underlying23 Try.underlying3 zaD h2
 injection g0 with g0; injection g1 with g1; injection g4 with g4
 subst g0; subst g1; subst g4
 exact ⟨e, C, N, rfl, g2, g5⟩
end
end Go.Proofs.Ytfjajlcjifnceaa

import Derived.Test.YtjeplogcfedmeaaP12
set_option linter.all false
section
namespace Go.Proofs.Ytjeplogcfedmeaa
open Go.RowKit
set_option maxRecDepth 100000
set_option maxHeartbeats 8000000
theorem made_P (e : Bool) (C : List InsM) (N : List Int) (hC : C.length ≤ 100000000) (hN : N.length ≤ 100000000) :
  PCall Try.prog 13 [pG e C N, vI 60] (fun r => ∃ X Z, r = pG e X Z ∧ chkF e X Z = (0, 0) ∧ X.length ≤ 100) := by
 refine ((made_E e C N hC hN).toP fun q hq => ?_).mono fun r ⟨⟨X, Z⟩, hI, hr⟩ => ⟨X, Z, hr.trans ?_, hI.1, by have := hI.2.1.2; dsimp only at this; omega⟩
 ·simp [AV.snapOK, AV.snapOK.snapOKL, lk, encIs_len, v8_len]
 ·have e1 : (encIs X).take X.length = encIs X := List.take_of_length_le (by rw [encIs_len]; omega)
  have e2 : (v8 Z).take Z.length = v8 Z := List.take_of_length_le (by rw [v8_len]; omega)
  simp only [AV.snap, AV.snap.snapL, lk, Nat.zero_add, List.drop_zero, Nat.reduceBEq, cond_true, cond_false, e1, e2]
  rfl
theorem encIs_left {D R : List InsM} {i : Nat} (h : i < D.length) : (encIs (D ++ R))[i]? = some [vI (insAt D i).op, vI (insAt D i).a, vI (insAt D i).b, vI (insAt D i).c] := by
 rw [insAt_get4 (by rw [List.length_append]; omega), insAt_left h]
theorem encIs_setL {D R : List InsM} {i : Nat} (h : i < D.length) (x : InsM) : (encIs (D ++ R)).set i [vI x.op, vI x.a, vI x.b, vI x.c] = encIs (D.set i x ++ R) := by
 simp [encIs, encI, List.map_set, List.set_append_left _ _ (show i < (D.map encI).length by simpa using h)]
theorem encIs_front (D R : List InsM) : (encIs (D ++ R)).take D.length = encIs D := by
 rw [encIs_cat, List.take_append_of_le_length (by rw [encIs_len]; omega), List.take_of_length_le (by rw [encIs_len]; omega)]
theorem v8_front (D R : List Int) : (v8 (D ++ R)).take D.length = v8 D := by
 rw [v8_cat, List.take_append_of_le_length (by rw [v8_len]; omega), List.take_of_length_le (by rw [v8_len]; omega)]
theorem obNm_v8 (d : Nat) (l : List Int) : obNm [(d, .row 3 1 (v8 l))] := ⟨fun cs hcs u hu => by
 obtain ⟨z, _, rfl⟩ := List.mem_map.1 hcs
 simp only [List.mem_cons, List.not_mem_nil, or_false] at hu
 exact ⟨_, hu⟩, trivial⟩
theorem repB_early {l : List Int} {C W : List InsM} {nN i : Nat} (h : ¬ (l.getD i 0 = -1 ∧ ¬ (insAt C i).op = 9 ∧ ¬ (insAt W i).op = 9 ∧ ¬ (insAt W i).op = 8 ∧ ¬ (insAt W i).op = 41)) : repB l C W nN i = false := by
 cases hb : repB l C W nN i with
 | false => rfl
 | true =>
  unfold repB at hb
  simp only [Bool.and_eq_true, Bool.not_eq_true', decide_eq_true_eq, decide_eq_false_iff_not] at hb
  obtain ⟨⟨⟨⟨⟨⟨h1, h2⟩, h3⟩, h4⟩, h5⟩, _⟩, _⟩ := hb
  exact absurd ⟨h1, h2, h3, h4, h5⟩ h
theorem repB_late {l : List Int} {C W : List InsM} {nN i : Nat} {b : Bool} (h1 : l.getD i 0 = -1) (h2 : ¬ (insAt C i).op = 9) (h3 : ¬ (insAt W i).op = 9) (h4 : ¬ (insAt W i).op = 8) (h5 : ¬ (insAt W i).op = 41) (ht : tgF (insAt W i).op = b) :
  repB l C W nN i = (!(b && decide ((insAt W i).b ≥ (C.length : Int))) && !((decide ((insAt W i).op = 16) || decide ((insAt W i).op = 17) || decide ((insAt W i).op ≥ 44) && decide ((insAt W i).op ≤ 46)) && decide ((insAt W i).c ≥ (nN : Int)))) := by
 unfold repB callB
 rw [ht, decide_eq_true h1, decide_eq_false h2, decide_eq_false h3, decide_eq_false h4, decide_eq_false h5]
 rfl
theorem late_cases (tb : Bool) (b c o : Int) (n m : Nat) : (tb = false ∧ ((7 : Nat) + 0 = 7) = True ∧ (c ≥ (m : Int)) = False ∧ ((7 : Nat) + 0 = 7) = True ∧ ((7 : Nat) + 0 = 7) = True ∧ ((7 : Nat) + 0 = 7) = True ∧ ((7 : Nat) + 0 = 7) = True) ∨ (tb = false ∧ ((7 : Nat) + 0 = 7) = True ∧ (c ≥ (m : Int)) = True ∧ (o = 16) = True ∧ ((7 : Nat) + 0 = 7) = True ∧ ((7 : Nat) + 0 = 7) = True ∧ ((7 : Nat) + 0 = 7) = True) ∨ (tb = false ∧ ((7 : Nat) + 0 = 7) = True ∧ (c ≥ (m : Int)) = True ∧ (o = 16) = False ∧ (o = 17) = True ∧ ((7 : Nat) + 0 = 7) = True ∧ ((7 : Nat) + 0 = 7) = True) ∨ (tb = false ∧ ((7 : Nat) + 0 = 7) = True ∧ (c ≥ (m : Int)) = True ∧ (o = 16) = False ∧ (o = 17) = False ∧ (o ≥ 44) = True ∧ (o ≤ 46) = True) ∨ (tb = false ∧ ((7 : Nat) + 0 = 7) = True ∧ (c ≥ (m : Int)) = True ∧ (o = 16) = False ∧ (o = 17) = False ∧ (o ≥ 44) = True ∧ (o ≤ 46) = False) ∨ (tb = false ∧ ((7 : Nat) + 0 = 7) = True ∧ (c ≥ (m : Int)) = True ∧ (o = 16) = False ∧ (o = 17) = False ∧ (o ≥ 44) = False ∧ ((7 : Nat) + 0 = 7) = True) ∨ (tb = true ∧ (b ≥ (n : Int)) = False ∧ (c ≥ (m : Int)) = False ∧ ((7 : Nat) + 0 = 7) = True ∧ ((7 : Nat) + 0 = 7) = True ∧ ((7 : Nat) + 0 = 7) = True ∧ ((7 : Nat) + 0 = 7) = True) ∨ (tb = true ∧ (b ≥ (n : Int)) = False ∧ (c ≥ (m : Int)) = True ∧ (o = 16) = True ∧ ((7 : Nat) + 0 = 7) = True ∧ ((7 : Nat) + 0 = 7) = True ∧ ((7 : Nat) + 0 = 7) = True) ∨ (tb = true ∧ (b ≥ (n : Int)) = False ∧ (c ≥ (m : Int)) = True ∧ (o = 16) = False ∧ (o = 17) = True ∧ ((7 : Nat) + 0 = 7) = True ∧ ((7 : Nat) + 0 = 7) = True) ∨ (tb = true ∧ (b ≥ (n : Int)) = False ∧ (c ≥ (m : Int)) = True ∧ (o = 16) = False ∧ (o = 17) = False ∧ (o ≥ 44) = True ∧ (o ≤ 46) = True) ∨ (tb = true ∧ (b ≥ (n : Int)) = False ∧ (c ≥ (m : Int)) = True ∧ (o = 16) = False ∧ (o = 17) = False ∧ (o ≥ 44) = True ∧ (o ≤ 46) = False) ∨ (tb = true ∧ (b ≥ (n : Int)) = False ∧ (c ≥ (m : Int)) = True ∧ (o = 16) = False ∧ (o = 17) = False ∧ (o ≥ 44) = False ∧ ((7 : Nat) + 0 = 7) = True) ∨ (tb = true ∧ (b ≥ (n : Int)) = True ∧ ((7 : Nat) + 0 = 7) = True ∧ ((7 : Nat) + 0 = 7) = True ∧ ((7 : Nat) + 0 = 7) = True ∧ ((7 : Nat) + 0 = 7) = True ∧ ((7 : Nat) + 0 = 7) = True) := by
 cases tb
 ·by_cases hc : c ≥ (m : Int)
  ·by_cases h1 : o = 16
   ·exact .inr (.inl ⟨rfl, eq_true rfl, eq_true hc, eq_true h1, eq_true rfl, eq_true rfl, eq_true rfl⟩)
   ·by_cases h2 : o = 17
    ·exact .inr (.inr (.inl ⟨rfl, eq_true rfl, eq_true hc, eq_false h1, eq_true h2, eq_true rfl, eq_true rfl⟩))
    ·by_cases h3 : o ≥ 44
     ·by_cases h4 : o ≤ 46
      ·exact .inr (.inr (.inr (.inl ⟨rfl, eq_true rfl, eq_true hc, eq_false h1, eq_false h2, eq_true h3, eq_true h4⟩)))
      ·exact .inr (.inr (.inr (.inr (.inl ⟨rfl, eq_true rfl, eq_true hc, eq_false h1, eq_false h2, eq_true h3, eq_false h4⟩))))
     ·exact .inr (.inr (.inr (.inr (.inr (.inl ⟨rfl, eq_true rfl, eq_true hc, eq_false h1, eq_false h2, eq_false h3, eq_true rfl⟩)))))
  ·exact .inl ⟨rfl, eq_true rfl, eq_false hc, eq_true rfl, eq_true rfl, eq_true rfl, eq_true rfl⟩
 ·by_cases hb : b ≥ (n : Int)
  ·exact .inr (.inr (.inr (.inr (.inr (.inr (.inr (.inr (.inr (.inr (.inr (.inr (⟨rfl, eq_true hb, eq_true rfl, eq_true rfl, eq_true rfl, eq_true rfl, eq_true rfl⟩))))))))))))
  ·by_cases hc : c ≥ (m : Int)
   ·by_cases h1 : o = 16
    ·exact .inr (.inr (.inr (.inr (.inr (.inr (.inr (.inl ⟨rfl, eq_false hb, eq_true hc, eq_true h1, eq_true rfl, eq_true rfl, eq_true rfl⟩)))))))
    ·by_cases h2 : o = 17
     ·exact .inr (.inr (.inr (.inr (.inr (.inr (.inr (.inr (.inl ⟨rfl, eq_false hb, eq_true hc, eq_false h1, eq_true h2, eq_true rfl, eq_true rfl⟩))))))))
     ·by_cases h3 : o ≥ 44
      ·by_cases h4 : o ≤ 46
       ·exact .inr (.inr (.inr (.inr (.inr (.inr (.inr (.inr (.inr (.inl ⟨rfl, eq_false hb, eq_true hc, eq_false h1, eq_false h2, eq_true h3, eq_true h4⟩)))))))))
       ·exact .inr (.inr (.inr (.inr (.inr (.inr (.inr (.inr (.inr (.inr (.inl ⟨rfl, eq_false hb, eq_true hc, eq_false h1, eq_false h2, eq_true h3, eq_false h4⟩))))))))))
      ·exact .inr (.inr (.inr (.inr (.inr (.inr (.inr (.inr (.inr (.inr (.inr (.inl ⟨rfl, eq_false hb, eq_true hc, eq_false h1, eq_false h2, eq_false h3, eq_true rfl⟩)))))))))))
   ·exact .inr (.inr (.inr (.inr (.inr (.inr (.inl ⟨rfl, eq_false hb, eq_false hc, eq_true rfl, eq_true rfl, eq_true rfl, eq_true rfl⟩))))))
theorem early_cases {p1 p2 p3 p4 p5 : Prop} (h : ¬ (p1 ∧ ¬ p2 ∧ ¬ p3 ∧ ¬ p4 ∧ ¬ p5)) : (¬ p1 ∧ (7 : Nat) + 0 = 7 ∧ (7 : Nat) + 0 = 7 ∧ (7 : Nat) + 0 = 7 ∧ (7 : Nat) + 0 = 7) ∨ (p1 ∧ p2 ∧ (7 : Nat) + 0 = 7 ∧ (7 : Nat) + 0 = 7 ∧ (7 : Nat) + 0 = 7) ∨ (p1 ∧ ¬ p2 ∧ p3 ∧ (7 : Nat) + 0 = 7 ∧ (7 : Nat) + 0 = 7) ∨ (p1 ∧ ¬ p2 ∧ ¬ p3 ∧ p4 ∧ (7 : Nat) + 0 = 7) ∨ (p1 ∧ ¬ p2 ∧ ¬ p3 ∧ ¬ p4 ∧ p5) := by
 by_cases h1 : p1
 ·by_cases h2 : p2
  ·exact .inr (.inl ⟨h1, h2, rfl, rfl, rfl⟩)
  ·by_cases h3 : p3
   ·exact .inr (.inr (.inl ⟨h1, h2, h3, rfl, rfl⟩))
   ·by_cases h4 : p4
    ·exact .inr (.inr (.inr (.inl ⟨h1, h2, h3, h4, rfl⟩)))
    ·exact .inr (.inr (.inr (.inr ⟨h1, h2, h3, h4, Classical.byContradiction fun h5 => h ⟨h1, h2, h3, h4, h5⟩⟩)))
 ·exact .inl ⟨h1, rfl, rfl, rfl, rfl⟩
theorem soundDead_any (e : Bool) (C : List InsM) (N : List Int) (hC : C.length ≤ 100000000) (hN : N.length ≤ 100000000) (e2 : Bool) (C2 : List InsM) (N2 : List Int) (hC2 : C2.length ≤ 100000000) (hN2 : N2.length ≤ 100000000) : PCall Try.prog 4 [pG e C N, pG e2 C2 N2] (fun r => r = vB true) := by
 have hm := made15_E e C N hC hN
 have hM := (made_P e C2 [] hC2 (by decide)).args (as' := [.agg [vB e, .lst 4 (encIs C2), .v (.slice none 0 0)], vI 60]) (.cons (.agg (.cons (.rfl _) (.cons (.rfl _) (.cons (.nil 1) .nil)))) (.cons (.rfl _) .nil))
 have hfi := first_any
 unfold pG at hm
 unfold pG
 refine go_fn (tyOf_ok _) Try.func4 rfl rfl (by rw [Try.results4]) Try.ntmps4 rfl fun E => ?_
 (repeat' (first | exact trivial | (with_reducible first | apply awA | apply awC | apply awF) | ((with_reducible first | apply awn | apply awo | refine awQ ?_); intro r hr; simp only [go_sem, Nat.reduceBEq, Nat.reduceLT, Nat.reduceLeDiff, Nat.reduceAdd, Nat.reduceMul] at hr; subst hr; (first | refine caA (fun _ => hfi) rfl ?_ ?_ ?_ | refine awV ?_ ?_ | refine awW ?_ ?_ | (refine condK (fun h => ?_) (fun h => ?_) <;> (try simp only [go_sem, reduceCtorEq] at h) <;> (try (exfalso; omega))))) | (refine go_callGE [] [(8001, 8001), (8002, 8002)] [8001, 8002] [] ?_; intro r hr; simp only [go_sem, Nat.reduceBEq, Nat.reduceLT] at hr; subst hr; refine callGV (hm) rfl rfl (by first | exact .inl rfl | exact .inr rfl) ?_ (.inl rfl) (fun q hq => hold ?_)))) <;> (try omega)
 refine ⟨?_⟩
 obtain ⟨⟨X, Z, RX, RZ⟩, hX⟩ : ∃ z, z = q := ⟨_, rfl⟩
 subst hX
 obtain ⟨hc, hx1, hx2⟩ := hq
 dsimp only at hc hx1 hx2
 clear hm
 obtain ⟨⟨hX, hZ⟩, hright, hent⟩ := chkF_ok hc
 have hS := shape_G e X Z (by omega) (by omega)
 have tX := encIs_front X RX
 have tZ := v8_front Z RZ
 (repeat' (first | exact trivial | (with_reducible first | apply awA | apply awF) | ((with_reducible first | apply awn | apply awo); intro r hr; simp only [go_sem, Nat.reduceBEq, Nat.reduceLT, Nat.reduceLeDiff, Nat.reduceAdd, Nat.reduceMul] at hr; subst hr; (first | refine caD (hM) rfl ?_ ?_ (fun r hr => hold ?_) | refine awV ?_ ?_)))) <;> (try omega)
 refine ⟨?_⟩
 obtain ⟨W, M, rfl, hW, hwl⟩ := hr
 clear hM
 by_cases hv : (verF e X Z).1 = 0
 ·obtain ⟨_, _, _, hv0⟩ := ver_ok hv
  have hdo := fun n hn => dead_ok (W := W) hv hW (by omega) n hn
  have hll := (ends_of hv).len
  rw [hv0] at hS
  generalize shF e X Z = l at hS hdo hll
  have tl : (v8 l).take X.length = v8 l := List.take_of_length_le (by rw [v8_len]; omega)
  have r2 : (X.length ≤ X.length) = True := eq_true (Nat.le_refl _)
  unfold pG at *
  (repeat' (first | exact trivial | (refine aw_frz 8003 rfl (by decide) ?_) | (with_reducible first | apply awA | apply awB | apply awC | apply awF) | ((with_reducible first | apply awn | apply awo | refine awQ ?_); intro r hr; simp only [go_sem, Nat.reduceBEq, Nat.reduceLT, Nat.reduceLeDiff, Nat.reduceAdd, Nat.reduceMul, Nat.reduceEqDiff, encIs_len, v8_len, tX, tZ, hll, tl, r2, if_true] at hr; subst hr; (first | refine awV ?_ ?_ | refine awW ?_ ?_ | (refine condK (fun h => ?_) (fun h => ?_) <;> (try simp only [go_sem, reduceCtorEq] at h) <;> (try (exfalso; omega))))) | (refine go_callGE [] [(21, 8003)] [8003] [] ?_; intro r hr; simp only [go_sem, Nat.reduceBEq, Nat.reduceLT, encIs_len, v8_len, tX, tZ] at hr; subst hr; refine callGK (hS) rfl rfl (by first | exact .inl rfl | exact .inr rfl) ?_ (.inr ⟨rfl, ?_⟩) ?_))) <;> (try omega)
  ·exact ⟨by rw [List.length_append]; omega, by rw [List.length_append]; omega⟩
  ·exact obNm_v8 21 l
  refine go_loop [5, 6, 7, 9] [5, 6, 8001, 8002] (fun i : Nat => ⟨[(5, true, .ptr 1 5 0 0), (6, true, .ptr 1 6 0 0), (7, true, .lst 1 (v8 l)), (9, true, vI i)], [(5, .var [vB e, .ref 37 4 8001 0 X.length, .ref 3 1 8002 0 Z.length]), (6, .var [vB e, .lst 4 (encIs W), .lst 1 (v8 M)]), (8001, .row 37 4 (encIs (deadC l X W Z.length i ++ RX))), (8002, .row 3 1 (v8 (Z ++ RZ)))]⟩)
   (fun i => i ≤ X.length ∧ i ≤ W.length) (fun i => X.length - i) 0 (by simp only [deadC_zero, go_sem, Nat.reduceBEq] <;> exact rfl) ⟨Nat.zero_le _, Nat.zero_le _⟩ ?_
  clear hS
  intro i ⟨hi, hi2⟩
  have hwi := wrap_i64 (n := (i : Int) + 1) (by omega)
  have zi : ((i : Int)).toNat = i := by omega
  have hdl := deadC_len l X W Z.length i
  by_cases hlt : i < X.length ∧ i < W.length
  ·obtain ⟨hlt, hlw⟩ := hlt
   have e1 : ((i : Int) < (X.length : Int)) = True := eq_true (by omega)
   have e2 : ((i : Int) < (W.length : Int)) = True := eq_true (by omega)
   have gW := insAt_get4 hlw
   have gX := encIs_left (D := deadC l X W Z.length i) (R := RX) (i := i) (by omega)
   rw [deadC_at hlt, if_neg (fun h => Nat.lt_irrefl _ h.1)] at gX
   have gl := v8_getD (W := l) (i := i) (by omega)
   have ht := targets_any (insAt W i).op
   have hset := encIs_setL (D := deadC l X W Z.length i) (R := RX) (i := i) (by omega) (insAt W i)
   by_cases hq : l.getD i 0 = -1 ∧ ¬ (insAt X i).op = 9 ∧ ¬ (insAt W i).op = 9 ∧ ¬ (insAt W i).op = 8 ∧ ¬ (insAt W i).op = 41
   ·obtain ⟨h1, h2, h3, h4, h5⟩ := hq
    obtain ⟨tb, htb⟩ : ∃ b, tgF (insAt W i).op = b := ⟨_, rfl⟩
    rw [htb] at ht
    have hrep := repB_late (l := l) (C := X) (W := W) (nN := Z.length) (i := i) h1 h2 h3 h4 h5 htb
    rcases late_cases tb (insAt W i).b (insAt W i).c (insAt W i).op X.length Z.length with ⟨rfl, h6, h7, h8, h9, h10, h11⟩ | ⟨rfl, h6, h7, h8, h9, h10, h11⟩ | ⟨rfl, h6, h7, h8, h9, h10, h11⟩ | ⟨rfl, h6, h7, h8, h9, h10, h11⟩ | ⟨rfl, h6, h7, h8, h9, h10, h11⟩ | ⟨rfl, h6, h7, h8, h9, h10, h11⟩ | ⟨rfl, h6, h7, h8, h9, h10, h11⟩ | ⟨rfl, h6, h7, h8, h9, h10, h11⟩ | ⟨rfl, h6, h7, h8, h9, h10, h11⟩ | ⟨rfl, h6, h7, h8, h9, h10, h11⟩ | ⟨rfl, h6, h7, h8, h9, h10, h11⟩ | ⟨rfl, h6, h7, h8, h9, h10, h11⟩ | ⟨rfl, h6, h7, h8, h9, h10, h11⟩
    all_goals (repeat' (first | exact trivial | (with_reducible first | apply awA | apply awB | apply awC | apply awE | apply awF | apply awH | apply awI | apply awK) | ((with_reducible first | apply awn | apply awo | refine awQ ?_); intro r hr; simp (maxSteps := 2000000) only [go_sem, Nat.reduceBEq, Nat.reduceLT, Nat.reduceLeDiff, Nat.reduceAdd, Nat.reduceMul, reduceCtorEq, e1, e2, zi, hwi, gW, gX, gl, h1, h2, h3, h4, h5, h6, h7, h8, h9, h10, h11, hset, encIs_len, v8_len, hll, hdl, List.length_append, List.append_eq, List.cons_append, List.nil_append] at hr; subst hr; (first | refine caA (fun _ => ht) rfl ?_ ?_ ?_ | refine caB 15 (vB true) ?_ ?_ ?_ | refine awV ?_ ?_ | (refine condK (fun h => ?_) (fun h => ?_) <;> (try simp only [go_sem, reduceCtorEq] at h) <;> (try (exfalso; omega))))))) <;> (try omega)
    all_goals refine ⟨i + 1, ?_, ⟨hlt, hlw⟩, by omega⟩
    all_goals
     have hb : (repB l X W Z.length i = true ∧ deadC l X W Z.length (i + 1) = (deadC l X W Z.length i).set i (insAt W i)) ∨ (repB l X W Z.length i = false ∧ deadC l X W Z.length (i + 1) = deadC l X W Z.length i) := by
      cases hb : repB l X W Z.length i with
      | true => exact .inl ⟨rfl, deadC_yes hb hlt⟩
      | false => exact .inr ⟨rfl, deadC_no hb⟩
     rw [hrep] at hb
     simp only [h6, h7, h8, h9, h10, h11, decide_true, decide_false, Bool.and_true, Bool.and_false, Bool.false_and, Bool.or_true, Bool.or_false, Bool.true_or, Bool.not_true, Bool.not_false, reduceCtorEq, true_and, false_and, or_false, false_or] at hb
     simp only [hb, go_sem, Nat.reduceBEq]
     try exact rfl
   ·have hr0 := repB_early (W := W) (nN := Z.length) hq
    have hdn := deadC_no hr0
    rcases early_cases hq with ⟨h1, h2, h3, h4, h5⟩ | ⟨h1, h2, h3, h4, h5⟩ | ⟨h1, h2, h3, h4, h5⟩ | ⟨h1, h2, h3, h4, h5⟩ | ⟨h1, h2, h3, h4, h5⟩
    all_goals (repeat' (first | exact trivial | (with_reducible first | apply awA | apply awB | apply awC | apply awE | apply awF | apply awH | apply awK) | ((with_reducible first | apply awn | apply awo | refine awQ ?_); intro r hr; simp (maxSteps := 2000000) only [go_sem, Nat.reduceBEq, Nat.reduceLT, Nat.reduceLeDiff, Nat.reduceAdd, Nat.reduceMul, reduceCtorEq, e1, e2, zi, hwi, gW, gX, gl, h1, h2, h3, h4, h5, encIs_len, v8_len, hll, List.append_eq, List.cons_append, List.nil_append, Int.reduceEq, Int.reduceLE] at hr; subst hr; (first | refine caB 15 (vB true) ?_ ?_ ?_ | refine awV ?_ ?_ | (refine condK (fun h => ?_) (fun h => ?_) <;> (try simp only [go_sem, reduceCtorEq] at h) <;> (try (exfalso; omega))))))) <;> (try omega)
    all_goals refine ⟨i + 1, ?_, ⟨hlt, hlw⟩, by omega⟩
    all_goals simp only [hdn, go_sem, Nat.reduceBEq]
    all_goals try exact rfl
  ·have he : ¬ ((i : Int) < (X.length : Int) ∧ (i : Int) < (W.length : Int)) := fun h => hlt ⟨by omega, by omega⟩
   obtain ⟨hv1, hs1⟩ := hdo i hi2
   have hS2 := shape_G e (deadC l X W Z.length i ++ endC) Z (by rw [List.length_append, hdl]; show X.length + 3 ≤ _; omega) (by omega)
   rw [hv1, hs1] at hS2
   have tD := encIs_front (deadC l X W Z.length i) RX
   rw [hdl] at tD
   have aD : encIs (deadC l X W Z.length i) ++ [[vI 20, vI 0, vI 0, vI 0], [vI 19, vI 0, vI 0, vI 0], [vI 20, vI 0, vI 0, vI 0]] = encIs (deadC l X W Z.length i ++ endC) := by rw [encIs_cat]; rfl
   have l3 : (l ++ [-1, -1, -1] : List Int).length = X.length + 3 := by rw [List.length_append, hll]; rfl
   have t3 : (v8 (l ++ [-1, -1, -1])).take X.length = v8 l := by have := v8_front l [-1, -1, -1]; rwa [hll] at this
   have g0 := v8_getD (W := l ++ [-1, -1, -1]) (i := X.length) (by omega)
   have g1 := v8_getD (W := l ++ [-1, -1, -1]) (i := X.length + 1) (by omega)
   have g2 := v8_getD (W := l ++ [-1, -1, -1]) (i := X.length + 2) (by omega)
   rw [show (l ++ [-1, -1, -1] : List Int).getD X.length 0 = -1 by simp [List.getD, ← hll]] at g0
   rw [show (l ++ [-1, -1, -1] : List Int).getD (X.length + 1) 0 = -1 by simp [List.getD, ← hll]] at g1
   rw [show (l ++ [-1, -1, -1] : List Int).getD (X.length + 2) 0 = -1 by simp [List.getD, ← hll]] at g2
   have hin := ints_any l l (by omega)
   rw [decide_eq_true rfl] at hin
   have w3 := wrap_i64 (n := (X.length : Int) + 3) (by omega)
   have w1 := wrap_i64 (n := (X.length : Int) + 1) (by omega)
   have w2 := wrap_i64 (n := (X.length : Int) + 2) (by omega)
   have z0 : ((X.length : Int)).toNat = X.length := by omega
   have z1 : ((X.length : Int) + 1).toNat = X.length + 1 := by omega
   have z2 : ((X.length : Int) + 2).toNat = X.length + 2 := by omega
   have q3 : ((X.length + 3 : Nat) : Int) = (X.length : Int) + 3 := by omega
   have tE : (encIs (deadC l X W Z.length i ++ endC)).take (X.length + 3) = encIs (deadC l X W Z.length i ++ endC) := List.take_of_length_le (by rw [encIs_len, List.length_append, hdl]; exact Nat.le_refl _)
   have tm : (v8 (l ++ [-1, -1, -1])).take (X.length + 3) = v8 (l ++ [-1, -1, -1]) := List.take_of_length_le (by rw [v8_len]; omega)
   have hEl : (deadC l X W Z.length i ++ endC).length = X.length + 3 := by rw [List.length_append, hdl]; rfl
   have hRl : X.length ≤ (deadC l X W Z.length i ++ RX).length ∧ (X.length + 3) * 32 ≤ 140737488355328 := ⟨by rw [List.length_append, hdl]; omega, by omega⟩
   unfold pG at hS2
   by_cases hx : (i : Int) < (X.length : Int)
   ·have e1 : ((i : Int) < (X.length : Int)) = True := eq_true hx
    have e2 : ((i : Int) < (W.length : Int)) = False := eq_false (fun h => he ⟨hx, h⟩)
    (repeat' (first | exact trivial | (refine aw_frz 8004 rfl (by decide) ?_) | (with_reducible first | apply awA | apply awD | apply awE | apply awF | apply awH | apply awK) | ((with_reducible first | apply awn | apply awo | refine awQ ?_ | refine awR ?_); intro r hr; simp only [go_sem, Nat.reduceBEq, Nat.reduceLT, Nat.reduceLeDiff, Nat.reduceAdd, Nat.reduceMul, Nat.reduceEqDiff, reduceCtorEq, e1, e2, hll, hEl, tD, aD, l3, g0, g1, g2, w1, w2, w3, z0, z1, z2, q3, tE, tm, tZ, r2, if_true, v8_len, encIs_len, Int.reduceToNat, Int.reduceLE] at hr; subst hr; (first | refine awV ?_ ?_ | refine awW ?_ ?_ | refine endK ?_ ?_ | (refine condK (fun h => ?_) (fun h => ?_) <;> (try simp only [go_sem, reduceCtorEq] at h) <;> (try (exfalso; omega))))) | (refine go_callGE [] [(21, 8004)] [8004] [] ?_; intro r hr; simp only [go_sem, Nat.reduceBEq, Nat.reduceLT, Nat.reduceLeDiff, hEl, tE, tZ, r2, v8_len, encIs_len] at hr; subst hr; refine callGK (hS2) rfl rfl (by first | exact .inl rfl | exact .inr rfl) ?_ (.inr ⟨rfl, ?_⟩) ?_) | ((simp only [t3]; refine go_call (by simp only [go_sem, Nat.reduceBEq, Nat.reduceLT]; exact rfl) ?_ (fun _ => hin) rfl ?_)))) <;> (try omega)
    ·rw [List.length_append]; omega
    ·exact obNm_v8 21 _
    ·rfl
   ·have e1 : ((i : Int) < (X.length : Int)) = False := eq_false hx
    (repeat' (first | exact trivial | (refine aw_frz 8004 rfl (by decide) ?_) | (with_reducible first | apply awA | apply awD | apply awE | apply awF | apply awH | apply awK) | ((with_reducible first | apply awn | apply awo | refine awQ ?_ | refine awR ?_); intro r hr; simp only [go_sem, Nat.reduceBEq, Nat.reduceLT, Nat.reduceLeDiff, Nat.reduceAdd, Nat.reduceMul, Nat.reduceEqDiff, reduceCtorEq, e1, hll, hEl, tD, aD, l3, g0, g1, g2, w1, w2, w3, z0, z1, z2, q3, tE, tm, tZ, r2, if_true, v8_len, encIs_len, Int.reduceToNat, Int.reduceLE] at hr; subst hr; (first | refine awV ?_ ?_ | refine awW ?_ ?_ | refine endK ?_ ?_ | (refine condK (fun h => ?_) (fun h => ?_) <;> (try simp only [go_sem, reduceCtorEq] at h) <;> (try (exfalso; omega))))) | (refine go_callGE [] [(21, 8004)] [8004] [] ?_; intro r hr; simp only [go_sem, Nat.reduceBEq, Nat.reduceLT, Nat.reduceLeDiff, hEl, tE, tZ, r2, v8_len, encIs_len] at hr; subst hr; refine callGK (hS2) rfl rfl (by first | exact .inl rfl | exact .inr rfl) ?_ (.inr ⟨rfl, ?_⟩) ?_) | ((simp only [t3]; refine go_call (by simp only [go_sem, Nat.reduceBEq, Nat.reduceLT]; exact rfl) ?_ (fun _ => hin) rfl ?_)))) <;> (try omega)
    ·rw [List.length_append]; omega
    ·exact obNm_v8 21 _
    ·rfl
 ·obtain ⟨j, hj, _⟩ := ver_err hc hv
  have hl0 : shF e X Z = [] := by unfold shF; rw [if_pos hv]
  rw [hl0, hj] at hS
  unfold pG at *
  (repeat' (first | exact trivial | (with_reducible first | apply awA | apply awD | apply awF | apply awG) | ((with_reducible first | apply awn | apply awo | refine awQ ?_ | refine awR ?_); intro r hr; simp only [go_sem, Nat.reduceBEq, Nat.reduceLT, Nat.reduceLeDiff, Nat.reduceAdd, Nat.reduceMul, reduceCtorEq, encIs_len, v8_len, tX, tZ, List.length_nil, Int.cast_ofNat_Int, Int.reduceEq] at hr; subst hr; (first | refine awV ?_ ?_ | refine awW ?_ ?_ | refine endK ?_ ?_ | (refine condK (fun h => ?_) (fun h => ?_) <;> (try simp only [go_sem, reduceCtorEq] at h) <;> (try (exfalso; omega))))) | (refine go_callGE [] [(21, 8003)] [8003] [] ?_; intro r hr; simp only [go_sem, Nat.reduceBEq, Nat.reduceLT, encIs_len, v8_len, tX, tZ] at hr; subst hr; refine callGK (hS) rfl rfl (by first | exact .inl rfl | exact .inr rfl) ?_ (.inr ⟨rfl, ?_⟩) ?_))) <;> (try omega)
  ·exact ⟨by rw [List.length_append]; omega, by rw [List.length_append]; omega⟩
  ·exact obNm_v8 21 _
  ·rfl
end Go.Proofs.Ytjeplogcfedmeaa
end

import Derived.Test.YtjeplogcfedmeaaP12
set_option linter.all false
section
namespace Go.Proofs.Ytjeplogcfedmeaa
open Go.RowKit
set_option maxRecDepth 100000
set_option maxHeartbeats 8000000
def owS (V2 V3 : AObj) (rest : List (Nat × Bool × AV)) (O : List (Nat × AObj)) (S : List (List Int)) : AState :=
 bif S.isEmpty then ⟨[(2, true, .ptr 1 2 0 0), (3, true, .ptr 1 3 0 0), (5, true, .v (.slice none 0 0)), (6, true, .ref 23 1 8001 0 0)] ++ rest, [(2, V2), (3, V3), (8001, .row 23 1 [])] ++ O⟩
 else ⟨[(2, true, .ptr 1 2 0 0), (3, true, .ptr 1 3 0 0), (5, true, .ref 23 1 53 0 S.length), (6, true, .ref 23 1 8001 0 S.length)] ++ rest,
  [(2, V2), (3, V3), (8001, .row 23 1 (lstI S)), (53, .var (kcel 3 1 53 0 0 (kidI S)))] ++ O ++ kids 3 1 53 0 0 (kidI S)⟩
theorem owS_t (V2 V3 : AObj) (rest : List (Nat × Bool × AV)) (O : List (Nat × AObj)) : owS V2 V3 rest O [] = ⟨[(2, true, .ptr 1 2 0 0), (3, true, .ptr 1 3 0 0), (5, true, .v (.slice none 0 0)), (6, true, .ref 23 1 8001 0 0)] ++ rest, [(2, V2), (3, V3), (8001, .row 23 1 [])] ++ O⟩ := rfl
theorem owS_f (V2 V3 : AObj) (rest : List (Nat × Bool × AV)) (O : List (Nat × AObj)) {S : List (List Int)} (h : 0 < S.length) : owS V2 V3 rest O S = ⟨[(2, true, .ptr 1 2 0 0), (3, true, .ptr 1 3 0 0), (5, true, .ref 23 1 53 0 S.length), (6, true, .ref 23 1 8001 0 S.length)] ++ rest,
  [(2, V2), (3, V3), (8001, .row 23 1 (lstI S)), (53, .var (kcel 3 1 53 0 0 (kidI S)))] ++ O ++ kids 3 1 53 0 0 (kidI S)⟩ := by
 cases S with
 | nil => cases h
 | cons l S => rfl
theorem upL_rfl : ∀ l : List AV, UpL l l
 | [] => .nil
 | a :: l => .cons (.rfl a) (upL_rfl l)
theorem upLL_rfl : ∀ l : List (List AV), UpLL l l
 | [] => .nil
 | a :: l => .cons (upL_rfl a) (upLL_rfl l)
theorem kn_20 (d i : Nat) : (kn d i < 20000) = False := eq_false (by unfold kn; omega)
theorem rmkids_loose {ty kk d : Nat} (e : Nat) (S : KidL) : (rm e (kids ty kk d 0 0 S)).map (fun p => (p.1, p.2.loose)) = rm e (kids ty kk d 0 0 S) := by
 conv => rhs; rw [← List.map_id (rm e (kids ty kk d 0 0 S))]
 refine List.map_congr_left fun q hq => ?_
 obtain ⟨j, p, _, _, rfl⟩ := kids_names 0 (rm_mem hq)
 rfl
def lst2 (S : List (List Int)) : List (List AV) := S.map fun l => [.lst 1 (v8 l)]
theorem lst2_len (S : List (List Int)) : (lst2 S).length = S.length := by simp [lst2]
theorem lst2_get {S : List (List Int)} {i : Nat} {l : List Int} (h : S[i]? = some l) : (lst2 S)[i]? = some [.lst 1 (v8 l)] := by simp [lst2, h]
theorem lst2_grow {S : List (List Int)} {i : Nat} {l : List Int} (h : S[i]? = some l) : lst2 (growI S i) ++ [[.lst 1 (v8 (List.replicate l.length (-5 - (i : Int))) ++ [[.v (.int .i64 (-5 - (i : Int)))]])]] = lst2 (growI S (i + 1)) := by
 rw [← growI_succ h, lst2, lst2, List.map_append, v8_app]
 rfl
theorem kids0 {ty kk d m i : Nat} : kids ty kk d m i [] = [] := rfl
theorem kidI0 : kidI [] = [] := rfl
theorem rmL_kids {ty kk d : Nat} (S : KidL) {e : Nat} (he : e = kn d S.length) : rmL [e] [] (kids ty kk d 0 0 S) = kids ty kk d 0 0 S := by
 subst he
 have : ∀ l : List (Nat × AObj), (∀ q ∈ l, q.1 ≠ kn d S.length) → rmL [kn d S.length] [] l = l := by
  intro l
  induction l with
  | nil => intro _; rfl
  | cons q l ih =>
   intro h
   obtain ⟨a, o⟩ := q
   have h1 : a ≠ kn d S.length := h (a, o) (.head _)
   rw [rmL, show ([kn d S.length].contains a || ([] : List Nat).contains a) = false by simp [h1], cond_false, ih fun q hq => h q (.tail _ hq)]
 refine this _ fun q hq => ?_
 obtain ⟨j, p, h1, _, rfl⟩ := kids_names 0 hq
 intro g
 have := kn_inj g
 have := lt_of_get h1
 omega
theorem shF_len (e : Bool) (C : List InsM) (N : List Int) : (shF e C N).length ≤ C.length := by
 by_cases hv : (verF e C N).1 = 0
 ·have := (ends_of hv).len; omega
 ·unfold shF; rw [if_pos hv]; simp
theorem lk_kidsZ {ty kk d : Nat} (S : KidL) (j : Nat) : lk (kids ty kk d 0 0 S) (kn d j) = (S[j]?).map (fun p => .row ty kk p.2) := by rw [lk_kidsB, if_pos (Nat.zero_le _)]
theorem soundOwn_any (e : Bool) (C : List InsM) (N : List Int) (hC : C.length ≤ 100000000) (hN : N.length ≤ 100000000) (e2 : Bool) (C2 : List InsM) (N2 : List Int) (hC2 : C2.length ≤ 100000000) (hN2 : N2.length ≤ 100000000) : PCall Try.prog 7 [pG e C N, pG e2 C2 N2] (fun r => r = vB true) := by
 have hm := made15_P e C N hC hN
 have hm2 := made15_P e2 C2 N2 hC2 hN2
 have hfi := first_any
 unfold pG at hm hm2
 unfold pG
 obtain ⟨V2, hV2⟩ : ∃ V : AObj, V = .var [vB e, .lst 4 (encIs C), .lst 1 (v8 N)] := ⟨_, rfl⟩
 obtain ⟨V3, hV3⟩ : ∃ V : AObj, V = .var [vB e2, .lst 4 (encIs C2), .lst 1 (v8 N2)] := ⟨_, rfl⟩
 refine go_fn (tyOf_ok _) Try.func7 rfl rfl (by rw [Try.results7]) Try.ntmps7 rfl fun E => ?_
 (repeat' (first | exact trivial | (with_reducible first | apply awA | apply awB | apply awC | apply awF) | ((with_reducible first | apply awn | apply awo | refine awQ ?_); intro r hr; simp only [go_sem, Nat.reduceBEq, Nat.reduceLT] at hr; subst hr; (first | refine caA (fun _ => hfi) rfl ?_ ?_ ?_ | refine awV ?_ ?_ | (refine condK (fun h => ?_) (fun h => ?_) <;> (try simp only [go_sem, reduceCtorEq] at h) <;> (try (exfalso; omega))))))) <;> (try omega)
 refine aw_nilrow 6 23 1 8001 (.inl (by decide)) (by simp only [go_sem, Nat.reduceBEq]) ?_
 refine go_loop [2, 3, 5, 6, 7] ([2, 3, 8001, 53] ++ kidNames 53 12) (fun q : Nat × List (List Int) => owS V2 V3 [(7, true, vI q.1)] [] q.2) (fun q => q.1 ≤ 6 ∧ q.2.length = 2 * q.1 ∧ ∀ l ∈ q.2, l.length ≤ 1000000) (fun q => 6 - q.1) (0, []) ?_ ⟨Nat.zero_le _, rfl, fun _ h => by cases h⟩ ?_
 ·rw [keep_nest (ty := 3) (kk := 1) (m := 0) (S := []) _ [2, 3, 8001, 53] (Nat.zero_le _) (fun j => by simp only [AState.nilrow, lk_cons, kn_ne', cond_false, if_pos, Nat.zero_le, List.getElem?_nil, Option.map_none, go_sem, Nat.reduceBEq, Nat.reduceLT])]
  subst hV2
  subst hV3
  simp only [AState.nilrow, owS_t, kids, List.append_nil, List.cons_append, List.nil_append, go_sem, Nat.reduceBEq, Nat.reduceLT]
  try exact rfl
 intro ⟨k, S⟩ ⟨hk, hS, hSl⟩
 dsimp only at hk hS hSl ⊢
 have hwk := wrap_i64 (n := (k : Int) + 1) (by omega)
 have hkk := fun (S : List (List Int)) e (he : e < 20000) => kids_kill (ty := 3) (kk := 1) (d := 53) (m := 0) e 0 (kidI S)
 have hkc := fun (S : List (List Int)) K V => kids_cut (ty := 3) (kk := 1) (d := 53) (m := 0) K V 0 (kidI S)
 have hkf := fun (S : List (List Int)) (e t k : Nat) (xs : List (List AV)) (he : e < 20000) => kids_frz (ty := 3) (kk := 1) (d := 53) (m := 0) e t k xs 0 (kidI S)
 simp +contextual only [AObj.kill, decide_true, cond_true] at hkk
 have hkl := fun (S : List (List Int)) e => rmkids_loose (ty := 3) (kk := 1) (d := 53) e (kidI S)
 simp only [AObj.loose] at hkl
 simp only [AObj.cut] at hkc
 simp +contextual only [AObj.frz, decide_true, cond_true] at hkf
 by_cases hlt : k < 6
 ·have e1 : ((k : Int) < 6) = True := eq_true (by omega)
  rcases Nat.eq_zero_or_pos S.length with h0 | h0
  ·obtain rfl := List.eq_nil_of_length_eq_zero h0
   rw [owS_t]
   dsimp only [List.append_nil, List.cons_append, List.nil_append]
   (repeat' (first | exact trivial | (with_reducible first | apply awA | apply awB | apply awC | apply awF) | ((with_reducible first | apply awn | refine awQ ?_); intro r hr; simp only [go_sem, Nat.reduceBEq, Nat.reduceLT, Nat.reduceLeDiff, Nat.reduceAdd, Nat.reduceMul, e1, hV2, hV3, beq_self_eq_true, cond_true, cond_false, Nat.zero_add, List.cons_append, List.nil_append] at hr; subst hr; (first | refine caD (hm) rfl ?_ ?_ (fun r hr => hold ?_) | refine awV ?_ ?_ | (refine condK (fun h => ?_) (fun h => ?_) <;> (try simp only [go_sem, reduceCtorEq] at h) <;> (try (exfalso; omega))))))) <;> (try omega)
   refine ⟨?_⟩
   obtain ⟨X, Z, rfl, hc, hx1, hx2⟩ := hr
   have hZ := (chkF_ok hc).1.2
   clear hc
   (repeat' (first | exact trivial | (refine go_cutS (.tmp 30) [2, 3, 5, 6, 7, 8] ([2, 3, 8001, 53, 8] ++ kidNames 53 12) (fun q : Bool × List InsM × List Int => owS V2 V3 [(7, true, vI k), (8, true, .ptr 1 8 0 0)] [(8, .var [vB q.1, .lst 4 (encIs q.2.1), .lst 1 (v8 q.2.2)])] []) (fun q => q.2.1.length ≤ 100 ∧ q.2.2.length ≤ 100000000) (hold ?_) ?_) | (with_reducible first | apply awA | apply awF) | ((with_reducible apply awo); intro r hr; simp only [go_sem, Nat.reduceBEq, Nat.reduceLT, Nat.reduceLeDiff, Nat.reduceAdd, Nat.reduceMul, beq_self_eq_true, cond_true, cond_false, Nat.zero_add] at hr; subst hr; (first | refine awV ?_ ?_)))) <;> (try omega)
   ·refine ⟨?_⟩
    by_cases h1 : Int.tmod (k : Int) 3 = 1
    ·(repeat' (first | exact trivial | (with_reducible first | apply awA | apply awF) | ((with_reducible first | apply awn | refine awQ ?_); intro r hr; simp only [go_sem, Nat.reduceBEq, Nat.reduceLT, Nat.reduceLeDiff, Nat.reduceAdd, Nat.reduceMul, h1, beq_self_eq_true, cond_true, cond_false, Nat.zero_add, List.cons_append, List.nil_append, Int.reduceEq] at hr; subst hr; (first | refine caD (hm2) rfl ?_ ?_ (fun r hr => hold ?_) | refine awV ?_ ?_ | (refine condK (fun h => ?_) (fun h => ?_) <;> (try simp only [go_sem, reduceCtorEq] at h) <;> (try (exfalso; omega))))))) <;> (try omega)
     refine ⟨?_⟩
     obtain ⟨X', Z', rfl, hc', hx1', hx2'⟩ := hr
     have hZ' := (chkF_ok hc').1.2
     (repeat' (first | exact trivial | (with_reducible apply awF) | ((with_reducible apply awo); intro r hr; simp only [go_sem, Nat.reduceBEq, Nat.reduceLT, Nat.reduceLeDiff, Nat.reduceAdd, Nat.reduceMul, beq_self_eq_true, cond_true, cond_false, Nat.zero_add] at hr; subst hr; (first | refine awV ?_ ?_)))) <;> (try omega)
     refine ⟨(e2, X', Z'), ?_, ⟨hx2', by dsimp only; omega⟩⟩
     rw [keep_nest (ty := 3) (kk := 1) (m := 0) (S := kidI []) _ [2, 3, 8001, 53, 8] (by simp only [kidI_len, List.length_nil]; omega) (fun j => ?_)]
     ·dsimp only
      rw [owS_t]
      simp only [hV2, hV3, kids0, kidI0, beq_self_eq_true, cond_true, cond_false, List.cons_append, List.nil_append, go_sem, Nat.reduceBEq]
      try exact rfl
     ·rw [if_pos (Nat.zero_le _), ← lk_kidsZ (d := 53)]; simp only [kids0, kidI0, kn_ne', cond_false, go_sem, Nat.reduceLT]
    ·(repeat' (first | exact trivial | (with_reducible first | apply awA | apply awC | apply awF) | ((with_reducible first | apply awn | refine awQ ?_); intro r hr; simp only [go_sem, Nat.reduceBEq, Nat.reduceLT, h1, decide_false, beq_self_eq_true, cond_true, cond_false, Int.reduceEq] at hr; subst hr; (first | refine awV ?_ ?_ | (refine condK (fun h => ?_) (fun h => ?_) <;> (try simp only [go_sem, reduceCtorEq] at h) <;> (try (exfalso; omega))))))) <;> (try omega)
     refine ⟨(e, X, Z), ?_, ⟨hx2, by dsimp only; omega⟩⟩
     rw [keep_nest (ty := 3) (kk := 1) (m := 0) (S := kidI []) _ [2, 3, 8001, 53, 8] (by simp only [kidI_len, List.length_nil]; omega) (fun j => ?_)]
     ·dsimp only
      rw [owS_t]
      simp only [hV2, hV3, kids0, kidI0, beq_self_eq_true, cond_true, cond_false, List.cons_append, List.nil_append, go_sem, Nat.reduceBEq]
      try exact rfl
     ·rw [if_pos (Nat.zero_le _), ← lk_kidsZ (d := 53)]; simp only [kids0, kidI0, kn_ne', cond_false, go_sem, Nat.reduceLT]
   clear hx1 hx2 hZ
   intro ⟨eX, X, Z⟩ ⟨hX, hZ⟩
   dsimp only at hX hZ ⊢
   rw [owS_t]
   dsimp only [List.append_nil, List.cons_append, List.nil_append]
   (repeat' (first | exact trivial | (refine go_cutS (.tmp 35) [2, 3, 5, 6, 7, 8] ([2, 3, 8001, 53, 8] ++ kidNames 53 12) (fun q : Bool × List InsM × List Int => owS V2 V3 [(7, true, vI k), (8, true, .ptr 1 8 0 0)] [(8, .var [vB q.1, .lst 4 (encIs q.2.1), .lst 1 (v8 q.2.2)])] []) (fun q => q.2.1.length ≤ 100 ∧ q.2.2.length ≤ 100000000) (hold ?_) ?_) | (with_reducible apply awA) | ((with_reducible first | apply awn | apply awo | apply awp | refine awQ ?_ | refine awR ?_ | refine awS ?_); intro r hr; simp only [go_sem, Nat.reduceBEq, Nat.reduceBneDiff, Nat.reduceLT, Nat.reduceLeDiff, Nat.reduceAdd, Nat.reduceMul, Nat.reduceSub, Nat.reduceEqDiff, reduceCtorEq, v8_len, kn_20, decide_false, hkl, hV2, hV3, kids0, kidI0, hkk, hkc, hkf, rm_kids, kill_kcel, frz_kcel, kcel_len, kidI_len, lstI_len, kn_ne, kn_ne', kn_lo, kn_hi, kn_15, kn_eq, beq_self_eq_true, cond_true, cond_false, Nat.zero_add, List.cons_append, List.nil_append, Int.cast_ofNat_Int, Int.reduceToNat, Int.reduceEq, Int.reduceLT, Int.reduceLE, Int.reduceNe] at hr; subst hr))) <;> (try omega)
   ·refine ⟨?_⟩
    by_cases h2 : Int.tmod (k : Int) 3 = 2
    ·(repeat' (first | exact trivial | (with_reducible first | apply awA | apply awF) | ((with_reducible first | apply awn | refine awQ ?_); intro r hr; simp only [go_sem, Nat.reduceBEq, Nat.reduceLT, Nat.reduceLeDiff, Nat.reduceAdd, Nat.reduceMul, h2, hV2, hV3, beq_self_eq_true, cond_true, cond_false, Nat.zero_add, Int.reduceEq] at hr; subst hr; (first | refine awV ?_ ?_ | (refine condK (fun h => ?_) (fun h => ?_) <;> (try simp only [go_sem, reduceCtorEq] at h) <;> (try (exfalso; omega))))))) <;> (try omega)
     refine ⟨(false, [⟨1, -1, 2, 0⟩, ⟨20, 0, 0, 0⟩], [0]), ?_, ⟨by decide, by decide⟩⟩
     rw [keep_nest (ty := 3) (kk := 1) (m := 0) (S := kidI []) _ [2, 3, 8001, 53, 8] (by simp only [kidI_len, List.length_nil]; omega) (fun j => ?_)]
     ·dsimp only
      rw [owS_t]
      simp only [hV2, hV3, kids0, kidI0, beq_self_eq_true, cond_true, cond_false, List.cons_append, List.nil_append, go_sem, Nat.reduceBEq]
      try exact rfl
     ·rw [if_pos (Nat.zero_le _), ← lk_kidsZ (d := 53)]; simp only [kids0, kidI0, kn_ne', cond_false, go_sem, Nat.reduceLT]
    ·(repeat' (first | exact trivial | (with_reducible first | apply awA | apply awC | apply awF) | ((with_reducible first | apply awn | refine awQ ?_); intro r hr; simp only [go_sem, Nat.reduceBEq, Nat.reduceLT, h2, decide_false, hV2, hV3, beq_self_eq_true, cond_true, cond_false, Int.reduceEq] at hr; subst hr; (first | refine awV ?_ ?_ | (refine condK (fun h => ?_) (fun h => ?_) <;> (try simp only [go_sem, reduceCtorEq] at h) <;> (try (exfalso; omega))))))) <;> (try omega)
     refine ⟨(eX, X, Z), ?_, ⟨hX, hZ⟩⟩
     rw [keep_nest (ty := 3) (kk := 1) (m := 0) (S := kidI []) _ [2, 3, 8001, 53, 8] (by simp only [kidI_len, List.length_nil]; omega) (fun j => ?_)]
     ·dsimp only
      rw [owS_t]
      simp only [hV2, hV3, kids0, kidI0, beq_self_eq_true, cond_true, cond_false, List.cons_append, List.nil_append, go_sem, Nat.reduceBEq]
      try exact rfl
     ·rw [if_pos (Nat.zero_le _), ← lk_kidsZ (d := 53)]; simp only [kids0, kidI0, kn_ne', cond_false, go_sem, Nat.reduceLT]
   clear hX hZ
   intro ⟨eX, X, Z⟩ ⟨hX, hZ⟩
   dsimp only at hX hZ ⊢
   rw [owS_t]
   dsimp only [List.append_nil, List.cons_append, List.nil_append]
   (repeat' (first | exact trivial | (with_reducible first | apply awA | apply awB | apply awF) | ((with_reducible apply awn); intro r hr; simp only [go_sem, Nat.reduceLT, hV2, hV3, cond_true] at hr; subst hr; (first | refine awV ?_ ?_)))) <;> (try omega)
   refine go_loop [2, 3, 5, 6, 7, 8, 9] ([2, 3, 8001, 53, 8] ++ kidNames 53 12) (fun q : Nat × List (List Int) => owS V2 V3 [(7, true, vI k), (8, true, .ptr 1 8 0 0), (9, true, vI q.1)] [(8, .var [vB eX, .lst 4 (encIs X), .lst 1 (v8 Z)])] q.2) (fun q => q.1 ≤ 2 ∧ q.2.length = 2 * k + q.1 ∧ ∀ l ∈ q.2, l.length ≤ 1000000) (fun q => 2 - q.1) (0, []) ?_ ⟨Nat.zero_le _, hS, hSl⟩ ?_
   rw [keep_nest (ty := 3) (kk := 1) (m := 0) (S := kidI []) _ [2, 3, 8001, 53, 8] (by simp only [kidI_len, List.length_nil]; omega) (fun j => ?_)]
   ·dsimp only
    rw [owS_t]
    simp only [hV2, hV3, kids0, kidI0, beq_self_eq_true, cond_true, cond_false, List.cons_append, List.nil_append, Int.cast_ofNat_Int, go_sem, Nat.reduceBEq]
    try exact rfl
   ·rw [if_pos (Nat.zero_le _), ← lk_kidsZ (d := 53)]; simp only [kids0, kidI0, kn_ne', cond_false, go_sem, Nat.reduceLT]
   intro ⟨n, R⟩ ⟨hn, hR, hRl⟩
   dsimp only at hn hR hRl ⊢
   have hwn := wrap_i64 (n := (n : Int) + 1) (by omega)
   by_cases hn2 : n < 2
   ·have e2 : ((n : Int) < 2) = True := eq_true (by omega)
    have hSh := shape_G eX X Z (by omega) (by omega)
    have hl := shF_len eX X Z
    generalize shF eX X Z = l at hSh hl
    generalize verF eX X Z = f at hSh
    unfold pG at hSh
    have tl : (v8 l).take l.length = v8 l := List.take_of_length_le (by rw [v8_len]; omega)
    have r2 : (l.length ≤ l.length) = True := eq_true (Nat.le_refl _)
    have hh := handOK_one 21 (kn 53 R.length) (of_eq_true (kn_hi 53 R.length))
    rcases Nat.eq_zero_or_pos R.length with g0 | g0
    ·obtain rfl := List.eq_nil_of_length_eq_zero g0
     rw [owS_t]
     dsimp only [List.append_nil, List.cons_append, List.nil_append, List.length_nil] at hh ⊢
     (repeat' (first | exact trivial | (with_reducible first | apply awA | apply awB | apply awC | apply awF | apply awI) | ((with_reducible first | refine awN (tyOf_ok _) [3000052, 3000053, 57] ?_ | refine awO (tyOf_ok _) [3000052, 3000053, 57] ?_ | refine awQ ?_); intro r hr; simp only [go_sem, Nat.reduceBEq, Nat.reduceLT, Nat.reduceLeDiff, Nat.reduceAdd, Nat.reduceMul, Nat.reduceEqDiff, reduceCtorEq, e2, hwn, tl, r2, if_true, v8_len, kn_20, decide_false, hV2, hV3, kn_ne, kn_ne', beq_self_eq_true, cond_true, cond_false, Nat.zero_add, List.cons_append, List.nil_append] at hr; subst hr; (first | refine awV ?_ ?_ | refine awW ?_ ?_ | (refine condK (fun h => ?_) (fun h => ?_) <;> (try simp only [go_sem, reduceCtorEq] at h) <;> (try (exfalso; omega))))) | (refine go_callGE [] [(21, kn 53 0)] [kn 53 0] [] ?_; intro r hr; simp only [go_sem, Nat.reduceBEq, Nat.reduceLT, beq_self_eq_true, cond_true, cond_false, List.cons_append, List.nil_append] at hr; subst hr; refine callGK (hSh) hh rfl (by first | exact .inl rfl | exact .inr rfl) ?_ (.inl rfl) ?_))) <;> (try omega)
     refine ⟨(n + 1, [l]), ?_, ⟨by dsimp only; omega, by rw [List.length_nil] at hR; rw [List.length_singleton]; omega, fun x hx => by rw [List.mem_singleton] at hx; rw [hx]; omega⟩, by dsimp only; omega⟩
     show AState.keep _ ([2, 3, 8001, 53, 8] ++ kidNames 53 12) _ = _
     rw [keep_nest (ty := 3) (kk := 1) (m := 0) (S := kidI [l]) _ [2, 3, 8001, 53, 8] (by simp [kidI]) (fun j => ?_)]
     ·dsimp only
      rw [owS_f _ _ _ _ (show 0 < [l].length by simp)]
      have q1 : kcel 3 1 53 0 0 (kidI [l]) = [.ref 3 1 (kn 53 0) 0 l.length] := by simp [kidI, kcel, kc_f, v8_len]
      have q2 : lstI [l] = [[.lsx 1 (v8 l) []]] := rfl
      simp only [q1, q2, List.length_singleton, hV2, hV3, kn_ne, beq_self_eq_true, cond_true, cond_false, List.cons_append, List.nil_append, go_sem, Nat.reduceBEq, Nat.reduceLT]
      try exact rfl
     ·have := lk_kids_new (ty := 3) (kk := 1) (d := 53) (k := 0) (S := []) (p := (0, v8 l)) rfl j
      rw [if_pos (Nat.zero_le _), show kidI [l] = [] ++ [(0, v8 l)] from rfl, ← this]
      simp only [kids0, kn_ne', kn_eq, cond_false, go_sem, Nat.reduceLT]
      try exact rfl
    ·rw [owS_f _ _ _ _ g0]
     dsimp only [List.append_nil, List.cons_append, List.nil_append]
     have hcut := cut_kcel (ty := 3) (kk := 1) (d := 53) (m := 0) (K := [kn 53 R.length]) 0 (kidI R) fun e he j hj g => by
      rw [List.mem_singleton] at he
      subst he
      rw [kidI_len] at hj
      have := kn_inj g
      omega
     have hrm := rmL_kids (ty := 3) (kk := 1) (d := 53) (kidI R) (e := kn 53 R.length) (by rw [kidI_len])
     have hks := kcel_snoc (ty := 3) (kk := 1) (d := 53) (m := 0) (0, v8 l) (kidI R) 0
     rw [← kidI_snoc, Nat.zero_add, kidI_len, kc_f (Nat.zero_le _), v8_len] at hks
     have hls := lstI_snoc R l
     have hkc1 := hkc R [kn 53 R.length] []
     simp only [List.contains_cons, List.contains_nil, Bool.or_false, List.all_cons, List.all_nil, Bool.and_true, kn_20, decide_false, cond_false] at hkc1
     have tR : (lstI R).take R.length = lstI R := List.take_of_length_le (by rw [lstI_len]; omega)
     have r3 : (R.length ≤ R.length) = True := eq_true (Nat.le_refl _)
     (repeat' (first | exact trivial | (with_reducible first | apply awA | apply awB | apply awC | apply awF | apply awI) | ((with_reducible first | refine awN (tyOf_ok _) [3000052, 3000053, 57] ?_ | refine awO (tyOf_ok _) [3000052, 3000053, 57] ?_ | refine awQ ?_); intro r hr; simp only [go_sem, Nat.reduceBEq, Nat.reduceLT, Nat.reduceLeDiff, Nat.reduceAdd, Nat.reduceMul, Nat.reduceEqDiff, reduceCtorEq, e2, hwn, hkc1, tl, r2, r3, if_true, hcut, hrm, hks, hls, tR, List.contains_cons, List.contains_nil, Bool.or_false, v8_len, kn_20, decide_false, hV2, hV3, hkk, hkf, rm_kids, kill_kcel, frz_kcel, kcel_len, kidI_len, lstI_len, kn_ne, kn_ne', beq_self_eq_true, cond_true, cond_false, Nat.zero_add, List.cons_append, List.nil_append] at hr; subst hr; (first | refine awV ?_ ?_ | refine awW ?_ ?_ | (refine condK (fun h => ?_) (fun h => ?_) <;> (try simp only [go_sem, reduceCtorEq] at h) <;> (try (exfalso; omega))))) | (refine go_callGE [] [(21, kn 53 R.length)] [kn 53 R.length] [] ?_; intro r hr; simp only [go_sem, Nat.reduceBEq, Nat.reduceLT, beq_self_eq_true, cond_true, cond_false, List.cons_append, List.nil_append] at hr; subst hr; refine callGK (hSh) hh rfl (by first | exact .inl rfl | exact .inr rfl) ?_ (.inl rfl) ?_))) <;> (try omega)
     ·rw [List.length_append]; simp only [List.length_singleton]; omega
     refine ⟨(n + 1, R ++ [l]), ?_, ⟨by dsimp only; omega, by dsimp only; rw [List.length_append, List.length_singleton]; omega, fun x hx => by
      rcases List.mem_append.1 hx with hx | hx
      ·exact hRl x hx
      ·rw [List.mem_singleton] at hx; rw [hx]; omega⟩, by dsimp only; omega⟩
     show AState.keep _ ([2, 3, 8001, 53, 8] ++ kidNames 53 12) _ = _
     have hRL : (R ++ [l]).length = R.length + 1 := by rw [List.length_append, List.length_singleton]
     rw [keep_nest (ty := 3) (kk := 1) (m := 0) (S := kidI (R ++ [l])) _ [2, 3, 8001, 53, 8] (by rw [kidI_len, hRL]; omega) (fun j => ?_)]
     ·dsimp only
      rw [owS_f _ _ _ _ (show 0 < (R ++ [l]).length by omega)]
      simp only [hRL, hV2, hV3, kn_ne, beq_self_eq_true, cond_true, cond_false, List.cons_append, List.nil_append, go_sem, Nat.reduceBEq, Nat.reduceLT]
      try exact rfl
     ·have := lk_kids_new (ty := 3) (kk := 1) (d := 53) (k := R.length) (S := kidI R) (p := (0, v8 l)) (kidI_len R) j
      rw [if_pos (Nat.zero_le _), kidI_snoc, ← this]
      simp only [kn_ne', kn_eq, cond_false, go_sem, Nat.reduceLT]
      try exact rfl
   ·have e2 : ((n : Int) < 2) = False := eq_false (by omega)
    have hnn : n = 2 := by omega
    subst hnn
    rw [owS_f _ _ _ _ (show 0 < R.length by omega)]
    dsimp only [List.append_nil, List.cons_append, List.nil_append]
    (repeat' (first | exact trivial | (with_reducible first | apply awA | apply awE | apply awF | apply awH | apply awI | apply awK) | ((with_reducible first | apply awn | refine awQ ?_); intro r hr; simp only [go_sem, Nat.reduceBEq, Nat.reduceLT, hwk, decide_false, hV2, hV3, beq_self_eq_true, cond_true, cond_false, Int.cast_ofNat_Int, Int.reduceLT] at hr; subst hr; (first | refine awV ?_ ?_ | (refine condK (fun h => ?_) (fun h => ?_) <;> (try simp only [go_sem, reduceCtorEq] at h) <;> (try (exfalso; omega))))))) <;> (try omega)
    refine ⟨(k + 1, R), ?_, ⟨by dsimp only; omega, by dsimp only; omega, hRl⟩, by dsimp only; omega⟩
    show AState.keep _ ([2, 3, 8001, 53] ++ kidNames 53 12) _ = _
    rw [keep_nest (ty := 3) (kk := 1) (m := 0) (S := kidI R) _ [2, 3, 8001, 53] (by rw [kidI_len]; omega) (fun j => ?_)]
    ·dsimp only
     rw [owS_f _ _ _ _ (show 0 < R.length by omega)]
     simp only [List.append_nil, hV2, hV3, beq_self_eq_true, cond_true, cond_false, List.cons_append, List.nil_append, go_sem, Nat.reduceBEq]
     try exact rfl
    ·rw [if_pos (Nat.zero_le _), ← lk_kidsZ (d := 53)]
     simp only [kn_ne', cond_false, go_sem, Nat.reduceLT]
     try exact rfl
  ·rw [owS_f _ _ _ _ h0]
   dsimp only [List.append_nil, List.cons_append, List.nil_append]
   (repeat' (first | exact trivial | (with_reducible first | apply awA | apply awB | apply awC | apply awF) | ((with_reducible first | apply awn | refine awQ ?_); intro r hr; simp only [go_sem, Nat.reduceBEq, Nat.reduceLT, Nat.reduceLeDiff, Nat.reduceAdd, Nat.reduceMul, e1, hV2, hV3, beq_self_eq_true, cond_true, cond_false, Nat.zero_add, List.cons_append, List.nil_append] at hr; subst hr; (first | refine caD (hm) rfl ?_ ?_ (fun r hr => hold ?_) | refine awV ?_ ?_ | (refine condK (fun h => ?_) (fun h => ?_) <;> (try simp only [go_sem, reduceCtorEq] at h) <;> (try (exfalso; omega))))))) <;> (try omega)
   refine ⟨?_⟩
   obtain ⟨X, Z, rfl, hc, hx1, hx2⟩ := hr
   have hZ := (chkF_ok hc).1.2
   clear hc
   (repeat' (first | exact trivial | (refine go_cutS (.tmp 30) [2, 3, 5, 6, 7, 8] ([2, 3, 8001, 53, 8] ++ kidNames 53 12) (fun q : Bool × List InsM × List Int => owS V2 V3 [(7, true, vI k), (8, true, .ptr 1 8 0 0)] [(8, .var [vB q.1, .lst 4 (encIs q.2.1), .lst 1 (v8 q.2.2)])] S) (fun q => q.2.1.length ≤ 100 ∧ q.2.2.length ≤ 100000000) (hold ?_) ?_) | (with_reducible first | apply awA | apply awF) | ((with_reducible apply awo); intro r hr; simp only [go_sem, Nat.reduceBEq, Nat.reduceLT, Nat.reduceLeDiff, Nat.reduceAdd, Nat.reduceMul, hkk, rm_kids, kill_kcel, beq_self_eq_true, cond_true, cond_false, Nat.zero_add] at hr; subst hr; (first | refine awV ?_ ?_)))) <;> (try omega)
   ·refine ⟨?_⟩
    by_cases h1 : Int.tmod (k : Int) 3 = 1
    ·(repeat' (first | exact trivial | (with_reducible first | apply awA | apply awF) | ((with_reducible first | apply awn | refine awQ ?_); intro r hr; simp only [go_sem, Nat.reduceBEq, Nat.reduceLT, Nat.reduceLeDiff, Nat.reduceAdd, Nat.reduceMul, h1, beq_self_eq_true, cond_true, cond_false, Nat.zero_add, List.cons_append, List.nil_append, Int.reduceEq] at hr; subst hr; (first | refine caD (hm2) rfl ?_ ?_ (fun r hr => hold ?_) | refine awV ?_ ?_ | (refine condK (fun h => ?_) (fun h => ?_) <;> (try simp only [go_sem, reduceCtorEq] at h) <;> (try (exfalso; omega))))))) <;> (try omega)
     refine ⟨?_⟩
     obtain ⟨X', Z', rfl, hc', hx1', hx2'⟩ := hr
     have hZ' := (chkF_ok hc').1.2
     (repeat' (first | exact trivial | (with_reducible apply awF) | ((with_reducible apply awo); intro r hr; simp only [go_sem, Nat.reduceBEq, Nat.reduceLT, Nat.reduceLeDiff, Nat.reduceAdd, Nat.reduceMul, rm_kids, beq_self_eq_true, cond_true, cond_false, Nat.zero_add] at hr; subst hr; (first | refine awV ?_ ?_)))) <;> (try omega)
     refine ⟨(e2, X', Z'), ?_, ⟨hx2', by dsimp only; omega⟩⟩
     rw [keep_nest (ty := 3) (kk := 1) (m := 0) (S := kidI S) _ [2, 3, 8001, 53, 8] (by simp only [kidI_len]; omega) (fun j => ?_)]
     ·dsimp only
      rw [owS_f _ _ _ _ (by assumption)]
      simp only [hV2, hV3, beq_self_eq_true, cond_true, cond_false, List.cons_append, List.nil_append, go_sem, Nat.reduceBEq]
      try exact rfl
     ·rw [if_pos (Nat.zero_le _), ← lk_kidsZ (d := 53)]; simp only [kn_ne', cond_false, go_sem, Nat.reduceLT]
    ·(repeat' (first | exact trivial | (with_reducible first | apply awA | apply awC | apply awF) | ((with_reducible first | apply awn | refine awQ ?_); intro r hr; simp only [go_sem, Nat.reduceBEq, Nat.reduceLT, h1, decide_false, beq_self_eq_true, cond_true, cond_false, Int.reduceEq] at hr; subst hr; (first | refine awV ?_ ?_ | (refine condK (fun h => ?_) (fun h => ?_) <;> (try simp only [go_sem, reduceCtorEq] at h) <;> (try (exfalso; omega))))))) <;> (try omega)
     refine ⟨(e, X, Z), ?_, ⟨hx2, by dsimp only; omega⟩⟩
     rw [keep_nest (ty := 3) (kk := 1) (m := 0) (S := kidI S) _ [2, 3, 8001, 53, 8] (by simp only [kidI_len]; omega) (fun j => ?_)]
     ·dsimp only
      rw [owS_f _ _ _ _ (by assumption)]
      simp only [hV2, hV3, beq_self_eq_true, cond_true, cond_false, List.cons_append, List.nil_append, go_sem, Nat.reduceBEq]
      try exact rfl
     ·rw [if_pos (Nat.zero_le _), ← lk_kidsZ (d := 53)]; simp only [kn_ne', cond_false, go_sem, Nat.reduceLT]
   clear hx1 hx2 hZ
   intro ⟨eX, X, Z⟩ ⟨hX, hZ⟩
   dsimp only at hX hZ ⊢
   rw [owS_f _ _ _ _ h0]
   dsimp only [List.append_nil, List.cons_append, List.nil_append]
   (repeat' (first | exact trivial | (refine go_cutS (.tmp 35) [2, 3, 5, 6, 7, 8] ([2, 3, 8001, 53, 8] ++ kidNames 53 12) (fun q : Bool × List InsM × List Int => owS V2 V3 [(7, true, vI k), (8, true, .ptr 1 8 0 0)] [(8, .var [vB q.1, .lst 4 (encIs q.2.1), .lst 1 (v8 q.2.2)])] S) (fun q => q.2.1.length ≤ 100 ∧ q.2.2.length ≤ 100000000) (hold ?_) ?_) | (with_reducible apply awA) | ((with_reducible first | apply awn | apply awo | apply awp | refine awQ ?_ | refine awR ?_ | refine awS ?_); intro r hr; simp only [go_sem, Nat.reduceBEq, Nat.reduceBneDiff, Nat.reduceLT, Nat.reduceLeDiff, Nat.reduceAdd, Nat.reduceMul, Nat.reduceSub, Nat.reduceEqDiff, reduceCtorEq, v8_len, kn_20, decide_false, hkl, hV2, hV3, kids0, kidI0, hkk, hkc, hkf, rm_kids, kill_kcel, frz_kcel, kcel_len, kidI_len, lstI_len, kn_ne, kn_ne', kn_lo, kn_hi, kn_15, kn_eq, beq_self_eq_true, cond_true, cond_false, Nat.zero_add, List.cons_append, List.nil_append, Int.cast_ofNat_Int, Int.reduceToNat, Int.reduceEq, Int.reduceLT, Int.reduceLE, Int.reduceNe] at hr; subst hr))) <;> (try omega)
   ·refine ⟨?_⟩
    by_cases h2 : Int.tmod (k : Int) 3 = 2
    ·(repeat' (first | exact trivial | (with_reducible first | apply awA | apply awF) | ((with_reducible first | apply awn | refine awQ ?_); intro r hr; simp only [go_sem, Nat.reduceBEq, Nat.reduceLT, Nat.reduceLeDiff, Nat.reduceAdd, Nat.reduceMul, h2, hV2, hV3, rm_kids, beq_self_eq_true, cond_true, cond_false, Nat.zero_add, Int.reduceEq] at hr; subst hr; (first | refine awV ?_ ?_ | (refine condK (fun h => ?_) (fun h => ?_) <;> (try simp only [go_sem, reduceCtorEq] at h) <;> (try (exfalso; omega))))))) <;> (try omega)
     refine ⟨(false, [⟨1, -1, 2, 0⟩, ⟨20, 0, 0, 0⟩], [0]), ?_, ⟨by decide, by decide⟩⟩
     rw [keep_nest (ty := 3) (kk := 1) (m := 0) (S := kidI S) _ [2, 3, 8001, 53, 8] (by simp only [kidI_len]; omega) (fun j => ?_)]
     ·dsimp only
      rw [owS_f _ _ _ _ (by assumption)]
      simp only [hV2, hV3, beq_self_eq_true, cond_true, cond_false, List.cons_append, List.nil_append, go_sem, Nat.reduceBEq]
      try exact rfl
     ·rw [if_pos (Nat.zero_le _), ← lk_kidsZ (d := 53)]; simp only [kn_ne', cond_false, go_sem, Nat.reduceLT]
    ·(repeat' (first | exact trivial | (with_reducible first | apply awA | apply awC | apply awF) | ((with_reducible first | apply awn | refine awQ ?_); intro r hr; simp only [go_sem, Nat.reduceBEq, Nat.reduceLT, h2, decide_false, hV2, hV3, beq_self_eq_true, cond_true, cond_false, Int.reduceEq] at hr; subst hr; (first | refine awV ?_ ?_ | (refine condK (fun h => ?_) (fun h => ?_) <;> (try simp only [go_sem, reduceCtorEq] at h) <;> (try (exfalso; omega))))))) <;> (try omega)
     refine ⟨(eX, X, Z), ?_, ⟨hX, hZ⟩⟩
     rw [keep_nest (ty := 3) (kk := 1) (m := 0) (S := kidI S) _ [2, 3, 8001, 53, 8] (by simp only [kidI_len]; omega) (fun j => ?_)]
     ·dsimp only
      rw [owS_f _ _ _ _ (by assumption)]
      simp only [hV2, hV3, beq_self_eq_true, cond_true, cond_false, List.cons_append, List.nil_append, go_sem, Nat.reduceBEq]
      try exact rfl
     ·rw [if_pos (Nat.zero_le _), ← lk_kidsZ (d := 53)]; simp only [kn_ne', cond_false, go_sem, Nat.reduceLT]
   clear hX hZ
   intro ⟨eX, X, Z⟩ ⟨hX, hZ⟩
   dsimp only at hX hZ ⊢
   rw [owS_f _ _ _ _ h0]
   dsimp only [List.append_nil, List.cons_append, List.nil_append]
   (repeat' (first | exact trivial | (with_reducible first | apply awA | apply awB | apply awF) | ((with_reducible apply awn); intro r hr; simp only [go_sem, Nat.reduceLT, hV2, hV3, cond_true] at hr; subst hr; (first | refine awV ?_ ?_)))) <;> (try omega)
   refine go_loop [2, 3, 5, 6, 7, 8, 9] ([2, 3, 8001, 53, 8] ++ kidNames 53 12) (fun q : Nat × List (List Int) => owS V2 V3 [(7, true, vI k), (8, true, .ptr 1 8 0 0), (9, true, vI q.1)] [(8, .var [vB eX, .lst 4 (encIs X), .lst 1 (v8 Z)])] q.2) (fun q => q.1 ≤ 2 ∧ q.2.length = 2 * k + q.1 ∧ ∀ l ∈ q.2, l.length ≤ 1000000) (fun q => 2 - q.1) (0, S) ?_ ⟨Nat.zero_le _, hS, hSl⟩ ?_
   rw [keep_nest (ty := 3) (kk := 1) (m := 0) (S := kidI S) _ [2, 3, 8001, 53, 8] (by simp only [kidI_len]; omega) (fun j => ?_)]
   ·dsimp only
    rw [owS_f _ _ _ _ (by assumption)]
    simp only [hV2, hV3, beq_self_eq_true, cond_true, cond_false, List.cons_append, List.nil_append, Int.cast_ofNat_Int, go_sem, Nat.reduceBEq]
    try exact rfl
   ·rw [if_pos (Nat.zero_le _), ← lk_kidsZ (d := 53)]; simp only [kn_ne', cond_false, go_sem, Nat.reduceLT]
   intro ⟨n, R⟩ ⟨hn, hR, hRl⟩
   dsimp only at hn hR hRl ⊢
   have hwn := wrap_i64 (n := (n : Int) + 1) (by omega)
   by_cases hn2 : n < 2
   ·have e2 : ((n : Int) < 2) = True := eq_true (by omega)
    have hSh := shape_G eX X Z (by omega) (by omega)
    have hl := shF_len eX X Z
    generalize shF eX X Z = l at hSh hl
    generalize verF eX X Z = f at hSh
    unfold pG at hSh
    have tl : (v8 l).take l.length = v8 l := List.take_of_length_le (by rw [v8_len]; omega)
    have r2 : (l.length ≤ l.length) = True := eq_true (Nat.le_refl _)
    have hh := handOK_one 21 (kn 53 R.length) (of_eq_true (kn_hi 53 R.length))
    rcases Nat.eq_zero_or_pos R.length with g0 | g0
    ·exfalso
     omega
    ·rw [owS_f _ _ _ _ g0]
     dsimp only [List.append_nil, List.cons_append, List.nil_append]
     have hcut := cut_kcel (ty := 3) (kk := 1) (d := 53) (m := 0) (K := [kn 53 R.length]) 0 (kidI R) fun e he j hj g => by
      rw [List.mem_singleton] at he
      subst he
      rw [kidI_len] at hj
      have := kn_inj g
      omega
     have hrm := rmL_kids (ty := 3) (kk := 1) (d := 53) (kidI R) (e := kn 53 R.length) (by rw [kidI_len])
     have hks := kcel_snoc (ty := 3) (kk := 1) (d := 53) (m := 0) (0, v8 l) (kidI R) 0
     rw [← kidI_snoc, Nat.zero_add, kidI_len, kc_f (Nat.zero_le _), v8_len] at hks
     have hls := lstI_snoc R l
     have hkc1 := hkc R [kn 53 R.length] []
     simp only [List.contains_cons, List.contains_nil, Bool.or_false, List.all_cons, List.all_nil, Bool.and_true, kn_20, decide_false, cond_false] at hkc1
     have tR : (lstI R).take R.length = lstI R := List.take_of_length_le (by rw [lstI_len]; omega)
     have r3 : (R.length ≤ R.length) = True := eq_true (Nat.le_refl _)
     (repeat' (first | exact trivial | (with_reducible first | apply awA | apply awB | apply awC | apply awF | apply awI) | ((with_reducible first | refine awN (tyOf_ok _) [3000052, 3000053, 57] ?_ | refine awO (tyOf_ok _) [3000052, 3000053, 57] ?_ | refine awQ ?_); intro r hr; simp only [go_sem, Nat.reduceBEq, Nat.reduceLT, Nat.reduceLeDiff, Nat.reduceAdd, Nat.reduceMul, Nat.reduceEqDiff, reduceCtorEq, e2, hwn, hkc1, tl, r2, r3, if_true, hcut, hrm, hks, hls, tR, List.contains_cons, List.contains_nil, Bool.or_false, v8_len, kn_20, decide_false, hV2, hV3, hkk, hkf, rm_kids, kill_kcel, frz_kcel, kcel_len, kidI_len, lstI_len, kn_ne, kn_ne', beq_self_eq_true, cond_true, cond_false, Nat.zero_add, List.cons_append, List.nil_append] at hr; subst hr; (first | refine awV ?_ ?_ | refine awW ?_ ?_ | (refine condK (fun h => ?_) (fun h => ?_) <;> (try simp only [go_sem, reduceCtorEq] at h) <;> (try (exfalso; omega))))) | (refine go_callGE [] [(21, kn 53 R.length)] [kn 53 R.length] [] ?_; intro r hr; simp only [go_sem, Nat.reduceBEq, Nat.reduceLT, beq_self_eq_true, cond_true, cond_false, List.cons_append, List.nil_append] at hr; subst hr; refine callGK (hSh) hh rfl (by first | exact .inl rfl | exact .inr rfl) ?_ (.inl rfl) ?_))) <;> (try omega)
     ·rw [List.length_append]; simp only [List.length_singleton]; omega
     refine ⟨(n + 1, R ++ [l]), ?_, ⟨by dsimp only; omega, by dsimp only; rw [List.length_append, List.length_singleton]; omega, fun x hx => by
      rcases List.mem_append.1 hx with hx | hx
      ·exact hRl x hx
      ·rw [List.mem_singleton] at hx; rw [hx]; omega⟩, by dsimp only; omega⟩
     show AState.keep _ ([2, 3, 8001, 53, 8] ++ kidNames 53 12) _ = _
     have hRL : (R ++ [l]).length = R.length + 1 := by rw [List.length_append, List.length_singleton]
     rw [keep_nest (ty := 3) (kk := 1) (m := 0) (S := kidI (R ++ [l])) _ [2, 3, 8001, 53, 8] (by rw [kidI_len, hRL]; omega) (fun j => ?_)]
     ·dsimp only
      rw [owS_f _ _ _ _ (show 0 < (R ++ [l]).length by omega)]
      simp only [hRL, hV2, hV3, kn_ne, beq_self_eq_true, cond_true, cond_false, List.cons_append, List.nil_append, go_sem, Nat.reduceBEq, Nat.reduceLT]
      try exact rfl
     ·have := lk_kids_new (ty := 3) (kk := 1) (d := 53) (k := R.length) (S := kidI R) (p := (0, v8 l)) (kidI_len R) j
      rw [if_pos (Nat.zero_le _), kidI_snoc, ← this]
      simp only [kn_ne', kn_eq, cond_false, go_sem, Nat.reduceLT]
      try exact rfl
   ·have e2 : ((n : Int) < 2) = False := eq_false (by omega)
    have hnn : n = 2 := by omega
    subst hnn
    rw [owS_f _ _ _ _ (show 0 < R.length by omega)]
    dsimp only [List.append_nil, List.cons_append, List.nil_append]
    (repeat' (first | exact trivial | (with_reducible first | apply awA | apply awE | apply awF | apply awH | apply awI | apply awK) | ((with_reducible first | apply awn | refine awQ ?_); intro r hr; simp only [go_sem, Nat.reduceBEq, Nat.reduceLT, hwk, decide_false, hV2, hV3, beq_self_eq_true, cond_true, cond_false, Int.cast_ofNat_Int, Int.reduceLT] at hr; subst hr; (first | refine awV ?_ ?_ | (refine condK (fun h => ?_) (fun h => ?_) <;> (try simp only [go_sem, reduceCtorEq] at h) <;> (try (exfalso; omega))))))) <;> (try omega)
    refine ⟨(k + 1, R), ?_, ⟨by dsimp only; omega, by dsimp only; omega, hRl⟩, by dsimp only; omega⟩
    show AState.keep _ ([2, 3, 8001, 53] ++ kidNames 53 12) _ = _
    rw [keep_nest (ty := 3) (kk := 1) (m := 0) (S := kidI R) _ [2, 3, 8001, 53] (by rw [kidI_len]; omega) (fun j => ?_)]
    ·dsimp only
     rw [owS_f _ _ _ _ (show 0 < R.length by omega)]
     simp only [List.append_nil, hV2, hV3, beq_self_eq_true, cond_true, cond_false, List.cons_append, List.nil_append, go_sem, Nat.reduceBEq]
     try exact rfl
    ·rw [if_pos (Nat.zero_le _), ← lk_kidsZ (d := 53)]
     simp only [kn_ne', cond_false, go_sem, Nat.reduceLT]
     try exact rfl
 ·have hk6 : k = 6 := by omega
  subst hk6
  have e1 : (((6 : Nat) : Int) < 6) = False := eq_false (by decide)
  have hS12 : S.length = 12 := by omega
  rw [owS_f _ _ _ _ (show 0 < S.length by omega), hS12]
  dsimp only [List.append_nil, List.cons_append, List.nil_append]
  (repeat' (first | exact trivial | (with_reducible first | apply awA | apply awB | apply awE | apply awF | apply awH | apply awK) | ((with_reducible first | apply awn | refine awQ ?_); intro r hr; simp only [go_sem, Nat.reduceBEq, Nat.reduceLT, decide_false, hV2, hV3, beq_self_eq_true, cond_true, cond_false, Int.cast_ofNat_Int, Int.reduceLT] at hr; subst hr; (first | refine awV ?_ ?_ | (refine condK (fun h => ?_) (fun h => ?_) <;> (try simp only [go_sem, reduceCtorEq] at h) <;> (try (exfalso; omega))))))) <;> (try omega)
  clear hm hm2 hfi hk hlt e1 hwk
  refine go_loop [5, 6, 13] ([8001, 53] ++ kidNames 53 12) (fun i : Nat => ⟨[(5, true, .ref 23 1 53 0 12), (6, true, .ref 23 1 8001 0 12), (13, true, vI i)], (8001, .row 23 1 (lstI S)) :: (53, .var (kcel 3 1 53 0 0 (kidI S))) :: kids 3 1 53 0 0 (kidI S)⟩) (fun i => i ≤ 12) (fun i => 12 - i) 0 ?_ (Nat.zero_le _) ?_
  ·rw [keep_nest (ty := 3) (kk := 1) (m := 0) (S := kidI S) _ [8001, 53] (by rw [kidI_len]; omega) (fun j => ?_)]
   ·simp only [beq_self_eq_true, cond_true, cond_false, List.cons_append, List.nil_append, Int.cast_ofNat_Int, go_sem, Nat.reduceBEq]
    try exact rfl
   ·rw [if_pos (Nat.zero_le _), ← lk_kidsZ (d := 53)]
    simp only [kn_ne', cond_false, go_sem, Nat.reduceLT]
    try exact rfl
  intro i hi
  have hwi := wrap_i64 (n := (i : Int) + 1) (by omega)
  have zi : ((i : Int)).toNat = i := by omega
  by_cases hlt : i < 12
  ·have e1 : ((i : Int) < 12) = True := eq_true (by omega)
   obtain ⟨l, hSi⟩ : ∃ l, S[i]? = some l := ⟨_, List.getElem?_eq_getElem (by omega)⟩
   have hl := hSl l (List.mem_of_getElem? hSi)
   have gk := kcel_get (ty := 3) (kk := 1) (d := 53) (m := 0) 0 i (kidI_get hSi)
   rw [Nat.zero_add, kc_f (Nat.zero_le _), v8_len] at gk
   have lkf := lk_kids0 (ty := 3) (kk := 1) (d := 53) (m := 0) _ (Nat.zero_le i) (kidI_get hSi)
   dsimp only at gk lkf
   have hb : (bif i == 0 then some (1 ≤ S.length, ((kcel 3 1 53 0 0 (kidI S))[0]?).getD AV.dead) else some (i + 1 ≤ S.length, AV.ref 3 1 (kn 53 i) 0 l.length)) = some (i + 1 ≤ S.length, AV.ref 3 1 (kn 53 i) 0 l.length) := by
    by_cases h : i = 0
    ·subst h
     rw [gk]; rfl
    ·rw [beq_false_of_ne h]; rfl
   have gl := lstI_get hSi
   have tl : (v8 l).take l.length = v8 l := List.take_of_length_le (by rw [v8_len]; omega)
   have hin := (ints_any l l (by omega)).args (as' := [.lst 1 (v8 l), .lsx 1 (v8 l) []]) (.cons (.rfl _) (.cons (.lsx (upLL_rfl _)) .nil))
   rw [decide_eq_true rfl] at hin
   (repeat' (first | exact trivial | (with_reducible first | apply awA | apply awB | apply awC | apply awF | apply awI) | (refine aw_draw (id := 22) (t := (.node [0, 1, 2, 3, 4, 5, 6, 7, 8, 9] [])) (drR [] [69, 73] []) mixed (by kernel_rfl) (by kernel_rfl) (fun _ _ h => h) ?_) | (refine at_done (by simp only [go_sem]; exact rfl) ?_) | (refine at_alt (by simp only [go_sem]; exact rfl) ?_) | refine qalt_normal ?_ | refine ats_cons ?_ ?_ | exact ats_nil | ((with_reducible first | apply awn | apply awp | refine awQ ?_); intro r hr; simp only [go_sem, Nat.reduceBEq, Nat.reduceLT, Nat.reduceLeDiff, reduceCtorEq, e1, hwi, zi, gk, hb, lkf, gl, tl, Nat.mul_one, Nat.add_zero, List.drop_zero, v8_len, kcel_len, kidI_len, kn_ne', beq_self_eq_true, cond_true, cond_false, Nat.zero_add, List.cons_append, List.nil_append, Int.cast_ofNat_Int] at hr; subst hr; (first | refine caA (fun _ => hin) rfl ?_ ?_ ?_ | refine awV ?_ ?_ | (refine condK (fun h => ?_) (fun h => ?_) <;> (try simp only [go_sem, reduceCtorEq] at h) <;> (try (exfalso; omega))))))) <;> (try omega)
   refine ⟨i + 1, ?_, hlt, by omega⟩
   rw [keep_nest (ty := 3) (kk := 1) (m := 0) (S := kidI S) _ [8001, 53] (by rw [kidI_len]; omega) (fun j => ?_)]
   ·simp only [beq_self_eq_true, cond_true, cond_false, List.cons_append, List.nil_append, go_sem, Nat.reduceBEq]
    try exact rfl
   ·rw [if_pos (Nat.zero_le _), ← lk_kidsZ (d := 53)]
    simp only [kn_ne', cond_false, go_sem, Nat.reduceLT]
    try exact rfl
  have e1 : ((i : Int) < 12) = False := eq_false (by omega)
  clear hwi zi hlt hi
  (repeat' (first | exact trivial | (with_reducible first | apply awA | apply awB | apply awE | apply awF | apply awH | apply awK) | ((with_reducible first | apply awn | refine awQ ?_); intro r hr; simp only [go_sem, Nat.reduceBEq, Nat.reduceLT, e1, decide_false, beq_self_eq_true, cond_true, cond_false, List.nil_append, Int.cast_ofNat_Int] at hr; subst hr; (first | refine awV ?_ ?_ | (refine condK (fun h => ?_) (fun h => ?_) <;> (try simp only [go_sem, reduceCtorEq] at h) <;> (try (exfalso; omega))))))) <;> (try omega)
  clear e1
  refine go_loop [5, 14] ([53] ++ kidNames 53 12) (fun i : Nat => ⟨[(5, true, .ref 23 1 53 0 12), (14, true, vI i)], (53, .var (kcel 3 1 53 0 0 (kidI S))) :: kids 3 1 53 0 0 (kidI (wrI S i 0))⟩) (fun i => i ≤ 12) (fun i => 12 - i) 0 ?_ (Nat.zero_le _) ?_
  ·rw [keep_nest (ty := 3) (kk := 1) (m := 0) (S := kidI S) _ [53] (by rw [kidI_len]; omega) (fun j => ?_)]
   ·simp only [wrI_zero, beq_self_eq_true, cond_true, cond_false, List.cons_append, List.nil_append, Int.cast_ofNat_Int, go_sem, Nat.reduceBEq]
    try exact rfl
   ·rw [if_pos (Nat.zero_le _), ← lk_kidsZ (d := 53)]
    simp only [kn_ne', cond_false, go_sem, Nat.reduceLT]
    try exact rfl
  intro i hi
  have hwi := wrap_i64 (n := (i : Int) + 1) (by omega)
  have zi : ((i : Int)).toNat = i := by omega
  by_cases hlt : i < 12
  ·have e1 : ((i : Int) < 12) = True := eq_true (by omega)
   obtain ⟨l, hSi⟩ : ∃ l, S[i]? = some l := ⟨_, List.getElem?_eq_getElem (by omega)⟩
   have hl := hSl l (List.mem_of_getElem? hSi)
   have hnx := wrI_next hSi
   have gk := kcel_get (ty := 3) (kk := 1) (d := 53) (m := 0) 0 i (kidI_get hSi)
   rw [Nat.zero_add, kc_f (Nat.zero_le _), v8_len] at gk
   have hb : (bif i == 0 then some (1 ≤ S.length, ((kcel 3 1 53 0 0 (kidI S))[0]?).getD AV.dead) else some (i + 1 ≤ S.length, AV.ref 3 1 (kn 53 i) 0 l.length)) = some (i + 1 ≤ S.length, AV.ref 3 1 (kn 53 i) 0 l.length) := by
    by_cases h : i = 0
    ·subst h
     rw [gk]; rfl
    ·rw [beq_false_of_ne h]; rfl
   (repeat' (first | exact trivial | (with_reducible first | apply awA | apply awB | apply awC | apply awF) | ((with_reducible first | apply awn | refine awQ ?_); intro r hr; simp only [go_sem, Nat.reduceBEq, Nat.reduceLT, e1, beq_self_eq_true, cond_true, cond_false, List.nil_append, Int.cast_ofNat_Int] at hr; subst hr; (first | refine awV ?_ ?_ | (refine condK (fun h => ?_) (fun h => ?_) <;> (try simp only [go_sem, reduceCtorEq] at h) <;> (try (exfalso; omega))))))) <;> (try omega)
   refine go_loop [5, 14, 15] ([53] ++ kidNames 53 12) (fun k : Nat => ⟨[(5, true, .ref 23 1 53 0 12), (14, true, vI i), (15, true, vI k)], (53, .var (kcel 3 1 53 0 0 (kidI S))) :: kids 3 1 53 0 0 (kidI (wrI S i k))⟩) (fun k => k ≤ l.length) (fun k => l.length - k) 0 ?_ (Nat.zero_le _) ?_
   ·rw [keep_nest (ty := 3) (kk := 1) (m := 0) (S := kidI (wrI S i 0)) _ [53] (by rw [kidI_len, wrI_len]; omega) (fun j => ?_)]
    ·simp only [beq_self_eq_true, cond_true, cond_false, List.cons_append, List.nil_append, Int.cast_ofNat_Int, go_sem, Nat.reduceBEq]
     try exact rfl
    ·rw [if_pos (Nat.zero_le _), ← lk_kidsZ (d := 53)]
     simp only [kn_ne', cond_false, go_sem, Nat.reduceLT]
     try exact rfl
   intro k hk
   have hwk := wrap_i64 (n := (k : Int) + 1) (by omega)
   have zk : ((k : Int)).toNat = k := by omega
   have w5 := wrap_i64 (n := -5 - (i : Int)) (by omega)
   have lkf := lk_kids0 (ty := 3) (kk := 1) (d := 53) (m := 0) _ (Nat.zero_le i) (kidI_get (wrI_at (k := k) hSi))
   dsimp only at lkf
   by_cases hk2 : k < l.length
   ·have e2 : ((k : Int) < (l.length : Int)) = True := eq_true (by omega)
    have hlen : (List.replicate k (-5 - (i : Int)) ++ l.drop k).length = l.length := by simp; omega
    have gW := v8_getD (W := List.replicate k (-5 - (i : Int)) ++ l.drop k) (i := k) (by omega)
    have hset : (v8 (List.replicate k (-5 - (i : Int)) ++ l.drop k)).set k [vI (-5 - (i : Int))] = v8 (List.replicate (k + 1) (-5 - (i : Int)) ++ l.drop (k + 1)) := by rw [v8_set, wrI_set _ hk2]
    (repeat' (first | exact trivial | (with_reducible first | apply awA | apply awB | apply awC | apply awF | apply awI) | ((with_reducible first | apply awn | refine awQ ?_); intro r hr; simp only [go_sem, Nat.reduceBEq, Nat.reduceLT, Nat.reduceLeDiff, e1, e2, hwk, zi, zk, w5, gk, hb, lkf, gW, hset, hlen, setXs, Nat.mul_one, Nat.add_zero, v8_len, kn_20, decide_false, hkl, kcel_len, kidI_len, kn_ne', beq_self_eq_true, cond_true, cond_false, Nat.zero_add, List.cons_append, List.nil_append, Int.cast_ofNat_Int] at hr; subst hr; (first | refine awV ?_ ?_ | (refine condK (fun h => ?_) (fun h => ?_) <;> (try simp only [go_sem, reduceCtorEq] at h) <;> (try (exfalso; omega))))))) <;> (try omega)
    refine ⟨k + 1, ?_, hk2, by omega⟩
    rw [keep_nest (ty := 3) (kk := 1) (m := 0) (S := kidI (wrI S i (k + 1))) _ [53] (by rw [kidI_len, wrI_len]; omega) (fun j => ?_)]
    ·simp only [kn_ne, beq_self_eq_true, cond_true, cond_false, List.cons_append, List.nil_append, go_sem, Nat.reduceBEq, Nat.reduceLT]
     try exact rfl
    ·rw [if_pos (Nat.zero_le _), ← lk_wrI (d := 53) (k := k) hSi j]
     simp only [kn_ne', kn_eq, cond_false, List.cons_append, go_sem, Nat.reduceLT]
     try exact rfl
   ·have e2 : ((k : Int) < (l.length : Int)) = False := eq_false (by omega)
    obtain rfl : k = l.length := by omega
    (repeat' (first | exact trivial | (with_reducible first | apply awA | apply awE | apply awF | apply awH | apply awI | apply awK) | ((with_reducible first | apply awn | refine awQ ?_); intro r hr; simp only [go_sem, Nat.reduceBEq, Nat.reduceLT, e1, e2, hwi, zi, gk, hb, Nat.mul_one, Nat.add_zero, decide_false, kcel_len, kidI_len, beq_self_eq_true, cond_true, cond_false, Nat.zero_add, List.nil_append, Int.cast_ofNat_Int] at hr; subst hr; (first | refine awV ?_ ?_ | (refine condK (fun h => ?_) (fun h => ?_) <;> (try simp only [go_sem, reduceCtorEq] at h) <;> (try (exfalso; omega))))))) <;> (try omega)
    refine ⟨i + 1, ?_, hlt, by omega⟩
    rw [← hnx, keep_nest (ty := 3) (kk := 1) (m := 0) (S := kidI (wrI S i l.length)) _ [53] (by rw [kidI_len, wrI_len]; omega) (fun j => ?_)]
    ·simp only [beq_self_eq_true, cond_true, cond_false, List.cons_append, List.nil_append, go_sem, Nat.reduceBEq]
     try exact rfl
    ·rw [if_pos (Nat.zero_le _), ← lk_kidsZ (d := 53)]
     simp only [kn_ne', cond_false, go_sem, Nat.reduceLT]
     try exact rfl
  have e1 : ((i : Int) < 12) = False := eq_false (by omega)
  obtain rfl : i = 12 := by omega
  clear hwi zi hlt hi
  (repeat' (first | exact trivial | (with_reducible first | apply awA | apply awB | apply awE | apply awF | apply awH | apply awK) | ((with_reducible first | apply awn | refine awQ ?_); intro r hr; simp only [go_sem, Nat.reduceBEq, Nat.reduceLT, decide_false, beq_self_eq_true, cond_true, cond_false, List.nil_append, Int.cast_ofNat_Int, Int.reduceLT] at hr; subst hr; (first | refine awV ?_ ?_ | (refine condK (fun h => ?_) (fun h => ?_) <;> (try simp only [go_sem, reduceCtorEq] at h) <;> (try (exfalso; omega))))))) <;> (try omega)
  refine aw_nilrow 16 23 1 8002 (.inl (by decide)) (by simp only [go_sem, Nat.reduceBEq]) ?_
  rw [← kcel_wrI (i := 12) (k := 0) (S := S) (fun l h => Nat.zero_le _)]
  have hM : ∀ (i : Nat) (l : List Int), S[i]? = some l → (wrI S 12 0)[i]? = some (List.replicate l.length (-5 - (i : Int))) := fun i l h => by
   have := wrI_all h
   rwa [hS12] at this
  have hMl := wrI_len S 12 0
  rw [hS12] at hMl
  generalize wrI S 12 0 = SM at hM hMl ⊢
  have hkf2 := fun (m e t k : Nat) (xs : List (List AV)) (he : e < 20000) => kids_frz (ty := 3) (kk := 1) (d := 53) (m := m) e t k xs 0 (kidI SM)
  simp +contextual only [AObj.frz, decide_true, cond_true] at hkf2
  have hkf3 := fun (m j t k : Nat) (xs : List (List AV)) => kids_frz (ty := 3) (kk := 1) (d := 53) (m := m) (kn 53 j) t k xs 0 (kidI SM)
  simp only [AObj.frz, kn_20, decide_false, cond_false] at hkf3
  have hkk2 := fun (m e : Nat) (he : e < 20000) => kids_kill (ty := 3) (kk := 1) (d := 53) (m := m) e 0 (kidI SM)
  simp +contextual only [AObj.kill, decide_true, cond_true] at hkk2
  refine go_loop [5, 16, 17] ([53, 8002] ++ kidNames 53 12) (fun i : Nat => ⟨[(5, true, .ref 23 1 53 0 12), (16, true, .ref 23 1 8002 0 i), (17, true, vI i)], (53, .var (kcel 3 1 53 i 0 (kidI SM))) :: (8002, .row 23 1 (lst2 (growI S i))) :: kids 3 1 53 i 0 (kidI SM)⟩) (fun i => i ≤ 12) (fun i => 12 - i) 0 ?_ (Nat.zero_le _) ?_
  ·rw [keep_nest (ty := 3) (kk := 1) (m := 0) (S := kidI SM) _ [53, 8002] (by rw [kidI_len]; omega) (fun j => ?_)]
   ·simp only [AState.nilrow, hkk, rm_kids, kill_kcel, beq_self_eq_true, cond_true, cond_false, List.cons_append, List.nil_append, Int.cast_ofNat_Int, go_sem, Nat.reduceBEq, Nat.reduceLT]
    try exact rfl
   ·rw [if_pos (Nat.zero_le _), ← lk_kidsZ (d := 53)]
    simp only [AState.nilrow, lk_cons, hkk, rm_kids, kill_kcel, kn_ne', cond_true, cond_false, go_sem, Nat.reduceBEq, Nat.reduceLT]
    try exact rfl
  intro i hi
  have hwi := wrap_i64 (n := (i : Int) + 1) (by omega)
  have zi : ((i : Int)).toNat = i := by omega
  by_cases hlt : i < 12
  ·have e1 : ((i : Int) < 12) = True := eq_true (by omega)
   obtain ⟨l, hSi⟩ : ∃ l, S[i]? = some l := ⟨_, List.getElem?_eq_getElem (by omega)⟩
   have hl := hSl l (List.mem_of_getElem? hSi)
   have hMi := hM i l hSi
   have hxl : (List.replicate l.length (-5 - (i : Int))).length = l.length := List.length_replicate
   have hgs := lst2_grow hSi
   have w5 := wrap_i64 (n := -5 - (i : Int)) (by omega)
   have gk := kcel_get (ty := 3) (kk := 1) (d := 53) (m := i) 0 i (kidI_get hMi)
   rw [Nat.zero_add, kc_f (Nat.le_refl _), v8_len, hxl] at gk
   have lkf := lk_kids0 (ty := 3) (kk := 1) (d := 53) (m := i) _ (Nat.le_refl i) (kidI_get hMi)
   have hfz := frz_kcel_at (ty := 3) (kk := 1) (d := 53) (m := i) (kidI SM) 0 (Nat.zero_le _) (by rw [Nat.sub_zero]; exact kidI_get hMi)
   have hrk := rm_kids_at (ty := 3) (kk := 1) (d := 53) (m := i) (kidI SM) 0 (Nat.zero_le _)
   dsimp only at lkf
   generalize List.replicate l.length (-5 - (i : Int)) = x at hMi hxl hgs gk lkf hfz
   have hb : (bif i == 0 then some (1 ≤ SM.length, ((kcel 3 1 53 i 0 (kidI SM))[0]?).getD AV.dead) else some (i + 1 ≤ SM.length, AV.ref 3 1 (kn 53 i) 0 l.length)) = some (i + 1 ≤ SM.length, AV.ref 3 1 (kn 53 i) 0 l.length) := by
    by_cases h : i = 0
    ·subst h
     rw [gk]; rfl
    ·rw [beq_false_of_ne h]; rfl
   have hgl := growI_len (S := S) (i := i) (by omega)
   have hgl1 := growI_len (S := S) (i := i + 1) (by omega)
   have htk : (lst2 (growI S i)).take i = lst2 (growI S i) := List.take_of_length_le (by rw [lst2_len, hgl]; exact Nat.le_refl _)
   have tx : (v8 x).take l.length = v8 x := List.take_of_length_le (by rw [v8_len, hxl]; exact Nat.le_refl _)
   (repeat' (first | exact trivial | (with_reducible first | apply awA | apply awB | apply awC | apply awF | apply awI) | ((with_reducible first | refine awN (tyOf_ok _) [2000113] ?_ | refine awQ ?_); intro r hr; simp only [go_sem, Nat.reduceBEq, Nat.reduceLT, Nat.reduceLeDiff, Nat.reduceAdd, Nat.reduceEqDiff, e1, hwi, zi, w5, gk, hb, lkf, hfz, hrk, hgs, hgl, hgl1, htk, tx, hxl, lst2_len, hkf2, hkf3, hkk2, Nat.le_refl, and_self, true_and, or_true, if_true, List.drop_zero, Nat.mul_one, Nat.add_zero, v8_len, kn_20, decide_false, rm_kids, kill_kcel, frz_kcel, kcel_len, kidI_len, kn_ne', kn_lo, kn_15, beq_self_eq_true, cond_true, cond_false, Nat.zero_add, List.nil_append, Int.cast_ofNat_Int] at hr; subst hr; (first | refine awV ?_ ?_ | (refine condK (fun h => ?_) (fun h => ?_) <;> (try simp only [go_sem, reduceCtorEq] at h) <;> (try (exfalso; omega))))))) <;> (try omega)
   ·refine ⟨by omega, by omega, ⟨.inr fun p hp => ?_, by omega⟩, by omega⟩
    rcases List.mem_cons.1 hp with rfl | hp
    ·rfl
    rcases List.mem_cons.1 hp with rfl | hp
    ·rfl
    obtain ⟨_, _, _, _, rfl⟩ := kids_names 0 hp
    rfl
   refine ⟨i + 1, ?_, hlt, by omega⟩
   rw [keep_nest (ty := 3) (kk := 1) (m := i + 1) (S := kidI SM) _ [53, 8002] (by rw [kidI_len]; omega) (fun j => ?_)]
   ·simp only [beq_self_eq_true, cond_true, cond_false, List.cons_append, List.nil_append, go_sem, Nat.reduceBEq]
    try exact rfl
   ·simp only [kn_ne', cond_false, go_sem, Nat.reduceLT]
    exact lk_kidsB _ _ _
  have e1 : ((i : Int) < 12) = False := eq_false (by omega)
  obtain rfl : i = 12 := by omega
  clear hwi zi hlt hi
  rw [kids_full (kidI SM) 0 (by rw [kidI_len]; omega)]
  (repeat' (first | exact trivial | (with_reducible first | apply awA | apply awB | apply awE | apply awF | apply awH | apply awK) | ((with_reducible first | apply awn | refine awQ ?_); intro r hr; simp only [go_sem, Nat.reduceBEq, Nat.reduceLT, decide_false, beq_self_eq_true, cond_true, cond_false, List.nil_append, Int.cast_ofNat_Int, Int.reduceLT] at hr; subst hr; (first | refine awV ?_ ?_ | (refine condK (fun h => ?_) (fun h => ?_) <;> (try simp only [go_sem, reduceCtorEq] at h) <;> (try (exfalso; omega))))))) <;> (try omega)
  clear hkk hkc hkf hkl hkf2 hkf3 hkk2
  refine go_loop [5, 16, 18] [53, 8002] (fun i : Nat => ⟨[(5, true, .ref 23 1 53 0 12), (16, true, .ref 23 1 8002 0 12), (18, true, vI i)], [(53, .var (kcel 3 1 53 12 0 (kidI SM))), (8002, .row 23 1 (lst2 (growI S 12)))]⟩) (fun i => i ≤ 12) (fun i => 12 - i) 0 (by simp only [go_sem, Nat.reduceBEq] <;> exact rfl) (Nat.zero_le _) ?_
  clear e1
  intro i hi
  have hwi := wrap_i64 (n := (i : Int) + 1) (by omega)
  have zi : ((i : Int)).toNat = i := by omega
  have hg12 := growI_len (S := S) (i := 12) (by omega)
  by_cases hlt : i < 12
  ·have e1 : ((i : Int) < 12) = True := eq_true (by omega)
   obtain ⟨l, hSi⟩ : ∃ l, S[i]? = some l := ⟨_, List.getElem?_eq_getElem (by omega)⟩
   have hl := hSl l (List.mem_of_getElem? hSi)
   have hMi := hM i l hSi
   have ggr := lst2_get (growI_get hlt hSi)
   obtain ⟨z, hz⟩ : ∃ z, z = -5 - (i : Int) := ⟨_, rfl⟩
   have w5 : IntKind.i64.wrap (-5 - (i : Int)) = z := by rw [hz, wrap_i64 (by omega)]
   have gk := kcel_get (ty := 3) (kk := 1) (d := 53) (m := 12) 0 i (kidI_get hMi)
   rw [Nat.zero_add, kc_t hlt] at gk
   dsimp only at gk
   clear hMi
   rw [← hz] at ggr gk
   clear hz
   generalize l.length = n at ggr gk hl
   have hb : (bif i == 0 then some (True, ((kcel 3 1 53 12 0 (kidI SM))[0]?).getD AV.dead) else some (i ≤ 11, AV.lst 1 (v8 (List.replicate n z)))) = some (True, AV.lst 1 (v8 (List.replicate n z))) := by
    by_cases h : i = 0
    ·subst h
     rw [gk]; rfl
    ·rw [beq_false_of_ne h, cond_false, eq_true (show i ≤ 11 by omega)]
   have gl : (List.replicate n z ++ [z]).length = n + 1 := by simp
   (repeat' (first | exact trivial | (with_reducible first | apply awA | apply awB | apply awC | apply awF) | ((with_reducible first | apply awn | refine awQ ?_); intro r hr; simp only [go_sem, Nat.reduceBEq, Nat.reduceLT, e1, Int.cast_ofNat_Int] at hr; subst hr; (first | refine awV ?_ ?_ | (refine condK (fun h => ?_) (fun h => ?_) <;> (try simp only [go_sem, reduceCtorEq] at h) <;> (try (exfalso; omega))))))) <;> (try omega)
   refine go_loop [5, 16, 18, 19] [53, 8002] (fun k : Nat => ⟨[(5, true, .ref 23 1 53 0 12), (16, true, .ref 23 1 8002 0 12), (18, true, vI i), (19, true, vI k)], [(53, .var (kcel 3 1 53 12 0 (kidI SM))), (8002, .row 23 1 (lst2 (growI S 12)))]⟩) (fun k => k ≤ n + 1) (fun k => n + 1 - k) 0 (by simp only [go_sem, Nat.reduceBEq] <;> exact rfl) (Nat.zero_le _) ?_
   intro k hk
   have hwk := wrap_i64 (n := (k : Int) + 1) (by omega)
   have zk : ((k : Int)).toNat = k := by omega
   by_cases hk2 : k < n + 1
   ·have e2 : ((k : Int) < ((n + 1 : Nat) : Int)) = True := eq_true (by omega)
    have gG : (v8 (List.replicate n z ++ [z]))[k]? = some [vI z] := by
     rw [v8_getD (by omega)]
     congr 3
     rw [← List.replicate_succ']
     simp [List.getD, hk2]
    by_cases hk3 : k < n
    ·have e3 : ((k : Int) < (n : Int)) = True := eq_true (by omega)
     have gX : (v8 (List.replicate n z))[k]? = some [vI z] := by rw [v8_getD (by simpa using hk3)]; simp [List.getD, hk3]
     (repeat' (first | exact trivial | (with_reducible first | apply awA | apply awB | apply awC | apply awF | apply awI) | ((with_reducible first | apply awn | refine awQ ?_); intro r hr; simp only [go_sem, Nat.reduceBEq, Nat.reduceLT, Nat.reduceLeDiff, reduceCtorEq, e1, e2, e3, hwk, zi, zk, w5, gk, hb, ggr, gl, gG, gX, kcel_len, kidI_len, hMl, List.length_replicate, ne_eq, not_true_eq_false, decide_false, Nat.mul_one, Nat.add_zero, v8_len, Int.cast_ofNat_Int] at hr; subst hr; (first | refine awV ?_ ?_ | (refine condK (fun h => ?_) (fun h => ?_) <;> (try simp only [go_sem, reduceCtorEq] at h) <;> (try (exfalso; omega))))))) <;> (try omega)
     all_goals first | omega | exact ⟨k + 1, by simp only [go_sem, Nat.reduceBEq] <;> exact rfl, hk2, by omega⟩
    ·have e3 : ((k : Int) < (n : Int)) = False := eq_false (by omega)
     have gX : (v8 (List.replicate n z))[k]? = none := List.getElem?_eq_none (by rw [v8_len, List.length_replicate]; omega)
     (repeat' (first | exact trivial | (with_reducible first | apply awA | apply awB | apply awC | apply awF | apply awI) | ((with_reducible first | apply awn | apply awo | refine awQ ?_); intro r hr; simp only [go_sem, Nat.reduceBEq, Nat.reduceLT, Nat.reduceLeDiff, reduceCtorEq, e1, e2, e3, hwk, zi, zk, w5, gk, hb, ggr, gl, gG, gX, kcel_len, kidI_len, hMl, List.length_replicate, ne_eq, not_true_eq_false, decide_false, Nat.mul_one, Nat.add_zero, v8_len, Int.cast_ofNat_Int] at hr; subst hr; (first | refine awV ?_ ?_ | refine awW ?_ ?_ | (refine condK (fun h => ?_) (fun h => ?_) <;> (try simp only [go_sem, reduceCtorEq] at h) <;> (try (exfalso; omega))))) | (refine al_skipN (vI 0) rfl rfl ⟨by decide, by decide⟩ ?_))) <;> (try omega)
     all_goals first | omega | exact ⟨k + 1, by simp only [go_sem, Nat.reduceBEq] <;> exact rfl, hk2, by omega⟩
   ·have e2 : ((k : Int) < ((n + 1 : Nat) : Int)) = False := eq_false (by omega)
    (repeat' (first | exact trivial | (with_reducible first | apply awA | apply awE | apply awF | apply awH | apply awI | apply awK) | ((with_reducible first | apply awn | refine awQ ?_); intro r hr; simp only [go_sem, Nat.reduceBEq, Nat.reduceLT, Nat.reduceLeDiff, e1, e2, hwi, zi, ggr, gl, v8_len, Int.cast_ofNat_Int] at hr; subst hr; (first | refine awV ?_ ?_ | (refine condK (fun h => ?_) (fun h => ?_) <;> (try simp only [go_sem, reduceCtorEq] at h) <;> (try (exfalso; omega))))))) <;> (try omega)
    all_goals first | omega | exact ⟨i + 1, by simp only [go_sem, Nat.reduceBEq] <;> exact rfl, hlt, by omega⟩
  ·have e1 : ((i : Int) < 12) = False := eq_false (by omega)
   (repeat' (first | exact trivial | (with_reducible first | apply awA | apply awD | apply awE | apply awF | apply awH | apply awK) | ((with_reducible first | apply awn | refine awQ ?_ | refine awR ?_); intro r hr; simp only [go_sem, Nat.reduceBEq, Nat.reduceLT, e1, Int.cast_ofNat_Int] at hr; subst hr; (first | refine awV ?_ ?_ | refine endK ?_ ?_ | (refine condK (fun h => ?_) (fun h => ?_) <;> (try simp only [go_sem, reduceCtorEq] at h) <;> (try (exfalso; omega))))))) <;> (try omega)
   all_goals rfl
end Go.Proofs.Ytjeplogcfedmeaa
end

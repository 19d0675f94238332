import Derived.Scope
import Derived.Control
import Derived.Test.YtfjajlcjifnceaaP11
set_option linter.all false
set_option maxRecDepth 100000
set_option maxHeartbeats 8000000
namespace Go.Proofs.Ytfjajlcjifnceaa
section
open Go.RowKit
def mkL (X : List InsM) (Y : List Int) (n : Nat) : List Bool := (List.range n).map (zV X Y)
theorem ku (X : List InsM) (Y : List Int) (n : Nat) : (mkL X Y n).length = n := by simp [mkL]
theorem za9 {X : List InsM} {x : InsM} (n : Nat) (h : tgF x.op = true) (h0 : 0 ≤ x.b) : mkL (X ++ [x]) [] n = (mkL X [] n).set x.b.toNat true := by
 refine List.ext_getElem (by simp [mkL]) fun i h1 h2 => ?_
 simp only [mkL, List.getElem_map, List.getElem_range, List.getElem_set, zV, List.any_append, List.any_cons, List.any_nil, Bool.or_false, h, Bool.true_and]
 by_cases hi : x.b.toNat = i
 ·rw [if_pos hi, decide_eq_true (show x.b = (i : Int) by omega), Bool.or_true]
 ·rw [if_neg hi, decide_eq_false (show ¬ x.b = (i : Int) by omega), Bool.or_false]
theorem zck {X : List InsM} {x : InsM} (n : Nat) (h : ¬ tgF x.op = true) : mkL (X ++ [x]) [] n = mkL X [] n := by
 refine List.map_congr_left fun i _ => ?_
 simp only [zV, List.any_append, List.any_cons, List.any_nil, Bool.or_false, show tgF x.op = false by simpa using h, Bool.false_and]
theorem zdf {X : List InsM} {Y : List Int} {m : Int} (n : Nat) (h0 : 0 ≤ m) : mkL X (Y ++ [m]) n = (mkL X Y n).set m.toNat true := by
 refine List.ext_getElem (by simp [mkL]) fun i h1 h2 => ?_
 simp only [mkL, List.getElem_map, List.getElem_range, List.getElem_set, zV, List.any_append, List.any_cons, List.any_nil, Bool.or_false]
 by_cases hi : m.toNat = i
 ·rw [if_pos hi, decide_eq_true (show m = (i : Int) by omega), Bool.or_true, Bool.or_true]
 ·rw [if_neg hi, decide_eq_false (show ¬ m = (i : Int) by omega), Bool.or_false]
theorem K7 (n : Nat) : (List.replicate n [vB false] : List (List AV)) = wJ (mkL [] [] n) := by
 refine List.ext_getElem (by simp [mkL, wJ]) fun i h1 h2 => ?_
 simp [mkL, wJ, zV]
theorem X6 (B : List Bool) (k : Nat) : (wJ B).set k [vB true] = wJ (B.set k true) := by simp [wJ, List.map_set]
theorem K8 (e : Bool) (C : List InsM) (N : List Int) (hC : C.length ≤ 1048576) (hN : N.length ≤ 1048576) (hb : ∀ k, k < C.length → tgF (zb C k).op = true → 0 ≤ (zb C k).b ∧ (zb C k).b < C.length) (hn : ∀ n ∈ N, 0 ≤ n ∧ n < C.length) :
  yq Try.prog 18 [pG e C N] [] (.ref 4 1 11 0 C.length) [(11, .row 4 1 (wJ (mkL C N C.length)))] := by
 have z0 := K7 C.length
 have htg := fun k hk => qw e C N k hk
 unfold pG at *
 refine zW (za _) Try.func18 rfl rfl (by rw [Try.results18]) Try.ntmps18 rfl fun E => ?_
 (repeat' (first | exact trivial | (with_reducible first | apply awA | apply awB | apply awF) | ((with_reducible apply awn); intro r hr; simp only [go_sem, Nat.reduceBEq, Nat.reduceLT, Nat.reduceLeDiff, Nat.reduceAdd, Nat.reduceMul, zd, z0, Int.cast_ofNat_Int] at hr; subst hr; (first | refine awV ?_ ?_)))) <;> (try omega)
 refine zC [1, 3, 13, 14, 15] [1, 11] (fun i : Nat => ⟨[(1, true, .ptr 1 1 0 0), (3, true, .ref 4 1 11 0 C.length), (13, true, .lst 4 (zz C)), (14, true, vI C.length), (15, true, vI i)], [(1, .var [vB e, .lst 4 (zz C), .lst 1 (v8 N)]), (11, .row 4 1 (wJ (mkL (C.take i) [] C.length)))]⟩)
  (fun i => i ≤ C.length) (fun i => C.length - i) 0 (by simp only [go_sem, Nat.reduceBEq] <;> exact rfl) (Nat.zero_le _) ?_
 ·intro i hi
  have hwi := zg (n := (i : Int) + 1) (by omega)
  have zi : ((i : Int)).toNat = i := by omega
  by_cases hlt : i < C.length
  ·have e1 : ((i : Int) < (C.length : Int)) = True := eq_true (by omega)
   have gC := yw hlt
   have htg := htg i hlt
   have hbi := hb i hlt
   have tk : C.take (i + 1) = C.take i ++ [zb C i] := by rw [List.take_succ_eq_append_getElem hlt, zP (List.getElem?_eq_getElem hlt)]
   obtain ⟨x, hx⟩ : ∃ x, zb C i = x := ⟨_, rfl⟩
   rw [hx] at gC htg hbi tk
   by_cases ht : tgF x.op = true
   ·obtain ⟨b1, b2⟩ := hbi ht
    have h2 := za9 (X := C.take i) (x := x) C.length ht b1
    rw [← tk] at h2
    rw [ht] at htg
    obtain ⟨m, hm⟩ : ∃ m : Nat, x.b = m := ⟨x.b.toNat, by omega⟩
    have zm : ((m : Int)).toNat = m := by omega
    rw [hm, zm] at h2
    rw [hm] at gC
    have hml : m < (mkL (C.take i) [] C.length).length := by rw [ku]; omega
    have gT := vP hml
    have hst := X6 (mkL (C.take i) [] C.length) m
    rw [← h2] at hst
    have tl := xZ (mkL (C.take i) [] C.length)
    rw [ku] at tl
    (repeat' (first | exact trivial | (with_reducible first | apply awA | apply awB | apply awC | apply awF | apply awI) | ((with_reducible first | apply awn | apply awo | refine awQ ?_); intro r hr; simp only [go_sem, Nat.reduceBEq, Nat.reduceLT, Nat.reduceLeDiff, Nat.reduceAdd, Nat.reduceMul, e1, hwi, zi, zm, gC, gT, hst, tl, zd] at hr; subst hr; (first | refine caA (fun _ => htg) rfl ?_ ?_ ?_ | refine awV ?_ ?_ | (refine zf (fun h => ?_) (fun h => ?_) <;> (try simp only [go_sem, reduceCtorEq] at h) <;> (try (exfalso; omega))))))) <;> (try omega)
    all_goals exact ⟨i + 1, by simp only [go_sem, Nat.reduceBEq] <;> exact rfl, hlt, by omega⟩
   ·have h2 := zck (X := C.take i) (x := x) C.length ht
    rw [← tk] at h2
    rw [show tgF x.op = false by simpa using ht] at htg
    (repeat' (first | exact trivial | (with_reducible first | apply awA | apply awB | apply awC | apply awF | apply awI) | ((with_reducible first | apply awn | apply awo | refine awQ ?_); intro r hr; simp only [go_sem, Nat.reduceBEq, Nat.reduceLT, Nat.reduceLeDiff, Nat.reduceAdd, Nat.reduceMul, e1, hwi, zi, gC, zd] at hr; subst hr; (first | refine caA (fun _ => htg) rfl ?_ ?_ ?_ | refine awV ?_ ?_ | (refine zf (fun h => ?_) (fun h => ?_) <;> (try simp only [go_sem, reduceCtorEq] at h) <;> (try (exfalso; omega))))))) <;> (try omega)
    all_goals exact ⟨i + 1, by rw [h2]; simp only [go_sem, Nat.reduceBEq] <;> exact rfl, hlt, by omega⟩
  ·have e1 : ((i : Int) < (C.length : Int)) = False := eq_false (by omega)
   obtain rfl : i = C.length := by omega
   rw [List.take_length]
   (repeat' (first | exact trivial | (with_reducible first | apply awA | apply awB | apply awE | apply awF | apply awH | apply awK) | ((with_reducible first | apply awn | refine awQ ?_); intro r hr; simp only [go_sem, Nat.reduceBEq, Nat.reduceLT, Nat.reduceLeDiff, Nat.reduceAdd, Nat.reduceMul, e1, zq] at hr; subst hr; (first | refine awV ?_ ?_ | (refine zf (fun h => ?_) (fun h => ?_) <;> (try simp only [go_sem, reduceCtorEq] at h) <;> (try (exfalso; omega))))))) <;> (try omega)
   refine zC [3, 29, 30, 31] [11] (fun j : Nat => ⟨[(3, true, .ref 4 1 11 0 C.length), (29, true, .lst 1 (v8 N)), (30, true, vI N.length), (31, true, vI j)], [(11, .row 4 1 (wJ (mkL C (N.take j) C.length)))]⟩)
    (fun j => j ≤ N.length) (fun j => N.length - j) 0 (by simp only [List.take_zero, go_sem, Nat.reduceBEq] <;> exact rfl) (Nat.zero_le _) ?_
   intro j hj
   have hwj := zg (n := (j : Int) + 1) (by omega)
   have zj : ((j : Int)).toNat = j := by omega
   by_cases hlj : j < N.length
   ·have e2 : ((j : Int) < (N.length : Int)) = True := eq_true (by omega)
    have gN := xm hlj
    have hnj := hn N[j] (List.getElem_mem hlj)
    have tk : N.take (j + 1) = N.take j ++ [N[j]] := List.take_succ_eq_append_getElem hlj
    have h2 := zdf (X := C) (Y := N.take j) (m := N[j]) C.length hnj.1
    rw [← tk] at h2
    obtain ⟨m, hm⟩ : ∃ m : Nat, N[j] = m := ⟨(N[j]).toNat, by omega⟩
    have zm : ((m : Int)).toNat = m := by omega
    rw [hm, zm] at h2
    rw [hm] at gN hnj
    have hml : m < (mkL C (N.take j) C.length).length := by rw [ku]; omega
    have gT := vP hml
    have hst := X6 (mkL C (N.take j) C.length) m
    rw [← h2] at hst
    have tl := xZ (mkL C (N.take j) C.length)
    rw [ku] at tl
    (repeat' (first | exact trivial | (with_reducible first | apply awA | apply awB | apply awC | apply awF | apply awI) | ((with_reducible first | apply awn | refine awQ ?_); intro r hr; simp only [go_sem, Nat.reduceBEq, Nat.reduceLT, Nat.reduceLeDiff, e2, hwj, zj, zm, gN, gT, hst, tl, zq] at hr; subst hr; (first | refine awV ?_ ?_ | (refine zf (fun h => ?_) (fun h => ?_) <;> (try simp only [go_sem, reduceCtorEq] at h) <;> (try (exfalso; omega))))))) <;> (try omega)
    all_goals exact ⟨j + 1, by simp only [go_sem, Nat.reduceBEq] <;> exact rfl, hlj, by omega⟩
   ·have e2 : ((j : Int) < (N.length : Int)) = False := eq_false (by omega)
    obtain rfl : j = N.length := by omega
    rw [List.take_length]
    (repeat' (first | exact trivial | (with_reducible first | apply awA | apply awD | apply awE | apply awF | apply awH | apply awK) | ((with_reducible first | apply awn | refine awQ ?_ | refine awT ?_); intro r hr; simp only [go_sem, Nat.reduceBEq, Nat.reduceLT, e2] at hr; subst hr; (first | refine awV ?_ ?_ | refine yl ?_ ?_ ?_ | (refine zf (fun h => ?_) (fun h => ?_) <;> (try simp only [go_sem, reduceCtorEq] at h) <;> (try (exfalso; omega))))))) <;> (try omega)
    all_goals first | exact AV.up_rfl _ | (repeat first | exact zo | refine zh rfl ?_) | trace_state
end
section
open Go.RowKit
def wZ (L : List Int) (n : Int) : Int := L.getD n.toNat 0
def zcl (L : List Int) : List (Nat × AObj) := [(10001, .var [.ref 3 1 10002 0 L.length]), (10002, .row 3 1 (v8 L))]
theorem zcm (L : List Int) (n : Int) (h : 0 ≤ n ∧ n < L.length) (hL : L.length ≤ 10000000) : yq Try.prog 23 [vI n, .ptr 1 10001 0 0] [(10001, .var [.ref 3 1 10002 0 L.length]), (10002, .row 3 1 (v8 L))] (vI (wZ L n)) [(10001, .var [.ref 3 1 10002 0 L.length]), (10002, .row 3 1 (v8 L))] := by
 obtain ⟨m, rfl⟩ : ∃ m : Nat, n = m := ⟨n.toNat, by omega⟩
 have zm : ((m : Int)).toNat = m := by omega
 have hm : m < L.length := by omega
 have gL := xm hm
 have e1 : wZ L (m : Int) = L[m] := by unfold wZ; rw [zm, List.getD_eq_getElem?_getD, List.getElem?_eq_getElem hm]; rfl
 rw [e1]
 refine zW (za _) Try.func23 rfl rfl (by rw [Try.results23]) Try.ntmps23 rfl fun E => ?_
 (repeat' (first | exact trivial | (with_reducible first | apply awA | apply awD | apply awF) | ((with_reducible first | apply awn | refine awT ?_); intro r hr; simp only [go_sem, Nat.reduceBEq, Nat.reduceLT, Nat.reduceLeDiff, Nat.reduceMul, zm, gL] at hr; subst hr; (first | refine awV ?_ ?_ | refine yl ?_ ?_ ?_)))) <;> (try omega)
 all_goals first | exact AV.up_rfl _ | (repeat first | exact zo | refine zh rfl ?_) | trace_state
theorem zcn (L : List Int) (n : Int) (h : 0 ≤ n ∧ n < L.length) (hL : L.length ≤ 10000000) : yq Try.prog 25 [vI n, .ptr 1 10001 0 0] [(10001, .var [.ref 3 1 10002 0 L.length]), (10002, .row 3 1 (v8 L))] (vI (wZ L n)) [(10001, .var [.ref 3 1 10002 0 L.length]), (10002, .row 3 1 (v8 L))] := by
 obtain ⟨m, rfl⟩ : ∃ m : Nat, n = m := ⟨n.toNat, by omega⟩
 have zm : ((m : Int)).toNat = m := by omega
 have hm : m < L.length := by omega
 have gL := xm hm
 have e1 : wZ L (m : Int) = L[m] := by unfold wZ; rw [zm, List.getD_eq_getElem?_getD, List.getElem?_eq_getElem hm]; rfl
 rw [e1]
 refine zW (za _) Try.func25 rfl rfl (by rw [Try.results25]) Try.ntmps25 rfl fun E => ?_
 (repeat' (first | exact trivial | (with_reducible first | apply awA | apply awD | apply awF) | ((with_reducible first | apply awn | refine awT ?_); intro r hr; simp only [go_sem, Nat.reduceBEq, Nat.reduceLT, Nat.reduceLeDiff, Nat.reduceMul, zm, gL] at hr; subst hr; (first | refine awV ?_ ?_ | refine yl ?_ ?_ ?_)))) <;> (try omega)
 all_goals first | exact AV.up_rfl _ | (repeat first | exact zo | refine zh rfl ?_) | trace_state
def mvP (L : List Int) (A : List InsM) (i : Nat) : List InsM := (A.take i).map (mvX (wZ L)) ++ A.drop i
theorem zba (L : List Int) (A : List InsM) (i : Nat) : (mvP L A i).length = A.length := by simp [mvP]; omega
theorem K9 (L : List Int) (A : List InsM) : mvP L A 0 = A := by simp [mvP]
theorem zbb (L : List Int) (A : List InsM) : mvP L A A.length = A.map (mvX (wZ L)) := by simp [mvP]
theorem zco {L : List Int} {A : List InsM} {i : Nat} (h : i < A.length) : zb (mvP L A i) i = zb A i := by
 unfold zb mvP
 rw [List.getD_eq_getElem?_getD, List.getElem?_append_right (by simp; omega), List.length_map, List.length_take, Nat.min_eq_left (by omega), Nat.sub_self, List.getElem?_drop, Nat.add_zero, List.getD_eq_getElem?_getD]
theorem zdg {L : List Int} {A : List InsM} {i : Nat} (h : i < A.length) : mvP L A (i + 1) = (mvP L A i).set i (mvX (wZ L) (zb A i)) := by
 unfold mvP
 rw [List.take_succ_eq_append_getElem h, List.map_append, List.set_append_right _ _ (by simp; omega), List.length_map, List.length_take, Nat.min_eq_left (by omega), Nat.sub_self, List.drop_eq_getElem_cons h, List.set_cons_zero, zP (List.getElem?_eq_getElem h), List.append_assoc]
 rfl
theorem zcp {L : List Int} {A : List InsM} {i : Nat} (h : i < A.length) (ht : ¬ tgF (zb A i).op = true) : mvP L A (i + 1) = mvP L A i := by
 unfold mvP
 rw [List.take_succ_eq_append_getElem h, List.map_append, List.drop_eq_getElem_cons h, List.append_assoc]
 rw [zP (List.getElem?_eq_getElem h)] at ht
 show _ ++ (mvX _ A[i] :: _) = _
 rw [qK ht]
 rfl
def MvR (L : List Int) (fn : Nat) : Prop :=
 (fn = 23 ∧ ∀ n : Int, 0 ≤ n ∧ n < L.length → yq Try.prog 23 [vI n, .ptr 1 10001 0 0] [(10001, .var [.ref 3 1 10002 0 L.length]), (10002, .row 3 1 (v8 L))] (vI (wZ L n)) [(10001, .var [.ref 3 1 10002 0 L.length]), (10002, .row 3 1 (v8 L))]) ∨
 (fn = 25 ∧ ∀ n : Int, 0 ≤ n ∧ n < L.length → yq Try.prog 25 [vI n, .ptr 1 10001 0 0] [(10001, .var [.ref 3 1 10002 0 L.length]), (10002, .row 3 1 (v8 L))] (vI (wZ L n)) [(10001, .var [.ref 3 1 10002 0 L.length]), (10002, .row 3 1 (v8 L))])
theorem UG (e : Bool) (C : List InsM) (N : List Int) (A : List InsM) (L : List Int) (fn : Nat) (hfn : MvR L fn) (hA : A.length ≤ 10000000) (hN : N.length ≤ 1048576) (hb : ∀ k, k < A.length → tgF (zb A k).op = true → 0 ≤ (zb A k).b ∧ (zb A k).b < L.length) (hn : ∀ n ∈ N, 0 ≤ n ∧ n < L.length) :
  yq Try.prog 22 [pG e C N, .ref 38 4 15001 0 A.length, .fn fn [.ptr 1 10001 0 0]] ((15001, .row 38 4 (zz A)) :: zcl L)
   (.agg [vB e, .ref 38 4 15001 0 A.length, .ref 3 1 8002 0 N.length]) ([(15001, .row 38 4 (zz (A.map (mvX (wZ L))))), (8002, .row 3 1 (v8 (N.map (wZ L))))] ++ zcl L) := by
 unfold pG zcl
 rcases hfn with ⟨hfv, hto⟩ | ⟨hfv, hto⟩
 all_goals
  rw [hfv]
  refine zW (za _) Try.func22 rfl rfl (by rw [Try.results22]) Try.ntmps22 rfl fun E => ?_
  (repeat' (first | exact trivial | (with_reducible first | apply awA | apply awB | apply awF) | ((with_reducible apply awn); intro r hr; simp only [go_sem, Nat.reduceBEq, Nat.reduceLT, Nat.reduceLeDiff, Nat.reduceAdd, Nat.reduceMul, List.nil_append] at hr; subst hr; (first | refine awV ?_ ?_)))) <;> (try omega)
  refine u6 7 2 3 1 8002 (.inl (by decide)) (by decide) rfl rfl ?_
  refine zC [2, 3, 6, 7, 17, 18, 19] [3, 6, 7, 15001, 8002, 10001, 10002] (fun i : Nat => ⟨[(2, true, .fn fn [.ptr 1 10001 0 0]), (3, true, .ptr 1 3 0 0), (6, true, .ptr 1 6 0 0), (7, true, .ptr 1 7 0 0), (17, true, .ref 38 4 15001 0 A.length), (18, true, vI A.length), (19, true, vI i)],
   [(3, .var [vB e, .lst 4 (zz C), .lst 1 (v8 N)]), (6, .var [vB false, .v (.slice none 0 0), .v (.slice none 0 0)]), (7, .var [vB e, .ref 38 4 15001 0 A.length, .ref 3 1 8002 0 0]), (15001, .row 38 4 (zz (mvP L A i))), (8002, .row 3 1 []), (10001, .var [.ref 3 1 10002 0 L.length]), (10002, .row 3 1 (v8 L))]⟩)
   (fun i => i ≤ A.length) (fun i => A.length - i) 0 (by simp only [AState.nilvar, K9, hfv, go_sem, Nat.reduceBEq, Nat.reduceLT] <;> exact rfl) (Nat.zero_le _) ?_
  intro i hi
  have hwi := zg (n := (i : Int) + 1) (by omega)
  have zi : ((i : Int)).toNat = i := by omega
  have hml := zba L A i
  by_cases hlt : i < A.length
  ·have e1 : ((i : Int) < (A.length : Int)) = True := eq_true (by omega)
   have htg := qw e (mvP L A i) [] i (by omega)
   have gC := yw (X := mvP L A i) (i := i) (by omega)
   have hms := zdg (L := L) hlt
   have hmn := zcp (L := L) hlt
   have hbi := hb i hlt
   rw [zco hlt] at htg gC
   have tP : (zz (mvP L A i)).take A.length = zz (mvP L A i) := List.take_of_length_le (by rw [zd]; omega)
   generalize zb A i = x at *
   unfold pG at htg
   by_cases ht : tgF x.op = true
   ·obtain ⟨b1, b2⟩ := hbi ht
    have hto' := hto x.b ⟨b1, b2⟩
    rw [ht] at htg
    have hst := wb (mvP L A i) i x.op x.a (wZ L x.b) x.c
    have hmx : mvX (wZ L) x = ⟨x.op, x.a, wZ L x.b, x.c⟩ := by unfold mvX; rw [if_pos ht]
    rw [← hmx, ← hms] at hst
    have el := zd (mvP L A i)
    rw [hml] at el
    generalize wZ L x.b = y at hto' hst
    (repeat' (first | exact trivial | (with_reducible first | apply awA | apply awB | apply awC | apply awF | apply awI) | (refine zn (id := 6) (t := (.node [0, 1, 2, 3, 4, 5, 6, 7, 8, 9] [])) (drR [7, 9] [] [33]) zD (by kernel_rfl) (by kernel_rfl) (fun _ _ h => h) ?_) | (refine zx (by simp only [go_sem]; exact rfl) ?_) | (refine zA (by simp only [go_sem]; exact rfl) ?_) | refine ze ?_ | refine zl ?_ ?_ | exact zy | ((with_reducible first | apply awn | apply awo | apply awp | refine awQ ?_); intro r hr; simp only [go_sem, Nat.reduceBEq, Nat.reduceLT, Nat.reduceLeDiff, Nat.reduceAdd, Nat.reduceMul, reduceCtorEq, e1, hwi, zi, gC, hst, el, tP, hfv, List.map_nil] at hr; subst hr; (first | refine caA (fun _ => htg) rfl ?_ ?_ ?_ | refine awV ?_ ?_ | refine awW ?_ ?_ | (refine zf (fun h => ?_) (fun h => ?_) <;> (try simp only [go_sem, reduceCtorEq] at h) <;> (try (exfalso; omega))))) | (refine yf (za _) [(10001, 10001), (10002, 10002)] [(10001, 10001), (10002, 10002)] [] [10001, 10002] (by simp only [go_sem, Nat.reduceBEq, Nat.reduceLT, Nat.reduceSub, List.map_nil] <;> exact rfl) ?_ rfl rfl (by first | exact .inl rfl | exact .inr rfl) (by simp only [go_sem, Nat.reduceBEq] <;> exact rfl) (hto') (.inl rfl) ?_))) <;> (try omega)
    all_goals exact ⟨i + 1, by simp only [hfv, go_sem, Nat.reduceBEq] <;> exact rfl, hlt, by omega⟩
   ·rw [show tgF x.op = false by simpa using ht] at htg
    have h2 := hmn ht
    have el := zd (mvP L A i)
    rw [hml] at el
    (repeat' (first | exact trivial | (with_reducible first | apply awA | apply awB | apply awC | apply awF | apply awI) | ((with_reducible first | apply awn | apply awo | refine awQ ?_); intro r hr; simp only [go_sem, Nat.reduceBEq, Nat.reduceLT, Nat.reduceLeDiff, Nat.reduceAdd, Nat.reduceMul, e1, hwi, zi, gC, el, tP] at hr; subst hr; (first | refine caA (fun _ => htg) rfl ?_ ?_ ?_ | refine awV ?_ ?_ | (refine zf (fun h => ?_) (fun h => ?_) <;> (try simp only [go_sem, reduceCtorEq] at h) <;> (try (exfalso; omega))))))) <;> (try omega)
    all_goals exact ⟨i + 1, by rw [h2]; simp only [hfv, go_sem, Nat.reduceBEq] <;> exact rfl, hlt, by omega⟩
  ·have e1 : ((i : Int) < (A.length : Int)) = False := eq_false (by omega)
   obtain rfl : i = A.length := by omega
   rw [zbb]
   (repeat' (first | exact trivial | (with_reducible first | apply awA | apply awB | apply awE | apply awF | apply awH | apply awK) | ((with_reducible first | apply awn | refine awQ ?_); intro r hr; simp only [go_sem, Nat.reduceBEq, Nat.reduceLT, Nat.reduceLeDiff, Nat.reduceAdd, Nat.reduceMul, e1, zq] at hr; subst hr; (first | refine awV ?_ ?_ | (refine zf (fun h => ?_) (fun h => ?_) <;> (try simp only [go_sem, reduceCtorEq] at h) <;> (try (exfalso; omega))))))) <;> (try omega)
   refine zC [2, 6, 7, 38, 39, 40] [6, 7, 15001, 8002, 10001, 10002] (fun j : Nat => ⟨[(2, true, .fn fn [.ptr 1 10001 0 0]), (6, true, .ptr 1 6 0 0), (7, true, .ptr 1 7 0 0), (38, true, .lst 1 (v8 N)), (39, true, vI N.length), (40, true, vI j)],
    [(6, .var [vB false, .v (.slice none 0 0), .v (.slice none 0 0)]), (7, .var [vB e, .ref 38 4 15001 0 A.length, .ref 3 1 8002 0 j]), (15001, .row 38 4 (zz (A.map (mvX (wZ L))))), (8002, .row 3 1 (v8 ((N.take j).map (wZ L)))), (10001, .var [.ref 3 1 10002 0 L.length]), (10002, .row 3 1 (v8 L))]⟩)
    (fun j => j ≤ N.length) (fun j => N.length - j) 0 (by simp only [hfv, List.take_zero, List.map_nil, go_sem, Nat.reduceBEq] <;> exact rfl) (Nat.zero_le _) ?_
   intro j hj
   have hwj := zg (n := (j : Int) + 1) (by omega)
   have zj : ((j : Int)).toNat = j := by omega
   have hml : ((N.take j).map (wZ L)).length = j := by rw [List.length_map, List.length_take]; omega
   have tm : (v8 ((N.take j).map (wZ L))).take j = v8 ((N.take j).map (wZ L)) := List.take_of_length_le (by rw [zq, hml]; exact Nat.le_refl _)
   by_cases hlj : j < N.length
   ·have e2 : ((j : Int) < (N.length : Int)) = True := eq_true (by omega)
    have gN := xm hlj
    have hto' := hto N[j] (hn N[j] (List.getElem_mem hlj))
    have hap := zap ((N.take j).map (wZ L)) (wZ L N[j])
    have hst : (N.take j).map (wZ L) ++ [wZ L N[j]] = (N.take (j + 1)).map (wZ L) := by rw [List.take_succ_eq_append_getElem hlj, List.map_append]; rfl
    have hml1 : ((N.take (j + 1)).map (wZ L)).length = j + 1 := by rw [List.length_map, List.length_take]; omega
    rw [hst] at hap
    generalize wZ L N[j] = z at hto' hap
    generalize N[j] = nj at gN hto'
    (repeat' (first | exact trivial | (with_reducible first | apply awA | apply awB | apply awC | apply awF | apply awI) | (refine zn (id := 11) (t := (.node [0, 2, 3] [(.node [1, 4, 5, 6, 7, 8] []), (.node [4, 1, 5, 6, 7, 8] [])])) (drR [] [45] [48]) zD (by kernel_rfl) (by kernel_rfl) (fun _ _ h => h) ?_) | (refine zx (by simp only [go_sem]; exact rfl) ?_) | (refine zA (by simp only [go_sem]; exact rfl) ?_) | refine ze ?_ | refine zl ?_ ?_ | exact zy | ((with_reducible first | apply awn | apply awp | refine awQ ?_); intro r hr; simp only [go_sem, Nat.reduceBEq, Nat.reduceLT, Nat.reduceLeDiff, Nat.reduceAdd, Nat.reduceMul, Nat.reduceEqDiff, reduceCtorEq, e2, hwj, zj, gN, hap, hml, hml1, tm, hfv, zq] at hr; subst hr; (first | refine awV ?_ ?_ | refine awW ?_ ?_ | (refine zf (fun h => ?_) (fun h => ?_) <;> (try simp only [go_sem, reduceCtorEq] at h) <;> (try (exfalso; omega))))) | (refine yf (za _) [(10001, 10001), (10002, 10002)] [(10001, 10001), (10002, 10002)] [] [10001, 10002] (by simp only [go_sem, Nat.reduceBEq, Nat.reduceLT, Nat.reduceSub] <;> exact rfl) ?_ rfl rfl (by first | exact .inl rfl | exact .inr rfl) (by simp only [go_sem, Nat.reduceBEq] <;> exact rfl) (hto') (.inl rfl) ?_))) <;> (try omega)
    all_goals exact ⟨j + 1, by simp only [hfv, go_sem, Nat.reduceBEq] <;> exact rfl, hlj, by omega⟩
   ·have e2 : ((j : Int) < (N.length : Int)) = False := eq_false (by omega)
    obtain rfl : j = N.length := by omega
    rw [List.take_length] at *
    (repeat' (first | exact trivial | (with_reducible first | apply awA | apply awD | apply awE | apply awF | apply awH | apply awK) | ((with_reducible first | apply awn | refine awQ ?_ | refine awT ?_); intro r hr; simp only [go_sem, Nat.reduceBEq, Nat.reduceLT, Nat.reduceLeDiff, Nat.reduceAdd, Nat.reduceMul, e2] at hr; subst hr; (first | refine awV ?_ ?_ | refine yl ?_ ?_ ?_ | (refine zf (fun h => ?_) (fun h => ?_) <;> (try simp only [go_sem, reduceCtorEq] at h) <;> (try (exfalso; omega))))))) <;> (try omega)
    all_goals first | exact AV.up_rfl _ | (repeat first | exact zo | refine zh rfl ?_) | trace_state
end
section
def zda (Q : Exit → AState → Prop) : Exit → AState → Prop
 | .goto _, _ => False
 | e, s => Q e s
section
variable {P : Program} {E : Env} {n : Nat} {s : AState} {Q : Exit → AState → Prop}
theorem WQ {c : Code} (h : AWp P E n c (zda Q) s) : AWp P E n (.scope c) Q s := fun a w hs =>
 wp_scope_straight (wp_mono (h a w hs) fun e a' w' hl => by
  cases e with
  | goto l => obtain ⟨s', h1, _⟩ := hl; exact h1
  | _ => obtain ⟨s', h1, h2⟩ := hl; exact ⟨s', h1, h2⟩)
theorem ZN {l : Nat} (h : Q .normal s) : AWp P E n (.label l) Q s := fun _ _ hs => wp_label ⟨s, h, hs⟩
theorem JQ (h : Q .normal s) : zda Q .normal s := h
theorem JR (h : Q .ret s) : zda Q .ret s := h
theorem JS {id : Nat} (h : Q (.exit id) s) : zda Q (.exit id) s := h
end
end
section
open Go.RowKit
theorem Yg {nC nN : Nat} {w n : Int} (h1 : nC ≤ 1048576) (h2 : nN ≤ 1048576) (h : wW nC nN w n = true) : Sml n := by
 have in_small : ∀ {a b : Int}, -1 ≤ a → b ≤ 16777216 → inF n a b = true → Sml n := fun {a b} q1 q2 q => by
  have := v9 q
  unfold Sml
  omega
 have ite_small : ∀ {p : Prop} [Decidable p] {a b : Bool}, (a = true → Sml n) → (b = true → Sml n) → (if p then a else b) = true → Sml n := fun {p} _ {a b} q1 q2 q => by
  split at q
  ·exact q1 q
  ·exact q2 q
 unfold wW at h
 refine ite_small (fun q => ?_) (fun h => ?_) h
 ·have := of_decide_eq_true q; unfold Sml; omega
 refine ite_small (in_small (by omega) (by omega)) (fun h => ?_) h
 refine ite_small (in_small (by omega) (by omega)) (fun h => ?_) h
 refine ite_small (in_small (by omega) (by omega)) (fun h => ?_) h
 refine ite_small (fun q => ?_) (fun h => ?_) h
 ·simp only [Bool.or_eq_true, decide_eq_true_eq] at q; unfold Sml; omega
 refine ite_small (in_small (by omega) (by omega)) (fun h => ?_) h
 refine ite_small (in_small (by omega) (by omega)) (fun h => ?_) h
 refine ite_small (in_small (by omega) (by omega)) (fun h => ?_) h
 refine ite_small (in_small (by omega) (by omega)) (fun h => ?_) h
 refine ite_small (in_small (by omega) (by omega)) (fun h => ?_) h
 refine ite_small (in_small (by omega) (by omega)) (fun h => ?_) h
 refine ite_small (in_small (by omega) (by omega)) (fun h => ?_) h
 refine ite_small (in_small (by omega) (by omega)) (fun h => ?_) h
 refine ite_small (fun q => ?_) (fun h => ?_) h
 ·rw [Bool.or_eq_true] at q
  rcases q with q | q
  ·have := of_decide_eq_true q; unfold Sml; omega
  ·exact in_small (by omega) (by omega) q
 refine ite_small (in_small (by omega) (by omega)) (fun h => ?_) h
 refine ite_small (in_small (by omega) (by omega)) (fun h => ?_) h
 exact in_small (by omega) (by omega) h
theorem UH {e : Bool} {C : List InsM} {N : List Int} (hc : yK e C N = (0, 0)) {k : Nat} (hk : k < C.length) : Sml (zaa (zb C k)).a ∧ Sml (zaa (zb C k)).n := by
 obtain ⟨⟨l1, l2⟩, hr, _⟩ := z9 hc
 obtain ⟨_, h2, h3, _⟩ := zZ (hr k hk)
 have := Yg l1 l2 h2
 have := Yg l1 l2 h3
 unfold zaa
 split
 ·exact ⟨by assumption, by assumption⟩
 ·exact ⟨by assumption, by unfold Sml; dsimp only; omega⟩
def stZ (e : Bool) (mk : Nat → Bool) (D : List InsM) (i : Nat) : FzS := y3 e mk 0 (D.take i) ⟨[], none⟩
theorem kw {e : Bool} {mk : Nat → Bool} : ∀ {xs : List InsM} {i : Nat} {S : FzS} {x : InsM}, y3 e mk i (xs ++ [x]) S = xH e (mk (i + xs.length)) (y3 e mk i xs S) x
 | [], i, S, x => rfl
 | y :: xs, i, S, x => by
  show y3 e mk (i + 1) (xs ++ [x]) _ = _
  rw [kw, List.length_cons, show i + 1 + xs.length = i + (xs.length + 1) by omega]
  rfl
theorem Yh {e : Bool} {mk : Nat → Bool} {D : List InsM} {i : Nat} (h : i < D.length) : stZ e mk D (i + 1) = xH e (mk i) (stZ e mk D i) (zb D i) := by
 unfold stZ
 rw [List.take_succ_eq_append_getElem h, kw, List.length_take, zP (List.getElem?_eq_getElem h), show 0 + min i D.length = i by omega]
theorem x7 {e m : Bool} {S : FzS} {x : InsM} (h : S.cur = none) : xH e m S x = qz e (zI e S) x := by
 unfold xH
 rw [h]
theorem vh {e m : Bool} {gs : List GrM} {f : FldM} {l : List FldM} {x : InsM} (h : m = true ∨ yF x = none ∨ ∀ g, yF x = some g → xc e f g = none) : xH e m ⟨gs, some (f, l)⟩ x = qz e (gs ++ [(f.ins e, l)]) x := by
 unfold xH
 dsimp only
 cases hx : yF x with
 | none => rfl
 | some g =>
  dsimp only
  have : (if m = true then none else xc e f g) = none := by
   rcases h with h | h | h
   ·rw [h]; rfl
   ·rw [hx] at h; cases h
   ·rw [h g hx]; split <;> rfl
  rw [this]
  rfl
theorem wB {e m : Bool} {gs : List GrM} {f g b : FldM} {l : List FldM} {x : InsM} (hm : m = false) (hx : yF x = some g) (hj : xc e f g = some b) : xH e m ⟨gs, some (f, l)⟩ x = ⟨gs, some (b, l ++ [g])⟩ := by
 unfold xH
 dsimp only
 rw [hx, hm]
 dsimp only
 rw [if_neg (by decide), hj]
theorem uB {e : Bool} {D : List InsM} {M : List Int} (hc : yK e D M = (0, 0)) (i : Nat) : FzI e (zV D M) (D.take i) (stZ e (zV D M) D i) := by
 obtain ⟨_, hr, _⟩ := z9 hc
 have h0 : FzI e (zV D M) [] ⟨[], none⟩ := ⟨fun g h => (by cases h), fun f l h => (by cases h), rfl, fun i h => absurd h (by simp)⟩
 exact FzI.fold h0 fun x hx f hf => by
  obtain ⟨k, hk, rfl⟩ := yO (List.mem_of_mem_take hx)
  exact xS (hr k hk) hf
theorem UI : ∀ (gs : List GrM) (c : Nat), (uK c gs).length = zG (PgF gs) gs.length
 | [], _ => rfl
 | g :: gs, c => by
  show (List.replicate _ _ ++ uK (c + 1) gs).length = _
  rw [List.length_append, List.length_replicate, UI gs, List.length_cons, vp]
theorem uC : ∀ {gs : List GrM} {g : GrM} {c : Nat}, uK c (gs ++ [g]) = uK c gs ++ List.replicate (max 1 g.2.length) ((c + gs.length : Nat) : Int)
 | [], g, c => by
  show List.replicate _ _ ++ [] = [] ++ List.replicate _ _
  rw [List.append_nil]; rfl
 | x :: gs, g, c => by
  show List.replicate _ _ ++ uK (c + 1) (gs ++ [g]) = (List.replicate _ _ ++ uK (c + 1) gs) ++ _
  rw [uC, List.append_assoc, List.length_cons, show c + 1 + gs.length = c + (gs.length + 1) by omega]
def Zj (n : Nat) (gs : List GrM) : List Int := uK 0 gs ++ List.replicate (n - (uK 0 gs).length) 0
theorem Ja {n : Nat} {gs : List GrM} (h : (uK 0 gs).length ≤ n) : (Zj n gs).length = n := by unfold Zj; rw [List.length_append, List.length_replicate]; omega
theorem Zk {n : Nat} {gs gs' : List GrM} {v : Int} (h : (uK 0 gs).length < n) (h' : uK 0 gs' = uK 0 gs ++ [v]) : (Zj n gs).set (uK 0 gs).length v = Zj n gs' := by
 unfold Zj
 rw [h', List.set_append_right _ _ (Nat.le_refl _), Nat.sub_self, List.length_append, List.length_singleton]
 obtain ⟨m, hm⟩ : ∃ m, n - (uK 0 gs).length = m + 1 := ⟨n - (uK 0 gs).length - 1, by omega⟩
 rw [hm, List.replicate_succ, List.set_cons_zero, show n - ((uK 0 gs).length + 1) = m by omega, List.append_assoc]
 rfl
theorem UJ (n : Nat) : (List.replicate n [vI 0] : List (List AV)) = v8 (Zj n []) := by
 unfold Zj uK
 simp [v8]
theorem Xi (Z : List Int) (i : Nat) (x : Int) : (v8 Z).set i [vI x] = v8 (Z.set i x) := zaq Z i x
theorem X7 (e : Bool) (D : List InsM) (M : List Int) : zJ e D M = zI e (stZ e (zV D M) D D.length) := by
 unfold zJ Qa stZ
 rw [List.take_length]
def jo (gs : List GrM) : List InsM := gs.map (·.1)
theorem Yi (gs : List GrM) (g : GrM) : jo (gs ++ [g]) = jo gs ++ [g.1] := by simp [jo]
theorem xA (gs : List GrM) : (jo gs).length = gs.length := by simp [jo]
abbrev oZ3 : AObj := .var [vB false, .v (.slice none 0 0), .v (.slice none 0 0)]
abbrev fzO (e : Bool) (D : List InsM) (M : List Int) (gsN gsC : List GrM) (rest : List (Nat × AObj)) : List (Nat × AObj) :=
 [(1, .var [vB e, .lst 4 (zz D), .lst 1 (v8 M)]), (2, oZ3), (3, .var [vI 0, vI 0]), (6, .var [.ref 3 1 28 0 D.length]), (24, .row 4 1 (wJ (mkL D M D.length))), (28, .row 3 1 (v8 (Zj D.length gsN))), (8001, .row 38 4 (zz (jo gsC)))] ++ rest
abbrev fzE (D : List InsM) (n i : Nat) (rest : List (Nat × Bool × AV)) : List (Nat × Bool × AV) :=
 [(1, true, .ptr 1 1 0 0), (2, true, .ptr 1 2 0 0), (3, true, .ptr 1 3 0 0), (5, true, .ref 4 1 24 0 D.length), (6, true, .ptr 1 6 0 0), (7, true, .ref 38 4 8001 0 n), (8, true, vI i)] ++ rest
theorem zbc (e : Bool) (D : List InsM) (M : List Int) (hv : (wX e D M).1 = 0) : yq Try.prog 9 [pG e D M] []
  (.tup [.agg [vB e, .ref 38 4 8001 0 (ye e D M).length, .ref 3 1 8002 0 M.length], vFa (0, 0)]) [(8001, .row 38 4 (zz (ye e D M))), (8002, .row 3 1 (v8 (yX e D M)))] := by
 obtain ⟨hc, _, _, h00⟩ := vF hv
 obtain ⟨⟨hD, hM⟩, hr, hen⟩ := z9 hc
 have hver := xy e D M (by omega) (by omega)
 rw [h00] at hver
 have hbt : ∀ k, k < D.length → tgF (zb D k).op = true → 0 ≤ (zb D k).b ∧ (zb D k).b < D.length := fun k hk ht => by
  have h3 := zZ (hr k hk)
  have h4 := h3.2.2.1
  rw [(Ku h3.1).b1 ht] at h4
  exact jr h4
 have hmk := K8 e D M hD hM hbt hen
 have hz := UJ D.length
 have hlR := fun (gs : List GrM) h => Ja (n := D.length) (gs := gs) h
 have hmL := ku D M D.length
 have nl : ∀ i, (uK 0 (zI e (stZ e (zV D M) D i))).length = min i D.length := fun i => by
  rw [UI, ← xj e, (uB hc i).flat, List.length_take]
 have hgl : ∀ i, (zI e (stZ e (zV D M) D i)).length ≤ min i D.length := fun i => by
  have := xj e (zI e (stZ e (zV D M) D i))
  rw [(uB hc i).flat, List.length_take] at this
  have hle : ∀ n, n ≤ zG (PgF (zI e (stZ e (zV D M) D i))) n := fun n => by
   induction n with
   | zero => omega
   | succ n ih => have := ua (P := PgF (zI e (stZ e (zV D M) D i))) (show n < n + 1 by omega); omega
  have := hle (zI e (stZ e (zV D M) D i)).length
  omega
 have hfin := X7 e D M
 have hrf := x9 hc
 unfold pG
 refine zW (za _) Try.func9 rfl rfl (by rw [Try.results9]) Try.ntmps9 rfl fun E => ?_
 unfold pG at hver hmk
 (repeat' (first | exact trivial | (refine WQ ?_) | (refine ZN ?_) | (with_reducible first | refine JQ ?_ | refine JR ?_ | refine JS ?_) | (with_reducible first | apply awA | apply awB | apply awC | apply awF) | ((with_reducible first | apply awn | apply awo | refine awQ ?_); intro r hr; simp only [go_sem, Nat.reduceBEq, Nat.reduceLT, Nat.reduceLeDiff, Nat.reduceAdd, Nat.reduceMul, zd, hz, Int.cast_ofNat_Int] at hr; subst hr; (first | refine caA (fun _ => hver) rfl ?_ ?_ ?_ | refine awV ?_ ?_ | refine awW ?_ ?_ | (refine zf (fun h => ?_) (fun h => ?_) <;> (try simp only [go_sem, reduceCtorEq] at h) <;> (try (exfalso; omega))))) | (refine zp [] [(11, 24)] [24] [] ?_; intro r hr; simp only [go_sem, Nat.reduceBEq, Nat.reduceLT] at hr; subst hr; refine yo (hmk) rfl rfl (by first | exact .inl rfl | exact .inr rfl) ?_ (.inl rfl) ?_))) <;> (try omega)
 refine x4 7 38 4 8001 (.inl (by decide)) (by simp only [go_sem, Nat.reduceBEq]) ?_
 (repeat' (first | exact trivial | (refine ZN ?_) | (with_reducible first | refine JQ ?_ | refine JR ?_ | refine JS ?_) | (with_reducible first | apply awA | apply awB | apply awC | apply awD | apply awE | apply awF | apply awG | apply awH | apply awI | apply awJ | apply awK | apply awL | refine awM (by decide) ?_) | ((with_reducible first | apply awn | apply awo | apply awp | refine awQ ?_ | refine awR ?_ | refine awS ?_ | refine awT ?_ | refine awU ?_); intro r hr; simp only [go_sem, Nat.reduceBEq, Nat.reduceBneDiff, Nat.reduceLT, Nat.reduceLeDiff, Nat.reduceAdd, Nat.reduceMul, Nat.reduceSub, Nat.reduceEqDiff, reduceCtorEq, AState.nilrow, Int.cast_ofNat_Int, Int.reduceToNat, Int.reduceEq, Int.reduceLT, Int.reduceLE, Int.reduceNe] at hr; subst hr; (first | refine awV ?_ ?_ | refine awW ?_ ?_ | refine zR ?_ ?_ | refine yl ?_ ?_ ?_ | (refine zf (fun h => ?_) (fun h => ?_) <;> (try simp only [go_sem, reduceCtorEq] at h) <;> (try (exfalso; omega))))))) <;> (try omega)
 refine zC [1, 2, 3, 5, 6, 7, 8] [1, 2, 3, 6, 24, 28, 8001] (fun i : Nat × List GrM => ⟨fzE D i.2.length i.1 [], fzO e D M i.2 i.2 []⟩)
  (fun i => i.1 ≤ D.length ∧ i.2 = zI e (stZ e (zV D M) D i.1) ∧ (i.1 < D.length → stZ e (zV D M) D (i.1 + 1) = qz e i.2 (zb D i.1))) (fun i => D.length - i.1) (0, []) (by simp only [List.append_nil, go_sem] <;> exact rfl) ⟨Nat.zero_le _, rfl, fun h => (Yh h).trans (x7 rfl)⟩ ?_
 intro ⟨i, gs⟩ ⟨hi, hgs, hnx⟩
 dsimp only at hi hgs hnx ⊢
 have hwi := zg (n := (i : Int) + 1) (by omega)
 have zi : ((i : Int)).toNat = i := by omega
 have l1 := nl i
 have l2 := hgl i
 rw [← hgs] at l1 l2
 rw [Nat.min_eq_left hi] at l1 l2
 have e28 := hlR gs (by omega)
 by_cases hlt : i < D.length
 ·have e1 : ((i : Int) < (D.length : Int)) = True := eq_true (by omega)
  have gC := yw hlt
  have gR := xm (zs := Zj D.length gs) (k := i) (by omega)
  have hst := Xi (Zj D.length gs) i gs.length
  have vl := zq (Zj D.length gs)
  rw [e28] at vl
  have hf := vg (zb D i) e
  have hfo := fun f => xS (f := f) (hr i hlt)
  have hns := hnx hlt
  obtain ⟨x, hx⟩ : ∃ x, zb D i = x := ⟨_, rfl⟩
  rw [hx] at gC hf hfo hns
  have cx : AV.agg (qF x) = .agg [vI x.op, vI x.a, vI x.b, vI x.c] := rfl
  rw [cx] at hf
  have tP : (zz (jo gs)).take gs.length = zz (jo gs) := List.take_of_length_le (by rw [zd, xA]; exact Nat.le_refl _)
  have nx : uK 0 (gs ++ [(x, [])]) = uK 0 gs ++ [((gs.length : Nat) : Int)] := by rw [uC, Nat.zero_add]; rfl
  have nR := Zk (n := D.length) (v := ((gs.length : Nat) : Int)) (by omega) nx
  rw [l1] at nR
  cases hfx : yF x with
  | none =>
   rw [hfx] at hf
   unfold qz at hns
   rw [hfx] at hns
   dsimp only at hns
   have hap := wc (jo gs) x.op x.a x.b x.c
   have fs := Yi gs (x, [])
   have hap' : zz (jo gs) ++ [[vI x.op, vI x.a, vI x.b, vI x.c]] = zz (jo (gs ++ [(x, [])])) := by rw [hap, fs]
   have gl1 : (gs ++ [(x, ([] : List FldM))]).length = gs.length + 1 := by simp
   unfold vFd at hf
   (repeat' (first | exact trivial | (with_reducible first | apply awA | apply awB | apply awC | apply awE | apply awF | apply awH | apply awK) | ((with_reducible first | apply awn | apply awo | refine awQ ?_); intro r hr; simp only [go_sem, Nat.reduceBEq, Nat.reduceLT, Nat.reduceLeDiff, Nat.reduceAdd, Nat.reduceMul, Nat.reduceEqDiff, e1, hwi, zi, gC, gR, hst, nR, vl, tP, hap', gl1, zd, xA, List.append_nil, Option.isSome_none] at hr; subst hr; (first | refine caA (fun _ => hf) rfl ?_ ?_ ?_ | refine awV ?_ ?_ | (refine zf (fun h => ?_) (fun h => ?_) <;> (try simp only [go_sem, reduceCtorEq] at h) <;> (try (exfalso; omega))))))) <;> (try omega)
   all_goals
    refine ⟨(i + 1, gs ++ [(x, [])]), ?_, ⟨hlt, by rw [hns]; rfl, fun h => by rw [Yh h, hns]; exact x7 rfl⟩, by dsimp only; omega⟩
    simp only [gl1, List.append_nil, go_sem, Nat.reduceBEq]
    try exact rfl
  | some f =>
   rw [hfx, Zi hfx] at hf
   obtain ⟨fo, fi⟩ := hfo f hfx
   unfold qz at hns
   rw [hfx] at hns
   dsimp only at hns
   have nx2 : uK 0 (gs ++ [(f.ins e, [f])]) = uK 0 gs ++ [((gs.length : Nat) : Int)] := by rw [uC, Nat.zero_add]; rfl
   have nR2 := Zk (n := D.length) (v := ((gs.length : Nat) : Int)) (by omega) nx2
   rw [l1] at nR2
   unfold vFd at hf
   (repeat' (first | exact trivial | (with_reducible first | apply awA | apply awB | apply awC | apply awF) | ((with_reducible first | apply awn | apply awo | refine awQ ?_); intro r hr; simp only [go_sem, Nat.reduceBEq, Nat.reduceLT, Nat.reduceLeDiff, Nat.reduceAdd, Nat.reduceMul, e1, hwi, zi, gC, gR, hst, nR2, vl, zd, List.append_nil, Option.isSome_some] at hr; subst hr; (first | refine caA (fun _ => hf) rfl ?_ ?_ ?_ | refine awV ?_ ?_ | (refine zf (fun h => ?_) (fun h => ?_) <;> (try simp only [go_sem, reduceCtorEq] at h) <;> (try (exfalso; omega))))))) <;> (try omega)
   all_goals
    refine zC [1, 2, 3, 5, 6, 7, 8, 10] [1, 2, 3, 6, 24, 28, 8001, 10] (fun q : Nat × FldM × List FldM => ⟨fzE D gs.length q.1 [(10, true, .ptr 1 10 0 0)], fzO e D M (gs ++ [(q.2.1.ins e, q.2.2)]) gs [(10, .var [vB e, vI q.2.1.a, vI q.2.1.n, vI q.2.1.w])]⟩)
     (fun q => i < q.1 ∧ q.1 ≤ D.length ∧ stZ e (zV D M) D q.1 = ⟨gs, some (q.2.1, q.2.2)⟩) (fun q => D.length - q.1) (i + 1, f, [f]) (by simp only [List.cons_append, List.nil_append, Int.natCast_add, Int.cast_ofNat_Int, go_sem, Nat.reduceBEq] <;> exact rfl) ⟨by dsimp only; omega, hlt, hns⟩ ?_
    clear nR nR2 nx nx2 hst gR gC hf tP hns fi fo hfx hx hfo e28 vl cx hwi zi
    intro ⟨j, f, l⟩ ⟨hij, hj, hsj⟩
    dsimp only at hij hj hsj ⊢
    have hwj := zg (n := (j : Int) + 1) (by omega)
    have zj : ((j : Int)).toNat = j := by omega
    have hfl : zI e (stZ e (zV D M) D j) = gs ++ [(f.ins e, l)] := by rw [hsj]; rfl
    have l3 := nl j
    rw [hfl, Nat.min_eq_left hj] at l3
    have e29 := hlR (gs ++ [(f.ins e, l)]) (by omega)
    obtain ⟨fo, hpl⟩ := (uB hc j).cur f l (by rw [hsj])
    have hin := Yf e f
    have cx : AV.agg (qF (f.ins e)) = .agg [vI (f.ins e).op, vI (f.ins e).a, vI (f.ins e).b, vI (f.ins e).c] := rfl
    rw [cx] at hin
    have hap := wc (jo gs) (f.ins e).op (f.ins e).a (f.ins e).b (f.ins e).c
    have fs := Yi gs (f.ins e, l)
    have hap' : zz (jo gs) ++ [[vI (f.ins e).op, vI (f.ins e).a, vI (f.ins e).b, vI (f.ins e).c]] = zz (jo (gs ++ [(f.ins e, l)])) := by rw [hap, fs]
    have gl1 : (gs ++ [(f.ins e, l)]).length = gs.length + 1 := by simp
    have tP : (zz (jo gs)).take gs.length = zz (jo gs) := List.take_of_length_le (by rw [zd, xA]; exact Nat.le_refl _)
    clear hap fs
    unfold vFd at hin
    by_cases hlj : j < D.length
    ·have e2 : ((j : Int) < (D.length : Int)) = True := eq_true (by omega)
     have gT := vP (B := mkL D M D.length) (k := j) (by rw [hmL]; exact hlj)
     have tl := xZ (mkL D M D.length)
     rw [hmL] at tl
     have hmkj : (mkL D M D.length).getD j false = zV D M j := by unfold mkL; simp [List.getD, hlj]
     rw [hmkj] at gT
     cases hm : zV D M j with
     | true =>
      rw [hm] at gT
      (repeat' (first | exact trivial | (with_reducible first | apply awA | apply awE | apply awF | apply awH | apply awI | apply awK) | ((with_reducible first | apply awn | apply awo | refine awQ ?_); intro r hr; simp only [go_sem, Nat.reduceBEq, Nat.reduceLT, Nat.reduceLeDiff, Nat.reduceAdd, Nat.reduceMul, Nat.reduceEqDiff, reduceCtorEq, e2, zj, gT, tP, hap', gl1, zd, xA] at hr; subst hr; (first | refine caA (fun _ => hin) rfl ?_ ?_ ?_ | refine awV ?_ ?_ | (refine zf (fun h => ?_) (fun h => ?_) <;> (try simp only [go_sem, reduceCtorEq] at h) <;> (try (exfalso; omega))))))) <;> (try omega)
      all_goals
       refine ⟨(j, gs ++ [(f.ins e, l)]), ?_, ⟨hj, hfl.symm, fun h => by rw [Yh h, hsj]; exact vh (.inl hm)⟩, by dsimp only; omega⟩
       simp only [gl1, List.append_nil, go_sem, Nat.reduceBEq]
       try exact rfl
     | false =>
      rw [hm] at gT
      have gC := yw hlj
      have hf := vg (zb D j) e
      have hss := Yh (e := e) (mk := zV D M) hlj
      rw [hsj, hm] at hss
      obtain ⟨s1, s2⟩ := UH hc hlj
      obtain ⟨x, hx⟩ : ∃ x, zb D j = x := ⟨_, rfl⟩
      rw [hx] at gC hf hss s1 s2
      have hjn := Vo e f (zaa x) fo s1 s2
      have cx : AV.agg (qF x) = .agg [vI x.op, vI x.a, vI x.b, vI x.c] := rfl
      rw [cx] at hf
      unfold vFd at hf hjn
      cases hfx : yF x with
      | none =>
       rw [hfx] at hf
       (repeat' (first | exact trivial | (with_reducible first | apply awA | apply awB | apply awC | apply awE | apply awF | apply awH | apply awK | refine awM (by decide) ?_) | (refine zn (id := 16) (t := (.node [0, 1, 2, 3, 4, 5, 6] [(.node [7, 8, 9, 10, 11, 12, 13] []), (.node [11, 7, 8, 9, 10, 12, 13] [])])) (drR [1] [76] []) zD (by kernel_rfl) (by kernel_rfl) (fun _ _ h => h) ?_) | (refine zx (by simp only [go_sem]; exact rfl) ?_) | (refine zA (by simp only [go_sem]; exact rfl) ?_) | refine ze ?_ | refine zl ?_ ?_ | exact zy | ((with_reducible first | apply awn | apply awo | apply awp | refine awQ ?_); intro r hr; simp only [go_sem, Nat.reduceBEq, Nat.reduceLT, Nat.reduceLeDiff, Nat.reduceAdd, Nat.reduceMul, Nat.reduceEqDiff, reduceCtorEq, e2, zj, gT, gC, tP, hap', gl1, zd, xA, Option.isSome_none] at hr; subst hr; (first | refine caA (fun _ => hf) rfl ?_ ?_ ?_ | refine caA (fun _ => hjn) rfl ?_ ?_ ?_ | refine caA (fun _ => hin) rfl ?_ ?_ ?_ | refine awV ?_ ?_ | (refine zf (fun h => ?_) (fun h => ?_) <;> (try simp only [go_sem, reduceCtorEq] at h) <;> (try (exfalso; omega))))))) <;> (try omega)
       all_goals
        refine ⟨(j, gs ++ [(f.ins e, l)]), ?_, ⟨hj, hfl.symm, fun h => by rw [Yh h, hsj]; exact vh (.inr (.inl (by rw [hx]; exact hfx)))⟩, by dsimp only; omega⟩
        simp only [gl1, List.append_nil, go_sem, Nat.reduceBEq]
        try exact rfl
      | some g =>
       rw [hfx, Zi hfx] at hf
       rw [Zi hfx] at hjn
       cases hb : xc e f g with
       | none =>
        rw [hb] at hjn
        (repeat' (first | exact trivial | (with_reducible first | apply awA | apply awB | apply awC | apply awE | apply awF | apply awH | apply awK | refine awM (by decide) ?_) | (refine zn (id := 16) (t := (.node [0, 1, 2, 3, 4, 5, 6] [(.node [7, 8, 9, 10, 11, 12, 13] []), (.node [11, 7, 8, 9, 10, 12, 13] [])])) (drR [1] [76] []) zD (by kernel_rfl) (by kernel_rfl) (fun _ _ h => h) ?_) | (refine zx (by simp only [go_sem]; exact rfl) ?_) | (refine zA (by simp only [go_sem]; exact rfl) ?_) | refine ze ?_ | refine zl ?_ ?_ | exact zy | ((with_reducible first | apply awn | apply awo | apply awp | refine awQ ?_); intro r hr; simp only [go_sem, Nat.reduceBEq, Nat.reduceLT, Nat.reduceLeDiff, Nat.reduceAdd, Nat.reduceMul, Nat.reduceEqDiff, reduceCtorEq, e2, zj, gT, gC, tP, hap', gl1, zd, xA, Option.isSome_none, Option.isSome_some] at hr; subst hr; (first | refine caA (fun _ => hf) rfl ?_ ?_ ?_ | refine caA (fun _ => hjn) rfl ?_ ?_ ?_ | refine caA (fun _ => hin) rfl ?_ ?_ ?_ | refine awV ?_ ?_ | (refine zf (fun h => ?_) (fun h => ?_) <;> (try simp only [go_sem, reduceCtorEq] at h) <;> (try (exfalso; omega))))))) <;> (try omega)
        all_goals
         refine ⟨(j, gs ++ [(f.ins e, l)]), ?_, ⟨hj, hfl.symm, fun h => by rw [Yh h, hsj]; exact vh (.inr (.inr fun g' hg' => by rw [hx, hfx] at hg'; injection hg' with hg'; rw [← hg']; exact hb))⟩, by dsimp only; omega⟩
         simp only [gl1, List.append_nil, go_sem, Nat.reduceBEq]
         try exact rfl
       | some b =>
        have hjb : jF e f g = b := by
         obtain ⟨q1, q2, q3, _⟩ := wE hb
         unfold jF
         rw [if_neg (by rintro (q | q); exact q q1; exact q q2), q3]
        rw [hb, hjb] at hjn
        rw [wB rfl hfx hb] at hss
        have gR := xm (zs := Zj D.length (gs ++ [(f.ins e, l)])) (k := j) (by omega)
        have hst := Xi (Zj D.length (gs ++ [(f.ins e, l)])) j gs.length
        have vl := zq (Zj D.length (gs ++ [(f.ins e, l)]))
        rw [e29] at vl
        have hl0 : 0 < l.length := List.length_pos_iff.2 (Zy hpl fo.n.1)
        have nx : uK 0 (gs ++ [(b.ins e, l ++ [g])]) = uK 0 (gs ++ [(f.ins e, l)]) ++ [((gs.length : Nat) : Int)] := by
         rw [uC, uC, Nat.zero_add, List.append_assoc]
         dsimp only
         rw [show max 1 (l ++ [g]).length = max 1 l.length + 1 by rw [List.length_append, List.length_singleton]; omega, List.replicate_succ']
        have nR := Zk (n := D.length) (v := ((gs.length : Nat) : Int)) (by omega) nx
        rw [l3] at nR
        (repeat' (first | exact trivial | (with_reducible first | apply awA | apply awB | apply awC | apply awF | apply awI) | (refine zn (id := 16) (t := (.node [0, 1, 2, 3, 4, 5, 6] [(.node [7, 8, 9, 10, 11, 12, 13] []), (.node [11, 7, 8, 9, 10, 12, 13] [])])) (drR [1] [76] []) zD (by kernel_rfl) (by kernel_rfl) (fun _ _ h => h) ?_) | (refine zx (by simp only [go_sem]; exact rfl) ?_) | (refine zA (by simp only [go_sem]; exact rfl) ?_) | refine ze ?_ | refine zl ?_ ?_ | exact zy | ((with_reducible first | apply awn | apply awo | apply awp | refine awQ ?_); intro r hr; simp only [go_sem, Nat.reduceBEq, Nat.reduceLT, Nat.reduceLeDiff, Nat.reduceAdd, Nat.reduceMul, reduceCtorEq, e2, hwj, zj, gT, gC, gR, hst, nR, vl, zd, Option.isSome_some] at hr; subst hr; (first | refine caA (fun _ => hf) rfl ?_ ?_ ?_ | refine caA (fun _ => hjn) rfl ?_ ?_ ?_ | refine awV ?_ ?_ | (refine zf (fun h => ?_) (fun h => ?_) <;> (try simp only [go_sem, reduceCtorEq] at h) <;> (try (exfalso; omega))))))) <;> (try omega)
        all_goals
         refine ⟨(j + 1, b, l ++ [g]), ?_, ⟨by dsimp only; omega, hlj, hss⟩, by dsimp only; omega⟩
         simp only [go_sem, Nat.reduceBEq]
         try exact rfl
    ·have e2 : ((j : Int) < (D.length : Int)) = False := eq_false (by omega)
     have gT : (wJ (mkL D M D.length))[j]? = none := List.getElem?_eq_none (by rw [xZ, hmL]; omega)
     have tl := xZ (mkL D M D.length)
     rw [hmL] at tl
     (repeat' (first | exact trivial | (with_reducible first | apply awA | apply awE | apply awF | apply awH | apply awI | apply awK) | ((with_reducible first | apply awn | apply awo | refine awQ ?_); intro r hr; simp only [go_sem, Nat.reduceBEq, Nat.reduceLT, Nat.reduceLeDiff, Nat.reduceAdd, Nat.reduceMul, Nat.reduceEqDiff, reduceCtorEq, e2, zj, gT, tP, hap', gl1, zd, xA] at hr; subst hr; (first | refine caA (fun _ => hin) rfl ?_ ?_ ?_ | refine awV ?_ ?_ | refine awW ?_ ?_ | (refine zf (fun h => ?_) (fun h => ?_) <;> (try simp only [go_sem, reduceCtorEq] at h) <;> (try (exfalso; omega))))) | (refine Zh (vB true) rfl rfl ⟨by decide, by decide⟩ ?_))) <;> (try omega)
     all_goals
      refine ⟨(j, gs ++ [(f.ins e, l)]), ?_, ⟨hj, hfl.symm, fun h => absurd h hlj⟩, by dsimp only; omega⟩
      simp only [gl1, List.append_nil, go_sem, Nat.reduceBEq]
      try exact rfl
 ·have e1 : ((i : Int) < (D.length : Int)) = False := eq_false (by omega)
  obtain rfl : i = D.length := by omega
  rw [← hfin] at hgs
  subst hgs
  obtain ⟨hch, hRf, hNN, _⟩ := hrf
  have hmv := UG e D M (jo (zJ e D M)) (Zj D.length (zJ e D M)) 23 (.inl ⟨rfl, fun n hn => zcm _ n hn (by rw [e28]; omega)⟩) (by rw [xA]; omega) hM
   (fun k hk ht => by
    rw [xA] at hk
    rw [e28]
    obtain ⟨g, hg⟩ : ∃ g, (zJ e D M)[k]? = some g := ⟨_, List.getElem?_eq_getElem hk⟩
    have hx : zb (jo (zJ e D M)) k = g.1 := zP (by unfold jo; rw [List.getElem?_map, hg]; rfl)
    rw [hx] at ht ⊢
    have hmem : g ∈ zJ e D M := List.mem_of_getElem? hg
    have hgok := (uB hc D.length).gok g (by rw [← hfin]; exact hmem)
    have hin : g.1 ∈ D := by
     have hflat := (uB hc D.length).flat
     rw [← hfin, List.take_length] at hflat
     rw [← hflat, List.mem_flatMap]
     refine ⟨g, hmem, ?_⟩
     by_cases h2 : g.2 = []
     ·rw [wv h2]; exact .head _
     ·obtain ⟨f, _, f2, _⟩ := hgok.run h2
      rw [f2] at ht
      exact absurd ht (qy yS)
    obtain ⟨k2, hk2, hx2⟩ := yO hin
    have := hbt k2 hk2 (by rw [hx2]; exact ht)
    rw [hx2] at this
    exact this) (fun n hn => by rw [e28]; exact hen n hn)
  have hnow : ∀ n : Int, 0 ≤ n ∧ n < D.length → wZ (Zj D.length (zJ e D M)) n = uj (zJ e D M) n := fun n hn => by
   unfold wZ uj Zj
   rw [List.getD_eq_getElem?_getD, List.getD_eq_getElem?_getD, List.getElem?_append_left (by omega)]
  have c1 : (jo (zJ e D M)).map (mvX (wZ (Zj D.length (zJ e D M)))) = ye e D M := by
   unfold jo ye
   rw [List.map_map]
   refine List.map_congr_left fun g hg => ?_
   show mvX _ g.1 = mvX _ g.1
   by_cases ht : tgF g.1.op = true
   ·unfold mvX
    rw [if_pos ht, if_pos ht]
    have hin : g.1 ∈ D := by
     have hflat := (uB hc D.length).flat
     rw [← hfin, List.take_length] at hflat
     rw [← hflat, List.mem_flatMap]
     refine ⟨g, hg, ?_⟩
     by_cases h2 : g.2 = []
     ·rw [wv h2]; exact .head _
     ·obtain ⟨f, _, f2, _⟩ := ((uB hc D.length).gok g (by rw [← hfin]; exact hg)).run h2
      rw [f2] at ht
      exact absurd ht (qy yS)
    obtain ⟨k2, hk2, hx2⟩ := yO hin
    have := hbt k2 hk2 (by rw [hx2]; exact ht)
    rw [hx2] at this
    rw [hnow _ this]
   ·rw [qK ht, qK ht]
  have c2 : M.map (wZ (Zj D.length (zJ e D M))) = yX e D M := List.map_congr_left fun n hn => hnow n (hen n hn)
  have c3 : (ye e D M).length = (zJ e D M).length := by unfold ye; rw [List.length_map]
  unfold zcl at hmv
  rw [c1, c2, xA, e28] at hmv
  rw [c3]
  unfold pG at hmv
  (repeat' (first | exact trivial | (refine ZN ?_) | (with_reducible first | refine JQ ?_ | refine JR ?_ | refine JS ?_) | (with_reducible first | apply awA | apply awD | apply awE | apply awF | apply awH | apply awK) | ((with_reducible first | apply awn | apply awo | refine awQ ?_ | refine awT ?_); intro r hr; simp only [go_sem, Nat.reduceBEq, Nat.reduceLT, Nat.reduceLeDiff, Nat.reduceAdd, Nat.reduceMul, e1, zd] at hr; subst hr; (first | refine awV ?_ ?_ | refine awW ?_ ?_ | refine yl ?_ ?_ ?_ | (refine zf (fun h => ?_) (fun h => ?_) <;> (try simp only [go_sem, reduceCtorEq] at h) <;> (try (exfalso; omega))))) | (refine zp [(8001, 15001), (6, 10001), (28, 10002)] [(15001, 8001), (10001, 6), (10002, 28), (8002, 8002)] [8001, 8002] [6, 28] ?_; intro r hr; simp only [go_sem, Nat.reduceBEq, Nat.reduceLT] at hr; subst hr; refine yo (hmv) rfl rfl (by first | exact .inl rfl | exact .inr rfl) ?_ (.inl rfl) ?_))) <;> (try omega)
  all_goals first | exact AV.up_rfl _ | exact AV.up_nil2 _ _ | exact AV.up_dead _ | (repeat first | exact zo | refine zh rfl ?_) | trace_state
end
section
open Go.RowKit
def wz (e : Bool) (C : List InsM) (i : Nat) : List InsM := ((C.take i).map (spG e)).flatMap (glF e)
def pz (e : Bool) (C : List InsM) (i : Nat) : Nat := zG (PgF (C.map (spG e))) i
theorem X8 {e : Bool} {C : List InsM} {i : Nat} (h : i ≤ C.length) : (wz e C i).length = pz e C i := by
 unfold wz pz
 rw [xj, List.length_map, List.length_take, Nat.min_eq_left h]
 conv => rhs; rw [← List.take_append_drop i C, List.map_append]
 rw [xk (by simp; omega)]
theorem zab {e : Bool} {C : List InsM} {i : Nat} (h : i < C.length) : wz e C (i + 1) = wz e C i ++ glF e (spG e (zb C i)) := by
 unfold wz
 rw [List.take_succ_eq_append_getElem h, List.map_append, List.flatMap_append, zP (List.getElem?_eq_getElem h)]
 simp
theorem UK (e : Bool) {x : InsM} (h : ∀ f, yF x = some f → f.n ≤ 64) : (glF e (spG e x)).length ≤ 64 := by
 rw [ue]
 unfold spG
 cases hf : yF x with
 | none => show max 1 0 ≤ 64; decide
 | some f =>
  dsimp only
  rw [uI]
  have := h f hf
  omega
def Yj (e : Bool) (C : List InsM) (i : Nat) : List Int := (List.range i).map (fun k => (pz e C k : Int)) ++ List.replicate (C.length - i) 0
theorem Jb {e : Bool} {C : List InsM} {i : Nat} (h : i ≤ C.length) : (Yj e C i).length = C.length := by unfold Yj; simp; omega
theorem Jc {e : Bool} {C : List InsM} {i : Nat} (h : i < C.length) : (Yj e C i).set i (pz e C i) = Yj e C (i + 1) := by
 unfold Yj
 rw [List.set_append_right _ _ (by simp), List.length_map, List.length_range, Nat.sub_self, List.range_succ, List.map_append, List.append_assoc]
 obtain ⟨m, hm⟩ : ∃ m, C.length - i = m + 1 := ⟨C.length - i - 1, by omega⟩
 rw [hm, List.replicate_succ, List.set_cons_zero, show C.length - (i + 1) = m by omega]
 rfl
theorem UL (e : Bool) (C : List InsM) : (List.replicate C.length [vI 0] : List (List AV)) = v8 (Yj e C 0) := by
 unfold Yj
 simp [v8]
theorem ky (e : Bool) (w : Int) : ∀ (n : Nat) (a : Int), yd e a w (n + 1) = yd e a w n ++ [⟨FldM.behind e ⟨a, n, w⟩, 1, w⟩]
 | 0, a => by
  have : FldM.behind e ⟨a, ((0 : Nat) : Int), w⟩ = a := by
   unfold FldM.behind
   cases e <;> simp
  rw [this]; rfl
 | n + 1, a => by
  show (⟨a, 1, w⟩ : FldM) :: yd e _ w (n + 1) = _
  rw [ky e w n]
  have : FldM.behind e ⟨a + (if e = true then w else 1), (n : Int), w⟩ = FldM.behind e ⟨a, ((n + 1 : Nat) : Int), w⟩ := by
   unfold FldM.behind
   cases e
   ·rw [if_neg (by decide), if_neg (by decide), if_neg (by decide)]; dsimp only; omega
   ·rw [if_pos rfl, if_pos rfl, if_pos rfl]
    dsimp only
    rw [show (((n + 1 : Nat) : Int)) = (n : Int) + 1 by omega, Int.add_mul]
    omega
  rw [this]
  rfl
theorem UM {e : Bool} {f : FldM} {x : InsM} (hx : x = f.ins e) (h : yF x = some f) (h1 : f.n = 1) : glF e (spG e x) = [x] := by
 unfold spG
 rw [h]
 dsimp only
 rw [h1]
 show [(⟨f.a, 1, f.w⟩ : FldM)].map (·.ins e) = [x]
 have : f = ⟨f.a, 1, f.w⟩ := by
  obtain ⟨a, n, w⟩ := f
  dsimp only at h1
  rw [h1]
 rw [hx]
 conv => rhs; rw [this]
 rfl
theorem Zl {e : Bool} {x : InsM} (h : yF x = none) : glF e (spG e x) = [x] := by
 unfold spG
 rw [h]
 exact wv rfl
theorem Zm {e : Bool} {f : FldM} {x : InsM} (h : yF x = some f) (h1 : 1 ≤ f.n) : glF e (spG e x) = (yd e f.a f.w f.n.toNat).map (·.ins e) := by
 unfold spG
 rw [h]
 dsimp only
 obtain ⟨m, hm⟩ : ∃ m, f.n.toNat = m + 1 := ⟨f.n.toNat - 1, by omega⟩
 unfold glF
 dsimp only
 rw [if_neg]
 rw [hm]
 unfold yd
 simp
theorem Jd (e : Bool) (C : List InsM) (N : List Int) (hv : (wX e C N).1 = 0) (hC2 : C.length ≤ 16000) : yq Try.prog 10 [pG e C N] []
    (.tup [.agg [vB e, .ref 38 4 8001 0 (zF e C).length, .ref 3 1 8002 0 N.length], vFa (0, 0)]) [(8001, .row 38 4 (zz (zF e C))), (8002, .row 3 1 (v8 (yb e C N)))] := by
  obtain ⟨hc, _, _, h00⟩ := vF hv
  obtain ⟨⟨hC, hN⟩, hr, hen⟩ := z9 hc
  have hver := xy e C N (by omega) (by omega)
  rw [h00] at hver
  have hz := UL e C
  have hlS := fun (i : Nat) h => Jb (e := e) (C := C) (i := i) h
  have hls := fun (i : Nat) h => X8 (e := e) (C := C) (i := i) h
  have hpz : ∀ i, i ≤ C.length → pz e C i ≤ 64 * i := fun i => by
    induction i with
    | zero => intro _; exact Nat.le_refl _
    | succ i ih =>
      intro h
      have h1 := zab (e := e) (C := C) (i := i) (by omega)
      have h2 := congrArg List.length h1
      rw [List.length_append, hls _ h, hls _ (by omega)] at h2
      have := UK e (x := zb C i) fun f hf => (xS (hr i (by omega)) hf).1.n.2
      have := ih (by omega)
      omega
  unfold pG at hver ⊢
  refine zW (za _) Try.func10 rfl rfl (by rw [Try.results10]) Try.ntmps10 rfl fun E => ?_
  (repeat' (first | exact trivial | (with_reducible first | apply awA | apply awB | apply awC | apply awF) | ((with_reducible first | apply awn | apply awo | refine awQ ?_); intro r hr; simp only [go_sem, Nat.reduceBEq, Nat.reduceLT, Nat.reduceLeDiff, Nat.reduceAdd, Nat.reduceMul, zd, hz, Int.cast_ofNat_Int] at hr; subst hr; (first | refine caA (fun _ => hver) rfl ?_ ?_ ?_ | refine awV ?_ ?_ | (refine zf (fun h => ?_) (fun h => ?_) <;> (try simp only [go_sem, reduceCtorEq] at h) <;> (try (exfalso; omega))))))) <;> (try omega)
  refine x4 6 38 4 8001 (.inl (by decide)) (by simp only [go_sem, Nat.reduceBEq]) ?_
  (repeat' (first | exact trivial | (with_reducible first | apply awA | apply awB | apply awC | apply awD | apply awE | apply awF | apply awG | apply awH | apply awI | apply awJ | apply awK | apply awL | refine awM (by decide) ?_) | ((with_reducible first | apply awn | apply awo | apply awp | refine awQ ?_ | refine awR ?_ | refine awS ?_ | refine awT ?_ | refine awU ?_); intro r hr; simp only [go_sem, Nat.reduceBEq, Nat.reduceBneDiff, Nat.reduceLT, Nat.reduceLeDiff, Nat.reduceAdd, Nat.reduceMul, Nat.reduceSub, Nat.reduceEqDiff, reduceCtorEq, AState.nilrow, zd, Int.cast_ofNat_Int, Int.reduceToNat, Int.reduceEq, Int.reduceLT, Int.reduceLE, Int.reduceNe] at hr; subst hr; (first | refine awV ?_ ?_ | refine awW ?_ ?_ | refine zR ?_ ?_ | refine yl ?_ ?_ ?_ | (refine zf (fun h => ?_) (fun h => ?_) <;> (try simp only [go_sem, reduceCtorEq] at h) <;> (try (exfalso; omega))))))) <;> (try omega)
  refine zC [1, 2, 3, 5, 6, 25, 26, 27] [1, 2, 3, 5, 23, 8001] (fun i : Nat => ⟨[(1, true, .ptr 1 1 0 0), (2, true, .ptr 1 2 0 0), (3, true, .ptr 1 3 0 0), (5, true, .ptr 1 5 0 0), (6, true, .ref 38 4 8001 0 (wz e C i).length), (25, true, .lst 4 (zz C)), (26, true, vI C.length), (27, true, vI i)],
    [(1, .var [vB e, .lst 4 (zz C), .lst 1 (v8 N)]), (2, oZ3), (3, .var [vI 0, vI 0]), (5, .var [.ref 3 1 23 0 C.length]), (23, .row 3 1 (v8 (Yj e C i))), (8001, .row 38 4 (zz (wz e C i)))]⟩)
    (fun i => i ≤ C.length) (fun i => C.length - i) 0 (by simp only [AState.nilrow, go_sem, Nat.reduceBEq, Nat.reduceLT] <;> exact rfl) (Nat.zero_le _) ?_
  intro i hi
  have hwi := zg (n := (i : Int) + 1) (by omega)
  have zi : ((i : Int)).toNat = i := by omega
  have e28 := hlS i hi
  have l1 := hls i hi
  have l2 := hpz i hi
  by_cases hlt : i < C.length
  · have e1 : ((i : Int) < (C.length : Int)) = True := eq_true (by omega)
    have gC := yw hlt
    have gR := xm (zs := Yj e C i) (k := i) (by omega)
    have hst := Xi (Yj e C i) i (pz e C i)
    rw [Jc hlt, ← l1] at hst
    have vl := zq (Yj e C i)
    rw [e28] at vl
    have hf := vg (zb C i) e
    have hfo := fun f => xS (f := f) (hr i hlt)
    have hss := zab (e := e) hlt
    have l3 := hls (i + 1) (by omega)
    have l4 := hpz (i + 1) (by omega)
    obtain ⟨x, hx⟩ : ∃ x, zb C i = x := ⟨_, rfl⟩
    rw [hx] at gC hf hfo hss
    have cx : AV.agg (qF x) = .agg [vI x.op, vI x.a, vI x.b, vI x.c] := rfl
    rw [cx] at hf
    have tP : ∀ X : List InsM, (zz X).take X.length = zz X := fun X => List.take_of_length_le (by rw [zd]; exact Nat.le_refl _)
    have hap := wc (wz e C i) x.op x.a x.b x.c
    have one : glF e (spG e x) = [x] → zz (wz e C i) ++ [[vI x.op, vI x.a, vI x.b, vI x.c]] = zz (wz e C (i + 1)) ∧ (wz e C (i + 1)).length = (wz e C i).length + 1 := fun h => by
      rw [hap, hss, h]
      exact ⟨rfl, by rw [List.length_append]; rfl⟩
    clear hap
    cases hfx : yF x with
    | none =>
      rw [hfx] at hf
      obtain ⟨hap, ll⟩ := one (Zl hfx)
      clear one hss
      unfold vFd at hf
      (repeat' (first | exact trivial | (with_reducible first | apply awA | apply awB | apply awC | apply awE | apply awF | apply awH | apply awK) | ((with_reducible first | apply awn | apply awo | refine awQ ?_); intro r hr; simp only [go_sem, Nat.reduceBEq, Nat.reduceLT, Nat.reduceLeDiff, Nat.reduceAdd, Nat.reduceMul, Nat.reduceEqDiff, reduceCtorEq, e1, hwi, zi, gC, gR, hst, vl, tP, hap, ll, zd, Option.isSome_none] at hr; subst hr; (first | refine caA (fun _ => hf) rfl ?_ ?_ ?_ | refine awV ?_ ?_ | (refine zf (fun h => ?_) (fun h => ?_) <;> (try simp only [go_sem, reduceCtorEq] at h) <;> (try (exfalso; omega))))))) <;> (try omega)
      all_goals
        refine ⟨i + 1, ?_, hlt, by omega⟩
        simp only [ll, go_sem, Nat.reduceBEq]
        try exact rfl
    | some f =>
      rw [hfx, Zi hfx] at hf
      obtain ⟨fo, fi⟩ := hfo f hfx
      have fn := fo.n
      unfold vFd at hf
      by_cases h1 : f.n = 1
      · obtain ⟨hap, ll⟩ := one (UM fi hfx h1)
        clear one hss
        have e2 : (f.n = 1) = True := eq_true h1
        (repeat' (first | exact trivial | (with_reducible first | apply awA | apply awB | apply awC | apply awE | apply awF | apply awH | apply awK) | ((with_reducible first | apply awn | apply awo | refine awQ ?_); intro r hr; simp only [go_sem, Nat.reduceBEq, Nat.reduceLT, Nat.reduceLeDiff, Nat.reduceAdd, Nat.reduceMul, Nat.reduceEqDiff, reduceCtorEq, e1, e2, hwi, zi, gC, gR, hst, vl, tP, hap, ll, zd, Option.isSome_some] at hr; subst hr; (first | refine caA (fun _ => hf) rfl ?_ ?_ ?_ | refine awV ?_ ?_ | (refine zf (fun h => ?_) (fun h => ?_) <;> (try simp only [go_sem, reduceCtorEq] at h) <;> (try (exfalso; omega))))))) <;> (try omega)
        all_goals
          refine ⟨i + 1, ?_, hlt, by omega⟩
          simp only [ll, go_sem, Nat.reduceBEq]
          try exact rfl
      · clear one
        have e2 : (f.n = 1) = False := eq_false h1
        have hgl := Zm (e := e) hfx fn.1
        rw [hgl] at hss
        obtain ⟨n, hn⟩ : ∃ n : Nat, f.n = n := ⟨f.n.toNat, by omega⟩
        have hbeh := fun k : Nat => qd e ⟨f.a, k, f.w⟩
        have fa : Sml f.a := by
          have := fo.a
          unfold Sml
          cases e
          · have := fo.d rfl; omega
          · have := fo.e1 rfl; omega
        have fw := fo.w
        rw [hn, Int.toNat_natCast] at hss
        rw [hn] at hf e2 fn
        (repeat' (first | exact trivial | (with_reducible first | apply awA | apply awB | apply awC | apply awF) | ((with_reducible first | apply awn | apply awo | refine awQ ?_); intro r hr; simp only [go_sem, Nat.reduceBEq, Nat.reduceLT, Nat.reduceLeDiff, Nat.reduceAdd, Nat.reduceMul, reduceCtorEq, e1, e2, zi, gC, gR, hst, vl, zd, Option.isSome_some] at hr; subst hr; (first | refine caA (fun _ => hf) rfl ?_ ?_ ?_ | refine awV ?_ ?_ | (refine zf (fun h => ?_) (fun h => ?_) <;> (try simp only [go_sem, reduceCtorEq] at h) <;> (try (exfalso; omega))))))) <;> (try omega)
        all_goals
          refine zC [1, 2, 3, 5, 6, 9, 25, 26, 27, 56, 57] [1, 2, 3, 5, 23, 8001, 9] (fun k : Nat => ⟨[(1, true, .ptr 1 1 0 0), (2, true, .ptr 1 2 0 0), (3, true, .ptr 1 3 0 0), (5, true, .ptr 1 5 0 0), (6, true, .ref 38 4 8001 0 ((wz e C i).length + k)), (9, true, .ptr 1 9 0 0), (25, true, .lst 4 (zz C)), (26, true, vI C.length), (27, true, vI i), (56, true, vI n), (57, true, vI k)],
            [(1, .var [vB e, .lst 4 (zz C), .lst 1 (v8 N)]), (2, oZ3), (3, .var [vI 0, vI 0]), (5, .var [.ref 3 1 23 0 C.length]), (23, .row 3 1 (v8 (Yj e C (i + 1)))), (8001, .row 38 4 (zz (wz e C i ++ (yd e f.a f.w k).map (·.ins e)))), (9, .var [vB e, vI f.a, vI n, vI f.w])]⟩)
            (fun k => k ≤ n) (fun k => n - k) 0 (by simp only [Nat.add_zero, yd, List.map_nil, List.append_nil, go_sem, Nat.reduceBEq] <;> exact rfl) (Nat.zero_le _) ?_
          clear gC gR hst vl hf hfo cx hfx
          intro k hk
          have hwk := zg (n := (k : Int) + 1) (by omega)
          have lk : ((wz e C i) ++ (yd e f.a f.w k).map (·.ins e)).length = (wz e C i).length + k := by rw [List.length_append, List.length_map, uI]
          by_cases hlk : k < n
          · have e3 : ((k : Int) < (n : Int)) = True := eq_true (by omega)
            have hb := hbeh k fa (by dsimp only; omega) fw
            have hin := Yf e ⟨FldM.behind e ⟨f.a, k, f.w⟩, 1, f.w⟩
            have hus := ky e f.w k f.a
            have hap := wc ((wz e C i) ++ (yd e f.a f.w k).map (·.ins e)) (FldM.ins e ⟨FldM.behind e ⟨f.a, k, f.w⟩, 1, f.w⟩).op (FldM.ins e ⟨FldM.behind e ⟨f.a, k, f.w⟩, 1, f.w⟩).a (FldM.ins e ⟨FldM.behind e ⟨f.a, k, f.w⟩, 1, f.w⟩).b (FldM.ins e ⟨FldM.behind e ⟨f.a, k, f.w⟩, 1, f.w⟩).c
            have hnx : (wz e C i) ++ (yd e f.a f.w (k + 1)).map (·.ins e) = ((wz e C i) ++ (yd e f.a f.w k).map (·.ins e)) ++ [FldM.ins e ⟨FldM.behind e ⟨f.a, k, f.w⟩, 1, f.w⟩] := by rw [hus, List.map_append, List.append_assoc]; rfl
            have tQ := tP ((wz e C i) ++ (yd e f.a f.w k).map (·.ins e))
            rw [lk] at tQ
            have cx : AV.agg (qF (FldM.ins e ⟨FldM.behind e ⟨f.a, k, f.w⟩, 1, f.w⟩)) = .agg [vI (FldM.ins e ⟨FldM.behind e ⟨f.a, k, f.w⟩, 1, f.w⟩).op, vI (FldM.ins e ⟨FldM.behind e ⟨f.a, k, f.w⟩, 1, f.w⟩).a, vI (FldM.ins e ⟨FldM.behind e ⟨f.a, k, f.w⟩, 1, f.w⟩).b, vI (FldM.ins e ⟨FldM.behind e ⟨f.a, k, f.w⟩, 1, f.w⟩).c] := rfl
            rw [cx] at hin
            have hap' : zz ((wz e C i) ++ (yd e f.a f.w k).map (·.ins e)) ++ [[vI (FldM.ins e ⟨FldM.behind e ⟨f.a, k, f.w⟩, 1, f.w⟩).op, vI (FldM.ins e ⟨FldM.behind e ⟨f.a, k, f.w⟩, 1, f.w⟩).a, vI (FldM.ins e ⟨FldM.behind e ⟨f.a, k, f.w⟩, 1, f.w⟩).b, vI (FldM.ins e ⟨FldM.behind e ⟨f.a, k, f.w⟩, 1, f.w⟩).c]] = zz ((wz e C i) ++ (yd e f.a f.w (k + 1)).map (·.ins e)) := by rw [hap, hnx]
            clear hap hus cx
            unfold vFd at hb hin
            have lk1 : ((wz e C i) ++ (yd e f.a f.w (k + 1)).map (·.ins e)).length = (wz e C i).length + k + 1 := by rw [hnx, List.length_append, lk]; rfl
            clear hnx
            generalize FldM.behind e ⟨f.a, k, f.w⟩ = q at *
            generalize FldM.ins e ⟨q, 1, f.w⟩ = y at *
            obtain ⟨Y, hY⟩ : ∃ Y, (wz e C i) ++ (yd e f.a f.w (k + 1)).map (·.ins e) = Y := ⟨_, rfl⟩
            rw [hY] at hap' lk1
            generalize (wz e C i) ++ (yd e f.a f.w k).map (·.ins e) = X at *
            (repeat' (first | exact trivial | (with_reducible first | apply awA | apply awB | apply awC | apply awF | apply awI) | (refine zn (id := 18) (t := (.node [0, 1, 2, 4, 5, 3, 6, 7] [])) (drR [9] [65] []) zD (by kernel_rfl) (by kernel_rfl) (fun _ _ h => h) ?_) | (refine zx (by simp only [go_sem]; exact rfl) ?_) | (refine zA (by simp only [go_sem]; exact rfl) ?_) | refine ze ?_ | refine zl ?_ ?_ | exact zy | ((with_reducible first | apply awn | apply awo | apply awp | refine awQ ?_); intro r hr; simp only [go_sem, Nat.reduceBEq, Nat.reduceLT, Nat.reduceLeDiff, Nat.reduceAdd, Nat.reduceMul, Nat.reduceEqDiff, reduceCtorEq, e3, hwk, tQ, hap', lk, zd] at hr; subst hr; (first | refine caA (fun _ => hb) rfl ?_ ?_ ?_ | refine caA (fun _ => hin) rfl ?_ ?_ ?_ | refine awV ?_ ?_ | (refine zf (fun h => ?_) (fun h => ?_) <;> (try simp only [go_sem, reduceCtorEq] at h) <;> (try (exfalso; omega))))))) <;> (try omega)
            all_goals first
              | omega
              | (refine ⟨k + 1, ?_, hlk, by omega⟩
                 simp only [hY, lk1, go_sem, Nat.reduceBEq]
                 try exact rfl)
          · have e3 : ((k : Int) < (n : Int)) = False := eq_false (by omega)
            obtain rfl : k = n := by omega
            rw [← hss] at lk ⊢
            (repeat' (first | exact trivial | (with_reducible first | apply awA | apply awE | apply awF | apply awH | apply awI | apply awK) | ((with_reducible first | apply awn | refine awQ ?_); intro r hr; simp only [go_sem, Nat.reduceBEq, Nat.reduceLT, e3, hwi] at hr; subst hr; (first | refine awV ?_ ?_ | (refine zf (fun h => ?_) (fun h => ?_) <;> (try simp only [go_sem, reduceCtorEq] at h) <;> (try (exfalso; omega))))))) <;> (try omega)
            all_goals
              refine ⟨i + 1, ?_, hlt, by omega⟩
              rw [lk]
              simp only [go_sem, Nat.reduceBEq]
              try exact rfl
  · have e1 : ((i : Int) < (C.length : Int)) = False := eq_false (by omega)
    obtain rfl : i = C.length := by omega
    have hcl : wz e C C.length = (C.map (spG e)).flatMap (glF e) := by unfold wz; rw [List.take_length]
    have hbt : ∀ k, k < (wz e C C.length).length → tgF (zb (wz e C C.length) k).op = true → 0 ≤ (zb (wz e C C.length) k).b ∧ (zb (wz e C C.length) k).b < C.length := fun k hk ht => by
      have hmem : zb (wz e C C.length) k ∈ wz e C C.length := by
        rw [zP (List.getElem?_eq_getElem hk)]
        exact List.getElem_mem hk
      rw [hcl, List.mem_flatMap] at hmem
      obtain ⟨g, hg, hm⟩ := hmem
      obtain ⟨x, hx, rfl⟩ := List.mem_map.1 hg
      obtain ⟨k2, hk2, rfl⟩ := yO hx
      cases hfx : yF (zb C k2) with
      | none =>
        rw [Zl hfx] at hm
        simp at hm
        rw [← hcl] at hm
        rw [hm] at ht ⊢
        have h3 := zZ (hr k2 hk2)
        have h4 := h3.2.2.1
        rw [(Ku h3.1).b1 ht] at h4
        exact jr h4
      | some f =>
        rw [Zm hfx (xS (hr k2 hk2) hfx).1.n.1, List.mem_map] at hm
        obtain ⟨u, _, hu⟩ := hm
        rw [← hcl] at hu
        rw [← hu] at ht
        exact absurd ht (qy yS)
    have hmv := UG e C N (wz e C C.length) (Yj e C C.length) 25 (.inr ⟨rfl, fun n hn => zcn _ n hn (by rw [e28]; omega)⟩) (by omega) hN
      (fun k hk ht => by rw [e28]; exact hbt k hk ht) (fun n hn => by rw [e28]; exact hen n hn)
    have hnow : ∀ n : Int, 0 ≤ n ∧ n < C.length → wZ (Yj e C C.length) n = trI (zG (PgF (C.map (spG e)))) n := fun n hn => by
      obtain ⟨m, rfl⟩ : ∃ m : Nat, n = m := ⟨n.toNat, by omega⟩
      unfold wZ Yj trI
      rw [Int.toNat_natCast, List.getD_eq_getElem?_getD, List.getElem?_append_left (by simp; omega), List.getElem?_map, List.getElem?_range (by omega)]
      rfl
    have c1 : (wz e C C.length).map (mvX (wZ (Yj e C C.length))) = zF e C := by
      unfold zF
      rw [← hcl]
      refine List.map_congr_left fun y hy => ?_
      obtain ⟨k, hk, rfl⟩ := yO hy
      by_cases ht : tgF (zb (wz e C C.length) k).op = true
      · show mvX _ _ = mvX _ _
        unfold mvX
        rw [if_pos ht, if_pos ht, hnow _ (hbt k hk ht)]
      · show mvX _ _ = mvX _ _
        rw [qK ht, qK ht]
    have c2 : N.map (wZ (Yj e C C.length)) = yb e C N := List.map_congr_left fun n hn => hnow n (hen n hn)
    have c3 : (zF e C).length = (wz e C C.length).length := by unfold zF; rw [List.length_map, hcl]
    unfold zcl at hmv
    rw [c1, c2, e28] at hmv
    rw [c3]
    have e4 : (((wz e C C.length).length : Int) > 1048576) = False := eq_false (by omega)
    unfold pG at hmv
    generalize (wz e C C.length).length = m at hmv e4 ⊢
    clear hbt hnow
    (repeat' (first | exact trivial | (with_reducible first | apply awA | apply awC | apply awD | apply awE | apply awF | apply awH | apply awK) | ((with_reducible first | apply awn | apply awo | refine awQ ?_ | refine awT ?_); intro r hr; simp only [go_sem, Nat.reduceBEq, Nat.reduceLT, Nat.reduceLeDiff, Nat.reduceAdd, Nat.reduceMul, e1, e4, zd] at hr; subst hr; (first | refine awV ?_ ?_ | refine awW ?_ ?_ | refine yl ?_ ?_ ?_ | (refine zf (fun h => ?_) (fun h => ?_) <;> (try simp only [go_sem, reduceCtorEq] at h) <;> (try (exfalso; omega))))) | (refine zp [(8001, 15001), (5, 10001), (23, 10002)] [(15001, 8001), (10001, 5), (10002, 23), (8002, 8002)] [8001, 8002] [5, 23] ?_; intro r hr; simp only [go_sem, Nat.reduceBEq, Nat.reduceLT] at hr; subst hr; refine yo (hmv) rfl rfl (by first | exact .inl rfl | exact .inr rfl) ?_ (.inl rfl) ?_))) <;> (try omega)
    all_goals first | exact AV.up_rfl _ | exact AV.up_nil2 _ _ | exact AV.up_dead _ | (repeat first | exact zo | refine zh rfl ?_) | trace_state
end
section
open Go.RowKit
section
variable {P : Nat → List FldM} {e : Bool} {C : List InsM} {N : List Int} {D : List InsM} (J : Rf e C N D P)
include J
theorem zbi : ∀ k, k ≤ zG P k
 | 0 => Nat.le_refl _
 | k + 1 => by have := zbi k; rw [kD]; omega
theorem zcD : C.length ≤ D.length := by rw [J.len]; exact zbi J _
theorem Qe (h : D.length = C.length) : D = C ∧ N.map (trI (zG P)) = N := by
 have up : ∀ n k, k + n = C.length → zG P k + n ≤ zG P C.length := fun n => by
  induction n with
  | zero => intro k hk; rw [← hk]; exact Nat.le_refl _
  | succ n ih =>
   intro k hk
   have := ih (k + 1) (by omega)
   rw [kD] at this
   omega
 have hid : ∀ k, k ≤ C.length → zG P k = k := fun k hk => by
  have h1 := up (C.length - k) k (by omega)
  have h2 := zbi J k
  rw [← J.len, h] at h1
  omega
 have hl : ∀ k, k < C.length → (P k).length ≤ 1 := fun k hk => by
  have h1 := hid (k + 1) hk
  rw [kD, hid k (by omega)] at h1
  omega
 have htr : ∀ {n : Int}, 0 ≤ n ∧ n < C.length → trI (zG P) n = n := fun {n} hn => by
  unfold trI
  rw [hid _ (by omega)]
  omega
 refine ⟨List.ext_getElem h fun k h1 h2 => ?_, ?_⟩
 ·have e1 : zb D k = D[k] := zP (List.getElem?_eq_getElem h1)
  have e2 : zb C k = C[k] := zP (List.getElem?_eq_getElem h2)
  rw [← e1, ← e2]
  by_cases hp : P k = []
  ·have := (J.oth k hp).2
   rw [hid k (by omega)] at this
   rw [this]
   by_cases ht : tgF (zb C k).op = true
   ·have h3 := zZ (J.chk k h2)
    have h4 := h3.2.2.1
    rw [(Ku h3.1).b1 ht] at h4
    show mvX _ _ = _
    unfold mvX
    rw [if_pos ht, htr (jr h4)]
   ·exact qK ht
  ·obtain ⟨_, f, _, f2, f3, f4⟩ := J.num k hp
   have hl1 := hl k h2
   obtain ⟨g, hg⟩ : ∃ g, P k = [g] := by
    match hP : P k with
    | [] => exact absurd hP hp
    | [g] => exact ⟨g, rfl⟩
    | g :: g' :: l => rw [hP] at hl1; simp at hl1
   rw [hg] at f3
   have hgf : g = f := by
    rcases f3 with ⟨_, q⟩ | ⟨q, _⟩
    ·exact q
    ·exact absurd rfl q
   have := f4 0 g (by rw [hg]; rfl)
   rw [Nat.add_zero, hid k (by omega)] at this
   rw [this, f2, hgf]
 ·conv => rhs; rw [← List.map_id N]
  exact List.map_congr_left fun n hn => htr (J.en n hn)
end
def ex (e : Bool) (x : InsM) : List InsM := glF e (spG e x)
theorem Ws (e : Bool) (w : Int) (m : Nat) : ∀ (n : Nat) (a : Int), yd e a w (n + m) = yd e a w n ++ yd e (FldM.behind e ⟨a, n, w⟩) w m
 | 0, a => by
  have : FldM.behind e ⟨a, ((0 : Nat) : Int), w⟩ = a := by
   unfold FldM.behind
   cases e <;> simp
  rw [this, Nat.zero_add]; rfl
 | n + 1, a => by
  rw [show n + 1 + m = (n + m) + 1 by omega]
  show (⟨a, 1, w⟩ : FldM) :: yd e _ w (n + m) = _
  rw [Ws e w m n]
  have : FldM.behind e ⟨a + (if e = true then w else 1), (n : Int), w⟩ = FldM.behind e ⟨a, ((n + 1 : Nat) : Int), w⟩ := by
   unfold FldM.behind
   cases e
   ·rw [if_neg (by decide), if_neg (by decide), if_neg (by decide)]; dsimp only; omega
   ·rw [if_pos rfl, if_pos rfl, if_pos rfl]
    dsimp only
    rw [show (((n + 1 : Nat) : Int)) = (n : Int) + 1 by omega, Int.add_mul]
    omega
  rw [this]
  rfl
abbrev uts (e : Bool) (f : FldM) : List FldM := yd e f.a f.w f.n.toNat
theorem jJ {e : Bool} : ∀ {l : List FldM} {f : FldM}, 1 ≤ f.n → qJ e f l → l.flatMap (uts e) = uts e f
 | [], _, _, h => h.elim
 | g :: l, f, hn, h => by
  rcases h with ⟨rfl, rfl⟩ | ⟨hl, h1, h2, h3, h4, h5⟩
  ·simp
  ·have ih := jJ (by dsimp only; omega) h5
   rw [List.flatMap_cons, ih]
   obtain ⟨a, n, w⟩ := f
   obtain ⟨a', n', w'⟩ := g
   dsimp only at h1 h2 h3 h4 hn ⊢
   subst h1
   subst h2
   obtain ⟨m, rfl⟩ : ∃ m : Nat, n' = m := ⟨n'.toNat, by omega⟩
   show yd e a' w' ((m : Int)).toNat ++ yd e (FldM.behind e ⟨a', m, w'⟩) w' (n - m).toNat = yd e a' w' n.toNat
   rw [Int.toNat_natCast, ← Ws]
   congr 1
   omega
theorem kK {e : Bool} {f : FldM} (h : FldOK e f) : ex e (f.ins e) = (uts e f).map (·.ins e) := Zm (xO h) h.n.1
theorem Zz {e : Bool} {x : InsM} (h : yF x = none) : ex e x = [x] := Zl h
theorem kL {x : InsM} (h : tgF x.op = true) : yF x = none := by
 unfold yF
 have := Ye h
 split
 ·rfl
 ·rw [if_neg (by omega), if_neg (by omega)]
theorem zcE {e : Bool} {x : InsM} (m : Int → Int) (h : ∀ f, yF x = some f → FldOK e f ∧ x = f.ins e) : ex e (mvX m x) = (ex e x).map (mvX m) := by
 by_cases ht : tgF x.op = true
 ·have h2 : tgF (mvX m x).op = true := by rw [vQ]; exact ht
  rw [Zz (kL ht), Zz (kL h2)]; rfl
 ·rw [qK ht]
  cases hf : yF x with
  | none => rw [Zz hf]; show _ = [mvX m x]; rw [qK ht]
  | some f =>
   obtain ⟨h1, h2⟩ := h f hf
   rw [h2, kK h1, List.map_map]
   exact List.map_congr_left fun u _ => (kH yS).symm
theorem ww {α β : Type} {l : List α} {f g : α → List β} (h : ∀ x ∈ l, f x = g x) : l.flatMap f = l.flatMap g := by
 induction l with
 | nil => rfl
 | cons x l ih => rw [List.flatMap_cons, List.flatMap_cons, h x (.head _), ih fun y hy => h y (.tail _ hy)]
theorem zdk {e : Bool} {g : GrM} (h : GrOK e g) : (glF e g).flatMap (ex e) = ex e g.1 := by
 by_cases h2 : g.2 = []
 ·rw [wv h2]; simp
 ·obtain ⟨f, f1, f2, f3⟩ := h.run h2
  unfold glF
  rw [if_neg h2, f2, kK f1, List.flatMap_map, ← jJ f1.n.1 f3, List.map_flatMap]
  exact ww fun x hx => kK (xb f1 f3 x hx)
theorem zcF {e : Bool} {gs : List GrM} (h : ∀ g ∈ gs, GrOK e g) : (gs.flatMap (glF e)).flatMap (ex e) = (gs.map (·.1)).flatMap (ex e) := by
 rw [List.flatMap_assoc, List.flatMap_map]
 exact ww fun g hg => zdk (h g hg)
theorem uL {e : Bool} {D : List InsM} {M : List Int} (hc : yK e D M = (0, 0)) : ∀ x ∈ D, ∀ f, yF x = some f → FldOK e f ∧ x = f.ins e := fun x hx f hf => by
 obtain ⟨k, hk, rfl⟩ := yO hx
 exact xS ((z9 hc).2.1 k hk) hf
theorem kM {e : Bool} {g : GrM} (h : GrOK e g) : ∀ f, yF g.1 = some f → FldOK e f ∧ g.1 = f.ins e := fun f hf => by
 by_cases h2 : g.2 = []
 ·rw [h.one h2] at hf; cases hf
 ·obtain ⟨f', f1, f2, _⟩ := h.run h2
  rw [f2, xO f1] at hf
  injection hf with hf
  subst hf
  exact ⟨f1, f2⟩
theorem Wt {e : Bool} {L : List InsM} (m : Int → Int) (h : ∀ x ∈ L, ∀ f, yF x = some f → FldOK e f ∧ x = f.ins e) : (L.map (mvX m)).flatMap (ex e) = (L.flatMap (ex e)).map (mvX m) := by
 rw [List.flatMap_map, List.map_flatMap]
 exact ww fun x hx => zcE m (h x hx)
theorem vK {e : Bool} {D : List InsM} {M : List Int} (hc : yK e D M = (0, 0)) : ∀ g ∈ zJ e D M, GrOK e g := (Qd hc).gok
theorem Qf {e : Bool} {D : List InsM} {M : List Int} (hc : yK e D M = (0, 0)) : (ye e D M).flatMap (ex e) = (D.flatMap (ex e)).map (mvX (uj (zJ e D M))) := by
 obtain ⟨_, _, _, hflat⟩ := x9 hc
 have hg := vK hc
 have hD : D.flatMap (ex e) = ((zJ e D M).map (·.1)).flatMap (ex e) := by rw [← zcF hg, hflat]
 rw [hD]
 have : ye e D M = ((zJ e D M).map (·.1)).map (mvX (uj (zJ e D M))) := by unfold ye; rw [List.map_map]; rfl
 rw [this]
 exact Wt _ fun x hx => by
  obtain ⟨g, hgm, rfl⟩ := List.mem_map.1 hx
  exact kM (hg g hgm)
theorem Xr {e : Bool} {f u : FldM} (h : FldOK e f) (hu : u ∈ uts e f) : FldOK e u ∧ u.n = 1 := by
 obtain ⟨n, hn⟩ : ∃ n, f.n.toNat = n + 1 := ⟨f.n.toNat - 1, by have := h.n; omega⟩
 have hp := kI e f.w n f.a
 have hf : f = ⟨f.a, ((n + 1 : Nat) : Int), f.w⟩ := by
  have := h.n
  obtain ⟨a, m, w⟩ := f
  rw [FldM.mk.injEq]
  refine ⟨rfl, ?_, rfl⟩
  dsimp only at this hn
  omega
 rw [← hf] at hp
 have hu' : u ∈ yd e f.a f.w (n + 1) := by have : u ∈ yd e f.a f.w f.n.toNat := hu; rwa [hn] at this
 refine ⟨xb h hp u hu', ?_⟩
 have gen : ∀ (n : Nat) (a : Int), ∀ u ∈ yd e a f.w n, u.n = 1 := fun n => by
  induction n with
  | zero => intro a u hu; cases hu
  | succ n ih =>
   intro a u hu
   rcases List.mem_cons.1 hu with rfl | hu
   ·rfl
   ·exact ih _ u hu
 exact gen _ _ u hu'
theorem xD (e : Bool) (C : List InsM) : zF e C = (C.flatMap (ex e)).map (mvX (trI (pz e C))) := by
 unfold zF
 rw [List.flatMap_map]
 rfl
theorem zbj {e : Bool} {C : List InsM} {N : List Int} (hc : yK e C N = (0, 0)) (m : Int → Int) : ∀ y ∈ (C.flatMap (ex e)).map (mvX m), ex e y = [y] := fun y hy => by
 obtain ⟨z, hz, rfl⟩ := List.mem_map.1 hy
 obtain ⟨x, hx, hz⟩ := List.mem_flatMap.1 hz
 cases hf : yF x with
 | none =>
  rw [Zz hf] at hz
  simp at hz
  subst hz
  rw [zcE m (uL hc z hx), Zz hf]
  rfl
 | some f =>
  obtain ⟨h1, h2⟩ := uL hc x hx f hf
  rw [h2, kK h1, List.mem_map] at hz
  obtain ⟨u, hu, rfl⟩ := hz
  obtain ⟨u1, u2⟩ := Xr h1 hu
  rw [kH yS]
  exact UM rfl (xO u1) u2
theorem uf {α : Type} {l : List α} {f : α → List α} (h : ∀ x ∈ l, f x = [x]) : l.flatMap f = l := by
 induction l with
 | nil => rfl
 | cons x l ih => rw [List.flatMap_cons, h x (.head _), ih fun y hy => h y (.tail _ hy)]; rfl
theorem Wu {e : Bool} {C : List InsM} {N : List Int} (hc : yK e C N = (0, 0)) : (zF e C).flatMap (ex e) = zF e C := by
 rw [xD]
 exact uf (zbj hc _)
def V2 (y : InsM) : InsM := match yF y with
 | some f => ⟨-1, f.a, f.w, 0⟩
 | none => if tgF y.op = true then { y with b := 0 } else y
theorem Qg (m : Int → Int) (y : InsM) : V2 (mvX m y) = V2 y := by
 by_cases ht : tgF y.op = true
 ·have h2 : tgF (mvX m y).op = true := by rw [vQ]; exact ht
  unfold V2
  rw [kL ht, kL h2]
  dsimp only
  rw [if_pos ht, if_pos h2]
  unfold mvX
  rw [if_pos ht]
 ·rw [qK ht]
def yE (e : Bool) (C : List InsM) : List InsM := (C.flatMap (ex e)).map V2
theorem Qh {e : Bool} {D : List InsM} {M : List Int} (hc : yK e D M = (0, 0)) : yE e (ye e D M) = yE e D := by
 unfold yE
 rw [Qf hc, List.map_map]
 exact List.map_congr_left fun y _ => Qg _ y
theorem Vr {e : Bool} {C : List InsM} {N : List Int} (hc : yK e C N = (0, 0)) : yE e (zF e C) = yE e C := by
 unfold yE
 rw [Wu hc, xD, List.map_map]
 exact List.map_congr_left fun y _ => Qg _ y
theorem Qi {e : Bool} {D : List InsM} {M : List Int} (hc : yK e D M = (0, 0)) (h : (ye e D M).length = D.length) : ye e D M = D ∧ yX e D M = M := by
 obtain ⟨_, J, h3, _⟩ := x9 hc
 obtain ⟨h1, h2⟩ := Qe J h.symm
 rw [h3] at h2
 exact ⟨h1.symm, h2.symm⟩
theorem Vs {e : Bool} {C : List InsM} {N : List Int} (hc : yK e C N = (0, 0)) (h : (zF e C).length = C.length) : zF e C = C ∧ yb e C N = N := Qe (uJ hc) h
theorem Qj {e : Bool} {D : List InsM} {M : List Int} (hc : yK e D M = (0, 0)) : (ye e D M).length ≤ D.length := zcD (x9 hc).2.1
theorem Jm {e : Bool} {C : List InsM} {N : List Int} (hc : yK e C N = (0, 0)) : C.length ≤ (zF e C).length := zcD (uJ hc)
theorem kN {e : Bool} {C : List InsM} {N : List Int} (hc : yK e C N = (0, 0)) : (zF e C).length ≤ 64 * C.length := by
 have h := (uJ hc).len
 obtain ⟨_, hr, _⟩ := z9 hc
 rw [h]
 have : ∀ k, k ≤ C.length → zG (PgF (C.map (spG e))) k ≤ 64 * k := fun k => by
  induction k with
  | zero => intro _; exact Nat.le_refl _
  | succ k ih =>
   intro hk
   have h1 := UK e (x := zb C k) fun f hf => (xS (hr k (by omega)) hf).1.n.2
   rw [ue] at h1
   have := ih (by omega)
   rw [kD, qx (g := spG e (zb C k)) (by rw [List.getElem?_map, List.getElem?_eq_getElem (by omega), zP (List.getElem?_eq_getElem (by omega))]; rfl)]
   omega
 exact this _ (Nat.le_refl _)
theorem uM {e : Bool} {C : List InsM} {N : List Int} (hc : yK e C N = (0, 0)) (hC : C.length ≤ 16000) : yK e (zF e C) (yb e C N) = (0, 0) :=
 Jl (uJ hc) (z9 hc).1.2 (by have := kN hc; omega)
theorem Wv {e : Bool} {D : List InsM} {M : List Int} (hv : (wX e D M).1 = 0) : wX e (ye e D M) (yX e D M) = (0, 0) := by
 obtain ⟨hc, _, _, _⟩ := vF hv
 obtain ⟨h1, J, h3, _⟩ := x9 hc
 have := U6 J h1 (by rw [h3]; exact hc)
 rw [h3] at this
 exact (vF (this.1 hv)).2.2.2
theorem Yt {e : Bool} {C : List InsM} {N : List Int} (hv : (wX e C N).1 = 0) (hC : C.length ≤ 16000) : wX e (zF e C) (yb e C N) = (0, 0) := by
 obtain ⟨hc, _, _, _⟩ := vF hv
 exact (vF ((U6 (uJ hc) hc (uM hc hC)).2 hv)).2.2.2
end
section
open Go.RowKit
theorem x1 (e : Bool) (C : List InsM) (N : List Int) (hC : C.length ≤ 1000000000) (hN : N.length ≤ 1000000000) : zN Try.prog 11 [pG e C N, pG e C N] (fun r => r = vB true) := by
 unfold pG
 refine zB (za _) Try.func11 rfl rfl (by rw [Try.results11]) Try.ntmps11 rfl fun E => ?_
 (repeat' (first | exact trivial | (with_reducible first | apply awA | apply awB | apply awC | apply awF) | ((with_reducible first | apply awn | refine awQ ?_); intro r hr; simp only [go_sem, Nat.reduceBEq, Nat.reduceLT, Nat.reduceLeDiff, Nat.reduceAdd, Nat.reduceMul, reduceCtorEq, zd, zq] at hr; subst hr; (first | refine awV ?_ ?_ | (refine zf (fun h => ?_) (fun h => ?_) <;> (try simp only [go_sem, reduceCtorEq] at h) <;> (try (exfalso; omega))))))) <;> (try omega)
 refine zC [2, 3, 5] [2, 3] (fun k : Nat => ⟨[(2, true, .ptr 1 2 0 0), (3, true, .ptr 1 3 0 0), (5, true, vI k)], [(2, .var [vB e, .lst 4 (zz C), .lst 1 (v8 N)]), (3, .var [vB e, .lst 4 (zz C), .lst 1 (v8 N)])]⟩) (fun k => k ≤ C.length) (fun k => C.length - k) 0 (by simp only [go_sem, Nat.reduceBEq] <;> exact rfl) (Nat.zero_le _) ?_
 intro k hk
 have hw := zg (n := (k : Int) + 1) (by omega)
 by_cases hlt : k < C.length
 ·have e1 : ((k : Int) < C.length) = True := eq_true (by omega)
  have g1 := kZ hlt
  have zk : ((k : Int)).toNat = k := by omega
  (repeat' (first | exact trivial | (with_reducible first | apply awA | apply awB | apply awC | apply awF | apply awI) | (refine zn (id := 6) (t := (.node [0, 1, 2, 3, 4, 5, 6, 7, 8, 9, 10] [])) (drR [2, 3] [41, 46] []) zD (by kernel_rfl) (by kernel_rfl) (fun _ _ h => h) ?_) | (refine zx (by simp only [go_sem]; exact rfl) ?_) | (refine zA (by simp only [go_sem]; exact rfl) ?_) | refine ze ?_ | refine zl ?_ ?_ | exact zy | ((with_reducible first | apply awn | apply awp | refine awQ ?_); intro r hr; simp only [go_sem, Nat.reduceBEq, Nat.reduceLT, Nat.reduceLeDiff, Nat.reduceAdd, Nat.reduceMul, reduceCtorEq, zd, hw, e1, g1, zk] at hr; subst hr; (first | refine awV ?_ ?_ | (refine zf (fun h => ?_) (fun h => ?_) <;> (try simp only [go_sem, reduceCtorEq] at h) <;> (try (exfalso; omega))))))) <;> (try omega)
  all_goals exact ⟨k + 1, by simp only [go_sem, Nat.reduceBEq] <;> exact rfl, hlt, by omega⟩
 have e1 : ((k : Int) < C.length) = False := eq_false (by omega)
 (repeat' (first | exact trivial | (with_reducible first | apply awA | apply awB | apply awE | apply awF | apply awH | apply awK) | ((with_reducible first | apply awn | refine awQ ?_); intro r hr; simp only [go_sem, Nat.reduceBEq, Nat.reduceLT, Nat.reduceLeDiff, Nat.reduceAdd, Nat.reduceMul, zd, e1] at hr; subst hr; (first | refine awV ?_ ?_ | (refine zf (fun h => ?_) (fun h => ?_) <;> (try simp only [go_sem, reduceCtorEq] at h) <;> (try (exfalso; omega))))))) <;> (try omega)
 refine zC [2, 3, 6] [2, 3] (fun k : Nat => ⟨[(2, true, .ptr 1 2 0 0), (3, true, .ptr 1 3 0 0), (6, true, vI k)], [(2, .var [vB e, .lst 4 (zz C), .lst 1 (v8 N)]), (3, .var [vB e, .lst 4 (zz C), .lst 1 (v8 N)])]⟩) (fun k => k ≤ N.length) (fun k => N.length - k) 0 (by simp only [go_sem, Nat.reduceBEq] <;> exact rfl) (Nat.zero_le _) ?_
 clear hk hw hlt e1
 intro j hj
 have hw := zg (n := (j : Int) + 1) (by omega)
 by_cases hlt : j < N.length
 ·have e1 : ((j : Int) < N.length) = True := eq_true (by omega)
  have g1 := xm hlt
  have zk : ((j : Int)).toNat = j := by omega
  (repeat' (first | exact trivial | (with_reducible first | apply awA | apply awB | apply awC | apply awF | apply awI) | (refine zn (id := 11) (t := (.node [0, 1, 2, 3, 4, 5, 6, 7, 8, 9, 10] [])) (drR [2, 3] [59, 64] []) zD (by kernel_rfl) (by kernel_rfl) (fun _ _ h => h) ?_) | (refine zx (by simp only [go_sem]; exact rfl) ?_) | (refine zA (by simp only [go_sem]; exact rfl) ?_) | refine ze ?_ | refine zl ?_ ?_ | exact zy | ((with_reducible first | apply awn | apply awp | refine awQ ?_); intro r hr; simp only [go_sem, Nat.reduceBEq, Nat.reduceLT, Nat.reduceLeDiff, Nat.reduceAdd, Nat.reduceMul, reduceCtorEq, zq, hw, e1, g1, zk] at hr; subst hr; (first | refine awV ?_ ?_ | (refine zf (fun h => ?_) (fun h => ?_) <;> (try simp only [go_sem, reduceCtorEq] at h) <;> (try (exfalso; omega))))))) <;> (try omega)
  all_goals exact ⟨j + 1, by simp only [go_sem, Nat.reduceBEq] <;> exact rfl, hlt, by omega⟩
 ·have e1 : ((j : Int) < N.length) = False := eq_false (by omega)
  (repeat' (first | exact trivial | (with_reducible first | apply awA | apply awD | apply awE | apply awF | apply awH | apply awK) | ((with_reducible first | apply awn | refine awQ ?_ | refine awR ?_); intro r hr; simp only [go_sem, Nat.reduceBEq, Nat.reduceLT, Nat.reduceLeDiff, Nat.reduceAdd, Nat.reduceMul, zq, e1] at hr; subst hr; (first | refine awV ?_ ?_ | refine zR ?_ ?_ | (refine zf (fun h => ?_) (fun h => ?_) <;> (try simp only [go_sem, reduceCtorEq] at h) <;> (try (exfalso; omega))))))) <;> (try omega)
  all_goals exact rfl
theorem jE (e : Bool) (C C' : List InsM) (N N' : List Int) (hC : C.length ≤ 1000000000) (hC' : C'.length ≤ 1000000000) (h : C.length ≠ C'.length) : zN Try.prog 11 [pG e C N, pG e C' N'] (fun r => r = vB false) := by
 have e0 : ((C.length : Int) = (C'.length : Int)) = False := eq_false (by omega)
 unfold pG
 refine zB (za _) Try.func11 rfl rfl (by rw [Try.results11]) Try.ntmps11 rfl fun E => ?_
 (repeat' (first | exact trivial | (with_reducible first | apply awA | apply awD | apply awF | apply awG) | ((with_reducible first | apply awn | refine awQ ?_ | refine awR ?_); intro r hr; simp only [go_sem, Nat.reduceBEq, Nat.reduceLT, Nat.reduceLeDiff, Nat.reduceAdd, Nat.reduceMul, reduceCtorEq, zd, zq, e0] at hr; subst hr; (first | refine awV ?_ ?_ | refine zR ?_ ?_ | (refine zf (fun h => ?_) (fun h => ?_) <;> (try simp only [go_sem, reduceCtorEq] at h) <;> (try (exfalso; omega))))))) <;> (try omega)
 all_goals exact rfl
end
section
open Go.RowKit
def zb0 (e : Bool) (C : List InsM) (N : List Int) : Option Int := match xV e C N with | .error j => some j | .ok _ => none
theorem VA {e : Bool} {C : List InsM} {N : List Int} {j : Int} (h : zb0 e C N = some j) : xV e C N = .error j := by
 unfold zb0 at h
 split at h
 ·injection h with h; rw [← h]; assumption
 ·cases h
theorem JE {e : Bool} {C : List InsM} {N : List Int} {j : Int} (hc : yK e C N = (0, 0)) (h : zb0 e C N = some j) : wX e C N = (150, j) := by
 unfold wX
 rw [hc, VA h, if_neg (by decide)]
theorem JF {C : List InsM} (hw : ∀ a b g, xF C g a b → a < b) (hc : ∀ k, (zb C k).op ≠ 16) : Ko false C [0] = -1 := by
 have hR : ∀ g a b, Rch (xF C g) a b → a < b := fun g a b h => by
  induction h with
  | one h => exact hw _ _ _ h
  | more _ h ih => exact Nat.lt_trans ih (hw _ _ _ h)
 have hno : ∀ B en, ¬ ∃ k, Y4 false C B en k := fun B en ⟨k, _, h⟩ => by
  rcases h with h | ⟨_, _, ⟨h, _⟩, _⟩
  ·have := hR _ _ _ h; omega
  ·exact hc _ h
 exact qQ.uniq (vE false C [0]) (.inr ⟨hno _ _, rfl⟩)
end
section
open Go.RowKit
def Xj : AV := pG false [] []
noncomputable def Vp (e : Bool) (D : List InsM) (M : List Int) : AV := if (wX e D M).1 = 0 then .tup [pG e (ye e D M) (yX e D M), vFa (0, 0)] else .tup [Xj, vFa (wX e D M)]
noncomputable def Yk (e : Bool) (D : List InsM) (M : List Int) : AV := if (wX e D M).1 = 0 then .tup [pG e (zF e D) (yb e D M), vFa (0, 0)] else .tup [Xj, vFa (wX e D M)]
theorem x8 (e : Bool) (D : List InsM) (M : List Int) : (yX e D M).length = M.length := by simp [yX]
theorem xr (e : Bool) (D : List InsM) (M : List Int) : (yb e D M).length = M.length := by simp [yb]
theorem vJ (e : Bool) (D : List InsM) (M : List Int) (hD : D.length ≤ 140737488355328) (hM : M.length ≤ 140737488355328) : zN Try.prog 9 [pG e D M] (fun r => r = Vp e D M) := by
 unfold Vp
 by_cases hv : (wX e D M).1 = 0
 ·rw [if_pos hv]
  refine ((zbc e D M hv).toP (by simp [AV.snapOK, AV.snapOK.snapOKL, lk, zd, zq, x8])).mono fun r hr => hr.trans ?_
  have e1 : (zz (ye e D M)).take (ye e D M).length = zz (ye e D M) := List.take_of_length_le (by rw [zd]; exact Nat.le_refl _)
  have e2 : (v8 (yX e D M)).take M.length = v8 (yX e D M) := List.take_of_length_le (by rw [zq, x8]; exact Nat.le_refl _)
  simp only [AV.snap, AV.snap.snapL, lk, Nat.zero_add, List.drop_zero, Nat.reduceBEq, cond_true, cond_false, e1, e2]
  rfl
 ·rw [if_neg hv]
  have hver := xy e D M hD hM
  generalize wX e D M = f at hver hv ⊢
  obtain ⟨f1, f2⟩ := f
  have e1 : (f1 = 0) = False := eq_false hv
  unfold Xj pG at *
  refine qt (za _) Try.func9 rfl rfl (by rw [Try.results9]) Try.ntmps9 rfl fun E => ?_
  (repeat' (first | exact trivial | (refine WQ ?_) | (with_reducible first | refine JQ ?_ | refine JR ?_ | refine JS ?_) | (with_reducible first | apply awA | apply awD | apply awF | apply awG) | (refine zn (id := 3) (t := (.node [0, 1, 2, 3] [])) (drR [4] [] []) zD (by kernel_rfl) (by kernel_rfl) (fun _ _ h => h) ?_) | (refine zx (by simp only [go_sem]; exact rfl) ?_) | (refine zA (by simp only [go_sem]; exact rfl) ?_) | refine ze ?_ | refine zl ?_ ?_ | exact zy | ((with_reducible first | apply awn | apply awo | apply awp | refine awQ ?_ | refine awR ?_); intro r hr; simp only [go_sem, Nat.reduceBEq, Nat.reduceLT, Nat.reduceLeDiff, Nat.reduceAdd, Nat.reduceMul, e1] at hr; subst hr; (first | refine caA (fun _ => hver) rfl ?_ ?_ ?_ | refine awV ?_ ?_ | refine zR ?_ ?_ | (refine zf (fun h => ?_) (fun h => ?_) <;> (try simp only [go_sem, reduceCtorEq] at h) <;> (try (exfalso; omega))))))) <;> (try omega)
  exact Up.up (.tup (.cons (.agg (.cons (.rfl _) (.cons (.nil _) (.cons (.nil _) .nil)))) (.cons (.rfl _) .nil)))
theorem vi (e : Bool) (D : List InsM) (M : List Int) (hD : D.length ≤ 16000) (hM : M.length ≤ 140737488355328) : zN Try.prog 10 [pG e D M] (fun r => r = Yk e D M) := by
 unfold Yk
 by_cases hv : (wX e D M).1 = 0
 ·rw [if_pos hv]
  refine ((Jd e D M hv hD).toP (by simp [AV.snapOK, AV.snapOK.snapOKL, lk, zd, zq, xr])).mono fun r hr => hr.trans ?_
  have e1 : (zz (zF e D)).take (zF e D).length = zz (zF e D) := List.take_of_length_le (by rw [zd]; exact Nat.le_refl _)
  have e2 : (v8 (yb e D M)).take M.length = v8 (yb e D M) := List.take_of_length_le (by rw [zq, xr]; exact Nat.le_refl _)
  simp only [AV.snap, AV.snap.snapL, lk, Nat.zero_add, List.drop_zero, Nat.reduceBEq, cond_true, cond_false, e1, e2]
  rfl
 ·rw [if_neg hv]
  have hver := xy e D M (by omega) hM
  generalize wX e D M = f at hver hv ⊢
  obtain ⟨f1, f2⟩ := f
  have e1 : (f1 = 0) = False := eq_false hv
  unfold Xj pG at *
  refine qt (za _) Try.func10 rfl rfl (by rw [Try.results10]) Try.ntmps10 rfl fun E => ?_
  (repeat' (first | exact trivial | (with_reducible first | apply awA | apply awD | apply awF | apply awG) | (refine zn (id := 3) (t := (.node [0, 1, 2, 3] [])) (drR [4] [] []) zD (by kernel_rfl) (by kernel_rfl) (fun _ _ h => h) ?_) | (refine zx (by simp only [go_sem]; exact rfl) ?_) | (refine zA (by simp only [go_sem]; exact rfl) ?_) | refine ze ?_ | refine zl ?_ ?_ | exact zy | ((with_reducible first | apply awn | apply awo | apply awp | refine awQ ?_ | refine awR ?_); intro r hr; simp only [go_sem, Nat.reduceBEq, Nat.reduceLT, Nat.reduceLeDiff, Nat.reduceAdd, Nat.reduceMul, e1] at hr; subst hr; (first | refine caA (fun _ => hver) rfl ?_ ?_ ?_ | refine awV ?_ ?_ | refine zR ?_ ?_ | (refine zf (fun h => ?_) (fun h => ?_) <;> (try simp only [go_sem, reduceCtorEq] at h) <;> (try (exfalso; omega))))))) <;> (try omega)
  exact Up.up (.tup (.cons (.agg (.cons (.rfl _) (.cons (.nil _) (.cons (.nil _) .nil)))) (.cons (.rfl _) .nil)))
def xP : List InsM := [⟨6, 0, 0, 0⟩, ⟨1, 0, 1, 0⟩, ⟨1, 1, 1, 0⟩, ⟨1, 2, 1, 0⟩, ⟨1, 3, 2, 0⟩, ⟨20, 0, 0, 0⟩]
def xQ : List InsM := [⟨6, 0, 0, 0⟩, ⟨2, 0, 3, 1⟩, ⟨1, 3, 2, 0⟩, ⟨20, 0, 0, 0⟩]
def xB : List InsM := [⟨20, 0, 0, 0⟩]
theorem UN : yK false xP [0] = (0, 0) := by decide +kernel
theorem zcq : yK false xB [0] = (0, 0) := by decide +kernel
theorem zcr : zb0 false xP [0] = none := by decide +kernel
theorem zcs : zb0 false xB [0] = some 0 := by decide +kernel
theorem UO : ye false xP [0] = xQ := by decide +kernel
theorem X9 : yX false xP [0] = [0] := by decide +kernel
theorem Je : zF false xQ = xP := by decide +kernel
theorem UP : yb false xQ [0] = [0] := by decide +kernel
theorem zct (k : Nat) : (zb xP k).op ≠ 16 ∧ (k < 5 → (zb xP k).op = 6 ∨ (zb xP k).op = 1) ∧ (k = 5 → (zb xP k).op = 20) ∧ (6 ≤ k → zb xP k = ⟨0, 0, 0, 0⟩) := by
 by_cases h6 : k < 6
 ·obtain rfl | rfl | rfl | rfl | rfl | rfl : k = 0 ∨ k = 1 ∨ k = 2 ∨ k = 3 ∨ k = 4 ∨ k = 5 := by omega
  all_goals decide
 ·have hz := xG (C := xP) (k := k) (by show 6 ≤ k; omega)
  rw [hz]
  exact ⟨by decide, fun h => by omega, fun h => by omega, fun _ => rfl⟩
theorem zcu (a b : Nat) (g : Nat → Int → Bool) (h : xF xP g a b) : a < b := by
 obtain ⟨w, h, _⟩ := h
 obtain ⟨_, h1, h2, h3⟩ := zct a
 have nx : ∀ {op : Int}, op ≠ 19 → ¬ (op = 20 ∨ op = 9) → ¬ (op = 8 ∨ op = 41) → ¬ (op = 7 ∨ op = 11 ∨ op = 12 ∨ op = 13 ∨ op = 14 ∨ op = 15 ∨ op = 40 ∨ op = 47) → (zb xP a).op = op → a < b := fun q1 q2 q3 q4 q => by
  unfold yz at h
  rw [q, if_neg q1, if_neg q2, if_neg q3, if_neg q4] at h
  have := List.mem_of_getElem? h
  simp at this
  omega
 by_cases a5 : a < 5
 ·rcases h1 a5 with q | q
  ·exact nx (by decide) (by decide) (by decide) (by decide) q
  ·exact nx (by decide) (by decide) (by decide) (by decide) q
 ·by_cases a6 : a = 5
  ·unfold yz at h
   rw [h2 a6, if_neg (by decide), if_pos (by decide)] at h
   cases h
  ·exact nx (by decide) (by decide) (by decide) (by decide) (congrArg InsM.op (h3 (by omega)))
theorem zac : wX false xP [0] = (0, 0) := by
 have h := zcr
 obtain ⟨r, hr⟩ : ∃ r, xV false xP [0] = .ok r := by
  unfold zb0 at h
  cases hf : xV false xP [0] with
  | ok r => exact ⟨r, rfl⟩
  | error j => rw [hf] at h; cases h
 unfold wX
 rw [UN, if_neg (by decide), hr, JF (fun a b g h => zcu a b g h) (fun k => (zct k).1), if_neg (by decide)]
theorem zcv : wX false xQ [0] = (0, 0) := by
 obtain ⟨h1, h2, h3, _⟩ := x9 UN
 have := U6 h2 h1 (by rw [h3]; exact UN)
 rw [h3, UO, X9, zac] at this
 exact (vF (this.1 rfl)).2.2.2
theorem UQ : zN Try.prog 6 [] (fun r => r = vB true) := by
 have h1 := vJ false xP [0] (by decide) (by decide)
 have h2 := vi false xQ [0] (by decide) (by decide)
 have h3 := vJ false xB [0] (by decide) (by decide)
 have e1 := x1 false xQ [0] (by decide) (by decide)
 have e2 := x1 false xP [0] (by decide) (by decide)
 unfold Vp at h1 h3
 unfold Yk at h2
 rw [zac, if_pos rfl, UO, X9] at h1
 rw [zcv, if_pos rfl, Je, UP] at h2
 rw [JE zcq zcs, if_neg (by decide)] at h3
 unfold Xj pG at *
 have q1 : zz xP = [[vI 6, vI 0, vI 0, vI 0], [vI 1, vI 0, vI 1, vI 0], [vI 1, vI 1, vI 1, vI 0], [vI 1, vI 2, vI 1, vI 0], [vI 1, vI 3, vI 2, vI 0], [vI 20, vI 0, vI 0, vI 0]] := rfl
 have q2 : zz xQ = [[vI 6, vI 0, vI 0, vI 0], [vI 2, vI 0, vI 3, vI 1], [vI 1, vI 3, vI 2, vI 0], [vI 20, vI 0, vI 0, vI 0]] := rfl
 have q3 : zz xB = [[vI 20, vI 0, vI 0, vI 0]] := rfl
 rw [q1] at *
 rw [q2] at *
 rw [q3] at *
 refine zB (za _) Try.func6 rfl rfl (by rw [Try.results6]) Try.ntmps6 rfl fun E => ?_
 (repeat' (first | exact trivial | (with_reducible first | apply awA | apply awD | apply awF) | ((with_reducible first | apply awn | apply awo | refine awR ?_); intro r hr; simp only [go_sem, Nat.reduceBEq, Nat.reduceLT, Nat.reduceLeDiff, Nat.reduceAdd, Nat.reduceMul, reduceCtorEq] at hr; subst hr; (first | refine caC (h1) rfl ?_ ?_ ?_ | refine caC (h2) rfl ?_ ?_ ?_ | refine caC (h3) rfl ?_ ?_ ?_ | refine caA (fun _ => e1) rfl ?_ ?_ ?_ | refine caA (fun _ => e2) rfl ?_ ?_ ?_ | refine awV ?_ ?_ | refine zR ?_ ?_)))) <;> (try omega)
 all_goals rfl
end
section
open Go.RowKit
def zbX (x : InsM) : Int × Int := if x.op = 1 ∨ x.op = 33 then (1, x.b) else if x.op = 2 ∨ x.op = 34 then (x.b, x.c) else (0, 0)
def zad (e : Bool) (x : InsM) : Int × Int × Int := if x.a < 0 then (0, 0, 0) else ((zbX x).1, (zbX x).2, if e = true then (zbX x).2 else 1)
theorem Zn {e : Bool} {x : InsM} {f : FldM} (h : yF x = some f) : zad e x = (f.n, f.w, if e = true then f.w else 1) := by
 unfold yF at h
 unfold zad zbX
 split at h
 ·cases h
 rename_i ha
 rw [if_neg ha]
 split at h
 ·rename_i q
  injection h with h
  rw [if_pos q, ← h]
 ·rename_i q
  split at h
  ·rename_i q2
   injection h with h
   rw [if_neg q, if_pos q2, ← h]
  ·cases h
theorem Zo {e : Bool} {x : InsM} (h : yF x = none) : zad e x = (0, 0, if x.a < 0 then 0 else if e = true then 0 else 1) := by
 unfold yF at h
 unfold zad zbX
 split at h
 ·rename_i ha
  rw [if_pos ha, if_pos ha]
 ·rename_i ha
  rw [if_neg ha, if_neg ha]
  split at h
  ·cases h
  ·rename_i q
   split at h
   ·cases h
   ·rename_i q2
    rw [if_neg q, if_neg q2]
theorem kz (e : Bool) (C : List InsM) (N : List Int) (x : InsM) : zN Try.prog 27 [pG e C N, .agg (qF x)] (fun r => r = .tup [vI (zad e x).1, vI (zad e x).2.1, vI (zad e x).2.2]) := by
 obtain ⟨op, a, b, c⟩ := x
 unfold zad zbX pG
 dsimp only
 rcases Classical.propComplete (a < 0) with e0 | e0 <;> rcases Classical.propComplete (op = 1) with e1 | e1 <;> rcases Classical.propComplete (op = 33) with e2 | e2 <;> rcases Classical.propComplete (op = 2) with e3 | e3 <;> rcases Classical.propComplete (op = 34) with e4 | e4 <;> cases e
 all_goals
  refine zB (za _) Try.func27 rfl rfl (by rw [Try.results27]) Try.ntmps27 rfl fun E => ?_
  (repeat' (first | exact trivial | (with_reducible first | apply awA | apply awB | apply awC | apply awD | apply awF | apply awG | apply awI | apply awJ) | ((with_reducible first | apply awn | refine awQ ?_ | refine awR ?_); intro r hr; simp only [go_sem, Nat.reduceBEq, Nat.reduceLT, Nat.reduceLeDiff, Nat.reduceAdd, Nat.reduceMul, reduceCtorEq, e0, e1, e2, e3, e4] at hr; subst hr; (first | refine awV ?_ ?_ | refine zR ?_ ?_ | (refine zf (fun h => ?_) (fun h => ?_) <;> (try simp only [go_sem, reduceCtorEq] at h) <;> (try (exfalso; omega))))))) <;> (try omega)
  all_goals first | (simp [e0, e1, e2, e3, e4]; done) | (simp [e0, e1, e2, e3, e4]; rfl) | trace_state
theorem UR {e : Bool} {C : List InsM} {i : Nat} (h : i < C.length) : yE e (C.take (i + 1)) = yE e (C.take i) ++ (ex e (zb C i)).map V2 := by
 unfold yE
 rw [List.take_succ_eq_append_getElem h, List.flatMap_append, List.map_append, zP (List.getElem?_eq_getElem h)]
 simp
theorem kA {e : Bool} {C : List InsM} {N : List Int} (hc : yK e C N = (0, 0)) : ∀ i, i ≤ C.length → (yE e (C.take i)).length ≤ 64 * i
 | 0, _ => by simp [yE]
 | i + 1, h => by
  have h1 := kA hc i (by omega)
  have h2 := UK e (x := zb C i) fun f hf => (xS ((z9 hc).2.1 i (by omega)) hf).1.n.2
  have h3 := UR (e := e) (C := C) (i := i) (by omega)
  rw [h3, List.length_append, List.length_map]
  unfold ex
  omega
theorem US {e : Bool} {u : FldM} (h : FldOK e u) : V2 (u.ins e) = ⟨-1, u.a, u.w, 0⟩ := by
 unfold V2
 rw [xO h]
theorem zbd (e : Bool) (a w : Int) (k : Nat) : FldM.behind e ⟨a, k, w⟩ = a + k * (if e = true then w else 1) := by
 unfold FldM.behind
 cases e
 ·rw [if_neg (by decide), if_neg (by decide)]; dsimp only; omega
 ·rw [if_pos rfl, if_pos rfl]
theorem Jf (e : Bool) (C : List InsM) (N : List Int) (hc : yK e C N = (0, 0)) (hC : C.length ≤ 1048576) :
    yq Try.prog 26 [pG e C N] [] (.ref 38 4 8001 0 (yE e C).length) [(8001, .row 38 4 (zz (yE e C)))] := by
  have hr := (z9 hc).2.1
  have hnum := fun x => kz e C N x
  have hll := kA hc
  unfold pG at *
  refine zW (za _) Try.func26 rfl rfl (by rw [Try.results26]) Try.ntmps26 rfl fun E => ?_
  (repeat' (first | exact trivial | (with_reducible first | apply awA | apply awB | apply awF) | ((with_reducible apply awn); intro r hr; simp only [go_sem, Nat.reduceLT] at hr; subst hr; (first | refine awV ?_ ?_)))) <;> (try omega)
  refine x4 3 38 4 8001 (.inl (by decide)) (by simp only [go_sem, Nat.reduceBEq]) ?_
  (repeat' (first | exact trivial | (with_reducible first | apply awA | apply awB | apply awC | apply awD | apply awE | apply awF | apply awG | apply awH | apply awI | apply awJ | apply awK | apply awL | refine awM (by decide) ?_) | ((with_reducible first | apply awn | apply awo | apply awp | refine awQ ?_ | refine awR ?_ | refine awS ?_ | refine awT ?_ | refine awU ?_); intro r hr; simp only [go_sem, Nat.reduceBEq, Nat.reduceBneDiff, Nat.reduceLT, Nat.reduceLeDiff, Nat.reduceAdd, Nat.reduceMul, Nat.reduceSub, Nat.reduceEqDiff, reduceCtorEq, AState.nilrow, Int.cast_ofNat_Int, Int.reduceToNat, Int.reduceEq, Int.reduceLT, Int.reduceLE, Int.reduceNe] at hr; subst hr; (first | refine awV ?_ ?_ | refine awW ?_ ?_ | refine zR ?_ ?_ | refine yl ?_ ?_ ?_ | (refine zf (fun h => ?_) (fun h => ?_) <;> (try simp only [go_sem, reduceCtorEq] at h) <;> (try (exfalso; omega))))))) <;> (try omega)
  refine zC [1, 2, 3, 4] [1, 8001] (fun i : Nat => ⟨[(1, true, .ptr 1 1 0 0), (2, true, .v (.slice none 0 0)), (3, true, .ref 38 4 8001 0 (yE e (C.take i)).length), (4, true, vI i)], [(1, .var [vB e, .lst 4 (zz C), .lst 1 (v8 N)]), (8001, .row 38 4 (zz (yE e (C.take i))))]⟩)
    (fun i => i ≤ C.length) (fun i => C.length - i) 0 (by simp only [go_sem] <;> exact rfl) (Nat.zero_le _) ?_
  intro i hi
  have hwi := zg (n := (i : Int) + 1) (by omega)
  have zi : ((i : Int)).toNat = i := by omega
  have hl := hll i hi
  by_cases hlt : i < C.length
  · have e1 : ((i : Int) < (C.length : Int)) = True := eq_true (by omega)
    have gC := yw hlt
    have hfo := fun f => xS (f := f) (hr i hlt)
    have hss := UR (e := e) hlt
    have hl2 := hll (i + 1) (by omega)
    have hn := hnum (zb C i)
    obtain ⟨x, hx⟩ : ∃ x, zb C i = x := ⟨_, rfl⟩
    rw [hx] at gC hfo hss hn
    have cx : AV.agg (qF x) = .agg [vI x.op, vI x.a, vI x.b, vI x.c] := rfl
    rw [cx] at hn
    have tP : ∀ X : List InsM, (zz X).take X.length = zz X := fun X => List.take_of_length_le (by rw [zd]; exact Nat.le_refl _)
    clear hnum cx hll
    cases hfx : yF x with
    | none =>
      rw [Zo hfx] at hn
      dsimp only at hn
      generalize (if x.a < 0 then (0 : Int) else if e = true then 0 else 1) = st at hn
      rw [Zz hfx] at hss
      have e0 : ((0 : Int) < 0) = False := by simp
      have e00 : ((0 : Int) > 0) = False := by simp
      by_cases ht : tgF x.op = true
      · have hz : V2 x = ⟨x.op, x.a, 0, x.c⟩ := by unfold V2; rw [hfx]; dsimp only; rw [if_pos ht]
        have hap := wc (yE e (C.take i)) x.op x.a 0 x.c
        have hs2 : yE e (C.take (i + 1)) = yE e (C.take i) ++ [⟨x.op, x.a, 0, x.c⟩] := by rw [hss, List.map_singleton, hz]
        rw [← hs2] at hap
        have ll : (yE e (C.take (i + 1))).length = (yE e (C.take i)).length + 1 := by rw [hs2, List.length_append]; rfl
        clear hss hz hs2
        obtain ⟨op, a, b, c⟩ := x
        dsimp only at *
        rcases Ye ht with rfl | rfl | rfl | rfl | rfl | rfl | rfl | rfl | rfl | rfl
        all_goals
          (repeat' (first | exact trivial | (with_reducible first | apply awA | apply awB | apply awC | apply awF) | ((with_reducible first | apply awn | apply awo | refine awQ ?_); intro r hr; simp only [go_sem, Nat.reduceBEq, Nat.reduceLT, Nat.reduceLeDiff, Nat.reduceAdd, Nat.reduceMul, e1, zi, gC, zd] at hr; subst hr; (first | refine caA (fun _ => hn) rfl ?_ ?_ ?_ | refine awV ?_ ?_ | (refine zf (fun h => ?_) (fun h => ?_) <;> (try simp only [go_sem, reduceCtorEq] at h) <;> (try (exfalso; omega))))))) <;> (try omega)
          refine zC [1, 2, 3, 4, 5, 6, 7, 8, 9] [1, 5, 8001] (fun _ : Unit => ⟨[(1, true, .ptr 1 1 0 0), (2, true, .v (.slice none 0 0)), (3, true, .ref 38 4 8001 0 (yE e (C.take i)).length), (4, true, vI i), (5, true, .ptr 1 5 0 0), (6, true, vI 0), (7, true, vI 0), (8, true, vI st), (9, true, vI 0)], [(1, .var [vB e, .lst 4 (zz C), .lst 1 (v8 N)]), (5, .var [vI _, vI a, vI b, vI c]), (8001, .row 38 4 (zz (yE e (C.take i))))]⟩)
            (fun _ => True) (fun _ => 0) () (by simp only [go_sem, Nat.reduceBEq] <;> exact rfl) trivial ?_
          intro _ _
          (repeat' (first | exact trivial | (with_reducible first | apply awA | apply awB | apply awC | apply awE | apply awF | apply awH | apply awI | apply awK) | ((with_reducible first | apply awn | refine awQ ?_); intro r hr; simp only [go_sem, Nat.reduceBEq, Nat.reduceLT, Nat.reduceLeDiff, Nat.reduceAdd, Nat.reduceMul, e0, hwi, tP, hap, ll, zd, Int.reduceEq] at hr; subst hr; (first | refine awV ?_ ?_ | (refine zf (fun h => ?_) (fun h => ?_) <;> (try simp only [go_sem, reduceCtorEq] at h) <;> (try (exfalso; omega))))))) <;> (try omega)
          all_goals
            refine ⟨i + 1, ?_, hlt, by omega⟩
            simp only [ll, go_sem, Nat.reduceBEq]
            try exact rfl
      · have hz : V2 x = ⟨x.op, x.a, x.b, x.c⟩ := by unfold V2; rw [hfx]; dsimp only; rw [if_neg ht]
        have hap := wc (yE e (C.take i)) x.op x.a x.b x.c
        have hs2 : yE e (C.take (i + 1)) = yE e (C.take i) ++ [⟨x.op, x.a, x.b, x.c⟩] := by rw [hss, List.map_singleton, hz]
        rw [← hs2] at hap
        have ll : (yE e (C.take (i + 1))).length = (yE e (C.take i)).length + 1 := by rw [hs2, List.length_append]; rfl
        have nt : ∀ v : Int, tgF v = true → (x.op = v) = False := fun v hv => eq_false fun q => ht (by rw [q]; exact hv)
        have n1 := nt 7 rfl
        have n2 := nt 9 rfl
        have n3 := nt 11 rfl
        have n4 := nt 12 rfl
        have n5 := nt 13 rfl
        have n6 := nt 14 rfl
        have n7 := nt 15 rfl
        have n8 := nt 19 rfl
        have n9 := nt 40 rfl
        have n10 := nt 47 rfl
        clear hss hz hs2 nt
        (repeat' (first | exact trivial | (with_reducible first | apply awA | apply awB | apply awC | apply awF) | ((with_reducible first | apply awn | apply awo | refine awQ ?_); intro r hr; simp only [go_sem, Nat.reduceBEq, Nat.reduceLT, Nat.reduceLeDiff, Nat.reduceAdd, Nat.reduceMul, e1, zi, gC, zd] at hr; subst hr; (first | refine caA (fun _ => hn) rfl ?_ ?_ ?_ | refine awV ?_ ?_ | (refine zf (fun h => ?_) (fun h => ?_) <;> (try simp only [go_sem, reduceCtorEq] at h) <;> (try (exfalso; omega))))))) <;> (try omega)
        refine zC [1, 2, 3, 4, 5, 6, 7, 8, 9] [1, 5, 8001] (fun _ : Unit => ⟨[(1, true, .ptr 1 1 0 0), (2, true, .v (.slice none 0 0)), (3, true, .ref 38 4 8001 0 (yE e (C.take i)).length), (4, true, vI i), (5, true, .ptr 1 5 0 0), (6, true, vI 0), (7, true, vI 0), (8, true, vI st), (9, true, vI 0)], [(1, .var [vB e, .lst 4 (zz C), .lst 1 (v8 N)]), (5, .var [vI x.op, vI x.a, vI x.b, vI x.c]), (8001, .row 38 4 (zz (yE e (C.take i))))]⟩)
          (fun _ => True) (fun _ => 0) () (by simp only [go_sem, Nat.reduceBEq] <;> exact rfl) trivial ?_
        intro _ _
        (repeat' (first | exact trivial | (with_reducible first | apply awA | apply awB | apply awC | apply awE | apply awF | apply awH | apply awI | apply awK) | ((with_reducible first | apply awn | refine awQ ?_); intro r hr; simp only [go_sem, Nat.reduceBEq, Nat.reduceLT, Nat.reduceLeDiff, Nat.reduceAdd, Nat.reduceMul, e0, n1, n2, n3, n4, n5, n6, n7, n8, n9, n10, hwi, tP, hap, ll, zd] at hr; subst hr; (first | refine awV ?_ ?_ | (refine zf (fun h => ?_) (fun h => ?_) <;> (try simp only [go_sem, reduceCtorEq] at h) <;> (try (exfalso; omega))))))) <;> (try omega)
        all_goals
          refine ⟨i + 1, ?_, hlt, by omega⟩
          simp only [ll, go_sem, Nat.reduceBEq]
          try exact rfl
    | some f =>
      rw [Zn hfx] at hn
      obtain ⟨fo, fi⟩ := hfo f hfx
      have fn := fo.n
      have xa : x.a = f.a := by rw [fi]; exact UV
      dsimp only at hn
      rw [xa] at hn gC
      obtain ⟨n, hn2⟩ : ∃ n : Nat, f.n = n := ⟨f.n.toNat, by omega⟩
      have hex : ex e x = (yd e f.a f.w n).map (·.ins e) := by
        rw [fi, kK fo]
        show (yd e f.a f.w f.n.toNat).map _ = _
        rw [hn2, Int.toNat_natCast]
      have hgood : ∀ u ∈ yd e f.a f.w n, FldOK e u := fun u hu => (Xr fo (by show u ∈ yd e f.a f.w f.n.toNat; rw [hn2, Int.toNat_natCast]; exact hu)).1
      have hex2 : (ex e x).map V2 = (yd e f.a f.w n).map (fun u => ⟨-1, u.a, u.w, 0⟩) := by
        rw [hex, List.map_map]
        exact List.map_congr_left fun u hu => US (hgood u hu)
      rw [hex2] at hss
      have hbd : ∀ k : Nat, k < n → 0 ≤ (k : Int) * (if e = true then f.w else 1) ∧ (k : Int) * (if e = true then f.w else 1) ≤ 1000 ∧ 0 ≤ f.a ∧ f.a ≤ 20000000 := fun k hk => by
        have h1 := Yl fo.w (n := (k : Int)) (by omega)
        have h2 := fo.a
        cases e
        · have := fo.d rfl
          rw [if_neg (by decide)]; omega
        · have := fo.e1 rfl
          rw [if_pos rfl]; omega
      have hua := zbd e f.a f.w
      rw [hn2] at hn fn
      generalize (if e = true then f.w else 1) = st at hn hbd hua
      (repeat' (first | exact trivial | (with_reducible first | apply awA | apply awB | apply awC | apply awF) | ((with_reducible first | apply awn | apply awo | refine awQ ?_); intro r hr; simp only [go_sem, Nat.reduceBEq, Nat.reduceLT, Nat.reduceLeDiff, Nat.reduceAdd, Nat.reduceMul, e1, zi, gC, zd] at hr; subst hr; (first | refine caA (fun _ => hn) rfl ?_ ?_ ?_ | refine awV ?_ ?_ | (refine zf (fun h => ?_) (fun h => ?_) <;> (try simp only [go_sem, reduceCtorEq] at h) <;> (try (exfalso; omega))))))) <;> (try omega)
      refine zC [1, 2, 3, 4, 5, 6, 7, 8, 9] [1, 5, 8001] (fun k : Nat => ⟨[(1, true, .ptr 1 1 0 0), (2, true, .v (.slice none 0 0)), (3, true, .ref 38 4 8001 0 ((yE e (C.take i)).length + k)), (4, true, vI i), (5, true, .ptr 1 5 0 0), (6, true, vI n), (7, true, vI f.w), (8, true, vI st), (9, true, vI k)], [(1, .var [vB e, .lst 4 (zz C), .lst 1 (v8 N)]), (5, .var [vI x.op, vI f.a, vI x.b, vI x.c]), (8001, .row 38 4 (zz (yE e (C.take i) ++ (yd e f.a f.w k).map (fun u => (⟨-1, u.a, u.w, 0⟩ : InsM)))))]⟩)
        (fun k => k ≤ n) (fun k => n - k) 0 (by simp only [Nat.add_zero, yd, List.map_nil, List.append_nil, go_sem, Nat.reduceBEq] <;> exact rfl) (Nat.zero_le _) ?_
      intro k hk
      have hwk := zg (n := (k : Int) + 1) (by omega)
      have lk : (yE e (C.take i) ++ (yd e f.a f.w k).map (fun u => (⟨-1, u.a, u.w, 0⟩ : InsM))).length = (yE e (C.take i)).length + k := by rw [List.length_append, List.length_map, uI]
      by_cases hlk : k < n
      · have e3 : ((k : Int) < (n : Int)) = True := eq_true (by omega)
        have hb := hbd k hlk
        have w1 := zg (n := (k : Int) * st) (by omega)
        have w2 := zg (n := f.a + (k : Int) * st) (by omega)
        have hus := ky e f.w k f.a
        rw [hua k] at hus
        have hap := wc (yE e (C.take i) ++ (yd e f.a f.w k).map (fun u => (⟨-1, u.a, u.w, 0⟩ : InsM))) (-1) (f.a + (k : Int) * st) f.w 0
        have hnx : yE e (C.take i) ++ (yd e f.a f.w (k + 1)).map (fun u => (⟨-1, u.a, u.w, 0⟩ : InsM)) = (yE e (C.take i) ++ (yd e f.a f.w k).map (fun u => (⟨-1, u.a, u.w, 0⟩ : InsM))) ++ [⟨-1, f.a + (k : Int) * st, f.w, 0⟩] := by rw [hus, List.map_append, List.append_assoc]; rfl
        rw [← hnx] at hap
        have tQ := tP (yE e (C.take i) ++ (yd e f.a f.w k).map (fun u => (⟨-1, u.a, u.w, 0⟩ : InsM)))
        rw [lk] at tQ
        have lk1 : (yE e (C.take i) ++ (yd e f.a f.w (k + 1)).map (fun u => (⟨-1, u.a, u.w, 0⟩ : InsM))).length = (yE e (C.take i)).length + k + 1 := by rw [hnx, List.length_append, lk]; rfl
        clear hnx hus
        obtain ⟨Y, hY⟩ : ∃ Y, yE e (C.take i) ++ (yd e f.a f.w (k + 1)).map (fun u => (⟨-1, u.a, u.w, 0⟩ : InsM)) = Y := ⟨_, rfl⟩
        rw [hY] at hap lk1
        generalize yE e (C.take i) ++ (yd e f.a f.w k).map (fun u => (⟨-1, u.a, u.w, 0⟩ : InsM)) = X at *
        (repeat' (first | exact trivial | (with_reducible first | apply awA | apply awB | apply awC | apply awF | apply awI) | ((with_reducible first | apply awn | refine awQ ?_); intro r hr; simp only [go_sem, Nat.reduceBEq, Nat.reduceLT, Nat.reduceLeDiff, Nat.reduceAdd, Nat.reduceMul, e3, hwk, w1, w2, tQ, hap, lk, zd] at hr; subst hr; (first | refine awV ?_ ?_ | (refine zf (fun h => ?_) (fun h => ?_) <;> (try simp only [go_sem, reduceCtorEq] at h) <;> (try (exfalso; omega))))))) <;> (try omega)
        all_goals first
          | omega
          | (refine ⟨k + 1, ?_, hlk, by omega⟩
             simp only [hY, lk1, go_sem, Nat.reduceBEq]
             try exact rfl)
      · have e3 : ((k : Int) < (n : Int)) = False := eq_false (by omega)
        obtain rfl : k = n := by omega
        rw [← hss] at lk ⊢
        have e4 : ((k : Int) > 0) = True := eq_true (by omega)
        (repeat' (first | exact trivial | (with_reducible first | apply awA | apply awE | apply awF | apply awH | apply awK) | ((with_reducible first | apply awn | refine awQ ?_); intro r hr; simp only [go_sem, Nat.reduceBEq, Nat.reduceLT, e3, e4, hwi] at hr; subst hr; (first | refine awV ?_ ?_ | (refine zf (fun h => ?_) (fun h => ?_) <;> (try simp only [go_sem, reduceCtorEq] at h) <;> (try (exfalso; omega))))))) <;> (try omega)
        all_goals
          refine ⟨i + 1, ?_, hlt, by omega⟩
          rw [lk]
          simp only [go_sem, Nat.reduceBEq]
          try exact rfl
  · have e1 : ((i : Int) < (C.length : Int)) = False := eq_false (by omega)
    obtain rfl : i = C.length := by omega
    rw [List.take_length] at *
    (repeat' (first | exact trivial | (with_reducible first | apply awA | apply awD | apply awE | apply awF | apply awH | apply awK) | ((with_reducible first | apply awn | refine awQ ?_ | refine awT ?_); intro r hr; simp only [go_sem, Nat.reduceBEq, Nat.reduceLT, Nat.reduceLeDiff, Nat.reduceAdd, Nat.reduceMul, e1, zd] at hr; subst hr; (first | refine awV ?_ ?_ | refine yl ?_ ?_ ?_ | (refine zf (fun h => ?_) (fun h => ?_) <;> (try simp only [go_sem, reduceCtorEq] at h) <;> (try (exfalso; omega))))))) <;> (try omega)
    all_goals first | exact AV.up_rfl _ | exact AV.up_nil2 _ _ | exact AV.up_dead _ | (repeat first | exact zo | refine zh rfl ?_) | trace_state
theorem jG (e : Bool) (C : List InsM) (N : List Int) (hc : yK e C N = (0, 0)) : zN Try.prog 26 [pG e C N] (fun r => r = .lst 4 (zz (yE e C))) := by
 refine ((Jf e C N hc (z9 hc).1.1).toP (by simp [AV.snapOK, lk, zd])).mono fun r hr => hr.trans ?_
 have e1 : (zz (yE e C)).take (yE e C).length = zz (yE e C) := List.take_of_length_le (by rw [zd]; exact Nat.le_refl _)
 simp only [AV.snap, lk, Nat.zero_add, List.drop_zero, Nat.reduceBEq, cond_true, e1]
theorem jH (e : Bool) (C : List InsM) (N : List Int) (C' : List InsM) (N' : List Int) (hc : yK e C N = (0, 0)) (hc' : yK e C' N' = (0, 0)) (h : yE e C' = yE e C) : zN Try.prog 12 [pG e C N, pG e C' N'] (fun r => r = vB true) := by
 have h1 := jG e C N hc
 have h2 := jG e C' N' hc'
 have hl := kA hc C.length (Nat.le_refl _)
 have hC := (z9 hc).1.1
 rw [List.take_length] at hl
 rw [h] at h2
 generalize yE e C = L at *
 unfold pG at *
 refine zB (za _) Try.func12 rfl rfl (by rw [Try.results12]) Try.ntmps12 rfl fun E => ?_
 (repeat' (first | exact trivial | (with_reducible first | apply awA | apply awB | apply awC | apply awF) | ((with_reducible first | apply awn | apply awo | refine awQ ?_); intro r hr; simp only [go_sem, Nat.reduceBEq, Nat.reduceLT, Nat.reduceLeDiff, Nat.reduceAdd, Nat.reduceMul, zd] at hr; subst hr; (first | refine caC (h1) rfl ?_ ?_ ?_ | refine caC (h2) rfl ?_ ?_ ?_ | refine awV ?_ ?_ | (refine zf (fun h => ?_) (fun h => ?_) <;> (try simp only [go_sem, reduceCtorEq] at h) <;> (try (exfalso; omega))))))) <;> (try omega)
 refine zC [5, 6, 7] [] (fun k : Nat => ⟨[(5, true, .lst 4 (zz L)), (6, true, .lst 4 (zz L)), (7, true, vI k)], []⟩) (fun k => k ≤ L.length) (fun k => L.length - k) 0 (by simp only [go_sem, Nat.reduceBEq] <;> exact rfl) (Nat.zero_le _) ?_
 intro k hk
 have hw := zg (n := (k : Int) + 1) (by omega)
 by_cases hlt : k < L.length
 ·have e1 : ((k : Int) < L.length) = True := eq_true (by omega)
  have g1 := kZ hlt
  have zk : ((k : Int)).toNat = k := by omega
  (repeat' (first | exact trivial | (with_reducible first | apply awA | apply awB | apply awC | apply awF | apply awI) | (refine zn (id := 8) (t := (.node [0, 1, 2, 3, 4, 5, 6, 7, 8] [])) (drR [] [26, 30] []) zD (by kernel_rfl) (by kernel_rfl) (fun _ _ h => h) ?_) | (refine zx (by simp only [go_sem]; exact rfl) ?_) | (refine zA (by simp only [go_sem]; exact rfl) ?_) | refine ze ?_ | refine zl ?_ ?_ | exact zy | ((with_reducible first | apply awn | apply awp | refine awQ ?_); intro r hr; simp only [go_sem, Nat.reduceBEq, Nat.reduceLT, Nat.reduceLeDiff, Nat.reduceAdd, reduceCtorEq, zd, hw, e1, g1, zk] at hr; subst hr; (first | refine awV ?_ ?_ | (refine zf (fun h => ?_) (fun h => ?_) <;> (try simp only [go_sem, reduceCtorEq] at h) <;> (try (exfalso; omega))))))) <;> (try omega)
  all_goals exact ⟨k + 1, by simp only [go_sem, Nat.reduceBEq] <;> exact rfl, hlt, by omega⟩
 ·have e1 : ((k : Int) < L.length) = False := eq_false (by omega)
  (repeat' (first | exact trivial | (with_reducible first | apply awA | apply awD | apply awE | apply awF | apply awH | apply awK) | ((with_reducible first | apply awn | refine awQ ?_ | refine awR ?_); intro r hr; simp only [go_sem, Nat.reduceBEq, Nat.reduceLT, zd, e1] at hr; subst hr; (first | refine awV ?_ ?_ | refine zR ?_ ?_ | (refine zf (fun h => ?_) (fun h => ?_) <;> (try simp only [go_sem, reduceCtorEq] at h) <;> (try (exfalso; omega))))))) <;> (try omega)
  all_goals exact rfl
end
end Go.Proofs.Ytfjajlcjifnceaa

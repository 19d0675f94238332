import Derived.Test.YtljfgohecmhchaaP10
set_option linter.all false
section
namespace Go.Proofs.Ytljfgohecmhchaa
open Go.RowKit
set_option maxRecDepth 100000
set_option maxHeartbeats 8000000
/-! LowerApart. -/
/-- instructions full of marks -/
def mkI (z : Int) (n : Nat) : List InsM := (List.range n).map fun (i : Nat) => ⟨z, (i : Int), 0, 0⟩
theorem mkI_len (z : Int) (n : Nat) : (mkI z n).length = n := by simp [mkI]
def putI (z : Int) (C : List InsM) (i : Nat) : List InsM := mkI z i ++ C.drop i
def putN (z : Int) (N : List Int) (i : Nat) : List Int := List.replicate i z ++ N.drop i
theorem putI_len (z : Int) (C : List InsM) {i : Nat} (h : i ≤ C.length) : (putI z C i).length = C.length := by simp [putI, mkI_len]; omega
theorem putN_len (z : Int) (N : List Int) {i : Nat} (h : i ≤ N.length) : (putN z N i).length = N.length := by simp [putN]; omega
theorem putI_get (z : Int) (C : List InsM) {i : Nat} (h : i < C.length) : (encIs (putI z C i))[i]? = some [vI C[i].op, vI C[i].a, vI C[i].b, vI C[i].c] := by
  have hl : i < (putI z C i).length := by rw [putI_len z C (by omega)]; exact h
  rw [encIs_get hl]
  have : (putI z C i)[i] = C[i] := by
    simp [putI, List.getElem_append, mkI_len]
  rw [this]
theorem putI_set (z : Int) (C : List InsM) {i : Nat} (h : i < C.length) : (encIs (putI z C i)).set i [vI z, vI i, vI 0, vI 0] = encIs (putI z C (i + 1)) := by
  have h1 : (putI z C i).set i ⟨z, i, 0, 0⟩ = putI z C (i + 1) := by
    rw [putI, putI, List.set_append_right _ _ (by rw [mkI_len]; exact Nat.le_refl _), mkI_len, Nat.sub_self, List.drop_eq_getElem_cons h, List.set_cons_zero, mkI, mkI, List.range_succ, List.map_append, List.append_assoc]
    rfl
  rw [← h1, encIs, encIs, List.map_set]
  rfl
theorem putN_get (z : Int) (N : List Int) {i : Nat} (h : i < N.length) : (v8 (putN z N i))[i]? = some [vI N[i]] := by
  have hl : i < (putN z N i).length := by rw [putN_len z N (by omega)]; exact h
  rw [v8_get hl]
  have : (putN z N i)[i] = N[i] := by
    simp [putN, List.getElem_append]
  rw [this]
theorem putN_set (z : Int) (N : List Int) {i : Nat} (h : i < N.length) : (v8 (putN z N i)).set i [vI z] = v8 (putN z N (i + 1)) := by
  have h1 : (putN z N i).set i z = putN z N (i + 1) := by
    rw [putN, putN, List.set_append_right _ _ (by simp), List.length_replicate, Nat.sub_self, List.drop_eq_getElem_cons h, List.set_cons_zero, List.replicate_succ', List.append_assoc]
    rfl
  rw [← h1, v8, v8, List.map_set]
/-- numbers that are marks -/
def mkN (z : Int) (n : Nat) : List Int := List.replicate n z
theorem mkN_len (z : Int) (n : Nat) : (mkN z n).length = n := by simp [mkN]
theorem mkI_next (z : Int) (n : Nat) : encIs (mkI z n) ++ [[vI z, vI n, vI 0, vI 0]] = encIs (mkI z (n + 1)) := by
  rw [mkI, mkI, List.range_succ, List.map_append, encIs, encIs, List.map_append]
  rfl
theorem rep_next (z : Int) (n : Nat) : v8 (mkN z n) ++ [[vI z]] = v8 (mkN z (n + 1)) := by
  rw [mkN, mkN, List.replicate_succ', v8, v8, List.map_append]
  rfl
theorem mkI_get (z : Int) {n i : Nat} (h : i < n) : (encIs (mkI z n))[i]? = some [vI z, vI i, vI 0, vI 0] := by
  have hl : i < (mkI z n).length := by rw [mkI_len]; exact h
  rw [encIs_get hl]
  simp [mkI]
theorem rep_get (z : Int) {n i : Nat} (h : i < n) : (v8 (mkN z n))[i]? = some [vI z] := by
  have hl : i < (mkN z n).length := by rw [mkN_len]; exact h
  rw [v8_get hl]
  simp [mkN]
theorem putI_zero (z : Int) (C : List InsM) : putI z C 0 = C := by simp [putI, mkI]
theorem putN_zero (z : Int) (N : List Int) : putN z N 0 = N := by simp [putN]
theorem putI_full (z : Int) (C : List InsM) : putI z C C.length = mkI z C.length := by simp [putI]
theorem putN_full (z : Int) (N : List Int) : putN z N N.length = mkN z N.length := by simp [putN, mkN]

/-- while the three programs are asked for -/
def apS0 (S : List TypeM) (R : List RootM) (C : List InsM) (N : List Int) : Nat → AState
  | 0 => ⟨[(1, true, .ptr 1 1 0 0), (3, true, .ptr 1 3 0 0), (5, true, nil9), (6, true, vI 0)], [(1, .var [.lst 4 (encTs S), .lst 2 (encRs R)]), (3, .var [.v (.bool false), .lst 4 (encIs C), .lst 1 (v8 N)])]⟩
  | 1 => ⟨[(1, true, .ptr 1 1 0 0), (3, true, .ptr 1 3 0 0), (5, true, .ref 31 3 45 0 1), (6, true, vI 1)], [(1, .var [.lst 4 (encTs S), .lst 2 (encRs R)]), (3, .var [.v (.bool false), .lst 4 (encIs C), .lst 1 (v8 N)]), (45, .var [.v (.bool false), .ref 40 4 9000 0 C.length, .ref 3 1 9001 0 N.length]), (9000, .row 40 4 (encIs (C))), (9001, .row 3 1 (v8 (N)))]⟩
  | 2 => ⟨[(1, true, .ptr 1 1 0 0), (3, true, .ptr 1 3 0 0), (5, true, .ref 31 3 45 0 2), (6, true, vI 2)], [(1, .var [.lst 4 (encTs S), .lst 2 (encRs R)]), (3, .var [.v (.bool false), .lst 4 (encIs C), .lst 1 (v8 N)]), (45, .var [.v (.bool false), .ref 40 4 9000 0 C.length, .ref 3 1 9001 0 N.length, .v (.bool false), .ref 40 4 9002 0 C.length, .ref 3 1 9003 0 N.length]), (9000, .row 40 4 (encIs (C))), (9001, .row 3 1 (v8 (N))), (9002, .row 40 4 (encIs (C))), (9003, .row 3 1 (v8 (N)))]⟩
  | _ => ⟨[(1, true, .ptr 1 1 0 0), (3, true, .ptr 1 3 0 0), (5, true, .ref 31 3 45 0 3), (6, true, vI 3)], [(1, .var [.lst 4 (encTs S), .lst 2 (encRs R)]), (3, .var [.v (.bool false), .lst 4 (encIs C), .lst 1 (v8 N)]), (45, .var [.v (.bool false), .ref 40 4 9000 0 C.length, .ref 3 1 9001 0 N.length, .v (.bool false), .ref 40 4 9002 0 C.length, .ref 3 1 9003 0 N.length, .v (.bool false), .ref 40 4 9004 0 C.length, .ref 3 1 9005 0 N.length]), (9000, .row 40 4 (encIs (C))), (9001, .row 3 1 (v8 (N))), (9002, .row 40 4 (encIs (C))), (9003, .row 3 1 (v8 (N))), (9004, .row 40 4 (encIs (C))), (9005, .row 3 1 (v8 (N)))]⟩
/-- while they are compared -/
def apS2 (S : List TypeM) (R : List RootM) (C : List InsM) (N : List Int) : Nat → AState
  | 0 => ⟨[(1, true, .ptr 1 1 0 0), (3, true, .ptr 1 3 0 0), (5, true, .ref 31 3 45 0 3), (9, true, vI 0)], [(1, .var [.lst 4 (encTs S), .lst 2 (encRs R)]), (3, .var [.v (.bool false), .lst 4 (encIs C), .lst 1 (v8 N)]), (45, .var [.v (.bool false), .ref 40 4 9000 0 C.length, .ref 3 1 9001 0 N.length, .v (.bool false), .ref 40 4 9002 0 C.length, .ref 3 1 9003 0 N.length, .v (.bool false), .ref 40 4 9004 0 C.length, .ref 3 1 9005 0 N.length]), (9000, .row 40 4 (encIs (C))), (9001, .row 3 1 (v8 (N))), (9002, .row 40 4 (encIs (C))), (9003, .row 3 1 (v8 (N))), (9004, .row 40 4 (encIs (C))), (9005, .row 3 1 (v8 (N)))]⟩
  | 1 => ⟨[(1, true, .ptr 1 1 0 0), (3, true, .ptr 1 3 0 0), (5, true, .ref 31 3 45 0 3), (9, true, vI 1)], [(1, .var [.lst 4 (encTs S), .lst 2 (encRs R)]), (3, .var [.v (.bool false), .lst 4 (encIs C), .lst 1 (v8 N)]), (45, .var [.v (.bool false), .ref 40 4 9000 0 C.length, .ref 3 1 9001 0 N.length, .v (.bool false), .ref 40 4 9002 0 C.length, .ref 3 1 9003 0 N.length, .v (.bool false), .ref 40 4 9004 0 C.length, .ref 3 1 9005 0 N.length]), (9000, .row 40 4 (encIs (C))), (9001, .row 3 1 (v8 (N))), (9002, .row 40 4 (encIs (C))), (9003, .row 3 1 (v8 (N))), (9004, .row 40 4 (encIs (C))), (9005, .row 3 1 (v8 (N)))]⟩
  | 2 => ⟨[(1, true, .ptr 1 1 0 0), (3, true, .ptr 1 3 0 0), (5, true, .ref 31 3 45 0 3), (9, true, vI 2)], [(1, .var [.lst 4 (encTs S), .lst 2 (encRs R)]), (3, .var [.v (.bool false), .lst 4 (encIs C), .lst 1 (v8 N)]), (45, .var [.v (.bool false), .ref 40 4 9000 0 C.length, .ref 3 1 9001 0 N.length, .v (.bool false), .ref 40 4 9002 0 C.length, .ref 3 1 9003 0 N.length, .v (.bool false), .ref 40 4 9004 0 C.length, .ref 3 1 9005 0 N.length]), (9000, .row 40 4 (encIs (C))), (9001, .row 3 1 (v8 (N))), (9002, .row 40 4 (encIs (C))), (9003, .row 3 1 (v8 (N))), (9004, .row 40 4 (encIs (C))), (9005, .row 3 1 (v8 (N)))]⟩
  | _ => ⟨[(1, true, .ptr 1 1 0 0), (3, true, .ptr 1 3 0 0), (5, true, .ref 31 3 45 0 3), (9, true, vI 3)], [(1, .var [.lst 4 (encTs S), .lst 2 (encRs R)]), (3, .var [.v (.bool false), .lst 4 (encIs C), .lst 1 (v8 N)]), (45, .var [.v (.bool false), .ref 40 4 9000 0 C.length, .ref 3 1 9001 0 N.length, .v (.bool false), .ref 40 4 9002 0 C.length, .ref 3 1 9003 0 N.length, .v (.bool false), .ref 40 4 9004 0 C.length, .ref 3 1 9005 0 N.length]), (9000, .row 40 4 (encIs (C))), (9001, .row 3 1 (v8 (N))), (9002, .row 40 4 (encIs (C))), (9003, .row 3 1 (v8 (N))), (9004, .row 40 4 (encIs (C))), (9005, .row 3 1 (v8 (N)))]⟩
/-- while they are written over -/
def apS4 (S : List TypeM) (R : List RootM) (C : List InsM) (N : List Int) : Nat → AState
  | 0 => ⟨[(1, true, .ptr 1 1 0 0), (3, true, .ptr 1 3 0 0), (5, true, .ref 31 3 45 0 3), (10, true, nil9), (11, true, nil9), (12, true, vI 0)], [(1, .var [.lst 4 (encTs S), .lst 2 (encRs R)]), (3, .var [.v (.bool false), .lst 4 (encIs C), .lst 1 (v8 N)]), (45, .var [.v (.bool false), .ref 40 4 9000 0 C.length, .ref 3 1 9001 0 N.length, .v (.bool false), .ref 40 4 9002 0 C.length, .ref 3 1 9003 0 N.length, .v (.bool false), .ref 40 4 9004 0 C.length, .ref 3 1 9005 0 N.length]), (9000, .row 40 4 (encIs (C))), (9001, .row 3 1 (v8 (N))), (9002, .row 40 4 (encIs (C))), (9003, .row 3 1 (v8 (N))), (9004, .row 40 4 (encIs (C))), (9005, .row 3 1 (v8 (N)))]⟩
  | 1 => ⟨[(1, true, .ptr 1 1 0 0), (3, true, .ptr 1 3 0 0), (5, true, .ref 31 3 45 0 3), (10, true, nil9), (11, true, nil9), (12, true, vI 1)], [(1, .var [.lst 4 (encTs S), .lst 2 (encRs R)]), (3, .var [.v (.bool false), .lst 4 (encIs C), .lst 1 (v8 N)]), (45, .var [.v (.bool false), .ref 40 4 9000 0 C.length, .ref 3 1 9001 0 N.length, .v (.bool false), .ref 40 4 9002 0 C.length, .ref 3 1 9003 0 N.length, .v (.bool false), .ref 40 4 9004 0 C.length, .ref 3 1 9005 0 N.length]), (9000, .row 40 4 (encIs (mkI (-1) C.length))), (9001, .row 3 1 (v8 (mkN (-1) N.length))), (9002, .row 40 4 (encIs (C))), (9003, .row 3 1 (v8 (N))), (9004, .row 40 4 (encIs (C))), (9005, .row 3 1 (v8 (N)))]⟩
  | 2 => ⟨[(1, true, .ptr 1 1 0 0), (3, true, .ptr 1 3 0 0), (5, true, .ref 31 3 45 0 3), (10, true, nil9), (11, true, nil9), (12, true, vI 2)], [(1, .var [.lst 4 (encTs S), .lst 2 (encRs R)]), (3, .var [.v (.bool false), .lst 4 (encIs C), .lst 1 (v8 N)]), (45, .var [.v (.bool false), .ref 40 4 9000 0 C.length, .ref 3 1 9001 0 N.length, .v (.bool false), .ref 40 4 9002 0 C.length, .ref 3 1 9003 0 N.length, .v (.bool false), .ref 40 4 9004 0 C.length, .ref 3 1 9005 0 N.length]), (9000, .row 40 4 (encIs (mkI (-1) C.length))), (9001, .row 3 1 (v8 (mkN (-1) N.length))), (9002, .row 40 4 (encIs (mkI (-2) C.length))), (9003, .row 3 1 (v8 (mkN (-2) N.length))), (9004, .row 40 4 (encIs (C))), (9005, .row 3 1 (v8 (N)))]⟩
  | _ => ⟨[(1, true, .ptr 1 1 0 0), (3, true, .ptr 1 3 0 0), (5, true, .ref 31 3 45 0 3), (10, true, nil9), (11, true, nil9), (12, true, vI 3)], [(1, .var [.lst 4 (encTs S), .lst 2 (encRs R)]), (3, .var [.v (.bool false), .lst 4 (encIs C), .lst 1 (v8 N)]), (45, .var [.v (.bool false), .ref 40 4 9000 0 C.length, .ref 3 1 9001 0 N.length, .v (.bool false), .ref 40 4 9002 0 C.length, .ref 3 1 9003 0 N.length, .v (.bool false), .ref 40 4 9004 0 C.length, .ref 3 1 9005 0 N.length]), (9000, .row 40 4 (encIs (mkI (-1) C.length))), (9001, .row 3 1 (v8 (mkN (-1) N.length))), (9002, .row 40 4 (encIs (mkI (-2) C.length))), (9003, .row 3 1 (v8 (mkN (-2) N.length))), (9004, .row 40 4 (encIs (mkI (-3) C.length))), (9005, .row 3 1 (v8 (mkN (-3) N.length)))]⟩
/-- while they are made longer -/
def apS10 (S : List TypeM) (R : List RootM) (C : List InsM) (N : List Int) : Nat → AState
  | 0 => ⟨[(1, true, .ptr 1 1 0 0), (3, true, .ptr 1 3 0 0), (5, true, .ref 31 3 45 0 3), (10, true, nil9), (11, true, nil9), (15, true, vI 0)], [(1, .var [.lst 4 (encTs S), .lst 2 (encRs R)]), (3, .var [.v (.bool false), .lst 4 (encIs C), .lst 1 (v8 N)]), (45, .var [.v (.bool false), .ref 40 4 9000 0 C.length, .ref 3 1 9001 0 N.length, .v (.bool false), .ref 40 4 9002 0 C.length, .ref 3 1 9003 0 N.length, .v (.bool false), .ref 40 4 9004 0 C.length, .ref 3 1 9005 0 N.length]), (9000, .row 40 4 (encIs (mkI (-1) C.length))), (9001, .row 3 1 (v8 (mkN (-1) N.length))), (9002, .row 40 4 (encIs (mkI (-2) C.length))), (9003, .row 3 1 (v8 (mkN (-2) N.length))), (9004, .row 40 4 (encIs (mkI (-3) C.length))), (9005, .row 3 1 (v8 (mkN (-3) N.length)))]⟩
  | 1 => ⟨[(1, true, .ptr 1 1 0 0), (3, true, .ptr 1 3 0 0), (5, true, .ref 31 3 45 0 3), (10, true, .ref 28 1 126 0 1), (11, true, .ref 29 1 139 0 1), (15, true, vI 1)], [(1, .var [.lst 4 (encTs S), .lst 2 (encRs R)]), (3, .var [.v (.bool false), .lst 4 (encIs C), .lst 1 (v8 N)]), (45, .var [.v (.bool false), .lst 4 (encIs (mkI (-1) C.length)), .lst 1 (v8 (mkN (-1) N.length)), .v (.bool false), .ref 40 4 9002 0 C.length, .ref 3 1 9003 0 N.length, .v (.bool false), .ref 40 4 9004 0 C.length, .ref 3 1 9005 0 N.length]), (126, .row 28 1 [[.lst 4 (encIs (mkI (-1) (C.length + 1)))]]), (139, .row 29 1 [[.lst 1 (v8 (mkN (-1) (N.length + 1)))]]), (9002, .row 40 4 (encIs (mkI (-2) C.length))), (9003, .row 3 1 (v8 (mkN (-2) N.length))), (9004, .row 40 4 (encIs (mkI (-3) C.length))), (9005, .row 3 1 (v8 (mkN (-3) N.length)))]⟩
  | 2 => ⟨[(1, true, .ptr 1 1 0 0), (3, true, .ptr 1 3 0 0), (5, true, .ref 31 3 45 0 3), (10, true, .ref 28 1 126 0 2), (11, true, .ref 29 1 139 0 2), (15, true, vI 2)], [(1, .var [.lst 4 (encTs S), .lst 2 (encRs R)]), (3, .var [.v (.bool false), .lst 4 (encIs C), .lst 1 (v8 N)]), (45, .var [.v (.bool false), .lst 4 (encIs (mkI (-1) C.length)), .lst 1 (v8 (mkN (-1) N.length)), .v (.bool false), .lst 4 (encIs (mkI (-2) C.length)), .lst 1 (v8 (mkN (-2) N.length)), .v (.bool false), .ref 40 4 9004 0 C.length, .ref 3 1 9005 0 N.length]), (126, .row 28 1 [[.lst 4 (encIs (mkI (-1) (C.length + 1)))], [.lst 4 (encIs (mkI (-2) (C.length + 1)))]]), (139, .row 29 1 [[.lst 1 (v8 (mkN (-1) (N.length + 1)))], [.lst 1 (v8 (mkN (-2) (N.length + 1)))]]), (9004, .row 40 4 (encIs (mkI (-3) C.length))), (9005, .row 3 1 (v8 (mkN (-3) N.length)))]⟩
  | _ => ⟨[(1, true, .ptr 1 1 0 0), (3, true, .ptr 1 3 0 0), (5, true, .ref 31 3 45 0 3), (10, true, .ref 28 1 126 0 3), (11, true, .ref 29 1 139 0 3), (15, true, vI 3)], [(1, .var [.lst 4 (encTs S), .lst 2 (encRs R)]), (3, .var [.v (.bool false), .lst 4 (encIs C), .lst 1 (v8 N)]), (45, .var [.v (.bool false), .lst 4 (encIs (mkI (-1) C.length)), .lst 1 (v8 (mkN (-1) N.length)), .v (.bool false), .lst 4 (encIs (mkI (-2) C.length)), .lst 1 (v8 (mkN (-2) N.length)), .v (.bool false), .lst 4 (encIs (mkI (-3) C.length)), .lst 1 (v8 (mkN (-3) N.length))]), (126, .row 28 1 [[.lst 4 (encIs (mkI (-1) (C.length + 1)))], [.lst 4 (encIs (mkI (-2) (C.length + 1)))], [.lst 4 (encIs (mkI (-3) (C.length + 1)))]]), (139, .row 29 1 [[.lst 1 (v8 (mkN (-1) (N.length + 1)))], [.lst 1 (v8 (mkN (-2) (N.length + 1)))], [.lst 1 (v8 (mkN (-3) (N.length + 1)))]])]⟩
/-- while they are looked at -/
def apS12 (S : List TypeM) (R : List RootM) (C : List InsM) (N : List Int) : Nat → AState
  | 0 => ⟨[(1, true, .ptr 1 1 0 0), (3, true, .ptr 1 3 0 0), (5, true, .ref 31 3 45 0 3), (10, true, .ref 28 1 126 0 3), (11, true, .ref 29 1 139 0 3), (16, true, vI 0)], [(1, .var [.lst 4 (encTs S), .lst 2 (encRs R)]), (3, .var [.v (.bool false), .lst 4 (encIs C), .lst 1 (v8 N)]), (45, .var [.v (.bool false), .lst 4 (encIs (mkI (-1) C.length)), .lst 1 (v8 (mkN (-1) N.length)), .v (.bool false), .lst 4 (encIs (mkI (-2) C.length)), .lst 1 (v8 (mkN (-2) N.length)), .v (.bool false), .lst 4 (encIs (mkI (-3) C.length)), .lst 1 (v8 (mkN (-3) N.length))]), (126, .row 28 1 [[.lst 4 (encIs (mkI (-1) (C.length + 1)))], [.lst 4 (encIs (mkI (-2) (C.length + 1)))], [.lst 4 (encIs (mkI (-3) (C.length + 1)))]]), (139, .row 29 1 [[.lst 1 (v8 (mkN (-1) (N.length + 1)))], [.lst 1 (v8 (mkN (-2) (N.length + 1)))], [.lst 1 (v8 (mkN (-3) (N.length + 1)))]])]⟩
  | 1 => ⟨[(1, true, .ptr 1 1 0 0), (3, true, .ptr 1 3 0 0), (5, true, .ref 31 3 45 0 3), (10, true, .ref 28 1 126 0 3), (11, true, .ref 29 1 139 0 3), (16, true, vI 1)], [(1, .var [.lst 4 (encTs S), .lst 2 (encRs R)]), (3, .var [.v (.bool false), .lst 4 (encIs C), .lst 1 (v8 N)]), (45, .var [.v (.bool false), .lst 4 (encIs (mkI (-1) C.length)), .lst 1 (v8 (mkN (-1) N.length)), .v (.bool false), .lst 4 (encIs (mkI (-2) C.length)), .lst 1 (v8 (mkN (-2) N.length)), .v (.bool false), .lst 4 (encIs (mkI (-3) C.length)), .lst 1 (v8 (mkN (-3) N.length))]), (126, .row 28 1 [[.lst 4 (encIs (mkI (-1) (C.length + 1)))], [.lst 4 (encIs (mkI (-2) (C.length + 1)))], [.lst 4 (encIs (mkI (-3) (C.length + 1)))]]), (139, .row 29 1 [[.lst 1 (v8 (mkN (-1) (N.length + 1)))], [.lst 1 (v8 (mkN (-2) (N.length + 1)))], [.lst 1 (v8 (mkN (-3) (N.length + 1)))]])]⟩
  | 2 => ⟨[(1, true, .ptr 1 1 0 0), (3, true, .ptr 1 3 0 0), (5, true, .ref 31 3 45 0 3), (10, true, .ref 28 1 126 0 3), (11, true, .ref 29 1 139 0 3), (16, true, vI 2)], [(1, .var [.lst 4 (encTs S), .lst 2 (encRs R)]), (3, .var [.v (.bool false), .lst 4 (encIs C), .lst 1 (v8 N)]), (45, .var [.v (.bool false), .lst 4 (encIs (mkI (-1) C.length)), .lst 1 (v8 (mkN (-1) N.length)), .v (.bool false), .lst 4 (encIs (mkI (-2) C.length)), .lst 1 (v8 (mkN (-2) N.length)), .v (.bool false), .lst 4 (encIs (mkI (-3) C.length)), .lst 1 (v8 (mkN (-3) N.length))]), (126, .row 28 1 [[.lst 4 (encIs (mkI (-1) (C.length + 1)))], [.lst 4 (encIs (mkI (-2) (C.length + 1)))], [.lst 4 (encIs (mkI (-3) (C.length + 1)))]]), (139, .row 29 1 [[.lst 1 (v8 (mkN (-1) (N.length + 1)))], [.lst 1 (v8 (mkN (-2) (N.length + 1)))], [.lst 1 (v8 (mkN (-3) (N.length + 1)))]])]⟩
  | _ => ⟨[(1, true, .ptr 1 1 0 0), (3, true, .ptr 1 3 0 0), (5, true, .ref 31 3 45 0 3), (10, true, .ref 28 1 126 0 3), (11, true, .ref 29 1 139 0 3), (16, true, vI 3)], [(1, .var [.lst 4 (encTs S), .lst 2 (encRs R)]), (3, .var [.v (.bool false), .lst 4 (encIs C), .lst 1 (v8 N)]), (45, .var [.v (.bool false), .lst 4 (encIs (mkI (-1) C.length)), .lst 1 (v8 (mkN (-1) N.length)), .v (.bool false), .lst 4 (encIs (mkI (-2) C.length)), .lst 1 (v8 (mkN (-2) N.length)), .v (.bool false), .lst 4 (encIs (mkI (-3) C.length)), .lst 1 (v8 (mkN (-3) N.length))]), (126, .row 28 1 [[.lst 4 (encIs (mkI (-1) (C.length + 1)))], [.lst 4 (encIs (mkI (-2) (C.length + 1)))], [.lst 4 (encIs (mkI (-3) (C.length + 1)))]]), (139, .row 29 1 [[.lst 1 (v8 (mkN (-1) (N.length + 1)))], [.lst 1 (v8 (mkN (-2) (N.length + 1)))], [.lst 1 (v8 (mkN (-3) (N.length + 1)))]])]⟩
def apS14 (S : List TypeM) (R : List RootM) (C : List InsM) (N : List Int) (k : Int) (i : Nat) : AState := ⟨[(1, true, .ptr 1 1 0 0), (3, true, .ptr 1 3 0 0), (5, true, .ref 31 3 45 0 3), (10, true, .ref 28 1 126 0 3), (11, true, .ref 29 1 139 0 3), (16, true, vI k), (17, true, vI (i : Int))], [(1, .var [.lst 4 (encTs S), .lst 2 (encRs R)]), (3, .var [.v (.bool false), .lst 4 (encIs C), .lst 1 (v8 N)]), (45, .var [.v (.bool false), .lst 4 (encIs (mkI (-1) C.length)), .lst 1 (v8 (mkN (-1) N.length)), .v (.bool false), .lst 4 (encIs (mkI (-2) C.length)), .lst 1 (v8 (mkN (-2) N.length)), .v (.bool false), .lst 4 (encIs (mkI (-3) C.length)), .lst 1 (v8 (mkN (-3) N.length))]), (126, .row 28 1 [[.lst 4 (encIs (mkI (-1) (C.length + 1)))], [.lst 4 (encIs (mkI (-2) (C.length + 1)))], [.lst 4 (encIs (mkI (-3) (C.length + 1)))]]), (139, .row 29 1 [[.lst 1 (v8 (mkN (-1) (N.length + 1)))], [.lst 1 (v8 (mkN (-2) (N.length + 1)))], [.lst 1 (v8 (mkN (-3) (N.length + 1)))]])]⟩
def apS16 (S : List TypeM) (R : List RootM) (C : List InsM) (N : List Int) (k : Int) (i : Nat) : AState := ⟨[(1, true, .ptr 1 1 0 0), (3, true, .ptr 1 3 0 0), (5, true, .ref 31 3 45 0 3), (10, true, .ref 28 1 126 0 3), (11, true, .ref 29 1 139 0 3), (16, true, vI k), (18, true, vI (i : Int))], [(1, .var [.lst 4 (encTs S), .lst 2 (encRs R)]), (3, .var [.v (.bool false), .lst 4 (encIs C), .lst 1 (v8 N)]), (45, .var [.v (.bool false), .lst 4 (encIs (mkI (-1) C.length)), .lst 1 (v8 (mkN (-1) N.length)), .v (.bool false), .lst 4 (encIs (mkI (-2) C.length)), .lst 1 (v8 (mkN (-2) N.length)), .v (.bool false), .lst 4 (encIs (mkI (-3) C.length)), .lst 1 (v8 (mkN (-3) N.length))]), (126, .row 28 1 [[.lst 4 (encIs (mkI (-1) (C.length + 1)))], [.lst 4 (encIs (mkI (-2) (C.length + 1)))], [.lst 4 (encIs (mkI (-3) (C.length + 1)))]]), (139, .row 29 1 [[.lst 1 (v8 (mkN (-1) (N.length + 1)))], [.lst 1 (v8 (mkN (-2) (N.length + 1)))], [.lst 1 (v8 (mkN (-3) (N.length + 1)))]])]⟩

theorem apart_any (ts0 : List TypeM) (rs0 : List RootM) (hts : ts0.length ≤ 1048576) (hrs : rs0.length ≤ 1048576) (hp0 : ∀ t ∈ ts0, t.parts.length ≤ 1000000000) :
    PCall Try.prog 4 [vSch ts0 rs0] (fun r => r = vB true) := by
  refine go_fn (tyOf_ok _) Try.func4 rfl rfl (by rw [Try.results4]) Try.ntmps4 rfl fun E => ?_
  have haw := awake16
  have hc := cut16_any ts0 rs0 (by omega) (by omega) hp0 300
  have hSl : (ts0.take 300).length ≤ 300 := by rw [List.length_take]; omega
  have hp : ∀ t ∈ ts0.take 300, t.parts.length ≤ 1000000000 := fun t ht => hp0 t (List.mem_of_mem_take ht)
  have hRl : (rootsF rs0 (min 300 ts0.length : Nat)).length ≤ 1048576 := Nat.le_trans (List.length_filter_le _ _) hrs
  generalize ts0.take 300 = S at *
  generalize rootsF rs0 (min 300 ts0.length : Nat) = R at *
  have d1 := dec_any S R (by omega) (by omega) hp
  have dG := dec_G S R (by omega) (by omega) hp
  by_cases he : (decF S R).2 = 0
  case neg =>
    have e1 : ((decF S R).2 = 0) = False := eq_false he
    generalize decF S R = D at *
    unfold pV at d1
    unfold vSch at hc d1
    (repeat' (first
    | exact trivial
    | (with_reducible first | refine awA ?_ | refine awB ?_ | refine awC ?_ | refine awD ?_ | refine awE ?_ | refine awF ?_ | refine awG ?_ | refine awH ?_ | refine awI ?_ | refine awJ ?_ | refine awK ?_ | refine awL ?_ | refine awM (by decide) ?_)
    | (refine aw_draw (id := 16) (t := (.node [0, 1, 2, 3, 4, 5, 6] [])) (drR [3] [53] []) mixed (by kernel_rfl) (by kernel_rfl) (fun _ _ h => h) ?_)
    | (refine aw_draw (id := 34) (t := (.node [0, 1, 2, 3, 4, 5, 6, 7, 8, 9, 10, 11, 12, 13, 14, 15, 16, 17, 18, 19, 20] [])) (drR [] [112, 120] []) mixed (by kernel_rfl) (by kernel_rfl) (fun _ _ h => h) ?_)
    | (refine aw_draw (id := 42) (t := (.node [0, 1, 2, 3, 4, 5, 6, 7, 8, 9, 10, 11, 12, 13, 14, 15, 16, 17, 18, 19, 20, 21, 22, 23, 24, 25, 26, 27, 28, 29, 30, 31, 32, 33, 34, 35, 36, 37, 38, 39, 40] [])) (drR [] [156, 159, 172, 180, 183, 187, 190] []) mixed (by kernel_rfl) (by kernel_rfl) (fun _ _ h => h) ?_)
    | (refine at_done (by simp only [List.filterMap_cons, List.filterMap_nil, List.getElem?_toArray, List.getElem?_cons_zero, List.getElem?_cons_succ]; exact rfl) ?_) | (refine at_alt (by simp only [List.filterMap_cons, List.filterMap_nil, List.getElem?_toArray, List.getElem?_cons_zero, List.getElem?_cons_succ]; exact rfl) ?_) | refine qalt_normal ?_ | refine ats_cons ?_ ?_ | exact ats_nil
    | ((with_reducible first | refine awN (tyOf_ok _) [] ?_ | refine awO (tyOf_ok _) [] ?_ | refine awP (tyOf_ok _) [] ?_ | refine awQ ?_ | refine awR ?_ | refine awS ?_); intro r hr; simp only [go_sem, Nat.reduceBEq, Nat.reduceBneDiff, Nat.reduceLT, Nat.reduceLeDiff, Nat.reduceAdd, Nat.reduceMul, Nat.reduceSub, Nat.reduceEqDiff, reduceCtorEq, vSch, e1, Int.cast_ofNat_Int, Int.reduceToNat, Int.reduceEq, Int.reduceLT, Int.reduceLE, Int.reduceNe] at hr; subst hr; (first | refine caA (fun _ => haw) rfl ?_ ?_ ?_ | refine caC (hc) rfl ?_ ?_ ?_ | refine caC (d1) rfl ?_ ?_ ?_ | refine caA (fun _ => num16_any _) rfl ?_ ?_ ?_ | refine awV ?_ ?_ | refine awW ?_ ?_ | refine endK ?_ ?_ | (refine condK (fun h => ?_) (fun h => ?_) <;> (try simp only [go_sem, reduceCtorEq] at h) <;> (try (exfalso; omega))))) | fail)) <;> (try omega)
    all_goals exact rfl
  have hcap : (decF S R).1.1.length ≤ 1048576 ∧ (decF S R).1.2.length ≤ 300 := by
    obtain ⟨h0, hd, _⟩ := decF_front he (Nat.le_refl S.length)
    have hNl := rouR_len2 S (exts S) (lays S) S.length
    have h := he
    rw [decF, if_neg (by omega)] at h
    split at h
    · cases h
    · split at h
      · cases h
      · rw [hd]
        exact ⟨by show (rouR S (exts S) (lays S) S.length).1.length ≤ _; omega, by show (rouR S (exts S) (lays S) S.length).2.length ≤ _; rw [hNl]; exact hSl⟩
  rw [he] at d1 dG
  generalize decF S R = D at *
  obtain ⟨⟨C, N⟩, e⟩ := D
  simp only at d1 dG hcap
  obtain ⟨hC, hN⟩ := hcap
  have hE := equal14_refl C N (by omega) (by omega)
  unfold pV at d1 hE
  unfold vSch at hc d1 dG
  have hlC : (encIs C).take C.length = encIs C := take_len (by rw [encIs_len]; exact Nat.le_refl _)
  have hlN : (v8 N).take N.length = v8 N := take_len (by rw [v8_len]; exact Nat.le_refl _)
  (repeat' (first
    | exact trivial
    | (with_reducible first | refine awA ?_ | refine awB ?_ | refine awC ?_ | refine awD ?_ | refine awE ?_ | refine awF ?_ | refine awG ?_ | refine awH ?_ | refine awI ?_ | refine awJ ?_ | refine awK ?_ | refine awL ?_ | refine awM (by decide) ?_)
    | (refine aw_draw (id := 16) (t := (.node [0, 1, 2, 3, 4, 5, 6] [])) (drR [3] [53] []) mixed (by kernel_rfl) (by kernel_rfl) (fun _ _ h => h) ?_)
    | (refine aw_draw (id := 34) (t := (.node [0, 1, 2, 3, 4, 5, 6, 7, 8, 9, 10, 11, 12, 13, 14, 15, 16, 17, 18, 19, 20] [])) (drR [] [112, 120] []) mixed (by kernel_rfl) (by kernel_rfl) (fun _ _ h => h) ?_)
    | (refine aw_draw (id := 42) (t := (.node [0, 1, 2, 3, 4, 5, 6, 7, 8, 9, 10, 11, 12, 13, 14, 15, 16, 17, 18, 19, 20, 21, 22, 23, 24, 25, 26, 27, 28, 29, 30, 31, 32, 33, 34, 35, 36, 37, 38, 39, 40] [])) (drR [] [156, 159, 172, 180, 183, 187, 190] []) mixed (by kernel_rfl) (by kernel_rfl) (fun _ _ h => h) ?_)
    | (refine at_done (by simp only [List.filterMap_cons, List.filterMap_nil, List.getElem?_toArray, List.getElem?_cons_zero, List.getElem?_cons_succ]; exact rfl) ?_) | (refine at_alt (by simp only [List.filterMap_cons, List.filterMap_nil, List.getElem?_toArray, List.getElem?_cons_zero, List.getElem?_cons_succ]; exact rfl) ?_) | refine qalt_normal ?_ | refine ats_cons ?_ ?_ | exact ats_nil
    | ((with_reducible first | refine awN (tyOf_ok _) [] ?_ | refine awO (tyOf_ok _) [] ?_ | refine awP (tyOf_ok _) [] ?_ | refine awQ ?_ | refine awR ?_ | refine awS ?_); intro r hr; simp only [go_sem, Nat.reduceBEq, Nat.reduceBneDiff, Nat.reduceLT, Nat.reduceLeDiff, Nat.reduceAdd, Nat.reduceMul, Nat.reduceSub, Nat.reduceEqDiff, reduceCtorEq, vSch, encIs_len, v8_len, Int.cast_ofNat_Int, Int.reduceToNat, Int.reduceEq, Int.reduceLT, Int.reduceLE, Int.reduceNe] at hr; subst hr; (first | refine caA (fun _ => haw) rfl ?_ ?_ ?_ | refine caC (hc) rfl ?_ ?_ ?_ | refine caC (d1) rfl ?_ ?_ ?_ | refine caA (fun _ => num16_any _) rfl ?_ ?_ ?_ | refine awV ?_ ?_ | refine awW ?_ ?_ | refine endK ?_ ?_ | (refine condK (fun h => ?_) (fun h => ?_) <;> (try simp only [go_sem, reduceCtorEq] at h) <;> (try (exfalso; omega))))) | fail)) <;> (try omega)
  refine go_loop [1, 3, 5, 6] [1, 3, 45, 9000, 9001, 9002, 9003, 9004, 9005] (apS0 S R C N) (fun k => k ≤ 3) (fun k => 3 - k) 0 (by simp only [apS0, go_sem, Nat.reduceBEq, Nat.reduceBneDiff, Nat.reduceLT, Nat.reduceLeDiff, Nat.reduceAdd, Nat.reduceMul, Nat.reduceSub, Nat.reduceEqDiff, reduceCtorEq] <;> exact rfl) (by decide) ?_
  have w0 : IntKind.i64.wrap (0 + 1) = 1 := by decide
  have w1 : IntKind.i64.wrap (1 + 1) = 2 := by decide
  have w2 : IntKind.i64.wrap (2 + 1) = 3 := by decide
  intro k hk
  match k, hk with
  | 0, _ =>
    unfold apS0
    (repeat' (first
    | exact trivial
    | (with_reducible first | refine awA ?_ | refine awB ?_ | refine awC ?_ | refine awD ?_ | refine awE ?_ | refine awF ?_ | refine awG ?_ | refine awH ?_ | refine awI ?_ | refine awJ ?_ | refine awK ?_ | refine awL ?_ | refine awM (by decide) ?_)
    | (refine aw_draw (id := 16) (t := (.node [0, 1, 2, 3, 4, 5, 6] [])) (drR [3] [53] []) mixed (by kernel_rfl) (by kernel_rfl) (fun _ _ h => h) ?_)
    | (refine aw_draw (id := 34) (t := (.node [0, 1, 2, 3, 4, 5, 6, 7, 8, 9, 10, 11, 12, 13, 14, 15, 16, 17, 18, 19, 20] [])) (drR [] [112, 120] []) mixed (by kernel_rfl) (by kernel_rfl) (fun _ _ h => h) ?_)
    | (refine aw_draw (id := 42) (t := (.node [0, 1, 2, 3, 4, 5, 6, 7, 8, 9, 10, 11, 12, 13, 14, 15, 16, 17, 18, 19, 20, 21, 22, 23, 24, 25, 26, 27, 28, 29, 30, 31, 32, 33, 34, 35, 36, 37, 38, 39, 40] [])) (drR [] [156, 159, 172, 180, 183, 187, 190] []) mixed (by kernel_rfl) (by kernel_rfl) (fun _ _ h => h) ?_)
    | (refine at_done (by simp only [List.filterMap_cons, List.filterMap_nil, List.getElem?_toArray, List.getElem?_cons_zero, List.getElem?_cons_succ]; exact rfl) ?_) | (refine at_alt (by simp only [List.filterMap_cons, List.filterMap_nil, List.getElem?_toArray, List.getElem?_cons_zero, List.getElem?_cons_succ]; exact rfl) ?_) | refine qalt_normal ?_ | refine ats_cons ?_ ?_ | exact ats_nil
    | ((with_reducible first | refine awN (tyOf_ok _) [3000044, 3000045] ?_ | refine awO (tyOf_ok _) [3000044, 3000045] ?_ | refine awP (tyOf_ok _) [3000044, 3000045] ?_ | refine awQ ?_ | refine awR ?_ | refine awS ?_); intro r hr; simp only [go_sem, Nat.reduceBEq, Nat.reduceBneDiff, Nat.reduceLT, Nat.reduceLeDiff, Nat.reduceAdd, Nat.reduceMul, Nat.reduceSub, Nat.reduceEqDiff, reduceCtorEq, w0, encIs_len, v8_len, Int.cast_ofNat_Int, Int.reduceToNat, Int.reduceEq, Int.reduceLT, Int.reduceLE, Int.reduceNe] at hr; subst hr; (first | refine caA (fun _ => num16_any _) rfl ?_ ?_ ?_ | refine awV ?_ ?_ | refine awW ?_ ?_ | refine endK ?_ ?_ | (refine condK (fun h => ?_) (fun h => ?_) <;> (try simp only [go_sem, reduceCtorEq] at h) <;> (try (exfalso; omega)))))
    | (refine go_callGE [] [(8000, 9000), (8001, 9001)] [9000, 9001] [] ?_; intro r hr; simp only [go_sem, Nat.reduceBEq, Nat.reduceBneDiff, Nat.reduceLT, Nat.reduceLeDiff, Nat.reduceAdd, Nat.reduceMul, Nat.reduceSub, Nat.reduceEqDiff, reduceCtorEq, w0, encIs_len, v8_len, Int.cast_ofNat_Int, Int.reduceToNat, Int.reduceEq, Int.reduceLT, Int.reduceLE, Int.reduceNe] at hr; subst hr; refine callGK (dG) rfl rfl (by first | exact .inl rfl | exact .inr rfl) ?_ (.inl rfl) ?_) | fail)) <;> (try omega)
    all_goals exact ⟨1, by simp only [go_sem, Nat.reduceBEq, Nat.reduceBneDiff, Nat.reduceLT, Nat.reduceLeDiff, Nat.reduceAdd, Nat.reduceMul, Nat.reduceSub, Nat.reduceEqDiff, reduceCtorEq] <;> exact rfl, by omega, by omega⟩
  | 1, _ =>
    unfold apS0
    (repeat' (first
    | exact trivial
    | (with_reducible first | refine awA ?_ | refine awB ?_ | refine awC ?_ | refine awD ?_ | refine awE ?_ | refine awF ?_ | refine awG ?_ | refine awH ?_ | refine awI ?_ | refine awJ ?_ | refine awK ?_ | refine awL ?_ | refine awM (by decide) ?_)
    | (refine aw_draw (id := 16) (t := (.node [0, 1, 2, 3, 4, 5, 6] [])) (drR [3] [53] []) mixed (by kernel_rfl) (by kernel_rfl) (fun _ _ h => h) ?_)
    | (refine aw_draw (id := 34) (t := (.node [0, 1, 2, 3, 4, 5, 6, 7, 8, 9, 10, 11, 12, 13, 14, 15, 16, 17, 18, 19, 20] [])) (drR [] [112, 120] []) mixed (by kernel_rfl) (by kernel_rfl) (fun _ _ h => h) ?_)
    | (refine aw_draw (id := 42) (t := (.node [0, 1, 2, 3, 4, 5, 6, 7, 8, 9, 10, 11, 12, 13, 14, 15, 16, 17, 18, 19, 20, 21, 22, 23, 24, 25, 26, 27, 28, 29, 30, 31, 32, 33, 34, 35, 36, 37, 38, 39, 40] [])) (drR [] [156, 159, 172, 180, 183, 187, 190] []) mixed (by kernel_rfl) (by kernel_rfl) (fun _ _ h => h) ?_)
    | (refine at_done (by simp only [List.filterMap_cons, List.filterMap_nil, List.getElem?_toArray, List.getElem?_cons_zero, List.getElem?_cons_succ]; exact rfl) ?_) | (refine at_alt (by simp only [List.filterMap_cons, List.filterMap_nil, List.getElem?_toArray, List.getElem?_cons_zero, List.getElem?_cons_succ]; exact rfl) ?_) | refine qalt_normal ?_ | refine ats_cons ?_ ?_ | exact ats_nil
    | ((with_reducible first | refine awN (tyOf_ok _) [3000044, 3000045] ?_ | refine awO (tyOf_ok _) [3000044, 3000045] ?_ | refine awP (tyOf_ok _) [3000044, 3000045] ?_ | refine awQ ?_ | refine awR ?_ | refine awS ?_); intro r hr; simp only [go_sem, Nat.reduceBEq, Nat.reduceBneDiff, Nat.reduceLT, Nat.reduceLeDiff, Nat.reduceAdd, Nat.reduceMul, Nat.reduceSub, Nat.reduceEqDiff, reduceCtorEq, w1, encIs_len, v8_len, Int.cast_ofNat_Int, Int.reduceToNat, Int.reduceEq, Int.reduceLT, Int.reduceLE, Int.reduceNe] at hr; subst hr; (first | refine caA (fun _ => num16_any _) rfl ?_ ?_ ?_ | refine awV ?_ ?_ | refine awW ?_ ?_ | refine endK ?_ ?_ | (refine condK (fun h => ?_) (fun h => ?_) <;> (try simp only [go_sem, reduceCtorEq] at h) <;> (try (exfalso; omega)))))
    | (refine go_callGE [] [(8000, 9002), (8001, 9003)] [9002, 9003] [] ?_; intro r hr; simp only [go_sem, Nat.reduceBEq, Nat.reduceBneDiff, Nat.reduceLT, Nat.reduceLeDiff, Nat.reduceAdd, Nat.reduceMul, Nat.reduceSub, Nat.reduceEqDiff, reduceCtorEq, w1, encIs_len, v8_len, Int.cast_ofNat_Int, Int.reduceToNat, Int.reduceEq, Int.reduceLT, Int.reduceLE, Int.reduceNe] at hr; subst hr; refine callGK (dG) rfl rfl (by first | exact .inl rfl | exact .inr rfl) ?_ (.inl rfl) ?_) | fail)) <;> (try omega)
    all_goals exact ⟨2, by simp only [go_sem, Nat.reduceBEq, Nat.reduceBneDiff, Nat.reduceLT, Nat.reduceLeDiff, Nat.reduceAdd, Nat.reduceMul, Nat.reduceSub, Nat.reduceEqDiff, reduceCtorEq] <;> exact rfl, by omega, by omega⟩
  | 2, _ =>
    unfold apS0
    (repeat' (first
    | exact trivial
    | (with_reducible first | refine awA ?_ | refine awB ?_ | refine awC ?_ | refine awD ?_ | refine awE ?_ | refine awF ?_ | refine awG ?_ | refine awH ?_ | refine awI ?_ | refine awJ ?_ | refine awK ?_ | refine awL ?_ | refine awM (by decide) ?_)
    | (refine aw_draw (id := 16) (t := (.node [0, 1, 2, 3, 4, 5, 6] [])) (drR [3] [53] []) mixed (by kernel_rfl) (by kernel_rfl) (fun _ _ h => h) ?_)
    | (refine aw_draw (id := 34) (t := (.node [0, 1, 2, 3, 4, 5, 6, 7, 8, 9, 10, 11, 12, 13, 14, 15, 16, 17, 18, 19, 20] [])) (drR [] [112, 120] []) mixed (by kernel_rfl) (by kernel_rfl) (fun _ _ h => h) ?_)
    | (refine aw_draw (id := 42) (t := (.node [0, 1, 2, 3, 4, 5, 6, 7, 8, 9, 10, 11, 12, 13, 14, 15, 16, 17, 18, 19, 20, 21, 22, 23, 24, 25, 26, 27, 28, 29, 30, 31, 32, 33, 34, 35, 36, 37, 38, 39, 40] [])) (drR [] [156, 159, 172, 180, 183, 187, 190] []) mixed (by kernel_rfl) (by kernel_rfl) (fun _ _ h => h) ?_)
    | (refine at_done (by simp only [List.filterMap_cons, List.filterMap_nil, List.getElem?_toArray, List.getElem?_cons_zero, List.getElem?_cons_succ]; exact rfl) ?_) | (refine at_alt (by simp only [List.filterMap_cons, List.filterMap_nil, List.getElem?_toArray, List.getElem?_cons_zero, List.getElem?_cons_succ]; exact rfl) ?_) | refine qalt_normal ?_ | refine ats_cons ?_ ?_ | exact ats_nil
    | ((with_reducible first | refine awN (tyOf_ok _) [3000044, 3000045] ?_ | refine awO (tyOf_ok _) [3000044, 3000045] ?_ | refine awP (tyOf_ok _) [3000044, 3000045] ?_ | refine awQ ?_ | refine awR ?_ | refine awS ?_); intro r hr; simp only [go_sem, Nat.reduceBEq, Nat.reduceBneDiff, Nat.reduceLT, Nat.reduceLeDiff, Nat.reduceAdd, Nat.reduceMul, Nat.reduceSub, Nat.reduceEqDiff, reduceCtorEq, w2, encIs_len, v8_len, Int.cast_ofNat_Int, Int.reduceToNat, Int.reduceEq, Int.reduceLT, Int.reduceLE, Int.reduceNe] at hr; subst hr; (first | refine caA (fun _ => num16_any _) rfl ?_ ?_ ?_ | refine awV ?_ ?_ | refine awW ?_ ?_ | refine endK ?_ ?_ | (refine condK (fun h => ?_) (fun h => ?_) <;> (try simp only [go_sem, reduceCtorEq] at h) <;> (try (exfalso; omega)))))
    | (refine go_callGE [] [(8000, 9004), (8001, 9005)] [9004, 9005] [] ?_; intro r hr; simp only [go_sem, Nat.reduceBEq, Nat.reduceBneDiff, Nat.reduceLT, Nat.reduceLeDiff, Nat.reduceAdd, Nat.reduceMul, Nat.reduceSub, Nat.reduceEqDiff, reduceCtorEq, w2, encIs_len, v8_len, Int.cast_ofNat_Int, Int.reduceToNat, Int.reduceEq, Int.reduceLT, Int.reduceLE, Int.reduceNe] at hr; subst hr; refine callGK (dG) rfl rfl (by first | exact .inl rfl | exact .inr rfl) ?_ (.inl rfl) ?_) | fail)) <;> (try omega)
    all_goals exact ⟨3, by simp only [go_sem, Nat.reduceBEq, Nat.reduceBneDiff, Nat.reduceLT, Nat.reduceLeDiff, Nat.reduceAdd, Nat.reduceMul, Nat.reduceSub, Nat.reduceEqDiff, reduceCtorEq] <;> exact rfl, by omega, by omega⟩
  | 3, _ =>
    unfold apS0
    (repeat' (first
    | exact trivial
    | (with_reducible first | refine awA ?_ | refine awB ?_ | refine awC ?_ | refine awD ?_ | refine awE ?_ | refine awF ?_ | refine awG ?_ | refine awH ?_ | refine awI ?_ | refine awJ ?_ | refine awK ?_ | refine awL ?_ | refine awM (by decide) ?_)
    | (refine aw_draw (id := 16) (t := (.node [0, 1, 2, 3, 4, 5, 6] [])) (drR [3] [53] []) mixed (by kernel_rfl) (by kernel_rfl) (fun _ _ h => h) ?_)
    | (refine aw_draw (id := 34) (t := (.node [0, 1, 2, 3, 4, 5, 6, 7, 8, 9, 10, 11, 12, 13, 14, 15, 16, 17, 18, 19, 20] [])) (drR [] [112, 120] []) mixed (by kernel_rfl) (by kernel_rfl) (fun _ _ h => h) ?_)
    | (refine aw_draw (id := 42) (t := (.node [0, 1, 2, 3, 4, 5, 6, 7, 8, 9, 10, 11, 12, 13, 14, 15, 16, 17, 18, 19, 20, 21, 22, 23, 24, 25, 26, 27, 28, 29, 30, 31, 32, 33, 34, 35, 36, 37, 38, 39, 40] [])) (drR [] [156, 159, 172, 180, 183, 187, 190] []) mixed (by kernel_rfl) (by kernel_rfl) (fun _ _ h => h) ?_)
    | (refine at_done (by simp only [List.filterMap_cons, List.filterMap_nil, List.getElem?_toArray, List.getElem?_cons_zero, List.getElem?_cons_succ]; exact rfl) ?_) | (refine at_alt (by simp only [List.filterMap_cons, List.filterMap_nil, List.getElem?_toArray, List.getElem?_cons_zero, List.getElem?_cons_succ]; exact rfl) ?_) | refine qalt_normal ?_ | refine ats_cons ?_ ?_ | exact ats_nil
    | ((with_reducible first | refine awN (tyOf_ok _) [] ?_ | refine awO (tyOf_ok _) [] ?_ | refine awP (tyOf_ok _) [] ?_ | refine awQ ?_ | refine awR ?_ | refine awS ?_); intro r hr; simp only [go_sem, Nat.reduceBEq, Nat.reduceBneDiff, Nat.reduceLT, Nat.reduceLeDiff, Nat.reduceAdd, Nat.reduceMul, Nat.reduceSub, Nat.reduceEqDiff, reduceCtorEq, encIs_len, v8_len, Int.cast_ofNat_Int, Int.reduceToNat, Int.reduceEq, Int.reduceLT, Int.reduceLE, Int.reduceNe] at hr; subst hr; (first | refine awV ?_ ?_ | refine awW ?_ ?_ | refine endK ?_ ?_ | (refine condK (fun h => ?_) (fun h => ?_) <;> (try simp only [go_sem, reduceCtorEq] at h) <;> (try (exfalso; omega))))) | fail)) <;> (try omega)
    refine go_loop [1, 3, 5, 9] [1, 3, 45, 9000, 9001, 9002, 9003, 9004, 9005] (apS2 S R C N) (fun k => k ≤ 3) (fun k => 3 - k) 0 (by simp only [apS2, go_sem, Nat.reduceBEq, Nat.reduceBneDiff, Nat.reduceLT, Nat.reduceLeDiff, Nat.reduceAdd, Nat.reduceMul, Nat.reduceSub, Nat.reduceEqDiff, reduceCtorEq] <;> exact rfl) (by decide) ?_
    intro k hk
    match k, hk with
    | 0, _ =>
      unfold apS2
      (repeat' (first
    | exact trivial
    | (with_reducible first | refine awA ?_ | refine awB ?_ | refine awC ?_ | refine awD ?_ | refine awE ?_ | refine awF ?_ | refine awG ?_ | refine awH ?_ | refine awI ?_ | refine awJ ?_ | refine awK ?_ | refine awL ?_ | refine awM (by decide) ?_)
    | (refine aw_draw (id := 16) (t := (.node [0, 1, 2, 3, 4, 5, 6] [])) (drR [3] [53] []) mixed (by kernel_rfl) (by kernel_rfl) (fun _ _ h => h) ?_)
    | (refine aw_draw (id := 34) (t := (.node [0, 1, 2, 3, 4, 5, 6, 7, 8, 9, 10, 11, 12, 13, 14, 15, 16, 17, 18, 19, 20] [])) (drR [] [112, 120] []) mixed (by kernel_rfl) (by kernel_rfl) (fun _ _ h => h) ?_)
    | (refine aw_draw (id := 42) (t := (.node [0, 1, 2, 3, 4, 5, 6, 7, 8, 9, 10, 11, 12, 13, 14, 15, 16, 17, 18, 19, 20, 21, 22, 23, 24, 25, 26, 27, 28, 29, 30, 31, 32, 33, 34, 35, 36, 37, 38, 39, 40] [])) (drR [] [156, 159, 172, 180, 183, 187, 190] []) mixed (by kernel_rfl) (by kernel_rfl) (fun _ _ h => h) ?_)
    | (refine at_done (by simp only [List.filterMap_cons, List.filterMap_nil, List.getElem?_toArray, List.getElem?_cons_zero, List.getElem?_cons_succ]; exact rfl) ?_) | (refine at_alt (by simp only [List.filterMap_cons, List.filterMap_nil, List.getElem?_toArray, List.getElem?_cons_zero, List.getElem?_cons_succ]; exact rfl) ?_) | refine qalt_normal ?_ | refine ats_cons ?_ ?_ | exact ats_nil
    | ((with_reducible first | refine awN (tyOf_ok _) [] ?_ | refine awO (tyOf_ok _) [] ?_ | refine awP (tyOf_ok _) [] ?_ | refine awQ ?_ | refine awR ?_ | refine awS ?_); intro r hr; simp only [go_sem, Nat.reduceBEq, Nat.reduceBneDiff, Nat.reduceLT, Nat.reduceLeDiff, Nat.reduceAdd, Nat.reduceMul, Nat.reduceSub, Nat.reduceEqDiff, reduceCtorEq, w0, hlC, hlN, encIs_len, v8_len, Int.cast_ofNat_Int, Int.reduceToNat, Int.reduceEq, Int.reduceLT, Int.reduceLE, Int.reduceNe] at hr; subst hr; (first | refine caA (fun _ => hE) rfl ?_ ?_ ?_ | refine awV ?_ ?_ | refine awW ?_ ?_ | refine endK ?_ ?_ | (refine condK (fun h => ?_) (fun h => ?_) <;> (try simp only [go_sem, reduceCtorEq] at h) <;> (try (exfalso; omega))))) | fail)) <;> (try omega)
      all_goals first | exact ⟨1, by simp only [go_sem, Nat.reduceBEq, Nat.reduceBneDiff, Nat.reduceLT, Nat.reduceLeDiff, Nat.reduceAdd, Nat.reduceMul, Nat.reduceSub, Nat.reduceEqDiff, reduceCtorEq] <;> exact rfl, by omega, by omega⟩
    | 1, _ =>
      unfold apS2
      (repeat' (first
    | exact trivial
    | (with_reducible first | refine awA ?_ | refine awB ?_ | refine awC ?_ | refine awD ?_ | refine awE ?_ | refine awF ?_ | refine awG ?_ | refine awH ?_ | refine awI ?_ | refine awJ ?_ | refine awK ?_ | refine awL ?_ | refine awM (by decide) ?_)
    | (refine aw_draw (id := 16) (t := (.node [0, 1, 2, 3, 4, 5, 6] [])) (drR [3] [53] []) mixed (by kernel_rfl) (by kernel_rfl) (fun _ _ h => h) ?_)
    | (refine aw_draw (id := 34) (t := (.node [0, 1, 2, 3, 4, 5, 6, 7, 8, 9, 10, 11, 12, 13, 14, 15, 16, 17, 18, 19, 20] [])) (drR [] [112, 120] []) mixed (by kernel_rfl) (by kernel_rfl) (fun _ _ h => h) ?_)
    | (refine aw_draw (id := 42) (t := (.node [0, 1, 2, 3, 4, 5, 6, 7, 8, 9, 10, 11, 12, 13, 14, 15, 16, 17, 18, 19, 20, 21, 22, 23, 24, 25, 26, 27, 28, 29, 30, 31, 32, 33, 34, 35, 36, 37, 38, 39, 40] [])) (drR [] [156, 159, 172, 180, 183, 187, 190] []) mixed (by kernel_rfl) (by kernel_rfl) (fun _ _ h => h) ?_)
    | (refine at_done (by simp only [List.filterMap_cons, List.filterMap_nil, List.getElem?_toArray, List.getElem?_cons_zero, List.getElem?_cons_succ]; exact rfl) ?_) | (refine at_alt (by simp only [List.filterMap_cons, List.filterMap_nil, List.getElem?_toArray, List.getElem?_cons_zero, List.getElem?_cons_succ]; exact rfl) ?_) | refine qalt_normal ?_ | refine ats_cons ?_ ?_ | exact ats_nil
    | ((with_reducible first | refine awN (tyOf_ok _) [] ?_ | refine awO (tyOf_ok _) [] ?_ | refine awP (tyOf_ok _) [] ?_ | refine awQ ?_ | refine awR ?_ | refine awS ?_); intro r hr; simp only [go_sem, Nat.reduceBEq, Nat.reduceBneDiff, Nat.reduceLT, Nat.reduceLeDiff, Nat.reduceAdd, Nat.reduceMul, Nat.reduceSub, Nat.reduceEqDiff, reduceCtorEq, w1, hlC, hlN, encIs_len, v8_len, Int.cast_ofNat_Int, Int.reduceToNat, Int.reduceEq, Int.reduceLT, Int.reduceLE, Int.reduceNe] at hr; subst hr; (first | refine caA (fun _ => hE) rfl ?_ ?_ ?_ | refine awV ?_ ?_ | refine awW ?_ ?_ | refine endK ?_ ?_ | (refine condK (fun h => ?_) (fun h => ?_) <;> (try simp only [go_sem, reduceCtorEq] at h) <;> (try (exfalso; omega))))) | fail)) <;> (try omega)
      all_goals first | exact ⟨2, by simp only [go_sem, Nat.reduceBEq, Nat.reduceBneDiff, Nat.reduceLT, Nat.reduceLeDiff, Nat.reduceAdd, Nat.reduceMul, Nat.reduceSub, Nat.reduceEqDiff, reduceCtorEq] <;> exact rfl, by omega, by omega⟩
    | 2, _ =>
      unfold apS2
      (repeat' (first
    | exact trivial
    | (with_reducible first | refine awA ?_ | refine awB ?_ | refine awC ?_ | refine awD ?_ | refine awE ?_ | refine awF ?_ | refine awG ?_ | refine awH ?_ | refine awI ?_ | refine awJ ?_ | refine awK ?_ | refine awL ?_ | refine awM (by decide) ?_)
    | (refine aw_draw (id := 16) (t := (.node [0, 1, 2, 3, 4, 5, 6] [])) (drR [3] [53] []) mixed (by kernel_rfl) (by kernel_rfl) (fun _ _ h => h) ?_)
    | (refine aw_draw (id := 34) (t := (.node [0, 1, 2, 3, 4, 5, 6, 7, 8, 9, 10, 11, 12, 13, 14, 15, 16, 17, 18, 19, 20] [])) (drR [] [112, 120] []) mixed (by kernel_rfl) (by kernel_rfl) (fun _ _ h => h) ?_)
    | (refine aw_draw (id := 42) (t := (.node [0, 1, 2, 3, 4, 5, 6, 7, 8, 9, 10, 11, 12, 13, 14, 15, 16, 17, 18, 19, 20, 21, 22, 23, 24, 25, 26, 27, 28, 29, 30, 31, 32, 33, 34, 35, 36, 37, 38, 39, 40] [])) (drR [] [156, 159, 172, 180, 183, 187, 190] []) mixed (by kernel_rfl) (by kernel_rfl) (fun _ _ h => h) ?_)
    | (refine at_done (by simp only [List.filterMap_cons, List.filterMap_nil, List.getElem?_toArray, List.getElem?_cons_zero, List.getElem?_cons_succ]; exact rfl) ?_) | (refine at_alt (by simp only [List.filterMap_cons, List.filterMap_nil, List.getElem?_toArray, List.getElem?_cons_zero, List.getElem?_cons_succ]; exact rfl) ?_) | refine qalt_normal ?_ | refine ats_cons ?_ ?_ | exact ats_nil
    | ((with_reducible first | refine awN (tyOf_ok _) [] ?_ | refine awO (tyOf_ok _) [] ?_ | refine awP (tyOf_ok _) [] ?_ | refine awQ ?_ | refine awR ?_ | refine awS ?_); intro r hr; simp only [go_sem, Nat.reduceBEq, Nat.reduceBneDiff, Nat.reduceLT, Nat.reduceLeDiff, Nat.reduceAdd, Nat.reduceMul, Nat.reduceSub, Nat.reduceEqDiff, reduceCtorEq, w2, hlC, hlN, encIs_len, v8_len, Int.cast_ofNat_Int, Int.reduceToNat, Int.reduceEq, Int.reduceLT, Int.reduceLE, Int.reduceNe] at hr; subst hr; (first | refine caA (fun _ => hE) rfl ?_ ?_ ?_ | refine awV ?_ ?_ | refine awW ?_ ?_ | refine endK ?_ ?_ | (refine condK (fun h => ?_) (fun h => ?_) <;> (try simp only [go_sem, reduceCtorEq] at h) <;> (try (exfalso; omega))))) | fail)) <;> (try omega)
      all_goals first | exact ⟨3, by simp only [go_sem, Nat.reduceBEq, Nat.reduceBneDiff, Nat.reduceLT, Nat.reduceLeDiff, Nat.reduceAdd, Nat.reduceMul, Nat.reduceSub, Nat.reduceEqDiff, reduceCtorEq] <;> exact rfl, by omega, by omega⟩
    | 3, _ =>
      unfold apS2
      (repeat' (first
    | exact trivial
    | (with_reducible first | refine awA ?_ | refine awB ?_ | refine awC ?_ | refine awD ?_ | refine awE ?_ | refine awF ?_ | refine awG ?_ | refine awH ?_ | refine awI ?_ | refine awJ ?_ | refine awK ?_ | refine awL ?_ | refine awM (by decide) ?_)
    | (refine aw_draw (id := 16) (t := (.node [0, 1, 2, 3, 4, 5, 6] [])) (drR [3] [53] []) mixed (by kernel_rfl) (by kernel_rfl) (fun _ _ h => h) ?_)
    | (refine aw_draw (id := 34) (t := (.node [0, 1, 2, 3, 4, 5, 6, 7, 8, 9, 10, 11, 12, 13, 14, 15, 16, 17, 18, 19, 20] [])) (drR [] [112, 120] []) mixed (by kernel_rfl) (by kernel_rfl) (fun _ _ h => h) ?_)
    | (refine aw_draw (id := 42) (t := (.node [0, 1, 2, 3, 4, 5, 6, 7, 8, 9, 10, 11, 12, 13, 14, 15, 16, 17, 18, 19, 20, 21, 22, 23, 24, 25, 26, 27, 28, 29, 30, 31, 32, 33, 34, 35, 36, 37, 38, 39, 40] [])) (drR [] [156, 159, 172, 180, 183, 187, 190] []) mixed (by kernel_rfl) (by kernel_rfl) (fun _ _ h => h) ?_)
    | (refine at_done (by simp only [List.filterMap_cons, List.filterMap_nil, List.getElem?_toArray, List.getElem?_cons_zero, List.getElem?_cons_succ]; exact rfl) ?_) | (refine at_alt (by simp only [List.filterMap_cons, List.filterMap_nil, List.getElem?_toArray, List.getElem?_cons_zero, List.getElem?_cons_succ]; exact rfl) ?_) | refine qalt_normal ?_ | refine ats_cons ?_ ?_ | exact ats_nil
    | ((with_reducible first | refine awN (tyOf_ok _) [] ?_ | refine awO (tyOf_ok _) [] ?_ | refine awP (tyOf_ok _) [] ?_ | refine awQ ?_ | refine awR ?_ | refine awS ?_); intro r hr; simp only [go_sem, Nat.reduceBEq, Nat.reduceBneDiff, Nat.reduceLT, Nat.reduceLeDiff, Nat.reduceAdd, Nat.reduceMul, Nat.reduceSub, Nat.reduceEqDiff, reduceCtorEq, encIs_len, v8_len, Int.cast_ofNat_Int, Int.reduceToNat, Int.reduceEq, Int.reduceLT, Int.reduceLE, Int.reduceNe] at hr; subst hr; (first | refine awV ?_ ?_ | refine awW ?_ ?_ | refine endK ?_ ?_ | (refine condK (fun h => ?_) (fun h => ?_) <;> (try simp only [go_sem, reduceCtorEq] at h) <;> (try (exfalso; omega))))) | fail)) <;> (try omega)
      refine go_loop [1, 3, 5, 10, 11, 12] [1, 3, 45, 9000, 9001, 9002, 9003, 9004, 9005] (apS4 S R C N) (fun k => k ≤ 3) (fun k => 3 - k) 0 (by simp only [apS4, go_sem, Nat.reduceBEq, Nat.reduceBneDiff, Nat.reduceLT, Nat.reduceLeDiff, Nat.reduceAdd, Nat.reduceMul, Nat.reduceSub, Nat.reduceEqDiff, reduceCtorEq] <;> exact rfl) (by decide) ?_
      intro k hk
      match k, hk with
      | 0, _ =>
        have n0 : IntKind.i64.wrap (0 - 0) = 0 := by decide
        have n1 : IntKind.i64.wrap (0 - 1) = -1 := by decide
        have m0 : IntKind.i64.wrap (0 - 1) = -1 := by decide
        unfold apS4
        (repeat' (first
    | exact trivial
    | (with_reducible first | refine awA ?_ | refine awB ?_ | refine awC ?_ | refine awD ?_ | refine awE ?_ | refine awF ?_ | refine awG ?_ | refine awH ?_ | refine awI ?_ | refine awJ ?_ | refine awK ?_ | refine awL ?_ | refine awM (by decide) ?_)
    | (refine aw_draw (id := 16) (t := (.node [0, 1, 2, 3, 4, 5, 6] [])) (drR [3] [53] []) mixed (by kernel_rfl) (by kernel_rfl) (fun _ _ h => h) ?_)
    | (refine aw_draw (id := 34) (t := (.node [0, 1, 2, 3, 4, 5, 6, 7, 8, 9, 10, 11, 12, 13, 14, 15, 16, 17, 18, 19, 20] [])) (drR [] [112, 120] []) mixed (by kernel_rfl) (by kernel_rfl) (fun _ _ h => h) ?_)
    | (refine aw_draw (id := 42) (t := (.node [0, 1, 2, 3, 4, 5, 6, 7, 8, 9, 10, 11, 12, 13, 14, 15, 16, 17, 18, 19, 20, 21, 22, 23, 24, 25, 26, 27, 28, 29, 30, 31, 32, 33, 34, 35, 36, 37, 38, 39, 40] [])) (drR [] [156, 159, 172, 180, 183, 187, 190] []) mixed (by kernel_rfl) (by kernel_rfl) (fun _ _ h => h) ?_)
    | (refine at_done (by simp only [List.filterMap_cons, List.filterMap_nil, List.getElem?_toArray, List.getElem?_cons_zero, List.getElem?_cons_succ]; exact rfl) ?_) | (refine at_alt (by simp only [List.filterMap_cons, List.filterMap_nil, List.getElem?_toArray, List.getElem?_cons_zero, List.getElem?_cons_succ]; exact rfl) ?_) | refine qalt_normal ?_ | refine ats_cons ?_ ?_ | exact ats_nil
    | ((with_reducible first | refine awN (tyOf_ok _) [] ?_ | refine awO (tyOf_ok _) [] ?_ | refine awP (tyOf_ok _) [] ?_ | refine awQ ?_ | refine awR ?_ | refine awS ?_); intro r hr; simp only [go_sem, Nat.reduceBEq, Nat.reduceBneDiff, Nat.reduceLT, Nat.reduceLeDiff, Nat.reduceAdd, Nat.reduceMul, Nat.reduceSub, Nat.reduceEqDiff, reduceCtorEq, w0, encIs_len, v8_len, Int.cast_ofNat_Int, Int.reduceToNat, Int.reduceEq, Int.reduceLT, Int.reduceLE, Int.reduceNe] at hr; subst hr; (first | refine awV ?_ ?_ | refine awW ?_ ?_ | refine endK ?_ ?_ | (refine condK (fun h => ?_) (fun h => ?_) <;> (try simp only [go_sem, reduceCtorEq] at h) <;> (try (exfalso; omega))))) | fail)) <;> (try omega)
        refine go_loop [1, 3, 5, 10, 11, 12, 13] [1, 3, 45, 9000, 9001, 9002, 9003, 9004, 9005] (fun i : Nat => ⟨[(1, true, .ptr 1 1 0 0), (3, true, .ptr 1 3 0 0), (5, true, .ref 31 3 45 0 3), (10, true, nil9), (11, true, nil9), (12, true, vI 0), (13, true, vI (i : Int))], [(1, .var [.lst 4 (encTs S), .lst 2 (encRs R)]), (3, .var [.v (.bool false), .lst 4 (encIs C), .lst 1 (v8 N)]), (45, .var [.v (.bool false), .ref 40 4 9000 0 C.length, .ref 3 1 9001 0 N.length, .v (.bool false), .ref 40 4 9002 0 C.length, .ref 3 1 9003 0 N.length, .v (.bool false), .ref 40 4 9004 0 C.length, .ref 3 1 9005 0 N.length]), (9000, .row 40 4 (encIs (putI (-1) C i))), (9001, .row 3 1 (v8 (N))), (9002, .row 40 4 (encIs (C))), (9003, .row 3 1 (v8 (N))), (9004, .row 40 4 (encIs (C))), (9005, .row 3 1 (v8 (N)))]⟩) (fun i => i ≤ C.length) (fun i => C.length - i) 0 (by simp only [putI_zero, go_sem, Nat.reduceBEq, Nat.reduceBneDiff, Nat.reduceLT, Nat.reduceLeDiff, Nat.reduceAdd, Nat.reduceMul, Nat.reduceSub, Nat.reduceEqDiff, reduceCtorEq] <;> exact rfl) (Nat.zero_le _) ?_
        intro i hi
        have hw := wrap_i64 (n := (i : Int) + 1) (by omega)
        by_cases hlt : i < C.length
        · have e1 : ((i : Int) < C.length) = True := eq_true (by omega)
          have g1 := putI_get (-1) C hlt
          have hs := putI_set (-1) C hlt
          have zi : ((i : Int)).toNat = i := by omega
          have hl := putI_len (-1) C (Nat.le_of_lt hlt)
          (repeat' (first
    | exact trivial
    | (with_reducible first | refine awA ?_ | refine awB ?_ | refine awC ?_ | refine awD ?_ | refine awE ?_ | refine awF ?_ | refine awG ?_ | refine awH ?_ | refine awI ?_ | refine awJ ?_ | refine awK ?_ | refine awL ?_ | refine awM (by decide) ?_)
    | (refine aw_draw (id := 16) (t := (.node [0, 1, 2, 3, 4, 5, 6] [])) (drR [3] [53] []) mixed (by kernel_rfl) (by kernel_rfl) (fun _ _ h => h) ?_)
    | (refine aw_draw (id := 34) (t := (.node [0, 1, 2, 3, 4, 5, 6, 7, 8, 9, 10, 11, 12, 13, 14, 15, 16, 17, 18, 19, 20] [])) (drR [] [112, 120] []) mixed (by kernel_rfl) (by kernel_rfl) (fun _ _ h => h) ?_)
    | (refine aw_draw (id := 42) (t := (.node [0, 1, 2, 3, 4, 5, 6, 7, 8, 9, 10, 11, 12, 13, 14, 15, 16, 17, 18, 19, 20, 21, 22, 23, 24, 25, 26, 27, 28, 29, 30, 31, 32, 33, 34, 35, 36, 37, 38, 39, 40] [])) (drR [] [156, 159, 172, 180, 183, 187, 190] []) mixed (by kernel_rfl) (by kernel_rfl) (fun _ _ h => h) ?_)
    | (refine at_done (by simp only [List.filterMap_cons, List.filterMap_nil, List.getElem?_toArray, List.getElem?_cons_zero, List.getElem?_cons_succ]; exact rfl) ?_) | (refine at_alt (by simp only [List.filterMap_cons, List.filterMap_nil, List.getElem?_toArray, List.getElem?_cons_zero, List.getElem?_cons_succ]; exact rfl) ?_) | refine qalt_normal ?_ | refine ats_cons ?_ ?_ | exact ats_nil
    | ((with_reducible first | refine awN (tyOf_ok _) [] ?_ | refine awO (tyOf_ok _) [] ?_ | refine awP (tyOf_ok _) [] ?_ | refine awQ ?_ | refine awR ?_ | refine awS ?_); intro r hr; simp only [go_sem, Nat.reduceBEq, Nat.reduceBneDiff, Nat.reduceLT, Nat.reduceLeDiff, Nat.reduceAdd, Nat.reduceMul, Nat.reduceSub, Nat.reduceEqDiff, reduceCtorEq, hw, e1, g1, hs, zi, hl, n0, n1, m0, setXs, Nat.zero_add, encIs_len, v8_len, Int.cast_ofNat_Int, Int.reduceToNat, Int.reduceEq, Int.reduceLT, Int.reduceLE, Int.reduceNe] at hr; subst hr; (first | refine awV ?_ ?_ | refine awW ?_ ?_ | refine endK ?_ ?_ | (refine condK (fun h => ?_) (fun h => ?_) <;> (try simp only [go_sem, reduceCtorEq] at h) <;> (try (exfalso; omega))))) | fail)) <;> (try omega)
          all_goals first | omega | exact ⟨i + 1, by simp only [go_sem, Nat.reduceBEq, Nat.reduceBneDiff, Nat.reduceLT, Nat.reduceLeDiff, Nat.reduceAdd, Nat.reduceMul, Nat.reduceSub, Nat.reduceEqDiff, reduceCtorEq] <;> exact rfl, hlt, by omega⟩
        have e1 : ((i : Int) < C.length) = False := eq_false (by omega)
        obtain rfl : i = C.length := by omega
        clear hi hw hlt
        rw [putI_full]
        (repeat' (first
    | exact trivial
    | (with_reducible first | refine awA ?_ | refine awB ?_ | refine awC ?_ | refine awD ?_ | refine awE ?_ | refine awF ?_ | refine awG ?_ | refine awH ?_ | refine awI ?_ | refine awJ ?_ | refine awK ?_ | refine awL ?_ | refine awM (by decide) ?_)
    | (refine aw_draw (id := 16) (t := (.node [0, 1, 2, 3, 4, 5, 6] [])) (drR [3] [53] []) mixed (by kernel_rfl) (by kernel_rfl) (fun _ _ h => h) ?_)
    | (refine aw_draw (id := 34) (t := (.node [0, 1, 2, 3, 4, 5, 6, 7, 8, 9, 10, 11, 12, 13, 14, 15, 16, 17, 18, 19, 20] [])) (drR [] [112, 120] []) mixed (by kernel_rfl) (by kernel_rfl) (fun _ _ h => h) ?_)
    | (refine aw_draw (id := 42) (t := (.node [0, 1, 2, 3, 4, 5, 6, 7, 8, 9, 10, 11, 12, 13, 14, 15, 16, 17, 18, 19, 20, 21, 22, 23, 24, 25, 26, 27, 28, 29, 30, 31, 32, 33, 34, 35, 36, 37, 38, 39, 40] [])) (drR [] [156, 159, 172, 180, 183, 187, 190] []) mixed (by kernel_rfl) (by kernel_rfl) (fun _ _ h => h) ?_)
    | (refine at_done (by simp only [List.filterMap_cons, List.filterMap_nil, List.getElem?_toArray, List.getElem?_cons_zero, List.getElem?_cons_succ]; exact rfl) ?_) | (refine at_alt (by simp only [List.filterMap_cons, List.filterMap_nil, List.getElem?_toArray, List.getElem?_cons_zero, List.getElem?_cons_succ]; exact rfl) ?_) | refine qalt_normal ?_ | refine ats_cons ?_ ?_ | exact ats_nil
    | ((with_reducible first | refine awN (tyOf_ok _) [] ?_ | refine awO (tyOf_ok _) [] ?_ | refine awP (tyOf_ok _) [] ?_ | refine awQ ?_ | refine awR ?_ | refine awS ?_); intro r hr; simp only [go_sem, Nat.reduceBEq, Nat.reduceBneDiff, Nat.reduceLT, Nat.reduceLeDiff, Nat.reduceAdd, Nat.reduceMul, Nat.reduceSub, Nat.reduceEqDiff, reduceCtorEq, e1, n0, n1, m0, mkI_len, encIs_len, v8_len, Int.cast_ofNat_Int, Int.reduceToNat, Int.reduceEq, Int.reduceLT, Int.reduceLE, Int.reduceNe] at hr; subst hr; (first | refine awV ?_ ?_ | refine awW ?_ ?_ | refine endK ?_ ?_ | (refine condK (fun h => ?_) (fun h => ?_) <;> (try simp only [go_sem, reduceCtorEq] at h) <;> (try (exfalso; omega))))) | fail)) <;> (try omega)
        refine go_loop [1, 3, 5, 10, 11, 12, 14] [1, 3, 45, 9000, 9001, 9002, 9003, 9004, 9005] (fun i : Nat => ⟨[(1, true, .ptr 1 1 0 0), (3, true, .ptr 1 3 0 0), (5, true, .ref 31 3 45 0 3), (10, true, nil9), (11, true, nil9), (12, true, vI 0), (14, true, vI (i : Int))], [(1, .var [.lst 4 (encTs S), .lst 2 (encRs R)]), (3, .var [.v (.bool false), .lst 4 (encIs C), .lst 1 (v8 N)]), (45, .var [.v (.bool false), .ref 40 4 9000 0 C.length, .ref 3 1 9001 0 N.length, .v (.bool false), .ref 40 4 9002 0 C.length, .ref 3 1 9003 0 N.length, .v (.bool false), .ref 40 4 9004 0 C.length, .ref 3 1 9005 0 N.length]), (9000, .row 40 4 (encIs (mkI (-1) C.length))), (9001, .row 3 1 (v8 (putN (-1) N i))), (9002, .row 40 4 (encIs (C))), (9003, .row 3 1 (v8 (N))), (9004, .row 40 4 (encIs (C))), (9005, .row 3 1 (v8 (N)))]⟩) (fun i => i ≤ N.length) (fun i => N.length - i) 0 (by simp only [putN_zero, go_sem, Nat.reduceBEq, Nat.reduceBneDiff, Nat.reduceLT, Nat.reduceLeDiff, Nat.reduceAdd, Nat.reduceMul, Nat.reduceSub, Nat.reduceEqDiff, reduceCtorEq] <;> exact rfl) (Nat.zero_le _) ?_
        clear e1
        intro i hi
        have hw := wrap_i64 (n := (i : Int) + 1) (by omega)
        by_cases hlt : i < N.length
        · have e1 : ((i : Int) < N.length) = True := eq_true (by omega)
          have g1 := putN_get (-1) N hlt
          have hs := putN_set (-1) N hlt
          have zi : ((i : Int)).toNat = i := by omega
          have hl := putN_len (-1) N (Nat.le_of_lt hlt)
          (repeat' (first
    | exact trivial
    | (with_reducible first | refine awA ?_ | refine awB ?_ | refine awC ?_ | refine awD ?_ | refine awE ?_ | refine awF ?_ | refine awG ?_ | refine awH ?_ | refine awI ?_ | refine awJ ?_ | refine awK ?_ | refine awL ?_ | refine awM (by decide) ?_)
    | (refine aw_draw (id := 16) (t := (.node [0, 1, 2, 3, 4, 5, 6] [])) (drR [3] [53] []) mixed (by kernel_rfl) (by kernel_rfl) (fun _ _ h => h) ?_)
    | (refine aw_draw (id := 34) (t := (.node [0, 1, 2, 3, 4, 5, 6, 7, 8, 9, 10, 11, 12, 13, 14, 15, 16, 17, 18, 19, 20] [])) (drR [] [112, 120] []) mixed (by kernel_rfl) (by kernel_rfl) (fun _ _ h => h) ?_)
    | (refine aw_draw (id := 42) (t := (.node [0, 1, 2, 3, 4, 5, 6, 7, 8, 9, 10, 11, 12, 13, 14, 15, 16, 17, 18, 19, 20, 21, 22, 23, 24, 25, 26, 27, 28, 29, 30, 31, 32, 33, 34, 35, 36, 37, 38, 39, 40] [])) (drR [] [156, 159, 172, 180, 183, 187, 190] []) mixed (by kernel_rfl) (by kernel_rfl) (fun _ _ h => h) ?_)
    | (refine at_done (by simp only [List.filterMap_cons, List.filterMap_nil, List.getElem?_toArray, List.getElem?_cons_zero, List.getElem?_cons_succ]; exact rfl) ?_) | (refine at_alt (by simp only [List.filterMap_cons, List.filterMap_nil, List.getElem?_toArray, List.getElem?_cons_zero, List.getElem?_cons_succ]; exact rfl) ?_) | refine qalt_normal ?_ | refine ats_cons ?_ ?_ | exact ats_nil
    | ((with_reducible first | refine awN (tyOf_ok _) [] ?_ | refine awO (tyOf_ok _) [] ?_ | refine awP (tyOf_ok _) [] ?_ | refine awQ ?_ | refine awR ?_ | refine awS ?_); intro r hr; simp only [go_sem, Nat.reduceBEq, Nat.reduceBneDiff, Nat.reduceLT, Nat.reduceLeDiff, Nat.reduceAdd, Nat.reduceMul, Nat.reduceSub, Nat.reduceEqDiff, reduceCtorEq, hw, e1, g1, hs, zi, hl, n0, n1, m0, setXs, Nat.zero_add, mkI_len, encIs_len, v8_len, Int.cast_ofNat_Int, Int.reduceToNat, Int.reduceEq, Int.reduceLT, Int.reduceLE, Int.reduceNe] at hr; subst hr; (first | refine awV ?_ ?_ | refine awW ?_ ?_ | refine endK ?_ ?_ | (refine condK (fun h => ?_) (fun h => ?_) <;> (try simp only [go_sem, reduceCtorEq] at h) <;> (try (exfalso; omega))))) | fail)) <;> (try omega)
          all_goals first | omega | exact ⟨i + 1, by simp only [go_sem, Nat.reduceBEq, Nat.reduceBneDiff, Nat.reduceLT, Nat.reduceLeDiff, Nat.reduceAdd, Nat.reduceMul, Nat.reduceSub, Nat.reduceEqDiff, reduceCtorEq] <;> exact rfl, hlt, by omega⟩
        have e1 : ((i : Int) < N.length) = False := eq_false (by omega)
        obtain rfl : i = N.length := by omega
        rw [putN_full]
        (repeat' (first
    | exact trivial
    | (with_reducible first | refine awA ?_ | refine awB ?_ | refine awC ?_ | refine awD ?_ | refine awE ?_ | refine awF ?_ | refine awG ?_ | refine awH ?_ | refine awI ?_ | refine awJ ?_ | refine awK ?_ | refine awL ?_ | refine awM (by decide) ?_)
    | (refine aw_draw (id := 16) (t := (.node [0, 1, 2, 3, 4, 5, 6] [])) (drR [3] [53] []) mixed (by kernel_rfl) (by kernel_rfl) (fun _ _ h => h) ?_)
    | (refine aw_draw (id := 34) (t := (.node [0, 1, 2, 3, 4, 5, 6, 7, 8, 9, 10, 11, 12, 13, 14, 15, 16, 17, 18, 19, 20] [])) (drR [] [112, 120] []) mixed (by kernel_rfl) (by kernel_rfl) (fun _ _ h => h) ?_)
    | (refine aw_draw (id := 42) (t := (.node [0, 1, 2, 3, 4, 5, 6, 7, 8, 9, 10, 11, 12, 13, 14, 15, 16, 17, 18, 19, 20, 21, 22, 23, 24, 25, 26, 27, 28, 29, 30, 31, 32, 33, 34, 35, 36, 37, 38, 39, 40] [])) (drR [] [156, 159, 172, 180, 183, 187, 190] []) mixed (by kernel_rfl) (by kernel_rfl) (fun _ _ h => h) ?_)
    | (refine at_done (by simp only [List.filterMap_cons, List.filterMap_nil, List.getElem?_toArray, List.getElem?_cons_zero, List.getElem?_cons_succ]; exact rfl) ?_) | (refine at_alt (by simp only [List.filterMap_cons, List.filterMap_nil, List.getElem?_toArray, List.getElem?_cons_zero, List.getElem?_cons_succ]; exact rfl) ?_) | refine qalt_normal ?_ | refine ats_cons ?_ ?_ | exact ats_nil
    | ((with_reducible first | refine awN (tyOf_ok _) [] ?_ | refine awO (tyOf_ok _) [] ?_ | refine awP (tyOf_ok _) [] ?_ | refine awQ ?_ | refine awR ?_ | refine awS ?_); intro r hr; simp only [go_sem, Nat.reduceBEq, Nat.reduceBneDiff, Nat.reduceLT, Nat.reduceLeDiff, Nat.reduceAdd, Nat.reduceMul, Nat.reduceSub, Nat.reduceEqDiff, reduceCtorEq, e1, w0, w1, w2, n0, n1, m0, mkI_len, encIs_len, v8_len, Int.cast_ofNat_Int, Int.reduceToNat, Int.reduceEq, Int.reduceLT, Int.reduceLE, Int.reduceNe] at hr; subst hr; (first | refine awV ?_ ?_ | refine awW ?_ ?_ | refine endK ?_ ?_ | (refine condK (fun h => ?_) (fun h => ?_) <;> (try simp only [go_sem, reduceCtorEq] at h) <;> (try (exfalso; omega))))) | fail)) <;> (try omega)
        all_goals first | exact ⟨1, by simp only [go_sem, Nat.reduceBEq, Nat.reduceBneDiff, Nat.reduceLT, Nat.reduceLeDiff, Nat.reduceAdd, Nat.reduceMul, Nat.reduceSub, Nat.reduceEqDiff, reduceCtorEq] <;> exact rfl, by omega, by omega⟩
      | 1, _ =>
        have n0 : IntKind.i64.wrap (0 - 1) = -1 := by decide
        have n1 : IntKind.i64.wrap (-1 - 1) = -2 := by decide
        have m0 : IntKind.i64.wrap (0 - 1) = -1 := by decide
        unfold apS4
        (repeat' (first
    | exact trivial
    | (with_reducible first | refine awA ?_ | refine awB ?_ | refine awC ?_ | refine awD ?_ | refine awE ?_ | refine awF ?_ | refine awG ?_ | refine awH ?_ | refine awI ?_ | refine awJ ?_ | refine awK ?_ | refine awL ?_ | refine awM (by decide) ?_)
    | (refine aw_draw (id := 16) (t := (.node [0, 1, 2, 3, 4, 5, 6] [])) (drR [3] [53] []) mixed (by kernel_rfl) (by kernel_rfl) (fun _ _ h => h) ?_)
    | (refine aw_draw (id := 34) (t := (.node [0, 1, 2, 3, 4, 5, 6, 7, 8, 9, 10, 11, 12, 13, 14, 15, 16, 17, 18, 19, 20] [])) (drR [] [112, 120] []) mixed (by kernel_rfl) (by kernel_rfl) (fun _ _ h => h) ?_)
    | (refine aw_draw (id := 42) (t := (.node [0, 1, 2, 3, 4, 5, 6, 7, 8, 9, 10, 11, 12, 13, 14, 15, 16, 17, 18, 19, 20, 21, 22, 23, 24, 25, 26, 27, 28, 29, 30, 31, 32, 33, 34, 35, 36, 37, 38, 39, 40] [])) (drR [] [156, 159, 172, 180, 183, 187, 190] []) mixed (by kernel_rfl) (by kernel_rfl) (fun _ _ h => h) ?_)
    | (refine at_done (by simp only [List.filterMap_cons, List.filterMap_nil, List.getElem?_toArray, List.getElem?_cons_zero, List.getElem?_cons_succ]; exact rfl) ?_) | (refine at_alt (by simp only [List.filterMap_cons, List.filterMap_nil, List.getElem?_toArray, List.getElem?_cons_zero, List.getElem?_cons_succ]; exact rfl) ?_) | refine qalt_normal ?_ | refine ats_cons ?_ ?_ | exact ats_nil
    | ((with_reducible first | refine awN (tyOf_ok _) [] ?_ | refine awO (tyOf_ok _) [] ?_ | refine awP (tyOf_ok _) [] ?_ | refine awQ ?_ | refine awR ?_ | refine awS ?_); intro r hr; simp only [go_sem, Nat.reduceBEq, Nat.reduceBneDiff, Nat.reduceLT, Nat.reduceLeDiff, Nat.reduceAdd, Nat.reduceMul, Nat.reduceSub, Nat.reduceEqDiff, reduceCtorEq, w1, encIs_len, v8_len, Int.cast_ofNat_Int, Int.reduceToNat, Int.reduceEq, Int.reduceLT, Int.reduceLE, Int.reduceNe] at hr; subst hr; (first | refine awV ?_ ?_ | refine awW ?_ ?_ | refine endK ?_ ?_ | (refine condK (fun h => ?_) (fun h => ?_) <;> (try simp only [go_sem, reduceCtorEq] at h) <;> (try (exfalso; omega))))) | fail)) <;> (try omega)
        refine go_loop [1, 3, 5, 10, 11, 12, 13] [1, 3, 45, 9000, 9001, 9002, 9003, 9004, 9005] (fun i : Nat => ⟨[(1, true, .ptr 1 1 0 0), (3, true, .ptr 1 3 0 0), (5, true, .ref 31 3 45 0 3), (10, true, nil9), (11, true, nil9), (12, true, vI 1), (13, true, vI (i : Int))], [(1, .var [.lst 4 (encTs S), .lst 2 (encRs R)]), (3, .var [.v (.bool false), .lst 4 (encIs C), .lst 1 (v8 N)]), (45, .var [.v (.bool false), .ref 40 4 9000 0 C.length, .ref 3 1 9001 0 N.length, .v (.bool false), .ref 40 4 9002 0 C.length, .ref 3 1 9003 0 N.length, .v (.bool false), .ref 40 4 9004 0 C.length, .ref 3 1 9005 0 N.length]), (9000, .row 40 4 (encIs (mkI (-1) C.length))), (9001, .row 3 1 (v8 (mkN (-1) N.length))), (9002, .row 40 4 (encIs (putI (-2) C i))), (9003, .row 3 1 (v8 (N))), (9004, .row 40 4 (encIs (C))), (9005, .row 3 1 (v8 (N)))]⟩) (fun i => i ≤ C.length) (fun i => C.length - i) 0 (by simp only [putI_zero, go_sem, Nat.reduceBEq, Nat.reduceBneDiff, Nat.reduceLT, Nat.reduceLeDiff, Nat.reduceAdd, Nat.reduceMul, Nat.reduceSub, Nat.reduceEqDiff, reduceCtorEq] <;> exact rfl) (Nat.zero_le _) ?_
        intro i hi
        have hw := wrap_i64 (n := (i : Int) + 1) (by omega)
        by_cases hlt : i < C.length
        · have e1 : ((i : Int) < C.length) = True := eq_true (by omega)
          have g1 := putI_get (-2) C hlt
          have hs := putI_set (-2) C hlt
          have zi : ((i : Int)).toNat = i := by omega
          have hl := putI_len (-2) C (Nat.le_of_lt hlt)
          (repeat' (first
    | exact trivial
    | (with_reducible first | refine awA ?_ | refine awB ?_ | refine awC ?_ | refine awD ?_ | refine awE ?_ | refine awF ?_ | refine awG ?_ | refine awH ?_ | refine awI ?_ | refine awJ ?_ | refine awK ?_ | refine awL ?_ | refine awM (by decide) ?_)
    | (refine aw_draw (id := 16) (t := (.node [0, 1, 2, 3, 4, 5, 6] [])) (drR [3] [53] []) mixed (by kernel_rfl) (by kernel_rfl) (fun _ _ h => h) ?_)
    | (refine aw_draw (id := 34) (t := (.node [0, 1, 2, 3, 4, 5, 6, 7, 8, 9, 10, 11, 12, 13, 14, 15, 16, 17, 18, 19, 20] [])) (drR [] [112, 120] []) mixed (by kernel_rfl) (by kernel_rfl) (fun _ _ h => h) ?_)
    | (refine aw_draw (id := 42) (t := (.node [0, 1, 2, 3, 4, 5, 6, 7, 8, 9, 10, 11, 12, 13, 14, 15, 16, 17, 18, 19, 20, 21, 22, 23, 24, 25, 26, 27, 28, 29, 30, 31, 32, 33, 34, 35, 36, 37, 38, 39, 40] [])) (drR [] [156, 159, 172, 180, 183, 187, 190] []) mixed (by kernel_rfl) (by kernel_rfl) (fun _ _ h => h) ?_)
    | (refine at_done (by simp only [List.filterMap_cons, List.filterMap_nil, List.getElem?_toArray, List.getElem?_cons_zero, List.getElem?_cons_succ]; exact rfl) ?_) | (refine at_alt (by simp only [List.filterMap_cons, List.filterMap_nil, List.getElem?_toArray, List.getElem?_cons_zero, List.getElem?_cons_succ]; exact rfl) ?_) | refine qalt_normal ?_ | refine ats_cons ?_ ?_ | exact ats_nil
    | ((with_reducible first | refine awN (tyOf_ok _) [] ?_ | refine awO (tyOf_ok _) [] ?_ | refine awP (tyOf_ok _) [] ?_ | refine awQ ?_ | refine awR ?_ | refine awS ?_); intro r hr; simp only [go_sem, Nat.reduceBEq, Nat.reduceBneDiff, Nat.reduceLT, Nat.reduceLeDiff, Nat.reduceAdd, Nat.reduceMul, Nat.reduceSub, Nat.reduceEqDiff, reduceCtorEq, hw, e1, g1, hs, zi, hl, n0, n1, m0, setXs, Nat.zero_add, encIs_len, v8_len, Int.cast_ofNat_Int, Int.reduceToNat, Int.reduceEq, Int.reduceLT, Int.reduceLE, Int.reduceNe] at hr; subst hr; (first | refine awV ?_ ?_ | refine awW ?_ ?_ | refine endK ?_ ?_ | (refine condK (fun h => ?_) (fun h => ?_) <;> (try simp only [go_sem, reduceCtorEq] at h) <;> (try (exfalso; omega))))) | fail)) <;> (try omega)
          all_goals first | omega | exact ⟨i + 1, by simp only [go_sem, Nat.reduceBEq, Nat.reduceBneDiff, Nat.reduceLT, Nat.reduceLeDiff, Nat.reduceAdd, Nat.reduceMul, Nat.reduceSub, Nat.reduceEqDiff, reduceCtorEq] <;> exact rfl, hlt, by omega⟩
        have e1 : ((i : Int) < C.length) = False := eq_false (by omega)
        obtain rfl : i = C.length := by omega
        clear hi hw hlt
        rw [putI_full]
        (repeat' (first
    | exact trivial
    | (with_reducible first | refine awA ?_ | refine awB ?_ | refine awC ?_ | refine awD ?_ | refine awE ?_ | refine awF ?_ | refine awG ?_ | refine awH ?_ | refine awI ?_ | refine awJ ?_ | refine awK ?_ | refine awL ?_ | refine awM (by decide) ?_)
    | (refine aw_draw (id := 16) (t := (.node [0, 1, 2, 3, 4, 5, 6] [])) (drR [3] [53] []) mixed (by kernel_rfl) (by kernel_rfl) (fun _ _ h => h) ?_)
    | (refine aw_draw (id := 34) (t := (.node [0, 1, 2, 3, 4, 5, 6, 7, 8, 9, 10, 11, 12, 13, 14, 15, 16, 17, 18, 19, 20] [])) (drR [] [112, 120] []) mixed (by kernel_rfl) (by kernel_rfl) (fun _ _ h => h) ?_)
    | (refine aw_draw (id := 42) (t := (.node [0, 1, 2, 3, 4, 5, 6, 7, 8, 9, 10, 11, 12, 13, 14, 15, 16, 17, 18, 19, 20, 21, 22, 23, 24, 25, 26, 27, 28, 29, 30, 31, 32, 33, 34, 35, 36, 37, 38, 39, 40] [])) (drR [] [156, 159, 172, 180, 183, 187, 190] []) mixed (by kernel_rfl) (by kernel_rfl) (fun _ _ h => h) ?_)
    | (refine at_done (by simp only [List.filterMap_cons, List.filterMap_nil, List.getElem?_toArray, List.getElem?_cons_zero, List.getElem?_cons_succ]; exact rfl) ?_) | (refine at_alt (by simp only [List.filterMap_cons, List.filterMap_nil, List.getElem?_toArray, List.getElem?_cons_zero, List.getElem?_cons_succ]; exact rfl) ?_) | refine qalt_normal ?_ | refine ats_cons ?_ ?_ | exact ats_nil
    | ((with_reducible first | refine awN (tyOf_ok _) [] ?_ | refine awO (tyOf_ok _) [] ?_ | refine awP (tyOf_ok _) [] ?_ | refine awQ ?_ | refine awR ?_ | refine awS ?_); intro r hr; simp only [go_sem, Nat.reduceBEq, Nat.reduceBneDiff, Nat.reduceLT, Nat.reduceLeDiff, Nat.reduceAdd, Nat.reduceMul, Nat.reduceSub, Nat.reduceEqDiff, reduceCtorEq, e1, n0, n1, m0, mkI_len, encIs_len, v8_len, Int.cast_ofNat_Int, Int.reduceToNat, Int.reduceEq, Int.reduceLT, Int.reduceLE, Int.reduceNe] at hr; subst hr; (first | refine awV ?_ ?_ | refine awW ?_ ?_ | refine endK ?_ ?_ | (refine condK (fun h => ?_) (fun h => ?_) <;> (try simp only [go_sem, reduceCtorEq] at h) <;> (try (exfalso; omega))))) | fail)) <;> (try omega)
        refine go_loop [1, 3, 5, 10, 11, 12, 14] [1, 3, 45, 9000, 9001, 9002, 9003, 9004, 9005] (fun i : Nat => ⟨[(1, true, .ptr 1 1 0 0), (3, true, .ptr 1 3 0 0), (5, true, .ref 31 3 45 0 3), (10, true, nil9), (11, true, nil9), (12, true, vI 1), (14, true, vI (i : Int))], [(1, .var [.lst 4 (encTs S), .lst 2 (encRs R)]), (3, .var [.v (.bool false), .lst 4 (encIs C), .lst 1 (v8 N)]), (45, .var [.v (.bool false), .ref 40 4 9000 0 C.length, .ref 3 1 9001 0 N.length, .v (.bool false), .ref 40 4 9002 0 C.length, .ref 3 1 9003 0 N.length, .v (.bool false), .ref 40 4 9004 0 C.length, .ref 3 1 9005 0 N.length]), (9000, .row 40 4 (encIs (mkI (-1) C.length))), (9001, .row 3 1 (v8 (mkN (-1) N.length))), (9002, .row 40 4 (encIs (mkI (-2) C.length))), (9003, .row 3 1 (v8 (putN (-2) N i))), (9004, .row 40 4 (encIs (C))), (9005, .row 3 1 (v8 (N)))]⟩) (fun i => i ≤ N.length) (fun i => N.length - i) 0 (by simp only [putN_zero, go_sem, Nat.reduceBEq, Nat.reduceBneDiff, Nat.reduceLT, Nat.reduceLeDiff, Nat.reduceAdd, Nat.reduceMul, Nat.reduceSub, Nat.reduceEqDiff, reduceCtorEq] <;> exact rfl) (Nat.zero_le _) ?_
        clear e1
        intro i hi
        have hw := wrap_i64 (n := (i : Int) + 1) (by omega)
        by_cases hlt : i < N.length
        · have e1 : ((i : Int) < N.length) = True := eq_true (by omega)
          have g1 := putN_get (-2) N hlt
          have hs := putN_set (-2) N hlt
          have zi : ((i : Int)).toNat = i := by omega
          have hl := putN_len (-2) N (Nat.le_of_lt hlt)
          (repeat' (first
    | exact trivial
    | (with_reducible first | refine awA ?_ | refine awB ?_ | refine awC ?_ | refine awD ?_ | refine awE ?_ | refine awF ?_ | refine awG ?_ | refine awH ?_ | refine awI ?_ | refine awJ ?_ | refine awK ?_ | refine awL ?_ | refine awM (by decide) ?_)
    | (refine aw_draw (id := 16) (t := (.node [0, 1, 2, 3, 4, 5, 6] [])) (drR [3] [53] []) mixed (by kernel_rfl) (by kernel_rfl) (fun _ _ h => h) ?_)
    | (refine aw_draw (id := 34) (t := (.node [0, 1, 2, 3, 4, 5, 6, 7, 8, 9, 10, 11, 12, 13, 14, 15, 16, 17, 18, 19, 20] [])) (drR [] [112, 120] []) mixed (by kernel_rfl) (by kernel_rfl) (fun _ _ h => h) ?_)
    | (refine aw_draw (id := 42) (t := (.node [0, 1, 2, 3, 4, 5, 6, 7, 8, 9, 10, 11, 12, 13, 14, 15, 16, 17, 18, 19, 20, 21, 22, 23, 24, 25, 26, 27, 28, 29, 30, 31, 32, 33, 34, 35, 36, 37, 38, 39, 40] [])) (drR [] [156, 159, 172, 180, 183, 187, 190] []) mixed (by kernel_rfl) (by kernel_rfl) (fun _ _ h => h) ?_)
    | (refine at_done (by simp only [List.filterMap_cons, List.filterMap_nil, List.getElem?_toArray, List.getElem?_cons_zero, List.getElem?_cons_succ]; exact rfl) ?_) | (refine at_alt (by simp only [List.filterMap_cons, List.filterMap_nil, List.getElem?_toArray, List.getElem?_cons_zero, List.getElem?_cons_succ]; exact rfl) ?_) | refine qalt_normal ?_ | refine ats_cons ?_ ?_ | exact ats_nil
    | ((with_reducible first | refine awN (tyOf_ok _) [] ?_ | refine awO (tyOf_ok _) [] ?_ | refine awP (tyOf_ok _) [] ?_ | refine awQ ?_ | refine awR ?_ | refine awS ?_); intro r hr; simp only [go_sem, Nat.reduceBEq, Nat.reduceBneDiff, Nat.reduceLT, Nat.reduceLeDiff, Nat.reduceAdd, Nat.reduceMul, Nat.reduceSub, Nat.reduceEqDiff, reduceCtorEq, hw, e1, g1, hs, zi, hl, n0, n1, m0, setXs, Nat.zero_add, mkI_len, encIs_len, v8_len, Int.cast_ofNat_Int, Int.reduceToNat, Int.reduceEq, Int.reduceLT, Int.reduceLE, Int.reduceNe] at hr; subst hr; (first | refine awV ?_ ?_ | refine awW ?_ ?_ | refine endK ?_ ?_ | (refine condK (fun h => ?_) (fun h => ?_) <;> (try simp only [go_sem, reduceCtorEq] at h) <;> (try (exfalso; omega))))) | fail)) <;> (try omega)
          all_goals first | omega | exact ⟨i + 1, by simp only [go_sem, Nat.reduceBEq, Nat.reduceBneDiff, Nat.reduceLT, Nat.reduceLeDiff, Nat.reduceAdd, Nat.reduceMul, Nat.reduceSub, Nat.reduceEqDiff, reduceCtorEq] <;> exact rfl, hlt, by omega⟩
        have e1 : ((i : Int) < N.length) = False := eq_false (by omega)
        obtain rfl : i = N.length := by omega
        rw [putN_full]
        (repeat' (first
    | exact trivial
    | (with_reducible first | refine awA ?_ | refine awB ?_ | refine awC ?_ | refine awD ?_ | refine awE ?_ | refine awF ?_ | refine awG ?_ | refine awH ?_ | refine awI ?_ | refine awJ ?_ | refine awK ?_ | refine awL ?_ | refine awM (by decide) ?_)
    | (refine aw_draw (id := 16) (t := (.node [0, 1, 2, 3, 4, 5, 6] [])) (drR [3] [53] []) mixed (by kernel_rfl) (by kernel_rfl) (fun _ _ h => h) ?_)
    | (refine aw_draw (id := 34) (t := (.node [0, 1, 2, 3, 4, 5, 6, 7, 8, 9, 10, 11, 12, 13, 14, 15, 16, 17, 18, 19, 20] [])) (drR [] [112, 120] []) mixed (by kernel_rfl) (by kernel_rfl) (fun _ _ h => h) ?_)
    | (refine aw_draw (id := 42) (t := (.node [0, 1, 2, 3, 4, 5, 6, 7, 8, 9, 10, 11, 12, 13, 14, 15, 16, 17, 18, 19, 20, 21, 22, 23, 24, 25, 26, 27, 28, 29, 30, 31, 32, 33, 34, 35, 36, 37, 38, 39, 40] [])) (drR [] [156, 159, 172, 180, 183, 187, 190] []) mixed (by kernel_rfl) (by kernel_rfl) (fun _ _ h => h) ?_)
    | (refine at_done (by simp only [List.filterMap_cons, List.filterMap_nil, List.getElem?_toArray, List.getElem?_cons_zero, List.getElem?_cons_succ]; exact rfl) ?_) | (refine at_alt (by simp only [List.filterMap_cons, List.filterMap_nil, List.getElem?_toArray, List.getElem?_cons_zero, List.getElem?_cons_succ]; exact rfl) ?_) | refine qalt_normal ?_ | refine ats_cons ?_ ?_ | exact ats_nil
    | ((with_reducible first | refine awN (tyOf_ok _) [] ?_ | refine awO (tyOf_ok _) [] ?_ | refine awP (tyOf_ok _) [] ?_ | refine awQ ?_ | refine awR ?_ | refine awS ?_); intro r hr; simp only [go_sem, Nat.reduceBEq, Nat.reduceBneDiff, Nat.reduceLT, Nat.reduceLeDiff, Nat.reduceAdd, Nat.reduceMul, Nat.reduceSub, Nat.reduceEqDiff, reduceCtorEq, e1, w0, w1, w2, n0, n1, m0, mkI_len, encIs_len, v8_len, Int.cast_ofNat_Int, Int.reduceToNat, Int.reduceEq, Int.reduceLT, Int.reduceLE, Int.reduceNe] at hr; subst hr; (first | refine awV ?_ ?_ | refine awW ?_ ?_ | refine endK ?_ ?_ | (refine condK (fun h => ?_) (fun h => ?_) <;> (try simp only [go_sem, reduceCtorEq] at h) <;> (try (exfalso; omega))))) | fail)) <;> (try omega)
        all_goals first | exact ⟨2, by simp only [go_sem, Nat.reduceBEq, Nat.reduceBneDiff, Nat.reduceLT, Nat.reduceLeDiff, Nat.reduceAdd, Nat.reduceMul, Nat.reduceSub, Nat.reduceEqDiff, reduceCtorEq] <;> exact rfl, by omega, by omega⟩
      | 2, _ =>
        have n0 : IntKind.i64.wrap (0 - 2) = -2 := by decide
        have n1 : IntKind.i64.wrap (-2 - 1) = -3 := by decide
        have m0 : IntKind.i64.wrap (0 - 1) = -1 := by decide
        unfold apS4
        (repeat' (first
    | exact trivial
    | (with_reducible first | refine awA ?_ | refine awB ?_ | refine awC ?_ | refine awD ?_ | refine awE ?_ | refine awF ?_ | refine awG ?_ | refine awH ?_ | refine awI ?_ | refine awJ ?_ | refine awK ?_ | refine awL ?_ | refine awM (by decide) ?_)
    | (refine aw_draw (id := 16) (t := (.node [0, 1, 2, 3, 4, 5, 6] [])) (drR [3] [53] []) mixed (by kernel_rfl) (by kernel_rfl) (fun _ _ h => h) ?_)
    | (refine aw_draw (id := 34) (t := (.node [0, 1, 2, 3, 4, 5, 6, 7, 8, 9, 10, 11, 12, 13, 14, 15, 16, 17, 18, 19, 20] [])) (drR [] [112, 120] []) mixed (by kernel_rfl) (by kernel_rfl) (fun _ _ h => h) ?_)
    | (refine aw_draw (id := 42) (t := (.node [0, 1, 2, 3, 4, 5, 6, 7, 8, 9, 10, 11, 12, 13, 14, 15, 16, 17, 18, 19, 20, 21, 22, 23, 24, 25, 26, 27, 28, 29, 30, 31, 32, 33, 34, 35, 36, 37, 38, 39, 40] [])) (drR [] [156, 159, 172, 180, 183, 187, 190] []) mixed (by kernel_rfl) (by kernel_rfl) (fun _ _ h => h) ?_)
    | (refine at_done (by simp only [List.filterMap_cons, List.filterMap_nil, List.getElem?_toArray, List.getElem?_cons_zero, List.getElem?_cons_succ]; exact rfl) ?_) | (refine at_alt (by simp only [List.filterMap_cons, List.filterMap_nil, List.getElem?_toArray, List.getElem?_cons_zero, List.getElem?_cons_succ]; exact rfl) ?_) | refine qalt_normal ?_ | refine ats_cons ?_ ?_ | exact ats_nil
    | ((with_reducible first | refine awN (tyOf_ok _) [] ?_ | refine awO (tyOf_ok _) [] ?_ | refine awP (tyOf_ok _) [] ?_ | refine awQ ?_ | refine awR ?_ | refine awS ?_); intro r hr; simp only [go_sem, Nat.reduceBEq, Nat.reduceBneDiff, Nat.reduceLT, Nat.reduceLeDiff, Nat.reduceAdd, Nat.reduceMul, Nat.reduceSub, Nat.reduceEqDiff, reduceCtorEq, w2, encIs_len, v8_len, Int.cast_ofNat_Int, Int.reduceToNat, Int.reduceEq, Int.reduceLT, Int.reduceLE, Int.reduceNe] at hr; subst hr; (first | refine awV ?_ ?_ | refine awW ?_ ?_ | refine endK ?_ ?_ | (refine condK (fun h => ?_) (fun h => ?_) <;> (try simp only [go_sem, reduceCtorEq] at h) <;> (try (exfalso; omega))))) | fail)) <;> (try omega)
        refine go_loop [1, 3, 5, 10, 11, 12, 13] [1, 3, 45, 9000, 9001, 9002, 9003, 9004, 9005] (fun i : Nat => ⟨[(1, true, .ptr 1 1 0 0), (3, true, .ptr 1 3 0 0), (5, true, .ref 31 3 45 0 3), (10, true, nil9), (11, true, nil9), (12, true, vI 2), (13, true, vI (i : Int))], [(1, .var [.lst 4 (encTs S), .lst 2 (encRs R)]), (3, .var [.v (.bool false), .lst 4 (encIs C), .lst 1 (v8 N)]), (45, .var [.v (.bool false), .ref 40 4 9000 0 C.length, .ref 3 1 9001 0 N.length, .v (.bool false), .ref 40 4 9002 0 C.length, .ref 3 1 9003 0 N.length, .v (.bool false), .ref 40 4 9004 0 C.length, .ref 3 1 9005 0 N.length]), (9000, .row 40 4 (encIs (mkI (-1) C.length))), (9001, .row 3 1 (v8 (mkN (-1) N.length))), (9002, .row 40 4 (encIs (mkI (-2) C.length))), (9003, .row 3 1 (v8 (mkN (-2) N.length))), (9004, .row 40 4 (encIs (putI (-3) C i))), (9005, .row 3 1 (v8 (N)))]⟩) (fun i => i ≤ C.length) (fun i => C.length - i) 0 (by simp only [putI_zero, go_sem, Nat.reduceBEq, Nat.reduceBneDiff, Nat.reduceLT, Nat.reduceLeDiff, Nat.reduceAdd, Nat.reduceMul, Nat.reduceSub, Nat.reduceEqDiff, reduceCtorEq] <;> exact rfl) (Nat.zero_le _) ?_
        intro i hi
        have hw := wrap_i64 (n := (i : Int) + 1) (by omega)
        by_cases hlt : i < C.length
        · have e1 : ((i : Int) < C.length) = True := eq_true (by omega)
          have g1 := putI_get (-3) C hlt
          have hs := putI_set (-3) C hlt
          have zi : ((i : Int)).toNat = i := by omega
          have hl := putI_len (-3) C (Nat.le_of_lt hlt)
          (repeat' (first
    | exact trivial
    | (with_reducible first | refine awA ?_ | refine awB ?_ | refine awC ?_ | refine awD ?_ | refine awE ?_ | refine awF ?_ | refine awG ?_ | refine awH ?_ | refine awI ?_ | refine awJ ?_ | refine awK ?_ | refine awL ?_ | refine awM (by decide) ?_)
    | (refine aw_draw (id := 16) (t := (.node [0, 1, 2, 3, 4, 5, 6] [])) (drR [3] [53] []) mixed (by kernel_rfl) (by kernel_rfl) (fun _ _ h => h) ?_)
    | (refine aw_draw (id := 34) (t := (.node [0, 1, 2, 3, 4, 5, 6, 7, 8, 9, 10, 11, 12, 13, 14, 15, 16, 17, 18, 19, 20] [])) (drR [] [112, 120] []) mixed (by kernel_rfl) (by kernel_rfl) (fun _ _ h => h) ?_)
    | (refine aw_draw (id := 42) (t := (.node [0, 1, 2, 3, 4, 5, 6, 7, 8, 9, 10, 11, 12, 13, 14, 15, 16, 17, 18, 19, 20, 21, 22, 23, 24, 25, 26, 27, 28, 29, 30, 31, 32, 33, 34, 35, 36, 37, 38, 39, 40] [])) (drR [] [156, 159, 172, 180, 183, 187, 190] []) mixed (by kernel_rfl) (by kernel_rfl) (fun _ _ h => h) ?_)
    | (refine at_done (by simp only [List.filterMap_cons, List.filterMap_nil, List.getElem?_toArray, List.getElem?_cons_zero, List.getElem?_cons_succ]; exact rfl) ?_) | (refine at_alt (by simp only [List.filterMap_cons, List.filterMap_nil, List.getElem?_toArray, List.getElem?_cons_zero, List.getElem?_cons_succ]; exact rfl) ?_) | refine qalt_normal ?_ | refine ats_cons ?_ ?_ | exact ats_nil
    | ((with_reducible first | refine awN (tyOf_ok _) [] ?_ | refine awO (tyOf_ok _) [] ?_ | refine awP (tyOf_ok _) [] ?_ | refine awQ ?_ | refine awR ?_ | refine awS ?_); intro r hr; simp only [go_sem, Nat.reduceBEq, Nat.reduceBneDiff, Nat.reduceLT, Nat.reduceLeDiff, Nat.reduceAdd, Nat.reduceMul, Nat.reduceSub, Nat.reduceEqDiff, reduceCtorEq, hw, e1, g1, hs, zi, hl, n0, n1, m0, setXs, Nat.zero_add, encIs_len, v8_len, Int.cast_ofNat_Int, Int.reduceToNat, Int.reduceEq, Int.reduceLT, Int.reduceLE, Int.reduceNe] at hr; subst hr; (first | refine awV ?_ ?_ | refine awW ?_ ?_ | refine endK ?_ ?_ | (refine condK (fun h => ?_) (fun h => ?_) <;> (try simp only [go_sem, reduceCtorEq] at h) <;> (try (exfalso; omega))))) | fail)) <;> (try omega)
          all_goals first | omega | exact ⟨i + 1, by simp only [go_sem, Nat.reduceBEq, Nat.reduceBneDiff, Nat.reduceLT, Nat.reduceLeDiff, Nat.reduceAdd, Nat.reduceMul, Nat.reduceSub, Nat.reduceEqDiff, reduceCtorEq] <;> exact rfl, hlt, by omega⟩
        have e1 : ((i : Int) < C.length) = False := eq_false (by omega)
        obtain rfl : i = C.length := by omega
        clear hi hw hlt
        rw [putI_full]
        (repeat' (first
    | exact trivial
    | (with_reducible first | refine awA ?_ | refine awB ?_ | refine awC ?_ | refine awD ?_ | refine awE ?_ | refine awF ?_ | refine awG ?_ | refine awH ?_ | refine awI ?_ | refine awJ ?_ | refine awK ?_ | refine awL ?_ | refine awM (by decide) ?_)
    | (refine aw_draw (id := 16) (t := (.node [0, 1, 2, 3, 4, 5, 6] [])) (drR [3] [53] []) mixed (by kernel_rfl) (by kernel_rfl) (fun _ _ h => h) ?_)
    | (refine aw_draw (id := 34) (t := (.node [0, 1, 2, 3, 4, 5, 6, 7, 8, 9, 10, 11, 12, 13, 14, 15, 16, 17, 18, 19, 20] [])) (drR [] [112, 120] []) mixed (by kernel_rfl) (by kernel_rfl) (fun _ _ h => h) ?_)
    | (refine aw_draw (id := 42) (t := (.node [0, 1, 2, 3, 4, 5, 6, 7, 8, 9, 10, 11, 12, 13, 14, 15, 16, 17, 18, 19, 20, 21, 22, 23, 24, 25, 26, 27, 28, 29, 30, 31, 32, 33, 34, 35, 36, 37, 38, 39, 40] [])) (drR [] [156, 159, 172, 180, 183, 187, 190] []) mixed (by kernel_rfl) (by kernel_rfl) (fun _ _ h => h) ?_)
    | (refine at_done (by simp only [List.filterMap_cons, List.filterMap_nil, List.getElem?_toArray, List.getElem?_cons_zero, List.getElem?_cons_succ]; exact rfl) ?_) | (refine at_alt (by simp only [List.filterMap_cons, List.filterMap_nil, List.getElem?_toArray, List.getElem?_cons_zero, List.getElem?_cons_succ]; exact rfl) ?_) | refine qalt_normal ?_ | refine ats_cons ?_ ?_ | exact ats_nil
    | ((with_reducible first | refine awN (tyOf_ok _) [] ?_ | refine awO (tyOf_ok _) [] ?_ | refine awP (tyOf_ok _) [] ?_ | refine awQ ?_ | refine awR ?_ | refine awS ?_); intro r hr; simp only [go_sem, Nat.reduceBEq, Nat.reduceBneDiff, Nat.reduceLT, Nat.reduceLeDiff, Nat.reduceAdd, Nat.reduceMul, Nat.reduceSub, Nat.reduceEqDiff, reduceCtorEq, e1, n0, n1, m0, mkI_len, encIs_len, v8_len, Int.cast_ofNat_Int, Int.reduceToNat, Int.reduceEq, Int.reduceLT, Int.reduceLE, Int.reduceNe] at hr; subst hr; (first | refine awV ?_ ?_ | refine awW ?_ ?_ | refine endK ?_ ?_ | (refine condK (fun h => ?_) (fun h => ?_) <;> (try simp only [go_sem, reduceCtorEq] at h) <;> (try (exfalso; omega))))) | fail)) <;> (try omega)
        refine go_loop [1, 3, 5, 10, 11, 12, 14] [1, 3, 45, 9000, 9001, 9002, 9003, 9004, 9005] (fun i : Nat => ⟨[(1, true, .ptr 1 1 0 0), (3, true, .ptr 1 3 0 0), (5, true, .ref 31 3 45 0 3), (10, true, nil9), (11, true, nil9), (12, true, vI 2), (14, true, vI (i : Int))], [(1, .var [.lst 4 (encTs S), .lst 2 (encRs R)]), (3, .var [.v (.bool false), .lst 4 (encIs C), .lst 1 (v8 N)]), (45, .var [.v (.bool false), .ref 40 4 9000 0 C.length, .ref 3 1 9001 0 N.length, .v (.bool false), .ref 40 4 9002 0 C.length, .ref 3 1 9003 0 N.length, .v (.bool false), .ref 40 4 9004 0 C.length, .ref 3 1 9005 0 N.length]), (9000, .row 40 4 (encIs (mkI (-1) C.length))), (9001, .row 3 1 (v8 (mkN (-1) N.length))), (9002, .row 40 4 (encIs (mkI (-2) C.length))), (9003, .row 3 1 (v8 (mkN (-2) N.length))), (9004, .row 40 4 (encIs (mkI (-3) C.length))), (9005, .row 3 1 (v8 (putN (-3) N i)))]⟩) (fun i => i ≤ N.length) (fun i => N.length - i) 0 (by simp only [putN_zero, go_sem, Nat.reduceBEq, Nat.reduceBneDiff, Nat.reduceLT, Nat.reduceLeDiff, Nat.reduceAdd, Nat.reduceMul, Nat.reduceSub, Nat.reduceEqDiff, reduceCtorEq] <;> exact rfl) (Nat.zero_le _) ?_
        clear e1
        intro i hi
        have hw := wrap_i64 (n := (i : Int) + 1) (by omega)
        by_cases hlt : i < N.length
        · have e1 : ((i : Int) < N.length) = True := eq_true (by omega)
          have g1 := putN_get (-3) N hlt
          have hs := putN_set (-3) N hlt
          have zi : ((i : Int)).toNat = i := by omega
          have hl := putN_len (-3) N (Nat.le_of_lt hlt)
          (repeat' (first
    | exact trivial
    | (with_reducible first | refine awA ?_ | refine awB ?_ | refine awC ?_ | refine awD ?_ | refine awE ?_ | refine awF ?_ | refine awG ?_ | refine awH ?_ | refine awI ?_ | refine awJ ?_ | refine awK ?_ | refine awL ?_ | refine awM (by decide) ?_)
    | (refine aw_draw (id := 16) (t := (.node [0, 1, 2, 3, 4, 5, 6] [])) (drR [3] [53] []) mixed (by kernel_rfl) (by kernel_rfl) (fun _ _ h => h) ?_)
    | (refine aw_draw (id := 34) (t := (.node [0, 1, 2, 3, 4, 5, 6, 7, 8, 9, 10, 11, 12, 13, 14, 15, 16, 17, 18, 19, 20] [])) (drR [] [112, 120] []) mixed (by kernel_rfl) (by kernel_rfl) (fun _ _ h => h) ?_)
    | (refine aw_draw (id := 42) (t := (.node [0, 1, 2, 3, 4, 5, 6, 7, 8, 9, 10, 11, 12, 13, 14, 15, 16, 17, 18, 19, 20, 21, 22, 23, 24, 25, 26, 27, 28, 29, 30, 31, 32, 33, 34, 35, 36, 37, 38, 39, 40] [])) (drR [] [156, 159, 172, 180, 183, 187, 190] []) mixed (by kernel_rfl) (by kernel_rfl) (fun _ _ h => h) ?_)
    | (refine at_done (by simp only [List.filterMap_cons, List.filterMap_nil, List.getElem?_toArray, List.getElem?_cons_zero, List.getElem?_cons_succ]; exact rfl) ?_) | (refine at_alt (by simp only [List.filterMap_cons, List.filterMap_nil, List.getElem?_toArray, List.getElem?_cons_zero, List.getElem?_cons_succ]; exact rfl) ?_) | refine qalt_normal ?_ | refine ats_cons ?_ ?_ | exact ats_nil
    | ((with_reducible first | refine awN (tyOf_ok _) [] ?_ | refine awO (tyOf_ok _) [] ?_ | refine awP (tyOf_ok _) [] ?_ | refine awQ ?_ | refine awR ?_ | refine awS ?_); intro r hr; simp only [go_sem, Nat.reduceBEq, Nat.reduceBneDiff, Nat.reduceLT, Nat.reduceLeDiff, Nat.reduceAdd, Nat.reduceMul, Nat.reduceSub, Nat.reduceEqDiff, reduceCtorEq, hw, e1, g1, hs, zi, hl, n0, n1, m0, setXs, Nat.zero_add, mkI_len, encIs_len, v8_len, Int.cast_ofNat_Int, Int.reduceToNat, Int.reduceEq, Int.reduceLT, Int.reduceLE, Int.reduceNe] at hr; subst hr; (first | refine awV ?_ ?_ | refine awW ?_ ?_ | refine endK ?_ ?_ | (refine condK (fun h => ?_) (fun h => ?_) <;> (try simp only [go_sem, reduceCtorEq] at h) <;> (try (exfalso; omega))))) | fail)) <;> (try omega)
          all_goals first | omega | exact ⟨i + 1, by simp only [go_sem, Nat.reduceBEq, Nat.reduceBneDiff, Nat.reduceLT, Nat.reduceLeDiff, Nat.reduceAdd, Nat.reduceMul, Nat.reduceSub, Nat.reduceEqDiff, reduceCtorEq] <;> exact rfl, hlt, by omega⟩
        have e1 : ((i : Int) < N.length) = False := eq_false (by omega)
        obtain rfl : i = N.length := by omega
        rw [putN_full]
        (repeat' (first
    | exact trivial
    | (with_reducible first | refine awA ?_ | refine awB ?_ | refine awC ?_ | refine awD ?_ | refine awE ?_ | refine awF ?_ | refine awG ?_ | refine awH ?_ | refine awI ?_ | refine awJ ?_ | refine awK ?_ | refine awL ?_ | refine awM (by decide) ?_)
    | (refine aw_draw (id := 16) (t := (.node [0, 1, 2, 3, 4, 5, 6] [])) (drR [3] [53] []) mixed (by kernel_rfl) (by kernel_rfl) (fun _ _ h => h) ?_)
    | (refine aw_draw (id := 34) (t := (.node [0, 1, 2, 3, 4, 5, 6, 7, 8, 9, 10, 11, 12, 13, 14, 15, 16, 17, 18, 19, 20] [])) (drR [] [112, 120] []) mixed (by kernel_rfl) (by kernel_rfl) (fun _ _ h => h) ?_)
    | (refine aw_draw (id := 42) (t := (.node [0, 1, 2, 3, 4, 5, 6, 7, 8, 9, 10, 11, 12, 13, 14, 15, 16, 17, 18, 19, 20, 21, 22, 23, 24, 25, 26, 27, 28, 29, 30, 31, 32, 33, 34, 35, 36, 37, 38, 39, 40] [])) (drR [] [156, 159, 172, 180, 183, 187, 190] []) mixed (by kernel_rfl) (by kernel_rfl) (fun _ _ h => h) ?_)
    | (refine at_done (by simp only [List.filterMap_cons, List.filterMap_nil, List.getElem?_toArray, List.getElem?_cons_zero, List.getElem?_cons_succ]; exact rfl) ?_) | (refine at_alt (by simp only [List.filterMap_cons, List.filterMap_nil, List.getElem?_toArray, List.getElem?_cons_zero, List.getElem?_cons_succ]; exact rfl) ?_) | refine qalt_normal ?_ | refine ats_cons ?_ ?_ | exact ats_nil
    | ((with_reducible first | refine awN (tyOf_ok _) [] ?_ | refine awO (tyOf_ok _) [] ?_ | refine awP (tyOf_ok _) [] ?_ | refine awQ ?_ | refine awR ?_ | refine awS ?_); intro r hr; simp only [go_sem, Nat.reduceBEq, Nat.reduceBneDiff, Nat.reduceLT, Nat.reduceLeDiff, Nat.reduceAdd, Nat.reduceMul, Nat.reduceSub, Nat.reduceEqDiff, reduceCtorEq, e1, w0, w1, w2, n0, n1, m0, mkI_len, encIs_len, v8_len, Int.cast_ofNat_Int, Int.reduceToNat, Int.reduceEq, Int.reduceLT, Int.reduceLE, Int.reduceNe] at hr; subst hr; (first | refine awV ?_ ?_ | refine awW ?_ ?_ | refine endK ?_ ?_ | (refine condK (fun h => ?_) (fun h => ?_) <;> (try simp only [go_sem, reduceCtorEq] at h) <;> (try (exfalso; omega))))) | fail)) <;> (try omega)
        all_goals first | exact ⟨3, by simp only [go_sem, Nat.reduceBEq, Nat.reduceBneDiff, Nat.reduceLT, Nat.reduceLeDiff, Nat.reduceAdd, Nat.reduceMul, Nat.reduceSub, Nat.reduceEqDiff, reduceCtorEq] <;> exact rfl, by omega, by omega⟩
      | 3, _ =>
        unfold apS4
        (repeat' (first
    | exact trivial
    | (with_reducible first | refine awA ?_ | refine awB ?_ | refine awC ?_ | refine awD ?_ | refine awE ?_ | refine awF ?_ | refine awG ?_ | refine awH ?_ | refine awI ?_ | refine awJ ?_ | refine awK ?_ | refine awL ?_ | refine awM (by decide) ?_)
    | (refine aw_draw (id := 16) (t := (.node [0, 1, 2, 3, 4, 5, 6] [])) (drR [3] [53] []) mixed (by kernel_rfl) (by kernel_rfl) (fun _ _ h => h) ?_)
    | (refine aw_draw (id := 34) (t := (.node [0, 1, 2, 3, 4, 5, 6, 7, 8, 9, 10, 11, 12, 13, 14, 15, 16, 17, 18, 19, 20] [])) (drR [] [112, 120] []) mixed (by kernel_rfl) (by kernel_rfl) (fun _ _ h => h) ?_)
    | (refine aw_draw (id := 42) (t := (.node [0, 1, 2, 3, 4, 5, 6, 7, 8, 9, 10, 11, 12, 13, 14, 15, 16, 17, 18, 19, 20, 21, 22, 23, 24, 25, 26, 27, 28, 29, 30, 31, 32, 33, 34, 35, 36, 37, 38, 39, 40] [])) (drR [] [156, 159, 172, 180, 183, 187, 190] []) mixed (by kernel_rfl) (by kernel_rfl) (fun _ _ h => h) ?_)
    | (refine at_done (by simp only [List.filterMap_cons, List.filterMap_nil, List.getElem?_toArray, List.getElem?_cons_zero, List.getElem?_cons_succ]; exact rfl) ?_) | (refine at_alt (by simp only [List.filterMap_cons, List.filterMap_nil, List.getElem?_toArray, List.getElem?_cons_zero, List.getElem?_cons_succ]; exact rfl) ?_) | refine qalt_normal ?_ | refine ats_cons ?_ ?_ | exact ats_nil
    | ((with_reducible first | refine awN (tyOf_ok _) [] ?_ | refine awO (tyOf_ok _) [] ?_ | refine awP (tyOf_ok _) [] ?_ | refine awQ ?_ | refine awR ?_ | refine awS ?_); intro r hr; simp only [go_sem, Nat.reduceBEq, Nat.reduceBneDiff, Nat.reduceLT, Nat.reduceLeDiff, Nat.reduceAdd, Nat.reduceMul, Nat.reduceSub, Nat.reduceEqDiff, reduceCtorEq, encIs_len, v8_len, Int.cast_ofNat_Int, Int.reduceToNat, Int.reduceEq, Int.reduceLT, Int.reduceLE, Int.reduceNe] at hr; subst hr; (first | refine awV ?_ ?_ | refine awW ?_ ?_ | refine endK ?_ ?_ | (refine condK (fun h => ?_) (fun h => ?_) <;> (try simp only [go_sem, reduceCtorEq] at h) <;> (try (exfalso; omega))))) | fail)) <;> (try omega)
        have hmC : ∀ z, (encIs (mkI z C.length)).take C.length = encIs (mkI z C.length) := fun z => take_len (by rw [encIs_len, mkI_len]; exact Nat.le_refl _)
        have hmN : ∀ z : Int, (v8 (mkN z N.length)).take N.length = v8 (mkN z N.length) := fun z => take_len (by rw [v8_len, mkN_len]; exact Nat.le_refl _)
        refine go_loop [1, 3, 5, 10, 11, 15] [1, 3, 45, 126, 139, 9000, 9001, 9002, 9003, 9004, 9005] (apS10 S R C N) (fun k => k ≤ 3) (fun k => 3 - k) 0 (by simp only [apS10, go_sem, Nat.reduceBEq, Nat.reduceBneDiff, Nat.reduceLT, Nat.reduceLeDiff, Nat.reduceAdd, Nat.reduceMul, Nat.reduceSub, Nat.reduceEqDiff, reduceCtorEq] <;> exact rfl) (by decide) ?_
        intro k hk
        match k, hk with
        | 0, _ =>
          have n0 : IntKind.i64.wrap (0 - 0) = 0 := by decide
          have n1 : IntKind.i64.wrap (0 - 1) = -1 := by decide
          have m0 : IntKind.i64.wrap (0 - 1) = -1 := by decide
          unfold apS10
          (repeat' (first
    | exact trivial
    | (with_reducible first | refine awA ?_ | refine awB ?_ | refine awC ?_ | refine awD ?_ | refine awE ?_ | refine awF ?_ | refine awG ?_ | refine awH ?_ | refine awI ?_ | refine awJ ?_ | refine awK ?_ | refine awL ?_ | refine awM (by decide) ?_)
    | (refine aw_draw (id := 16) (t := (.node [0, 1, 2, 3, 4, 5, 6] [])) (drR [3] [53] []) mixed (by kernel_rfl) (by kernel_rfl) (fun _ _ h => h) ?_)
    | (refine aw_draw (id := 34) (t := (.node [0, 1, 2, 3, 4, 5, 6, 7, 8, 9, 10, 11, 12, 13, 14, 15, 16, 17, 18, 19, 20] [])) (drR [] [112, 120] []) mixed (by kernel_rfl) (by kernel_rfl) (fun _ _ h => h) ?_)
    | (refine aw_draw (id := 42) (t := (.node [0, 1, 2, 3, 4, 5, 6, 7, 8, 9, 10, 11, 12, 13, 14, 15, 16, 17, 18, 19, 20, 21, 22, 23, 24, 25, 26, 27, 28, 29, 30, 31, 32, 33, 34, 35, 36, 37, 38, 39, 40] [])) (drR [] [156, 159, 172, 180, 183, 187, 190] []) mixed (by kernel_rfl) (by kernel_rfl) (fun _ _ h => h) ?_)
    | (refine at_done (by simp only [List.filterMap_cons, List.filterMap_nil, List.getElem?_toArray, List.getElem?_cons_zero, List.getElem?_cons_succ]; exact rfl) ?_) | (refine at_alt (by simp only [List.filterMap_cons, List.filterMap_nil, List.getElem?_toArray, List.getElem?_cons_zero, List.getElem?_cons_succ]; exact rfl) ?_) | refine qalt_normal ?_ | refine ats_cons ?_ ?_ | exact ats_nil
    | ((with_reducible first | refine awN (tyOf_ok _) [2000124, 2000137] ?_ | refine awO (tyOf_ok _) [2000124, 2000137] ?_ | refine awP (tyOf_ok _) [2000124, 2000137] ?_ | refine awQ ?_ | refine awR ?_ | refine awS ?_); intro r hr; simp only [go_sem, Nat.reduceBEq, Nat.reduceBneDiff, Nat.reduceLT, Nat.reduceLeDiff, Nat.reduceAdd, Nat.reduceMul, Nat.reduceSub, Nat.reduceEqDiff, reduceCtorEq, w0, n0, n1, m0, mkI_next, rep_next, hmC, hmN, mkI_len, Nat.le_refl, if_true, mkN_len, Nat.zero_add, List.drop_zero, encIs_len, v8_len, Int.cast_ofNat_Int, Int.reduceToNat, Int.reduceEq, Int.reduceLT, Int.reduceLE, Int.reduceNe] at hr; subst hr; (first | refine awV ?_ ?_ | refine awW ?_ ?_ | refine endK ?_ ?_ | (refine condK (fun h => ?_) (fun h => ?_) <;> (try simp only [go_sem, reduceCtorEq] at h) <;> (try (exfalso; omega))))) | fail)) <;> (try omega)
          all_goals first | exact ⟨1, by simp only [go_sem, Nat.reduceBEq, Nat.reduceBneDiff, Nat.reduceLT, Nat.reduceLeDiff, Nat.reduceAdd, Nat.reduceMul, Nat.reduceSub, Nat.reduceEqDiff, reduceCtorEq] <;> exact rfl, by omega, by omega⟩
        | 1, _ =>
          have n0 : IntKind.i64.wrap (0 - 1) = -1 := by decide
          have n1 : IntKind.i64.wrap (-1 - 1) = -2 := by decide
          have m0 : IntKind.i64.wrap (0 - 1) = -1 := by decide
          unfold apS10
          (repeat' (first
    | exact trivial
    | (with_reducible first | refine awA ?_ | refine awB ?_ | refine awC ?_ | refine awD ?_ | refine awE ?_ | refine awF ?_ | refine awG ?_ | refine awH ?_ | refine awI ?_ | refine awJ ?_ | refine awK ?_ | refine awL ?_ | refine awM (by decide) ?_)
    | (refine aw_draw (id := 16) (t := (.node [0, 1, 2, 3, 4, 5, 6] [])) (drR [3] [53] []) mixed (by kernel_rfl) (by kernel_rfl) (fun _ _ h => h) ?_)
    | (refine aw_draw (id := 34) (t := (.node [0, 1, 2, 3, 4, 5, 6, 7, 8, 9, 10, 11, 12, 13, 14, 15, 16, 17, 18, 19, 20] [])) (drR [] [112, 120] []) mixed (by kernel_rfl) (by kernel_rfl) (fun _ _ h => h) ?_)
    | (refine aw_draw (id := 42) (t := (.node [0, 1, 2, 3, 4, 5, 6, 7, 8, 9, 10, 11, 12, 13, 14, 15, 16, 17, 18, 19, 20, 21, 22, 23, 24, 25, 26, 27, 28, 29, 30, 31, 32, 33, 34, 35, 36, 37, 38, 39, 40] [])) (drR [] [156, 159, 172, 180, 183, 187, 190] []) mixed (by kernel_rfl) (by kernel_rfl) (fun _ _ h => h) ?_)
    | (refine at_done (by simp only [List.filterMap_cons, List.filterMap_nil, List.getElem?_toArray, List.getElem?_cons_zero, List.getElem?_cons_succ]; exact rfl) ?_) | (refine at_alt (by simp only [List.filterMap_cons, List.filterMap_nil, List.getElem?_toArray, List.getElem?_cons_zero, List.getElem?_cons_succ]; exact rfl) ?_) | refine qalt_normal ?_ | refine ats_cons ?_ ?_ | exact ats_nil
    | ((with_reducible first | refine awN (tyOf_ok _) [2000124, 2000137] ?_ | refine awO (tyOf_ok _) [2000124, 2000137] ?_ | refine awP (tyOf_ok _) [2000124, 2000137] ?_ | refine awQ ?_ | refine awR ?_ | refine awS ?_); intro r hr; simp only [go_sem, Nat.reduceBEq, Nat.reduceBneDiff, Nat.reduceLT, Nat.reduceLeDiff, Nat.reduceAdd, Nat.reduceMul, Nat.reduceSub, Nat.reduceEqDiff, reduceCtorEq, w1, n0, n1, m0, mkI_next, rep_next, hmC, hmN, mkI_len, Nat.le_refl, if_true, mkN_len, Nat.zero_add, List.drop_zero, encIs_len, v8_len, Int.cast_ofNat_Int, Int.reduceToNat, Int.reduceEq, Int.reduceLT, Int.reduceLE, Int.reduceNe] at hr; subst hr; (first | refine awV ?_ ?_ | refine awW ?_ ?_ | refine endK ?_ ?_ | (refine condK (fun h => ?_) (fun h => ?_) <;> (try simp only [go_sem, reduceCtorEq] at h) <;> (try (exfalso; omega))))) | fail)) <;> (try omega)
          all_goals first | exact ⟨2, by simp only [go_sem, Nat.reduceBEq, Nat.reduceBneDiff, Nat.reduceLT, Nat.reduceLeDiff, Nat.reduceAdd, Nat.reduceMul, Nat.reduceSub, Nat.reduceEqDiff, reduceCtorEq] <;> exact rfl, by omega, by omega⟩
        | 2, _ =>
          have n0 : IntKind.i64.wrap (0 - 2) = -2 := by decide
          have n1 : IntKind.i64.wrap (-2 - 1) = -3 := by decide
          have m0 : IntKind.i64.wrap (0 - 1) = -1 := by decide
          unfold apS10
          (repeat' (first
    | exact trivial
    | (with_reducible first | refine awA ?_ | refine awB ?_ | refine awC ?_ | refine awD ?_ | refine awE ?_ | refine awF ?_ | refine awG ?_ | refine awH ?_ | refine awI ?_ | refine awJ ?_ | refine awK ?_ | refine awL ?_ | refine awM (by decide) ?_)
    | (refine aw_draw (id := 16) (t := (.node [0, 1, 2, 3, 4, 5, 6] [])) (drR [3] [53] []) mixed (by kernel_rfl) (by kernel_rfl) (fun _ _ h => h) ?_)
    | (refine aw_draw (id := 34) (t := (.node [0, 1, 2, 3, 4, 5, 6, 7, 8, 9, 10, 11, 12, 13, 14, 15, 16, 17, 18, 19, 20] [])) (drR [] [112, 120] []) mixed (by kernel_rfl) (by kernel_rfl) (fun _ _ h => h) ?_)
    | (refine aw_draw (id := 42) (t := (.node [0, 1, 2, 3, 4, 5, 6, 7, 8, 9, 10, 11, 12, 13, 14, 15, 16, 17, 18, 19, 20, 21, 22, 23, 24, 25, 26, 27, 28, 29, 30, 31, 32, 33, 34, 35, 36, 37, 38, 39, 40] [])) (drR [] [156, 159, 172, 180, 183, 187, 190] []) mixed (by kernel_rfl) (by kernel_rfl) (fun _ _ h => h) ?_)
    | (refine at_done (by simp only [List.filterMap_cons, List.filterMap_nil, List.getElem?_toArray, List.getElem?_cons_zero, List.getElem?_cons_succ]; exact rfl) ?_) | (refine at_alt (by simp only [List.filterMap_cons, List.filterMap_nil, List.getElem?_toArray, List.getElem?_cons_zero, List.getElem?_cons_succ]; exact rfl) ?_) | refine qalt_normal ?_ | refine ats_cons ?_ ?_ | exact ats_nil
    | ((with_reducible first | refine awN (tyOf_ok _) [2000124, 2000137] ?_ | refine awO (tyOf_ok _) [2000124, 2000137] ?_ | refine awP (tyOf_ok _) [2000124, 2000137] ?_ | refine awQ ?_ | refine awR ?_ | refine awS ?_); intro r hr; simp only [go_sem, Nat.reduceBEq, Nat.reduceBneDiff, Nat.reduceLT, Nat.reduceLeDiff, Nat.reduceAdd, Nat.reduceMul, Nat.reduceSub, Nat.reduceEqDiff, reduceCtorEq, w2, n0, n1, m0, mkI_next, rep_next, hmC, hmN, mkI_len, Nat.le_refl, if_true, mkN_len, Nat.zero_add, List.drop_zero, encIs_len, v8_len, Int.cast_ofNat_Int, Int.reduceToNat, Int.reduceEq, Int.reduceLT, Int.reduceLE, Int.reduceNe] at hr; subst hr; (first | refine awV ?_ ?_ | refine awW ?_ ?_ | refine endK ?_ ?_ | (refine condK (fun h => ?_) (fun h => ?_) <;> (try simp only [go_sem, reduceCtorEq] at h) <;> (try (exfalso; omega))))) | fail)) <;> (try omega)
          all_goals first | exact ⟨3, by simp only [go_sem, Nat.reduceBEq, Nat.reduceBneDiff, Nat.reduceLT, Nat.reduceLeDiff, Nat.reduceAdd, Nat.reduceMul, Nat.reduceSub, Nat.reduceEqDiff, reduceCtorEq] <;> exact rfl, by omega, by omega⟩
        | 3, _ =>
          unfold apS10
          (repeat' (first
    | exact trivial
    | (with_reducible first | refine awA ?_ | refine awB ?_ | refine awC ?_ | refine awD ?_ | refine awE ?_ | refine awF ?_ | refine awG ?_ | refine awH ?_ | refine awI ?_ | refine awJ ?_ | refine awK ?_ | refine awL ?_ | refine awM (by decide) ?_)
    | (refine aw_draw (id := 16) (t := (.node [0, 1, 2, 3, 4, 5, 6] [])) (drR [3] [53] []) mixed (by kernel_rfl) (by kernel_rfl) (fun _ _ h => h) ?_)
    | (refine aw_draw (id := 34) (t := (.node [0, 1, 2, 3, 4, 5, 6, 7, 8, 9, 10, 11, 12, 13, 14, 15, 16, 17, 18, 19, 20] [])) (drR [] [112, 120] []) mixed (by kernel_rfl) (by kernel_rfl) (fun _ _ h => h) ?_)
    | (refine aw_draw (id := 42) (t := (.node [0, 1, 2, 3, 4, 5, 6, 7, 8, 9, 10, 11, 12, 13, 14, 15, 16, 17, 18, 19, 20, 21, 22, 23, 24, 25, 26, 27, 28, 29, 30, 31, 32, 33, 34, 35, 36, 37, 38, 39, 40] [])) (drR [] [156, 159, 172, 180, 183, 187, 190] []) mixed (by kernel_rfl) (by kernel_rfl) (fun _ _ h => h) ?_)
    | (refine at_done (by simp only [List.filterMap_cons, List.filterMap_nil, List.getElem?_toArray, List.getElem?_cons_zero, List.getElem?_cons_succ]; exact rfl) ?_) | (refine at_alt (by simp only [List.filterMap_cons, List.filterMap_nil, List.getElem?_toArray, List.getElem?_cons_zero, List.getElem?_cons_succ]; exact rfl) ?_) | refine qalt_normal ?_ | refine ats_cons ?_ ?_ | exact ats_nil
    | ((with_reducible first | refine awN (tyOf_ok _) [] ?_ | refine awO (tyOf_ok _) [] ?_ | refine awP (tyOf_ok _) [] ?_ | refine awQ ?_ | refine awR ?_ | refine awS ?_); intro r hr; simp only [go_sem, Nat.reduceBEq, Nat.reduceBneDiff, Nat.reduceLT, Nat.reduceLeDiff, Nat.reduceAdd, Nat.reduceMul, Nat.reduceSub, Nat.reduceEqDiff, reduceCtorEq, encIs_len, v8_len, Int.cast_ofNat_Int, Int.reduceToNat, Int.reduceEq, Int.reduceLT, Int.reduceLE, Int.reduceNe] at hr; subst hr; (first | refine awV ?_ ?_ | refine awW ?_ ?_ | refine endK ?_ ?_ | (refine condK (fun h => ?_) (fun h => ?_) <;> (try simp only [go_sem, reduceCtorEq] at h) <;> (try (exfalso; omega))))) | fail)) <;> (try omega)
          refine go_loop [1, 3, 5, 10, 11, 16] [1, 3, 45, 126, 139] (apS12 S R C N) (fun k => k ≤ 3) (fun k => 3 - k) 0 (by simp only [apS12, go_sem, Nat.reduceBEq, Nat.reduceBneDiff, Nat.reduceLT, Nat.reduceLeDiff, Nat.reduceAdd, Nat.reduceMul, Nat.reduceSub, Nat.reduceEqDiff, reduceCtorEq] <;> exact rfl) (by decide) ?_
          intro k hk
          match k, hk with
          | 0, _ =>
            have n0 : IntKind.i64.wrap (0 - 0) = 0 := by decide
            have n1 : IntKind.i64.wrap (0 - 1) = -1 := by decide
            have m0 : IntKind.i64.wrap (0 - 1) = -1 := by decide
            unfold apS12
            (repeat' (first
    | exact trivial
    | (with_reducible first | refine awA ?_ | refine awB ?_ | refine awC ?_ | refine awD ?_ | refine awE ?_ | refine awF ?_ | refine awG ?_ | refine awH ?_ | refine awI ?_ | refine awJ ?_ | refine awK ?_ | refine awL ?_ | refine awM (by decide) ?_)
    | (refine aw_draw (id := 16) (t := (.node [0, 1, 2, 3, 4, 5, 6] [])) (drR [3] [53] []) mixed (by kernel_rfl) (by kernel_rfl) (fun _ _ h => h) ?_)
    | (refine aw_draw (id := 34) (t := (.node [0, 1, 2, 3, 4, 5, 6, 7, 8, 9, 10, 11, 12, 13, 14, 15, 16, 17, 18, 19, 20] [])) (drR [] [112, 120] []) mixed (by kernel_rfl) (by kernel_rfl) (fun _ _ h => h) ?_)
    | (refine aw_draw (id := 42) (t := (.node [0, 1, 2, 3, 4, 5, 6, 7, 8, 9, 10, 11, 12, 13, 14, 15, 16, 17, 18, 19, 20, 21, 22, 23, 24, 25, 26, 27, 28, 29, 30, 31, 32, 33, 34, 35, 36, 37, 38, 39, 40] [])) (drR [] [156, 159, 172, 180, 183, 187, 190] []) mixed (by kernel_rfl) (by kernel_rfl) (fun _ _ h => h) ?_)
    | (refine at_done (by simp only [List.filterMap_cons, List.filterMap_nil, List.getElem?_toArray, List.getElem?_cons_zero, List.getElem?_cons_succ]; exact rfl) ?_) | (refine at_alt (by simp only [List.filterMap_cons, List.filterMap_nil, List.getElem?_toArray, List.getElem?_cons_zero, List.getElem?_cons_succ]; exact rfl) ?_) | refine qalt_normal ?_ | refine ats_cons ?_ ?_ | exact ats_nil
    | ((with_reducible first | refine awN (tyOf_ok _) [] ?_ | refine awO (tyOf_ok _) [] ?_ | refine awP (tyOf_ok _) [] ?_ | refine awQ ?_ | refine awR ?_ | refine awS ?_); intro r hr; simp only [go_sem, Nat.reduceBEq, Nat.reduceBneDiff, Nat.reduceLT, Nat.reduceLeDiff, Nat.reduceAdd, Nat.reduceMul, Nat.reduceSub, Nat.reduceEqDiff, reduceCtorEq, encIs_len, v8_len, Int.cast_ofNat_Int, Int.reduceToNat, Int.reduceEq, Int.reduceLT, Int.reduceLE, Int.reduceNe] at hr; subst hr; (first | refine awV ?_ ?_ | refine awW ?_ ?_ | refine endK ?_ ?_ | (refine condK (fun h => ?_) (fun h => ?_) <;> (try simp only [go_sem, reduceCtorEq] at h) <;> (try (exfalso; omega))))) | fail)) <;> (try omega)
            refine go_loop [1, 3, 5, 10, 11, 16, 17] [1, 3, 45, 126, 139] (apS14 S R C N 0) (fun i => i ≤ C.length + 1) (fun i => C.length + 1 - i) 0 (by simp only [apS14, go_sem, Nat.reduceBEq, Nat.reduceBneDiff, Nat.reduceLT, Nat.reduceLeDiff, Nat.reduceAdd, Nat.reduceMul, Nat.reduceSub, Nat.reduceEqDiff, reduceCtorEq] <;> exact rfl) (Nat.zero_le _) ?_
            intro i hi
            unfold apS14
            have zi : ((i : Int)).toNat = i := by omega
            have hw := wrap_i64 (n := (i : Int) + 1) (by omega)
            rcases Nat.lt_trichotomy i C.length with hlt | heq | hgt
            · have e1 : ((i : Int) < ((C.length + 1 : Nat) : Int)) = True := eq_true (by omega)
              have e2 : ((i : Int) < (C.length : Int)) = True := eq_true (by omega)
              have g1 := mkI_get (-1) (n := C.length + 1) (i := i) (by omega)
              have g2 := mkI_get (-1) (n := C.length) (i := i) hlt
              (repeat' (first
    | exact trivial
    | (with_reducible first | refine awA ?_ | refine awB ?_ | refine awC ?_ | refine awD ?_ | refine awE ?_ | refine awF ?_ | refine awG ?_ | refine awH ?_ | refine awI ?_ | refine awJ ?_ | refine awK ?_ | refine awL ?_ | refine awM (by decide) ?_)
    | (refine aw_draw (id := 16) (t := (.node [0, 1, 2, 3, 4, 5, 6] [])) (drR [3] [53] []) mixed (by kernel_rfl) (by kernel_rfl) (fun _ _ h => h) ?_)
    | (refine aw_draw (id := 34) (t := (.node [0, 1, 2, 3, 4, 5, 6, 7, 8, 9, 10, 11, 12, 13, 14, 15, 16, 17, 18, 19, 20] [])) (drR [] [112, 120] []) mixed (by kernel_rfl) (by kernel_rfl) (fun _ _ h => h) ?_)
    | (refine aw_draw (id := 42) (t := (.node [0, 1, 2, 3, 4, 5, 6, 7, 8, 9, 10, 11, 12, 13, 14, 15, 16, 17, 18, 19, 20, 21, 22, 23, 24, 25, 26, 27, 28, 29, 30, 31, 32, 33, 34, 35, 36, 37, 38, 39, 40] [])) (drR [] [156, 159, 172, 180, 183, 187, 190] []) mixed (by kernel_rfl) (by kernel_rfl) (fun _ _ h => h) ?_)
    | (refine at_done (by simp only [List.filterMap_cons, List.filterMap_nil, List.getElem?_toArray, List.getElem?_cons_zero, List.getElem?_cons_succ]; exact rfl) ?_) | (refine at_alt (by simp only [List.filterMap_cons, List.filterMap_nil, List.getElem?_toArray, List.getElem?_cons_zero, List.getElem?_cons_succ]; exact rfl) ?_) | refine qalt_normal ?_ | refine ats_cons ?_ ?_ | exact ats_nil
    | ((with_reducible first | refine awN (tyOf_ok _) [] ?_ | refine awO (tyOf_ok _) [] ?_ | refine awP (tyOf_ok _) [] ?_ | refine awQ ?_ | refine awR ?_ | refine awS ?_); intro r hr; simp only [go_sem, Nat.reduceBEq, Nat.reduceBneDiff, Nat.reduceLT, Nat.reduceLeDiff, Nat.reduceAdd, Nat.reduceMul, Nat.reduceSub, Nat.reduceEqDiff, reduceCtorEq, hw, e1, e2, g1, g2, zi, n0, n1, m0, mkI_len, Nat.zero_add, encIs_len, v8_len, decide_true, Bool.not_true, Int.cast_ofNat_Int, Int.reduceToNat, Int.reduceEq, Int.reduceLT, Int.reduceLE, Int.reduceNe] at hr; subst hr; (first | refine awV ?_ ?_ | refine awW ?_ ?_ | refine endK ?_ ?_ | (refine condK (fun h => ?_) (fun h => ?_) <;> (try simp only [go_sem, reduceCtorEq] at h) <;> (try (exfalso; omega))))) | fail)) <;> (try omega)
              all_goals first | omega | exact ⟨i + 1, by simp only [apS14, go_sem, Nat.reduceBEq, Nat.reduceBneDiff, Nat.reduceLT, Nat.reduceLeDiff, Nat.reduceAdd, Nat.reduceMul, Nat.reduceSub, Nat.reduceEqDiff, reduceCtorEq] <;> exact rfl, by omega, by omega⟩
            · subst heq
              have e1 : ((C.length : Int) < ((C.length + 1 : Nat) : Int)) = True := eq_true (by omega)
              have e2 : ((C.length : Int) < (C.length : Int)) = False := eq_false (by omega)
              have g1 := mkI_get (-1) (n := C.length + 1) (i := C.length) (by omega)
              have g2 : (encIs (mkI (-1) C.length))[C.length]? = none := List.getElem?_eq_none (by rw [encIs_len, mkI_len]; exact Nat.le_refl _)
              (repeat' (first
    | exact trivial
    | (with_reducible first | refine awA ?_ | refine awB ?_ | refine awC ?_ | refine awD ?_ | refine awE ?_ | refine awF ?_ | refine awG ?_ | refine awH ?_ | refine awI ?_ | refine awJ ?_ | refine awK ?_ | refine awL ?_ | refine awM (by decide) ?_)
    | (refine aw_draw (id := 16) (t := (.node [0, 1, 2, 3, 4, 5, 6] [])) (drR [3] [53] []) mixed (by kernel_rfl) (by kernel_rfl) (fun _ _ h => h) ?_)
    | (refine aw_draw (id := 34) (t := (.node [0, 1, 2, 3, 4, 5, 6, 7, 8, 9, 10, 11, 12, 13, 14, 15, 16, 17, 18, 19, 20] [])) (drR [] [112, 120] []) mixed (by kernel_rfl) (by kernel_rfl) (fun _ _ h => h) ?_)
    | (refine aw_draw (id := 42) (t := (.node [0, 1, 2, 3, 4, 5, 6, 7, 8, 9, 10, 11, 12, 13, 14, 15, 16, 17, 18, 19, 20, 21, 22, 23, 24, 25, 26, 27, 28, 29, 30, 31, 32, 33, 34, 35, 36, 37, 38, 39, 40] [])) (drR [] [156, 159, 172, 180, 183, 187, 190] []) mixed (by kernel_rfl) (by kernel_rfl) (fun _ _ h => h) ?_)
    | (refine at_done (by simp only [List.filterMap_cons, List.filterMap_nil, List.getElem?_toArray, List.getElem?_cons_zero, List.getElem?_cons_succ]; exact rfl) ?_) | (refine at_alt (by simp only [List.filterMap_cons, List.filterMap_nil, List.getElem?_toArray, List.getElem?_cons_zero, List.getElem?_cons_succ]; exact rfl) ?_) | refine qalt_normal ?_ | refine ats_cons ?_ ?_ | exact ats_nil
    | ((with_reducible first | refine awN (tyOf_ok _) [] ?_ | refine awO (tyOf_ok _) [] ?_ | refine awP (tyOf_ok _) [] ?_ | refine awQ ?_ | refine awR ?_ | refine awS ?_); intro r hr; simp only [go_sem, Nat.reduceBEq, Nat.reduceBneDiff, Nat.reduceLT, Nat.reduceLeDiff, Nat.reduceAdd, Nat.reduceMul, Nat.reduceSub, Nat.reduceEqDiff, reduceCtorEq, hw, e1, e2, g1, g2, zi, n0, n1, m0, mkI_len, Nat.zero_add, encIs_len, v8_len, decide_true, Bool.not_true, Int.cast_ofNat_Int, Int.reduceToNat, Int.reduceEq, Int.reduceLT, Int.reduceLE, Int.reduceNe] at hr; subst hr; (first | refine awV ?_ ?_ | refine awW ?_ ?_ | refine endK ?_ ?_ | (refine condK (fun h => ?_) (fun h => ?_) <;> (try simp only [go_sem, reduceCtorEq] at h) <;> (try (exfalso; omega)))))
    | (refine al_skip 183 rfl (.agg [vI 0, vI 0, vI 0, vI 0]) rfl rfl ⟨by decide, by decide⟩ ?_) | fail)) <;> (try omega)
              all_goals first | omega | exact ⟨C.length + 1, by simp only [apS14, go_sem, Nat.reduceBEq, Nat.reduceBneDiff, Nat.reduceLT, Nat.reduceLeDiff, Nat.reduceAdd, Nat.reduceMul, Nat.reduceSub, Nat.reduceEqDiff, reduceCtorEq] <;> exact rfl, by omega, by omega⟩
            have e1 : ((i : Int) < ((C.length + 1 : Nat) : Int)) = False := eq_false (by omega)
            (repeat' (first
    | exact trivial
    | (with_reducible first | refine awA ?_ | refine awB ?_ | refine awC ?_ | refine awD ?_ | refine awE ?_ | refine awF ?_ | refine awG ?_ | refine awH ?_ | refine awI ?_ | refine awJ ?_ | refine awK ?_ | refine awL ?_ | refine awM (by decide) ?_)
    | (refine aw_draw (id := 16) (t := (.node [0, 1, 2, 3, 4, 5, 6] [])) (drR [3] [53] []) mixed (by kernel_rfl) (by kernel_rfl) (fun _ _ h => h) ?_)
    | (refine aw_draw (id := 34) (t := (.node [0, 1, 2, 3, 4, 5, 6, 7, 8, 9, 10, 11, 12, 13, 14, 15, 16, 17, 18, 19, 20] [])) (drR [] [112, 120] []) mixed (by kernel_rfl) (by kernel_rfl) (fun _ _ h => h) ?_)
    | (refine aw_draw (id := 42) (t := (.node [0, 1, 2, 3, 4, 5, 6, 7, 8, 9, 10, 11, 12, 13, 14, 15, 16, 17, 18, 19, 20, 21, 22, 23, 24, 25, 26, 27, 28, 29, 30, 31, 32, 33, 34, 35, 36, 37, 38, 39, 40] [])) (drR [] [156, 159, 172, 180, 183, 187, 190] []) mixed (by kernel_rfl) (by kernel_rfl) (fun _ _ h => h) ?_)
    | (refine at_done (by simp only [List.filterMap_cons, List.filterMap_nil, List.getElem?_toArray, List.getElem?_cons_zero, List.getElem?_cons_succ]; exact rfl) ?_) | (refine at_alt (by simp only [List.filterMap_cons, List.filterMap_nil, List.getElem?_toArray, List.getElem?_cons_zero, List.getElem?_cons_succ]; exact rfl) ?_) | refine qalt_normal ?_ | refine ats_cons ?_ ?_ | exact ats_nil
    | ((with_reducible first | refine awN (tyOf_ok _) [] ?_ | refine awO (tyOf_ok _) [] ?_ | refine awP (tyOf_ok _) [] ?_ | refine awQ ?_ | refine awR ?_ | refine awS ?_); intro r hr; simp only [go_sem, Nat.reduceBEq, Nat.reduceBneDiff, Nat.reduceLT, Nat.reduceLeDiff, Nat.reduceAdd, Nat.reduceMul, Nat.reduceSub, Nat.reduceEqDiff, reduceCtorEq, e1, n0, n1, m0, mkI_len, encIs_len, v8_len, Int.cast_ofNat_Int, Int.reduceToNat, Int.reduceEq, Int.reduceLT, Int.reduceLE, Int.reduceNe] at hr; subst hr; (first | refine awV ?_ ?_ | refine awW ?_ ?_ | refine endK ?_ ?_ | (refine condK (fun h => ?_) (fun h => ?_) <;> (try simp only [go_sem, reduceCtorEq] at h) <;> (try (exfalso; omega))))) | fail)) <;> (try omega)
            refine go_loop [1, 3, 5, 10, 11, 16, 18] [1, 3, 45, 126, 139] (apS16 S R C N 0) (fun i => i ≤ N.length + 1) (fun i => N.length + 1 - i) 0 (by simp only [apS16, go_sem, Nat.reduceBEq, Nat.reduceBneDiff, Nat.reduceLT, Nat.reduceLeDiff, Nat.reduceAdd, Nat.reduceMul, Nat.reduceSub, Nat.reduceEqDiff, reduceCtorEq] <;> exact rfl) (Nat.zero_le _) ?_
            clear e1 zi hw hgt hi
            intro i hi
            unfold apS16
            have zi : ((i : Int)).toNat = i := by omega
            have hw := wrap_i64 (n := (i : Int) + 1) (by omega)
            rcases Nat.lt_trichotomy i N.length with hlt | heq | hgt
            · have e1 : ((i : Int) < ((N.length + 1 : Nat) : Int)) = True := eq_true (by omega)
              have e2 : ((i : Int) < (N.length : Int)) = True := eq_true (by omega)
              have g1 := rep_get (-1) (n := N.length + 1) (i := i) (by omega)
              have g2 := rep_get (-1) (n := N.length) (i := i) hlt
              (repeat' (first
    | exact trivial
    | (with_reducible first | refine awA ?_ | refine awB ?_ | refine awC ?_ | refine awD ?_ | refine awE ?_ | refine awF ?_ | refine awG ?_ | refine awH ?_ | refine awI ?_ | refine awJ ?_ | refine awK ?_ | refine awL ?_ | refine awM (by decide) ?_)
    | (refine aw_draw (id := 16) (t := (.node [0, 1, 2, 3, 4, 5, 6] [])) (drR [3] [53] []) mixed (by kernel_rfl) (by kernel_rfl) (fun _ _ h => h) ?_)
    | (refine aw_draw (id := 34) (t := (.node [0, 1, 2, 3, 4, 5, 6, 7, 8, 9, 10, 11, 12, 13, 14, 15, 16, 17, 18, 19, 20] [])) (drR [] [112, 120] []) mixed (by kernel_rfl) (by kernel_rfl) (fun _ _ h => h) ?_)
    | (refine aw_draw (id := 42) (t := (.node [0, 1, 2, 3, 4, 5, 6, 7, 8, 9, 10, 11, 12, 13, 14, 15, 16, 17, 18, 19, 20, 21, 22, 23, 24, 25, 26, 27, 28, 29, 30, 31, 32, 33, 34, 35, 36, 37, 38, 39, 40] [])) (drR [] [156, 159, 172, 180, 183, 187, 190] []) mixed (by kernel_rfl) (by kernel_rfl) (fun _ _ h => h) ?_)
    | (refine at_done (by simp only [List.filterMap_cons, List.filterMap_nil, List.getElem?_toArray, List.getElem?_cons_zero, List.getElem?_cons_succ]; exact rfl) ?_) | (refine at_alt (by simp only [List.filterMap_cons, List.filterMap_nil, List.getElem?_toArray, List.getElem?_cons_zero, List.getElem?_cons_succ]; exact rfl) ?_) | refine qalt_normal ?_ | refine ats_cons ?_ ?_ | exact ats_nil
    | ((with_reducible first | refine awN (tyOf_ok _) [] ?_ | refine awO (tyOf_ok _) [] ?_ | refine awP (tyOf_ok _) [] ?_ | refine awQ ?_ | refine awR ?_ | refine awS ?_); intro r hr; simp only [go_sem, Nat.reduceBEq, Nat.reduceBneDiff, Nat.reduceLT, Nat.reduceLeDiff, Nat.reduceAdd, Nat.reduceMul, Nat.reduceSub, Nat.reduceEqDiff, reduceCtorEq, hw, e1, e2, g1, g2, zi, n0, n1, m0, mkN_len, Nat.zero_add, encIs_len, v8_len, ne_eq, not_true_eq_false, not_false_eq_true, decide_false, decide_true, Bool.not_true, Int.cast_ofNat_Int, Int.reduceToNat, Int.reduceEq, Int.reduceLT, Int.reduceLE, Int.reduceNe] at hr; subst hr; (first | refine awV ?_ ?_ | refine awW ?_ ?_ | refine endK ?_ ?_ | (refine condK (fun h => ?_) (fun h => ?_) <;> (try simp only [go_sem, reduceCtorEq] at h) <;> (try (exfalso; omega))))) | fail)) <;> (try omega)
              all_goals first | omega | exact ⟨i + 1, by simp only [apS16, go_sem, Nat.reduceBEq, Nat.reduceBneDiff, Nat.reduceLT, Nat.reduceLeDiff, Nat.reduceAdd, Nat.reduceMul, Nat.reduceSub, Nat.reduceEqDiff, reduceCtorEq] <;> exact rfl, by omega, by omega⟩
            · subst heq
              have e1 : ((N.length : Int) < ((N.length + 1 : Nat) : Int)) = True := eq_true (by omega)
              have e2 : ((N.length : Int) < (N.length : Int)) = False := eq_false (by omega)
              have g1 := rep_get (-1) (n := N.length + 1) (i := N.length) (by omega)
              have g2 : (v8 (mkN (-1) N.length))[N.length]? = none := List.getElem?_eq_none (by rw [v8_len, mkN_len]; exact Nat.le_refl _)
              (repeat' (first
    | exact trivial
    | (with_reducible first | refine awA ?_ | refine awB ?_ | refine awC ?_ | refine awD ?_ | refine awE ?_ | refine awF ?_ | refine awG ?_ | refine awH ?_ | refine awI ?_ | refine awJ ?_ | refine awK ?_ | refine awL ?_ | refine awM (by decide) ?_)
    | (refine aw_draw (id := 16) (t := (.node [0, 1, 2, 3, 4, 5, 6] [])) (drR [3] [53] []) mixed (by kernel_rfl) (by kernel_rfl) (fun _ _ h => h) ?_)
    | (refine aw_draw (id := 34) (t := (.node [0, 1, 2, 3, 4, 5, 6, 7, 8, 9, 10, 11, 12, 13, 14, 15, 16, 17, 18, 19, 20] [])) (drR [] [112, 120] []) mixed (by kernel_rfl) (by kernel_rfl) (fun _ _ h => h) ?_)
    | (refine aw_draw (id := 42) (t := (.node [0, 1, 2, 3, 4, 5, 6, 7, 8, 9, 10, 11, 12, 13, 14, 15, 16, 17, 18, 19, 20, 21, 22, 23, 24, 25, 26, 27, 28, 29, 30, 31, 32, 33, 34, 35, 36, 37, 38, 39, 40] [])) (drR [] [156, 159, 172, 180, 183, 187, 190] []) mixed (by kernel_rfl) (by kernel_rfl) (fun _ _ h => h) ?_)
    | (refine at_done (by simp only [List.filterMap_cons, List.filterMap_nil, List.getElem?_toArray, List.getElem?_cons_zero, List.getElem?_cons_succ]; exact rfl) ?_) | (refine at_alt (by simp only [List.filterMap_cons, List.filterMap_nil, List.getElem?_toArray, List.getElem?_cons_zero, List.getElem?_cons_succ]; exact rfl) ?_) | refine qalt_normal ?_ | refine ats_cons ?_ ?_ | exact ats_nil
    | ((with_reducible first | refine awN (tyOf_ok _) [] ?_ | refine awO (tyOf_ok _) [] ?_ | refine awP (tyOf_ok _) [] ?_ | refine awQ ?_ | refine awR ?_ | refine awS ?_); intro r hr; simp only [go_sem, Nat.reduceBEq, Nat.reduceBneDiff, Nat.reduceLT, Nat.reduceLeDiff, Nat.reduceAdd, Nat.reduceMul, Nat.reduceSub, Nat.reduceEqDiff, reduceCtorEq, hw, e1, e2, g1, g2, zi, n0, n1, m0, mkN_len, Nat.zero_add, encIs_len, v8_len, ne_eq, not_true_eq_false, not_false_eq_true, decide_false, decide_true, Bool.not_true, Int.cast_ofNat_Int, Int.reduceToNat, Int.reduceEq, Int.reduceLT, Int.reduceLE, Int.reduceNe] at hr; subst hr; (first | refine awV ?_ ?_ | refine awW ?_ ?_ | refine endK ?_ ?_ | (refine condK (fun h => ?_) (fun h => ?_) <;> (try simp only [go_sem, reduceCtorEq] at h) <;> (try (exfalso; omega)))))
    | (refine al_skip 231 rfl (vI 0) rfl rfl ⟨by decide, by decide⟩ ?_) | fail)) <;> (try omega)
              all_goals first | omega | exact ⟨N.length + 1, by simp only [apS16, go_sem, Nat.reduceBEq, Nat.reduceBneDiff, Nat.reduceLT, Nat.reduceLeDiff, Nat.reduceAdd, Nat.reduceMul, Nat.reduceSub, Nat.reduceEqDiff, reduceCtorEq] <;> exact rfl, by omega, by omega⟩
            have e1 : ((i : Int) < ((N.length + 1 : Nat) : Int)) = False := eq_false (by omega)
            (repeat' (first
    | exact trivial
    | (with_reducible first | refine awA ?_ | refine awB ?_ | refine awC ?_ | refine awD ?_ | refine awE ?_ | refine awF ?_ | refine awG ?_ | refine awH ?_ | refine awI ?_ | refine awJ ?_ | refine awK ?_ | refine awL ?_ | refine awM (by decide) ?_)
    | (refine aw_draw (id := 16) (t := (.node [0, 1, 2, 3, 4, 5, 6] [])) (drR [3] [53] []) mixed (by kernel_rfl) (by kernel_rfl) (fun _ _ h => h) ?_)
    | (refine aw_draw (id := 34) (t := (.node [0, 1, 2, 3, 4, 5, 6, 7, 8, 9, 10, 11, 12, 13, 14, 15, 16, 17, 18, 19, 20] [])) (drR [] [112, 120] []) mixed (by kernel_rfl) (by kernel_rfl) (fun _ _ h => h) ?_)
    | (refine aw_draw (id := 42) (t := (.node [0, 1, 2, 3, 4, 5, 6, 7, 8, 9, 10, 11, 12, 13, 14, 15, 16, 17, 18, 19, 20, 21, 22, 23, 24, 25, 26, 27, 28, 29, 30, 31, 32, 33, 34, 35, 36, 37, 38, 39, 40] [])) (drR [] [156, 159, 172, 180, 183, 187, 190] []) mixed (by kernel_rfl) (by kernel_rfl) (fun _ _ h => h) ?_)
    | (refine at_done (by simp only [List.filterMap_cons, List.filterMap_nil, List.getElem?_toArray, List.getElem?_cons_zero, List.getElem?_cons_succ]; exact rfl) ?_) | (refine at_alt (by simp only [List.filterMap_cons, List.filterMap_nil, List.getElem?_toArray, List.getElem?_cons_zero, List.getElem?_cons_succ]; exact rfl) ?_) | refine qalt_normal ?_ | refine ats_cons ?_ ?_ | exact ats_nil
    | ((with_reducible first | refine awN (tyOf_ok _) [] ?_ | refine awO (tyOf_ok _) [] ?_ | refine awP (tyOf_ok _) [] ?_ | refine awQ ?_ | refine awR ?_ | refine awS ?_); intro r hr; simp only [go_sem, Nat.reduceBEq, Nat.reduceBneDiff, Nat.reduceLT, Nat.reduceLeDiff, Nat.reduceAdd, Nat.reduceMul, Nat.reduceSub, Nat.reduceEqDiff, reduceCtorEq, e1, w0, n0, n1, m0, mkN_len, encIs_len, v8_len, Int.cast_ofNat_Int, Int.reduceToNat, Int.reduceEq, Int.reduceLT, Int.reduceLE, Int.reduceNe] at hr; subst hr; (first | refine awV ?_ ?_ | refine awW ?_ ?_ | refine endK ?_ ?_ | (refine condK (fun h => ?_) (fun h => ?_) <;> (try simp only [go_sem, reduceCtorEq] at h) <;> (try (exfalso; omega))))) | fail)) <;> (try omega)
            all_goals first | omega | exact ⟨1, by simp only [apS12, go_sem, Nat.reduceBEq, Nat.reduceBneDiff, Nat.reduceLT, Nat.reduceLeDiff, Nat.reduceAdd, Nat.reduceMul, Nat.reduceSub, Nat.reduceEqDiff, reduceCtorEq] <;> exact rfl, by omega, by omega⟩
          | 1, _ =>
            have n0 : IntKind.i64.wrap (0 - 1) = -1 := by decide
            have n1 : IntKind.i64.wrap (-1 - 1) = -2 := by decide
            have m0 : IntKind.i64.wrap (0 - 1) = -1 := by decide
            unfold apS12
            (repeat' (first
    | exact trivial
    | (with_reducible first | refine awA ?_ | refine awB ?_ | refine awC ?_ | refine awD ?_ | refine awE ?_ | refine awF ?_ | refine awG ?_ | refine awH ?_ | refine awI ?_ | refine awJ ?_ | refine awK ?_ | refine awL ?_ | refine awM (by decide) ?_)
    | (refine aw_draw (id := 16) (t := (.node [0, 1, 2, 3, 4, 5, 6] [])) (drR [3] [53] []) mixed (by kernel_rfl) (by kernel_rfl) (fun _ _ h => h) ?_)
    | (refine aw_draw (id := 34) (t := (.node [0, 1, 2, 3, 4, 5, 6, 7, 8, 9, 10, 11, 12, 13, 14, 15, 16, 17, 18, 19, 20] [])) (drR [] [112, 120] []) mixed (by kernel_rfl) (by kernel_rfl) (fun _ _ h => h) ?_)
    | (refine aw_draw (id := 42) (t := (.node [0, 1, 2, 3, 4, 5, 6, 7, 8, 9, 10, 11, 12, 13, 14, 15, 16, 17, 18, 19, 20, 21, 22, 23, 24, 25, 26, 27, 28, 29, 30, 31, 32, 33, 34, 35, 36, 37, 38, 39, 40] [])) (drR [] [156, 159, 172, 180, 183, 187, 190] []) mixed (by kernel_rfl) (by kernel_rfl) (fun _ _ h => h) ?_)
    | (refine at_done (by simp only [List.filterMap_cons, List.filterMap_nil, List.getElem?_toArray, List.getElem?_cons_zero, List.getElem?_cons_succ]; exact rfl) ?_) | (refine at_alt (by simp only [List.filterMap_cons, List.filterMap_nil, List.getElem?_toArray, List.getElem?_cons_zero, List.getElem?_cons_succ]; exact rfl) ?_) | refine qalt_normal ?_ | refine ats_cons ?_ ?_ | exact ats_nil
    | ((with_reducible first | refine awN (tyOf_ok _) [] ?_ | refine awO (tyOf_ok _) [] ?_ | refine awP (tyOf_ok _) [] ?_ | refine awQ ?_ | refine awR ?_ | refine awS ?_); intro r hr; simp only [go_sem, Nat.reduceBEq, Nat.reduceBneDiff, Nat.reduceLT, Nat.reduceLeDiff, Nat.reduceAdd, Nat.reduceMul, Nat.reduceSub, Nat.reduceEqDiff, reduceCtorEq, encIs_len, v8_len, Int.cast_ofNat_Int, Int.reduceToNat, Int.reduceEq, Int.reduceLT, Int.reduceLE, Int.reduceNe] at hr; subst hr; (first | refine awV ?_ ?_ | refine awW ?_ ?_ | refine endK ?_ ?_ | (refine condK (fun h => ?_) (fun h => ?_) <;> (try simp only [go_sem, reduceCtorEq] at h) <;> (try (exfalso; omega))))) | fail)) <;> (try omega)
            refine go_loop [1, 3, 5, 10, 11, 16, 17] [1, 3, 45, 126, 139] (apS14 S R C N 1) (fun i => i ≤ C.length + 1) (fun i => C.length + 1 - i) 0 (by simp only [apS14, go_sem, Nat.reduceBEq, Nat.reduceBneDiff, Nat.reduceLT, Nat.reduceLeDiff, Nat.reduceAdd, Nat.reduceMul, Nat.reduceSub, Nat.reduceEqDiff, reduceCtorEq] <;> exact rfl) (Nat.zero_le _) ?_
            intro i hi
            unfold apS14
            have zi : ((i : Int)).toNat = i := by omega
            have hw := wrap_i64 (n := (i : Int) + 1) (by omega)
            rcases Nat.lt_trichotomy i C.length with hlt | heq | hgt
            · have e1 : ((i : Int) < ((C.length + 1 : Nat) : Int)) = True := eq_true (by omega)
              have e2 : ((i : Int) < (C.length : Int)) = True := eq_true (by omega)
              have g1 := mkI_get (-2) (n := C.length + 1) (i := i) (by omega)
              have g2 := mkI_get (-2) (n := C.length) (i := i) hlt
              (repeat' (first
    | exact trivial
    | (with_reducible first | refine awA ?_ | refine awB ?_ | refine awC ?_ | refine awD ?_ | refine awE ?_ | refine awF ?_ | refine awG ?_ | refine awH ?_ | refine awI ?_ | refine awJ ?_ | refine awK ?_ | refine awL ?_ | refine awM (by decide) ?_)
    | (refine aw_draw (id := 16) (t := (.node [0, 1, 2, 3, 4, 5, 6] [])) (drR [3] [53] []) mixed (by kernel_rfl) (by kernel_rfl) (fun _ _ h => h) ?_)
    | (refine aw_draw (id := 34) (t := (.node [0, 1, 2, 3, 4, 5, 6, 7, 8, 9, 10, 11, 12, 13, 14, 15, 16, 17, 18, 19, 20] [])) (drR [] [112, 120] []) mixed (by kernel_rfl) (by kernel_rfl) (fun _ _ h => h) ?_)
    | (refine aw_draw (id := 42) (t := (.node [0, 1, 2, 3, 4, 5, 6, 7, 8, 9, 10, 11, 12, 13, 14, 15, 16, 17, 18, 19, 20, 21, 22, 23, 24, 25, 26, 27, 28, 29, 30, 31, 32, 33, 34, 35, 36, 37, 38, 39, 40] [])) (drR [] [156, 159, 172, 180, 183, 187, 190] []) mixed (by kernel_rfl) (by kernel_rfl) (fun _ _ h => h) ?_)
    | (refine at_done (by simp only [List.filterMap_cons, List.filterMap_nil, List.getElem?_toArray, List.getElem?_cons_zero, List.getElem?_cons_succ]; exact rfl) ?_) | (refine at_alt (by simp only [List.filterMap_cons, List.filterMap_nil, List.getElem?_toArray, List.getElem?_cons_zero, List.getElem?_cons_succ]; exact rfl) ?_) | refine qalt_normal ?_ | refine ats_cons ?_ ?_ | exact ats_nil
    | ((with_reducible first | refine awN (tyOf_ok _) [] ?_ | refine awO (tyOf_ok _) [] ?_ | refine awP (tyOf_ok _) [] ?_ | refine awQ ?_ | refine awR ?_ | refine awS ?_); intro r hr; simp only [go_sem, Nat.reduceBEq, Nat.reduceBneDiff, Nat.reduceLT, Nat.reduceLeDiff, Nat.reduceAdd, Nat.reduceMul, Nat.reduceSub, Nat.reduceEqDiff, reduceCtorEq, hw, e1, e2, g1, g2, zi, n0, n1, m0, mkI_len, Nat.zero_add, encIs_len, v8_len, decide_true, Bool.not_true, Int.cast_ofNat_Int, Int.reduceToNat, Int.reduceEq, Int.reduceLT, Int.reduceLE, Int.reduceNe] at hr; subst hr; (first | refine awV ?_ ?_ | refine awW ?_ ?_ | refine endK ?_ ?_ | (refine condK (fun h => ?_) (fun h => ?_) <;> (try simp only [go_sem, reduceCtorEq] at h) <;> (try (exfalso; omega))))) | fail)) <;> (try omega)
              all_goals first | omega | exact ⟨i + 1, by simp only [apS14, go_sem, Nat.reduceBEq, Nat.reduceBneDiff, Nat.reduceLT, Nat.reduceLeDiff, Nat.reduceAdd, Nat.reduceMul, Nat.reduceSub, Nat.reduceEqDiff, reduceCtorEq] <;> exact rfl, by omega, by omega⟩
            · subst heq
              have e1 : ((C.length : Int) < ((C.length + 1 : Nat) : Int)) = True := eq_true (by omega)
              have e2 : ((C.length : Int) < (C.length : Int)) = False := eq_false (by omega)
              have g1 := mkI_get (-2) (n := C.length + 1) (i := C.length) (by omega)
              have g2 : (encIs (mkI (-2) C.length))[C.length]? = none := List.getElem?_eq_none (by rw [encIs_len, mkI_len]; exact Nat.le_refl _)
              (repeat' (first
    | exact trivial
    | (with_reducible first | refine awA ?_ | refine awB ?_ | refine awC ?_ | refine awD ?_ | refine awE ?_ | refine awF ?_ | refine awG ?_ | refine awH ?_ | refine awI ?_ | refine awJ ?_ | refine awK ?_ | refine awL ?_ | refine awM (by decide) ?_)
    | (refine aw_draw (id := 16) (t := (.node [0, 1, 2, 3, 4, 5, 6] [])) (drR [3] [53] []) mixed (by kernel_rfl) (by kernel_rfl) (fun _ _ h => h) ?_)
    | (refine aw_draw (id := 34) (t := (.node [0, 1, 2, 3, 4, 5, 6, 7, 8, 9, 10, 11, 12, 13, 14, 15, 16, 17, 18, 19, 20] [])) (drR [] [112, 120] []) mixed (by kernel_rfl) (by kernel_rfl) (fun _ _ h => h) ?_)
    | (refine aw_draw (id := 42) (t := (.node [0, 1, 2, 3, 4, 5, 6, 7, 8, 9, 10, 11, 12, 13, 14, 15, 16, 17, 18, 19, 20, 21, 22, 23, 24, 25, 26, 27, 28, 29, 30, 31, 32, 33, 34, 35, 36, 37, 38, 39, 40] [])) (drR [] [156, 159, 172, 180, 183, 187, 190] []) mixed (by kernel_rfl) (by kernel_rfl) (fun _ _ h => h) ?_)
    | (refine at_done (by simp only [List.filterMap_cons, List.filterMap_nil, List.getElem?_toArray, List.getElem?_cons_zero, List.getElem?_cons_succ]; exact rfl) ?_) | (refine at_alt (by simp only [List.filterMap_cons, List.filterMap_nil, List.getElem?_toArray, List.getElem?_cons_zero, List.getElem?_cons_succ]; exact rfl) ?_) | refine qalt_normal ?_ | refine ats_cons ?_ ?_ | exact ats_nil
    | ((with_reducible first | refine awN (tyOf_ok _) [] ?_ | refine awO (tyOf_ok _) [] ?_ | refine awP (tyOf_ok _) [] ?_ | refine awQ ?_ | refine awR ?_ | refine awS ?_); intro r hr; simp only [go_sem, Nat.reduceBEq, Nat.reduceBneDiff, Nat.reduceLT, Nat.reduceLeDiff, Nat.reduceAdd, Nat.reduceMul, Nat.reduceSub, Nat.reduceEqDiff, reduceCtorEq, hw, e1, e2, g1, g2, zi, n0, n1, m0, mkI_len, Nat.zero_add, encIs_len, v8_len, decide_true, Bool.not_true, Int.cast_ofNat_Int, Int.reduceToNat, Int.reduceEq, Int.reduceLT, Int.reduceLE, Int.reduceNe] at hr; subst hr; (first | refine awV ?_ ?_ | refine awW ?_ ?_ | refine endK ?_ ?_ | (refine condK (fun h => ?_) (fun h => ?_) <;> (try simp only [go_sem, reduceCtorEq] at h) <;> (try (exfalso; omega)))))
    | (refine al_skip 183 rfl (.agg [vI 0, vI 0, vI 0, vI 0]) rfl rfl ⟨by decide, by decide⟩ ?_) | fail)) <;> (try omega)
              all_goals first | omega | exact ⟨C.length + 1, by simp only [apS14, go_sem, Nat.reduceBEq, Nat.reduceBneDiff, Nat.reduceLT, Nat.reduceLeDiff, Nat.reduceAdd, Nat.reduceMul, Nat.reduceSub, Nat.reduceEqDiff, reduceCtorEq] <;> exact rfl, by omega, by omega⟩
            have e1 : ((i : Int) < ((C.length + 1 : Nat) : Int)) = False := eq_false (by omega)
            (repeat' (first
    | exact trivial
    | (with_reducible first | refine awA ?_ | refine awB ?_ | refine awC ?_ | refine awD ?_ | refine awE ?_ | refine awF ?_ | refine awG ?_ | refine awH ?_ | refine awI ?_ | refine awJ ?_ | refine awK ?_ | refine awL ?_ | refine awM (by decide) ?_)
    | (refine aw_draw (id := 16) (t := (.node [0, 1, 2, 3, 4, 5, 6] [])) (drR [3] [53] []) mixed (by kernel_rfl) (by kernel_rfl) (fun _ _ h => h) ?_)
    | (refine aw_draw (id := 34) (t := (.node [0, 1, 2, 3, 4, 5, 6, 7, 8, 9, 10, 11, 12, 13, 14, 15, 16, 17, 18, 19, 20] [])) (drR [] [112, 120] []) mixed (by kernel_rfl) (by kernel_rfl) (fun _ _ h => h) ?_)
    | (refine aw_draw (id := 42) (t := (.node [0, 1, 2, 3, 4, 5, 6, 7, 8, 9, 10, 11, 12, 13, 14, 15, 16, 17, 18, 19, 20, 21, 22, 23, 24, 25, 26, 27, 28, 29, 30, 31, 32, 33, 34, 35, 36, 37, 38, 39, 40] [])) (drR [] [156, 159, 172, 180, 183, 187, 190] []) mixed (by kernel_rfl) (by kernel_rfl) (fun _ _ h => h) ?_)
    | (refine at_done (by simp only [List.filterMap_cons, List.filterMap_nil, List.getElem?_toArray, List.getElem?_cons_zero, List.getElem?_cons_succ]; exact rfl) ?_) | (refine at_alt (by simp only [List.filterMap_cons, List.filterMap_nil, List.getElem?_toArray, List.getElem?_cons_zero, List.getElem?_cons_succ]; exact rfl) ?_) | refine qalt_normal ?_ | refine ats_cons ?_ ?_ | exact ats_nil
    | ((with_reducible first | refine awN (tyOf_ok _) [] ?_ | refine awO (tyOf_ok _) [] ?_ | refine awP (tyOf_ok _) [] ?_ | refine awQ ?_ | refine awR ?_ | refine awS ?_); intro r hr; simp only [go_sem, Nat.reduceBEq, Nat.reduceBneDiff, Nat.reduceLT, Nat.reduceLeDiff, Nat.reduceAdd, Nat.reduceMul, Nat.reduceSub, Nat.reduceEqDiff, reduceCtorEq, e1, n0, n1, m0, mkI_len, encIs_len, v8_len, Int.cast_ofNat_Int, Int.reduceToNat, Int.reduceEq, Int.reduceLT, Int.reduceLE, Int.reduceNe] at hr; subst hr; (first | refine awV ?_ ?_ | refine awW ?_ ?_ | refine endK ?_ ?_ | (refine condK (fun h => ?_) (fun h => ?_) <;> (try simp only [go_sem, reduceCtorEq] at h) <;> (try (exfalso; omega))))) | fail)) <;> (try omega)
            refine go_loop [1, 3, 5, 10, 11, 16, 18] [1, 3, 45, 126, 139] (apS16 S R C N 1) (fun i => i ≤ N.length + 1) (fun i => N.length + 1 - i) 0 (by simp only [apS16, go_sem, Nat.reduceBEq, Nat.reduceBneDiff, Nat.reduceLT, Nat.reduceLeDiff, Nat.reduceAdd, Nat.reduceMul, Nat.reduceSub, Nat.reduceEqDiff, reduceCtorEq] <;> exact rfl) (Nat.zero_le _) ?_
            clear e1 zi hw hgt hi
            intro i hi
            unfold apS16
            have zi : ((i : Int)).toNat = i := by omega
            have hw := wrap_i64 (n := (i : Int) + 1) (by omega)
            rcases Nat.lt_trichotomy i N.length with hlt | heq | hgt
            · have e1 : ((i : Int) < ((N.length + 1 : Nat) : Int)) = True := eq_true (by omega)
              have e2 : ((i : Int) < (N.length : Int)) = True := eq_true (by omega)
              have g1 := rep_get (-2) (n := N.length + 1) (i := i) (by omega)
              have g2 := rep_get (-2) (n := N.length) (i := i) hlt
              (repeat' (first
    | exact trivial
    | (with_reducible first | refine awA ?_ | refine awB ?_ | refine awC ?_ | refine awD ?_ | refine awE ?_ | refine awF ?_ | refine awG ?_ | refine awH ?_ | refine awI ?_ | refine awJ ?_ | refine awK ?_ | refine awL ?_ | refine awM (by decide) ?_)
    | (refine aw_draw (id := 16) (t := (.node [0, 1, 2, 3, 4, 5, 6] [])) (drR [3] [53] []) mixed (by kernel_rfl) (by kernel_rfl) (fun _ _ h => h) ?_)
    | (refine aw_draw (id := 34) (t := (.node [0, 1, 2, 3, 4, 5, 6, 7, 8, 9, 10, 11, 12, 13, 14, 15, 16, 17, 18, 19, 20] [])) (drR [] [112, 120] []) mixed (by kernel_rfl) (by kernel_rfl) (fun _ _ h => h) ?_)
    | (refine aw_draw (id := 42) (t := (.node [0, 1, 2, 3, 4, 5, 6, 7, 8, 9, 10, 11, 12, 13, 14, 15, 16, 17, 18, 19, 20, 21, 22, 23, 24, 25, 26, 27, 28, 29, 30, 31, 32, 33, 34, 35, 36, 37, 38, 39, 40] [])) (drR [] [156, 159, 172, 180, 183, 187, 190] []) mixed (by kernel_rfl) (by kernel_rfl) (fun _ _ h => h) ?_)
    | (refine at_done (by simp only [List.filterMap_cons, List.filterMap_nil, List.getElem?_toArray, List.getElem?_cons_zero, List.getElem?_cons_succ]; exact rfl) ?_) | (refine at_alt (by simp only [List.filterMap_cons, List.filterMap_nil, List.getElem?_toArray, List.getElem?_cons_zero, List.getElem?_cons_succ]; exact rfl) ?_) | refine qalt_normal ?_ | refine ats_cons ?_ ?_ | exact ats_nil
    | ((with_reducible first | refine awN (tyOf_ok _) [] ?_ | refine awO (tyOf_ok _) [] ?_ | refine awP (tyOf_ok _) [] ?_ | refine awQ ?_ | refine awR ?_ | refine awS ?_); intro r hr; simp only [go_sem, Nat.reduceBEq, Nat.reduceBneDiff, Nat.reduceLT, Nat.reduceLeDiff, Nat.reduceAdd, Nat.reduceMul, Nat.reduceSub, Nat.reduceEqDiff, reduceCtorEq, hw, e1, e2, g1, g2, zi, n0, n1, m0, mkN_len, Nat.zero_add, encIs_len, v8_len, ne_eq, not_true_eq_false, not_false_eq_true, decide_false, decide_true, Bool.not_true, Int.cast_ofNat_Int, Int.reduceToNat, Int.reduceEq, Int.reduceLT, Int.reduceLE, Int.reduceNe] at hr; subst hr; (first | refine awV ?_ ?_ | refine awW ?_ ?_ | refine endK ?_ ?_ | (refine condK (fun h => ?_) (fun h => ?_) <;> (try simp only [go_sem, reduceCtorEq] at h) <;> (try (exfalso; omega))))) | fail)) <;> (try omega)
              all_goals first | omega | exact ⟨i + 1, by simp only [apS16, go_sem, Nat.reduceBEq, Nat.reduceBneDiff, Nat.reduceLT, Nat.reduceLeDiff, Nat.reduceAdd, Nat.reduceMul, Nat.reduceSub, Nat.reduceEqDiff, reduceCtorEq] <;> exact rfl, by omega, by omega⟩
            · subst heq
              have e1 : ((N.length : Int) < ((N.length + 1 : Nat) : Int)) = True := eq_true (by omega)
              have e2 : ((N.length : Int) < (N.length : Int)) = False := eq_false (by omega)
              have g1 := rep_get (-2) (n := N.length + 1) (i := N.length) (by omega)
              have g2 : (v8 (mkN (-2) N.length))[N.length]? = none := List.getElem?_eq_none (by rw [v8_len, mkN_len]; exact Nat.le_refl _)
              (repeat' (first
    | exact trivial
    | (with_reducible first | refine awA ?_ | refine awB ?_ | refine awC ?_ | refine awD ?_ | refine awE ?_ | refine awF ?_ | refine awG ?_ | refine awH ?_ | refine awI ?_ | refine awJ ?_ | refine awK ?_ | refine awL ?_ | refine awM (by decide) ?_)
    | (refine aw_draw (id := 16) (t := (.node [0, 1, 2, 3, 4, 5, 6] [])) (drR [3] [53] []) mixed (by kernel_rfl) (by kernel_rfl) (fun _ _ h => h) ?_)
    | (refine aw_draw (id := 34) (t := (.node [0, 1, 2, 3, 4, 5, 6, 7, 8, 9, 10, 11, 12, 13, 14, 15, 16, 17, 18, 19, 20] [])) (drR [] [112, 120] []) mixed (by kernel_rfl) (by kernel_rfl) (fun _ _ h => h) ?_)
    | (refine aw_draw (id := 42) (t := (.node [0, 1, 2, 3, 4, 5, 6, 7, 8, 9, 10, 11, 12, 13, 14, 15, 16, 17, 18, 19, 20, 21, 22, 23, 24, 25, 26, 27, 28, 29, 30, 31, 32, 33, 34, 35, 36, 37, 38, 39, 40] [])) (drR [] [156, 159, 172, 180, 183, 187, 190] []) mixed (by kernel_rfl) (by kernel_rfl) (fun _ _ h => h) ?_)
    | (refine at_done (by simp only [List.filterMap_cons, List.filterMap_nil, List.getElem?_toArray, List.getElem?_cons_zero, List.getElem?_cons_succ]; exact rfl) ?_) | (refine at_alt (by simp only [List.filterMap_cons, List.filterMap_nil, List.getElem?_toArray, List.getElem?_cons_zero, List.getElem?_cons_succ]; exact rfl) ?_) | refine qalt_normal ?_ | refine ats_cons ?_ ?_ | exact ats_nil
    | ((with_reducible first | refine awN (tyOf_ok _) [] ?_ | refine awO (tyOf_ok _) [] ?_ | refine awP (tyOf_ok _) [] ?_ | refine awQ ?_ | refine awR ?_ | refine awS ?_); intro r hr; simp only [go_sem, Nat.reduceBEq, Nat.reduceBneDiff, Nat.reduceLT, Nat.reduceLeDiff, Nat.reduceAdd, Nat.reduceMul, Nat.reduceSub, Nat.reduceEqDiff, reduceCtorEq, hw, e1, e2, g1, g2, zi, n0, n1, m0, mkN_len, Nat.zero_add, encIs_len, v8_len, ne_eq, not_true_eq_false, not_false_eq_true, decide_false, decide_true, Bool.not_true, Int.cast_ofNat_Int, Int.reduceToNat, Int.reduceEq, Int.reduceLT, Int.reduceLE, Int.reduceNe] at hr; subst hr; (first | refine awV ?_ ?_ | refine awW ?_ ?_ | refine endK ?_ ?_ | (refine condK (fun h => ?_) (fun h => ?_) <;> (try simp only [go_sem, reduceCtorEq] at h) <;> (try (exfalso; omega)))))
    | (refine al_skip 231 rfl (vI 0) rfl rfl ⟨by decide, by decide⟩ ?_) | fail)) <;> (try omega)
              all_goals first | omega | exact ⟨N.length + 1, by simp only [apS16, go_sem, Nat.reduceBEq, Nat.reduceBneDiff, Nat.reduceLT, Nat.reduceLeDiff, Nat.reduceAdd, Nat.reduceMul, Nat.reduceSub, Nat.reduceEqDiff, reduceCtorEq] <;> exact rfl, by omega, by omega⟩
            have e1 : ((i : Int) < ((N.length + 1 : Nat) : Int)) = False := eq_false (by omega)
            (repeat' (first
    | exact trivial
    | (with_reducible first | refine awA ?_ | refine awB ?_ | refine awC ?_ | refine awD ?_ | refine awE ?_ | refine awF ?_ | refine awG ?_ | refine awH ?_ | refine awI ?_ | refine awJ ?_ | refine awK ?_ | refine awL ?_ | refine awM (by decide) ?_)
    | (refine aw_draw (id := 16) (t := (.node [0, 1, 2, 3, 4, 5, 6] [])) (drR [3] [53] []) mixed (by kernel_rfl) (by kernel_rfl) (fun _ _ h => h) ?_)
    | (refine aw_draw (id := 34) (t := (.node [0, 1, 2, 3, 4, 5, 6, 7, 8, 9, 10, 11, 12, 13, 14, 15, 16, 17, 18, 19, 20] [])) (drR [] [112, 120] []) mixed (by kernel_rfl) (by kernel_rfl) (fun _ _ h => h) ?_)
    | (refine aw_draw (id := 42) (t := (.node [0, 1, 2, 3, 4, 5, 6, 7, 8, 9, 10, 11, 12, 13, 14, 15, 16, 17, 18, 19, 20, 21, 22, 23, 24, 25, 26, 27, 28, 29, 30, 31, 32, 33, 34, 35, 36, 37, 38, 39, 40] [])) (drR [] [156, 159, 172, 180, 183, 187, 190] []) mixed (by kernel_rfl) (by kernel_rfl) (fun _ _ h => h) ?_)
    | (refine at_done (by simp only [List.filterMap_cons, List.filterMap_nil, List.getElem?_toArray, List.getElem?_cons_zero, List.getElem?_cons_succ]; exact rfl) ?_) | (refine at_alt (by simp only [List.filterMap_cons, List.filterMap_nil, List.getElem?_toArray, List.getElem?_cons_zero, List.getElem?_cons_succ]; exact rfl) ?_) | refine qalt_normal ?_ | refine ats_cons ?_ ?_ | exact ats_nil
    | ((with_reducible first | refine awN (tyOf_ok _) [] ?_ | refine awO (tyOf_ok _) [] ?_ | refine awP (tyOf_ok _) [] ?_ | refine awQ ?_ | refine awR ?_ | refine awS ?_); intro r hr; simp only [go_sem, Nat.reduceBEq, Nat.reduceBneDiff, Nat.reduceLT, Nat.reduceLeDiff, Nat.reduceAdd, Nat.reduceMul, Nat.reduceSub, Nat.reduceEqDiff, reduceCtorEq, e1, w1, n0, n1, m0, mkN_len, encIs_len, v8_len, Int.cast_ofNat_Int, Int.reduceToNat, Int.reduceEq, Int.reduceLT, Int.reduceLE, Int.reduceNe] at hr; subst hr; (first | refine awV ?_ ?_ | refine awW ?_ ?_ | refine endK ?_ ?_ | (refine condK (fun h => ?_) (fun h => ?_) <;> (try simp only [go_sem, reduceCtorEq] at h) <;> (try (exfalso; omega))))) | fail)) <;> (try omega)
            all_goals first | omega | exact ⟨2, by simp only [apS12, go_sem, Nat.reduceBEq, Nat.reduceBneDiff, Nat.reduceLT, Nat.reduceLeDiff, Nat.reduceAdd, Nat.reduceMul, Nat.reduceSub, Nat.reduceEqDiff, reduceCtorEq] <;> exact rfl, by omega, by omega⟩
          | 2, _ =>
            have n0 : IntKind.i64.wrap (0 - 2) = -2 := by decide
            have n1 : IntKind.i64.wrap (-2 - 1) = -3 := by decide
            have m0 : IntKind.i64.wrap (0 - 1) = -1 := by decide
            unfold apS12
            (repeat' (first
    | exact trivial
    | (with_reducible first | refine awA ?_ | refine awB ?_ | refine awC ?_ | refine awD ?_ | refine awE ?_ | refine awF ?_ | refine awG ?_ | refine awH ?_ | refine awI ?_ | refine awJ ?_ | refine awK ?_ | refine awL ?_ | refine awM (by decide) ?_)
    | (refine aw_draw (id := 16) (t := (.node [0, 1, 2, 3, 4, 5, 6] [])) (drR [3] [53] []) mixed (by kernel_rfl) (by kernel_rfl) (fun _ _ h => h) ?_)
    | (refine aw_draw (id := 34) (t := (.node [0, 1, 2, 3, 4, 5, 6, 7, 8, 9, 10, 11, 12, 13, 14, 15, 16, 17, 18, 19, 20] [])) (drR [] [112, 120] []) mixed (by kernel_rfl) (by kernel_rfl) (fun _ _ h => h) ?_)
    | (refine aw_draw (id := 42) (t := (.node [0, 1, 2, 3, 4, 5, 6, 7, 8, 9, 10, 11, 12, 13, 14, 15, 16, 17, 18, 19, 20, 21, 22, 23, 24, 25, 26, 27, 28, 29, 30, 31, 32, 33, 34, 35, 36, 37, 38, 39, 40] [])) (drR [] [156, 159, 172, 180, 183, 187, 190] []) mixed (by kernel_rfl) (by kernel_rfl) (fun _ _ h => h) ?_)
    | (refine at_done (by simp only [List.filterMap_cons, List.filterMap_nil, List.getElem?_toArray, List.getElem?_cons_zero, List.getElem?_cons_succ]; exact rfl) ?_) | (refine at_alt (by simp only [List.filterMap_cons, List.filterMap_nil, List.getElem?_toArray, List.getElem?_cons_zero, List.getElem?_cons_succ]; exact rfl) ?_) | refine qalt_normal ?_ | refine ats_cons ?_ ?_ | exact ats_nil
    | ((with_reducible first | refine awN (tyOf_ok _) [] ?_ | refine awO (tyOf_ok _) [] ?_ | refine awP (tyOf_ok _) [] ?_ | refine awQ ?_ | refine awR ?_ | refine awS ?_); intro r hr; simp only [go_sem, Nat.reduceBEq, Nat.reduceBneDiff, Nat.reduceLT, Nat.reduceLeDiff, Nat.reduceAdd, Nat.reduceMul, Nat.reduceSub, Nat.reduceEqDiff, reduceCtorEq, encIs_len, v8_len, Int.cast_ofNat_Int, Int.reduceToNat, Int.reduceEq, Int.reduceLT, Int.reduceLE, Int.reduceNe] at hr; subst hr; (first | refine awV ?_ ?_ | refine awW ?_ ?_ | refine endK ?_ ?_ | (refine condK (fun h => ?_) (fun h => ?_) <;> (try simp only [go_sem, reduceCtorEq] at h) <;> (try (exfalso; omega))))) | fail)) <;> (try omega)
            refine go_loop [1, 3, 5, 10, 11, 16, 17] [1, 3, 45, 126, 139] (apS14 S R C N 2) (fun i => i ≤ C.length + 1) (fun i => C.length + 1 - i) 0 (by simp only [apS14, go_sem, Nat.reduceBEq, Nat.reduceBneDiff, Nat.reduceLT, Nat.reduceLeDiff, Nat.reduceAdd, Nat.reduceMul, Nat.reduceSub, Nat.reduceEqDiff, reduceCtorEq] <;> exact rfl) (Nat.zero_le _) ?_
            intro i hi
            unfold apS14
            have zi : ((i : Int)).toNat = i := by omega
            have hw := wrap_i64 (n := (i : Int) + 1) (by omega)
            rcases Nat.lt_trichotomy i C.length with hlt | heq | hgt
            · have e1 : ((i : Int) < ((C.length + 1 : Nat) : Int)) = True := eq_true (by omega)
              have e2 : ((i : Int) < (C.length : Int)) = True := eq_true (by omega)
              have g1 := mkI_get (-3) (n := C.length + 1) (i := i) (by omega)
              have g2 := mkI_get (-3) (n := C.length) (i := i) hlt
              (repeat' (first
    | exact trivial
    | (with_reducible first | refine awA ?_ | refine awB ?_ | refine awC ?_ | refine awD ?_ | refine awE ?_ | refine awF ?_ | refine awG ?_ | refine awH ?_ | refine awI ?_ | refine awJ ?_ | refine awK ?_ | refine awL ?_ | refine awM (by decide) ?_)
    | (refine aw_draw (id := 16) (t := (.node [0, 1, 2, 3, 4, 5, 6] [])) (drR [3] [53] []) mixed (by kernel_rfl) (by kernel_rfl) (fun _ _ h => h) ?_)
    | (refine aw_draw (id := 34) (t := (.node [0, 1, 2, 3, 4, 5, 6, 7, 8, 9, 10, 11, 12, 13, 14, 15, 16, 17, 18, 19, 20] [])) (drR [] [112, 120] []) mixed (by kernel_rfl) (by kernel_rfl) (fun _ _ h => h) ?_)
    | (refine aw_draw (id := 42) (t := (.node [0, 1, 2, 3, 4, 5, 6, 7, 8, 9, 10, 11, 12, 13, 14, 15, 16, 17, 18, 19, 20, 21, 22, 23, 24, 25, 26, 27, 28, 29, 30, 31, 32, 33, 34, 35, 36, 37, 38, 39, 40] [])) (drR [] [156, 159, 172, 180, 183, 187, 190] []) mixed (by kernel_rfl) (by kernel_rfl) (fun _ _ h => h) ?_)
    | (refine at_done (by simp only [List.filterMap_cons, List.filterMap_nil, List.getElem?_toArray, List.getElem?_cons_zero, List.getElem?_cons_succ]; exact rfl) ?_) | (refine at_alt (by simp only [List.filterMap_cons, List.filterMap_nil, List.getElem?_toArray, List.getElem?_cons_zero, List.getElem?_cons_succ]; exact rfl) ?_) | refine qalt_normal ?_ | refine ats_cons ?_ ?_ | exact ats_nil
    | ((with_reducible first | refine awN (tyOf_ok _) [] ?_ | refine awO (tyOf_ok _) [] ?_ | refine awP (tyOf_ok _) [] ?_ | refine awQ ?_ | refine awR ?_ | refine awS ?_); intro r hr; simp only [go_sem, Nat.reduceBEq, Nat.reduceBneDiff, Nat.reduceLT, Nat.reduceLeDiff, Nat.reduceAdd, Nat.reduceMul, Nat.reduceSub, Nat.reduceEqDiff, reduceCtorEq, hw, e1, e2, g1, g2, zi, n0, n1, m0, mkI_len, Nat.zero_add, encIs_len, v8_len, decide_true, Bool.not_true, Int.cast_ofNat_Int, Int.reduceToNat, Int.reduceEq, Int.reduceLT, Int.reduceLE, Int.reduceNe] at hr; subst hr; (first | refine awV ?_ ?_ | refine awW ?_ ?_ | refine endK ?_ ?_ | (refine condK (fun h => ?_) (fun h => ?_) <;> (try simp only [go_sem, reduceCtorEq] at h) <;> (try (exfalso; omega))))) | fail)) <;> (try omega)
              all_goals first | omega | exact ⟨i + 1, by simp only [apS14, go_sem, Nat.reduceBEq, Nat.reduceBneDiff, Nat.reduceLT, Nat.reduceLeDiff, Nat.reduceAdd, Nat.reduceMul, Nat.reduceSub, Nat.reduceEqDiff, reduceCtorEq] <;> exact rfl, by omega, by omega⟩
            · subst heq
              have e1 : ((C.length : Int) < ((C.length + 1 : Nat) : Int)) = True := eq_true (by omega)
              have e2 : ((C.length : Int) < (C.length : Int)) = False := eq_false (by omega)
              have g1 := mkI_get (-3) (n := C.length + 1) (i := C.length) (by omega)
              have g2 : (encIs (mkI (-3) C.length))[C.length]? = none := List.getElem?_eq_none (by rw [encIs_len, mkI_len]; exact Nat.le_refl _)
              (repeat' (first
    | exact trivial
    | (with_reducible first | refine awA ?_ | refine awB ?_ | refine awC ?_ | refine awD ?_ | refine awE ?_ | refine awF ?_ | refine awG ?_ | refine awH ?_ | refine awI ?_ | refine awJ ?_ | refine awK ?_ | refine awL ?_ | refine awM (by decide) ?_)
    | (refine aw_draw (id := 16) (t := (.node [0, 1, 2, 3, 4, 5, 6] [])) (drR [3] [53] []) mixed (by kernel_rfl) (by kernel_rfl) (fun _ _ h => h) ?_)
    | (refine aw_draw (id := 34) (t := (.node [0, 1, 2, 3, 4, 5, 6, 7, 8, 9, 10, 11, 12, 13, 14, 15, 16, 17, 18, 19, 20] [])) (drR [] [112, 120] []) mixed (by kernel_rfl) (by kernel_rfl) (fun _ _ h => h) ?_)
    | (refine aw_draw (id := 42) (t := (.node [0, 1, 2, 3, 4, 5, 6, 7, 8, 9, 10, 11, 12, 13, 14, 15, 16, 17, 18, 19, 20, 21, 22, 23, 24, 25, 26, 27, 28, 29, 30, 31, 32, 33, 34, 35, 36, 37, 38, 39, 40] [])) (drR [] [156, 159, 172, 180, 183, 187, 190] []) mixed (by kernel_rfl) (by kernel_rfl) (fun _ _ h => h) ?_)
    | (refine at_done (by simp only [List.filterMap_cons, List.filterMap_nil, List.getElem?_toArray, List.getElem?_cons_zero, List.getElem?_cons_succ]; exact rfl) ?_) | (refine at_alt (by simp only [List.filterMap_cons, List.filterMap_nil, List.getElem?_toArray, List.getElem?_cons_zero, List.getElem?_cons_succ]; exact rfl) ?_) | refine qalt_normal ?_ | refine ats_cons ?_ ?_ | exact ats_nil
    | ((with_reducible first | refine awN (tyOf_ok _) [] ?_ | refine awO (tyOf_ok _) [] ?_ | refine awP (tyOf_ok _) [] ?_ | refine awQ ?_ | refine awR ?_ | refine awS ?_); intro r hr; simp only [go_sem, Nat.reduceBEq, Nat.reduceBneDiff, Nat.reduceLT, Nat.reduceLeDiff, Nat.reduceAdd, Nat.reduceMul, Nat.reduceSub, Nat.reduceEqDiff, reduceCtorEq, hw, e1, e2, g1, g2, zi, n0, n1, m0, mkI_len, Nat.zero_add, encIs_len, v8_len, decide_true, Bool.not_true, Int.cast_ofNat_Int, Int.reduceToNat, Int.reduceEq, Int.reduceLT, Int.reduceLE, Int.reduceNe] at hr; subst hr; (first | refine awV ?_ ?_ | refine awW ?_ ?_ | refine endK ?_ ?_ | (refine condK (fun h => ?_) (fun h => ?_) <;> (try simp only [go_sem, reduceCtorEq] at h) <;> (try (exfalso; omega)))))
    | (refine al_skip 183 rfl (.agg [vI 0, vI 0, vI 0, vI 0]) rfl rfl ⟨by decide, by decide⟩ ?_) | fail)) <;> (try omega)
              all_goals first | omega | exact ⟨C.length + 1, by simp only [apS14, go_sem, Nat.reduceBEq, Nat.reduceBneDiff, Nat.reduceLT, Nat.reduceLeDiff, Nat.reduceAdd, Nat.reduceMul, Nat.reduceSub, Nat.reduceEqDiff, reduceCtorEq] <;> exact rfl, by omega, by omega⟩
            have e1 : ((i : Int) < ((C.length + 1 : Nat) : Int)) = False := eq_false (by omega)
            (repeat' (first
    | exact trivial
    | (with_reducible first | refine awA ?_ | refine awB ?_ | refine awC ?_ | refine awD ?_ | refine awE ?_ | refine awF ?_ | refine awG ?_ | refine awH ?_ | refine awI ?_ | refine awJ ?_ | refine awK ?_ | refine awL ?_ | refine awM (by decide) ?_)
    | (refine aw_draw (id := 16) (t := (.node [0, 1, 2, 3, 4, 5, 6] [])) (drR [3] [53] []) mixed (by kernel_rfl) (by kernel_rfl) (fun _ _ h => h) ?_)
    | (refine aw_draw (id := 34) (t := (.node [0, 1, 2, 3, 4, 5, 6, 7, 8, 9, 10, 11, 12, 13, 14, 15, 16, 17, 18, 19, 20] [])) (drR [] [112, 120] []) mixed (by kernel_rfl) (by kernel_rfl) (fun _ _ h => h) ?_)
    | (refine aw_draw (id := 42) (t := (.node [0, 1, 2, 3, 4, 5, 6, 7, 8, 9, 10, 11, 12, 13, 14, 15, 16, 17, 18, 19, 20, 21, 22, 23, 24, 25, 26, 27, 28, 29, 30, 31, 32, 33, 34, 35, 36, 37, 38, 39, 40] [])) (drR [] [156, 159, 172, 180, 183, 187, 190] []) mixed (by kernel_rfl) (by kernel_rfl) (fun _ _ h => h) ?_)
    | (refine at_done (by simp only [List.filterMap_cons, List.filterMap_nil, List.getElem?_toArray, List.getElem?_cons_zero, List.getElem?_cons_succ]; exact rfl) ?_) | (refine at_alt (by simp only [List.filterMap_cons, List.filterMap_nil, List.getElem?_toArray, List.getElem?_cons_zero, List.getElem?_cons_succ]; exact rfl) ?_) | refine qalt_normal ?_ | refine ats_cons ?_ ?_ | exact ats_nil
    | ((with_reducible first | refine awN (tyOf_ok _) [] ?_ | refine awO (tyOf_ok _) [] ?_ | refine awP (tyOf_ok _) [] ?_ | refine awQ ?_ | refine awR ?_ | refine awS ?_); intro r hr; simp only [go_sem, Nat.reduceBEq, Nat.reduceBneDiff, Nat.reduceLT, Nat.reduceLeDiff, Nat.reduceAdd, Nat.reduceMul, Nat.reduceSub, Nat.reduceEqDiff, reduceCtorEq, e1, n0, n1, m0, mkI_len, encIs_len, v8_len, Int.cast_ofNat_Int, Int.reduceToNat, Int.reduceEq, Int.reduceLT, Int.reduceLE, Int.reduceNe] at hr; subst hr; (first | refine awV ?_ ?_ | refine awW ?_ ?_ | refine endK ?_ ?_ | (refine condK (fun h => ?_) (fun h => ?_) <;> (try simp only [go_sem, reduceCtorEq] at h) <;> (try (exfalso; omega))))) | fail)) <;> (try omega)
            refine go_loop [1, 3, 5, 10, 11, 16, 18] [1, 3, 45, 126, 139] (apS16 S R C N 2) (fun i => i ≤ N.length + 1) (fun i => N.length + 1 - i) 0 (by simp only [apS16, go_sem, Nat.reduceBEq, Nat.reduceBneDiff, Nat.reduceLT, Nat.reduceLeDiff, Nat.reduceAdd, Nat.reduceMul, Nat.reduceSub, Nat.reduceEqDiff, reduceCtorEq] <;> exact rfl) (Nat.zero_le _) ?_
            clear e1 zi hw hgt hi
            intro i hi
            unfold apS16
            have zi : ((i : Int)).toNat = i := by omega
            have hw := wrap_i64 (n := (i : Int) + 1) (by omega)
            rcases Nat.lt_trichotomy i N.length with hlt | heq | hgt
            · have e1 : ((i : Int) < ((N.length + 1 : Nat) : Int)) = True := eq_true (by omega)
              have e2 : ((i : Int) < (N.length : Int)) = True := eq_true (by omega)
              have g1 := rep_get (-3) (n := N.length + 1) (i := i) (by omega)
              have g2 := rep_get (-3) (n := N.length) (i := i) hlt
              (repeat' (first
    | exact trivial
    | (with_reducible first | refine awA ?_ | refine awB ?_ | refine awC ?_ | refine awD ?_ | refine awE ?_ | refine awF ?_ | refine awG ?_ | refine awH ?_ | refine awI ?_ | refine awJ ?_ | refine awK ?_ | refine awL ?_ | refine awM (by decide) ?_)
    | (refine aw_draw (id := 16) (t := (.node [0, 1, 2, 3, 4, 5, 6] [])) (drR [3] [53] []) mixed (by kernel_rfl) (by kernel_rfl) (fun _ _ h => h) ?_)
    | (refine aw_draw (id := 34) (t := (.node [0, 1, 2, 3, 4, 5, 6, 7, 8, 9, 10, 11, 12, 13, 14, 15, 16, 17, 18, 19, 20] [])) (drR [] [112, 120] []) mixed (by kernel_rfl) (by kernel_rfl) (fun _ _ h => h) ?_)
    | (refine aw_draw (id := 42) (t := (.node [0, 1, 2, 3, 4, 5, 6, 7, 8, 9, 10, 11, 12, 13, 14, 15, 16, 17, 18, 19, 20, 21, 22, 23, 24, 25, 26, 27, 28, 29, 30, 31, 32, 33, 34, 35, 36, 37, 38, 39, 40] [])) (drR [] [156, 159, 172, 180, 183, 187, 190] []) mixed (by kernel_rfl) (by kernel_rfl) (fun _ _ h => h) ?_)
    | (refine at_done (by simp only [List.filterMap_cons, List.filterMap_nil, List.getElem?_toArray, List.getElem?_cons_zero, List.getElem?_cons_succ]; exact rfl) ?_) | (refine at_alt (by simp only [List.filterMap_cons, List.filterMap_nil, List.getElem?_toArray, List.getElem?_cons_zero, List.getElem?_cons_succ]; exact rfl) ?_) | refine qalt_normal ?_ | refine ats_cons ?_ ?_ | exact ats_nil
    | ((with_reducible first | refine awN (tyOf_ok _) [] ?_ | refine awO (tyOf_ok _) [] ?_ | refine awP (tyOf_ok _) [] ?_ | refine awQ ?_ | refine awR ?_ | refine awS ?_); intro r hr; simp only [go_sem, Nat.reduceBEq, Nat.reduceBneDiff, Nat.reduceLT, Nat.reduceLeDiff, Nat.reduceAdd, Nat.reduceMul, Nat.reduceSub, Nat.reduceEqDiff, reduceCtorEq, hw, e1, e2, g1, g2, zi, n0, n1, m0, mkN_len, Nat.zero_add, encIs_len, v8_len, ne_eq, not_true_eq_false, not_false_eq_true, decide_false, decide_true, Bool.not_true, Int.cast_ofNat_Int, Int.reduceToNat, Int.reduceEq, Int.reduceLT, Int.reduceLE, Int.reduceNe] at hr; subst hr; (first | refine awV ?_ ?_ | refine awW ?_ ?_ | refine endK ?_ ?_ | (refine condK (fun h => ?_) (fun h => ?_) <;> (try simp only [go_sem, reduceCtorEq] at h) <;> (try (exfalso; omega))))) | fail)) <;> (try omega)
              all_goals first | omega | exact ⟨i + 1, by simp only [apS16, go_sem, Nat.reduceBEq, Nat.reduceBneDiff, Nat.reduceLT, Nat.reduceLeDiff, Nat.reduceAdd, Nat.reduceMul, Nat.reduceSub, Nat.reduceEqDiff, reduceCtorEq] <;> exact rfl, by omega, by omega⟩
            · subst heq
              have e1 : ((N.length : Int) < ((N.length + 1 : Nat) : Int)) = True := eq_true (by omega)
              have e2 : ((N.length : Int) < (N.length : Int)) = False := eq_false (by omega)
              have g1 := rep_get (-3) (n := N.length + 1) (i := N.length) (by omega)
              have g2 : (v8 (mkN (-3) N.length))[N.length]? = none := List.getElem?_eq_none (by rw [v8_len, mkN_len]; exact Nat.le_refl _)
              (repeat' (first
    | exact trivial
    | (with_reducible first | refine awA ?_ | refine awB ?_ | refine awC ?_ | refine awD ?_ | refine awE ?_ | refine awF ?_ | refine awG ?_ | refine awH ?_ | refine awI ?_ | refine awJ ?_ | refine awK ?_ | refine awL ?_ | refine awM (by decide) ?_)
    | (refine aw_draw (id := 16) (t := (.node [0, 1, 2, 3, 4, 5, 6] [])) (drR [3] [53] []) mixed (by kernel_rfl) (by kernel_rfl) (fun _ _ h => h) ?_)
    | (refine aw_draw (id := 34) (t := (.node [0, 1, 2, 3, 4, 5, 6, 7, 8, 9, 10, 11, 12, 13, 14, 15, 16, 17, 18, 19, 20] [])) (drR [] [112, 120] []) mixed (by kernel_rfl) (by kernel_rfl) (fun _ _ h => h) ?_)
    | (refine aw_draw (id := 42) (t := (.node [0, 1, 2, 3, 4, 5, 6, 7, 8, 9, 10, 11, 12, 13, 14, 15, 16, 17, 18, 19, 20, 21, 22, 23, 24, 25, 26, 27, 28, 29, 30, 31, 32, 33, 34, 35, 36, 37, 38, 39, 40] [])) (drR [] [156, 159, 172, 180, 183, 187, 190] []) mixed (by kernel_rfl) (by kernel_rfl) (fun _ _ h => h) ?_)
    | (refine at_done (by simp only [List.filterMap_cons, List.filterMap_nil, List.getElem?_toArray, List.getElem?_cons_zero, List.getElem?_cons_succ]; exact rfl) ?_) | (refine at_alt (by simp only [List.filterMap_cons, List.filterMap_nil, List.getElem?_toArray, List.getElem?_cons_zero, List.getElem?_cons_succ]; exact rfl) ?_) | refine qalt_normal ?_ | refine ats_cons ?_ ?_ | exact ats_nil
    | ((with_reducible first | refine awN (tyOf_ok _) [] ?_ | refine awO (tyOf_ok _) [] ?_ | refine awP (tyOf_ok _) [] ?_ | refine awQ ?_ | refine awR ?_ | refine awS ?_); intro r hr; simp only [go_sem, Nat.reduceBEq, Nat.reduceBneDiff, Nat.reduceLT, Nat.reduceLeDiff, Nat.reduceAdd, Nat.reduceMul, Nat.reduceSub, Nat.reduceEqDiff, reduceCtorEq, hw, e1, e2, g1, g2, zi, n0, n1, m0, mkN_len, Nat.zero_add, encIs_len, v8_len, ne_eq, not_true_eq_false, not_false_eq_true, decide_false, decide_true, Bool.not_true, Int.cast_ofNat_Int, Int.reduceToNat, Int.reduceEq, Int.reduceLT, Int.reduceLE, Int.reduceNe] at hr; subst hr; (first | refine awV ?_ ?_ | refine awW ?_ ?_ | refine endK ?_ ?_ | (refine condK (fun h => ?_) (fun h => ?_) <;> (try simp only [go_sem, reduceCtorEq] at h) <;> (try (exfalso; omega)))))
    | (refine al_skip 231 rfl (vI 0) rfl rfl ⟨by decide, by decide⟩ ?_) | fail)) <;> (try omega)
              all_goals first | omega | exact ⟨N.length + 1, by simp only [apS16, go_sem, Nat.reduceBEq, Nat.reduceBneDiff, Nat.reduceLT, Nat.reduceLeDiff, Nat.reduceAdd, Nat.reduceMul, Nat.reduceSub, Nat.reduceEqDiff, reduceCtorEq] <;> exact rfl, by omega, by omega⟩
            have e1 : ((i : Int) < ((N.length + 1 : Nat) : Int)) = False := eq_false (by omega)
            (repeat' (first
    | exact trivial
    | (with_reducible first | refine awA ?_ | refine awB ?_ | refine awC ?_ | refine awD ?_ | refine awE ?_ | refine awF ?_ | refine awG ?_ | refine awH ?_ | refine awI ?_ | refine awJ ?_ | refine awK ?_ | refine awL ?_ | refine awM (by decide) ?_)
    | (refine aw_draw (id := 16) (t := (.node [0, 1, 2, 3, 4, 5, 6] [])) (drR [3] [53] []) mixed (by kernel_rfl) (by kernel_rfl) (fun _ _ h => h) ?_)
    | (refine aw_draw (id := 34) (t := (.node [0, 1, 2, 3, 4, 5, 6, 7, 8, 9, 10, 11, 12, 13, 14, 15, 16, 17, 18, 19, 20] [])) (drR [] [112, 120] []) mixed (by kernel_rfl) (by kernel_rfl) (fun _ _ h => h) ?_)
    | (refine aw_draw (id := 42) (t := (.node [0, 1, 2, 3, 4, 5, 6, 7, 8, 9, 10, 11, 12, 13, 14, 15, 16, 17, 18, 19, 20, 21, 22, 23, 24, 25, 26, 27, 28, 29, 30, 31, 32, 33, 34, 35, 36, 37, 38, 39, 40] [])) (drR [] [156, 159, 172, 180, 183, 187, 190] []) mixed (by kernel_rfl) (by kernel_rfl) (fun _ _ h => h) ?_)
    | (refine at_done (by simp only [List.filterMap_cons, List.filterMap_nil, List.getElem?_toArray, List.getElem?_cons_zero, List.getElem?_cons_succ]; exact rfl) ?_) | (refine at_alt (by simp only [List.filterMap_cons, List.filterMap_nil, List.getElem?_toArray, List.getElem?_cons_zero, List.getElem?_cons_succ]; exact rfl) ?_) | refine qalt_normal ?_ | refine ats_cons ?_ ?_ | exact ats_nil
    | ((with_reducible first | refine awN (tyOf_ok _) [] ?_ | refine awO (tyOf_ok _) [] ?_ | refine awP (tyOf_ok _) [] ?_ | refine awQ ?_ | refine awR ?_ | refine awS ?_); intro r hr; simp only [go_sem, Nat.reduceBEq, Nat.reduceBneDiff, Nat.reduceLT, Nat.reduceLeDiff, Nat.reduceAdd, Nat.reduceMul, Nat.reduceSub, Nat.reduceEqDiff, reduceCtorEq, e1, w2, n0, n1, m0, mkN_len, encIs_len, v8_len, Int.cast_ofNat_Int, Int.reduceToNat, Int.reduceEq, Int.reduceLT, Int.reduceLE, Int.reduceNe] at hr; subst hr; (first | refine awV ?_ ?_ | refine awW ?_ ?_ | refine endK ?_ ?_ | (refine condK (fun h => ?_) (fun h => ?_) <;> (try simp only [go_sem, reduceCtorEq] at h) <;> (try (exfalso; omega))))) | fail)) <;> (try omega)
            all_goals first | omega | exact ⟨3, by simp only [apS12, go_sem, Nat.reduceBEq, Nat.reduceBneDiff, Nat.reduceLT, Nat.reduceLeDiff, Nat.reduceAdd, Nat.reduceMul, Nat.reduceSub, Nat.reduceEqDiff, reduceCtorEq] <;> exact rfl, by omega, by omega⟩
          | 3, _ =>
            unfold apS12
            (repeat' (first
    | exact trivial
    | (with_reducible first | refine awA ?_ | refine awB ?_ | refine awC ?_ | refine awD ?_ | refine awE ?_ | refine awF ?_ | refine awG ?_ | refine awH ?_ | refine awI ?_ | refine awJ ?_ | refine awK ?_ | refine awL ?_ | refine awM (by decide) ?_)
    | (refine aw_draw (id := 16) (t := (.node [0, 1, 2, 3, 4, 5, 6] [])) (drR [3] [53] []) mixed (by kernel_rfl) (by kernel_rfl) (fun _ _ h => h) ?_)
    | (refine aw_draw (id := 34) (t := (.node [0, 1, 2, 3, 4, 5, 6, 7, 8, 9, 10, 11, 12, 13, 14, 15, 16, 17, 18, 19, 20] [])) (drR [] [112, 120] []) mixed (by kernel_rfl) (by kernel_rfl) (fun _ _ h => h) ?_)
    | (refine aw_draw (id := 42) (t := (.node [0, 1, 2, 3, 4, 5, 6, 7, 8, 9, 10, 11, 12, 13, 14, 15, 16, 17, 18, 19, 20, 21, 22, 23, 24, 25, 26, 27, 28, 29, 30, 31, 32, 33, 34, 35, 36, 37, 38, 39, 40] [])) (drR [] [156, 159, 172, 180, 183, 187, 190] []) mixed (by kernel_rfl) (by kernel_rfl) (fun _ _ h => h) ?_)
    | (refine at_done (by simp only [List.filterMap_cons, List.filterMap_nil, List.getElem?_toArray, List.getElem?_cons_zero, List.getElem?_cons_succ]; exact rfl) ?_) | (refine at_alt (by simp only [List.filterMap_cons, List.filterMap_nil, List.getElem?_toArray, List.getElem?_cons_zero, List.getElem?_cons_succ]; exact rfl) ?_) | refine qalt_normal ?_ | refine ats_cons ?_ ?_ | exact ats_nil
    | ((with_reducible first | refine awN (tyOf_ok _) [] ?_ | refine awO (tyOf_ok _) [] ?_ | refine awP (tyOf_ok _) [] ?_ | refine awQ ?_ | refine awR ?_ | refine awS ?_); intro r hr; simp only [go_sem, Nat.reduceBEq, Nat.reduceBneDiff, Nat.reduceLT, Nat.reduceLeDiff, Nat.reduceAdd, Nat.reduceMul, Nat.reduceSub, Nat.reduceEqDiff, reduceCtorEq, encIs_len, v8_len, Int.cast_ofNat_Int, Int.reduceToNat, Int.reduceEq, Int.reduceLT, Int.reduceLE, Int.reduceNe] at hr; subst hr; (first | refine caC (d1) rfl ?_ ?_ ?_ | refine caA (fun _ => num16_any _) rfl ?_ ?_ ?_ | refine caA (fun _ => hE) rfl ?_ ?_ ?_ | refine awV ?_ ?_ | refine awW ?_ ?_ | refine endK ?_ ?_ | (refine condK (fun h => ?_) (fun h => ?_) <;> (try simp only [go_sem, reduceCtorEq] at h) <;> (try (exfalso; omega))))) | fail)) <;> (try omega)
            all_goals first | exact rfl
end Go.Proofs.Ytljfgohecmhchaa
end

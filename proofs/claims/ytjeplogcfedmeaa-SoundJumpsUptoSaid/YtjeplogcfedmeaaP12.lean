import Derived.Test.YtjeplogcfedmeaaRows
import Derived.ProofKit
import Derived.OpenShut
import Derived.ShutString
import Derived.ChangeOld
import Derived.Deep.Slices
import Derived.JoinedCond
import Derived.Test.YtjeplogcfedmeaaP11
set_option linter.all false
section
namespace Go.Proofs.Ytjeplogcfedmeaa
open Go.RowKit
set_option maxRecDepth 100000
set_option maxHeartbeats 8000000
noncomputable def verF (e : Bool) (C : List InsM) (N : List Int) : Int × Int :=
 if (chkF e C N).1 ≠ 0 then chkF e C N
 else match firstF e C N with
  | .error j => (150, j)
  | .ok _ => if 0 ≤ secF e C N then (150, secF e C N) else (0, 0)
def outF (L : LkM) : List Int := L.map fun s => match s with | some s => shapeF s | none => -1
noncomputable def shF (e : Bool) (C : List InsM) (N : List Int) : List Int :=
 if (verF e C N).1 ≠ 0 then []
 else match firstF e C N with
  | .error _ => []
  | .ok r => outF r.1
theorem repl_sts (n : Nat) : (List.replicate n [vI 0, .v (.int .u64 0), vI 0, vI 0, vI 0, vI 0] : List (List AV)) = encSts (List.replicate n none) := by simp [encSts, encSt, StM.zero]
theorem repl_has (n : Nat) : (List.replicate n [vB false] : List (List AV)) = encHas (List.replicate n none) := by simp [encHas]
theorem looked_bad (e : Bool) (C : List InsM) (N : List Int) (hC : C.length ≤ 140737488355328) (hN : N.length ≤ 140737488355328) (hv : (verF e C N).1 ≠ 0) :
  GCall Try.prog 19 [pG e C N] [] (.tup [.v (.pointer none), vFa (verF e C N)]) [] := by
 have hck := check_any e C N hC hN
 unfold verF at hv ⊢
 by_cases hc : (chkF e C N).1 = 0
 ·have hc0 := chkF_err.1 hc
  have hok := codeOK_of hc0
  have hl := hok.len
  rw [if_neg (by simpa using hc)] at hv ⊢
  rw [hc0] at hck
  have fe := first_E e C N hok
  unfold lkO lkV at fe
  simp only [List.length_replicate, List.length_nil] at fe
  have hr1 := repl_sts C.length
  have hr2 := repl_has C.length
  have sec := fun hlk => second_E e C N hok hlk
  have hlk : ∀ r, firstF e C N = .ok r → LookedOK C N := fun r h => looked_of hc0 h
  generalize firstF e C N = R at fe hv hlk ⊢
  generalize encSts (List.replicate C.length none) = rows1 at fe hr1
  generalize encHas (List.replicate C.length none) = rows2 at fe hr2
  unfold pG at *
  cases R with
  | error j =>
   dsimp only
   refine go_fnG (tyOf_ok _) Try.func19 rfl rfl (by rw [Try.results19]) Try.ntmps19 rfl fun E => ?_
   (repeat' (first | exact trivial | (refine aw_nilvar 23 5 3 1 15002 (.inr (by decide)) (by decide) rfl rfl ?_) | (with_reducible first | apply awA | apply awC | apply awF) | (refine aw_draw (id := 4) (t := (.node [0, 1, 2, 3, 5, 6, 7] [(.node [4, 8, 9, 10, 11] []), (.node [8, 4, 9, 10, 11] [])])) (drR [1] [] []) mixed (by kernel_rfl) (by kernel_rfl) (fun _ _ h => h) ?_) | (refine at_done (by simp only [go_sem]; exact rfl) ?_) | (refine at_alt (by simp only [go_sem]; exact rfl) ?_) | refine qalt_normal ?_ | refine ats_cons ?_ ?_ | exact ats_nil | ((with_reducible first | apply awn | apply awo | apply awp | refine awQ ?_); intro r hr; simp only [go_sem, Nat.reduceBEq, Nat.reduceLT, Nat.reduceLeDiff, Nat.reduceAdd, Nat.reduceMul, encIs_len, AState.nilvar, hr1, hr2, Int.cast_ofNat_Int] at hr; subst hr; (first | refine caA (fun _ => hck) rfl ?_ ?_ ?_ | refine awV ?_ ?_ | refine awW ?_ ?_ | (refine condK (fun h => ?_) (fun h => ?_) <;> (try simp only [go_sem, reduceCtorEq] at h) <;> (try (exfalso; omega))))) | (refine go_callGE [(23, 10000), (17, 15000), (21, 15001), (15002, 15002)] [(10000, 23), (15000, 17), (15001, 21), (15002, 15002)] [17, 21, 15002] [23] ?_; intro r hr; simp only [go_sem, Nat.reduceBEq, Nat.reduceLT] at hr; subst hr; refine callGV (fe) rfl rfl (by first | exact .inl rfl | exact .inr rfl) ?_ (.inl rfl) (fun q hq => hold ?_)))) <;> (try omega)
   all_goals
    refine ⟨?_⟩
    obtain ⟨r, L, W⟩ := q
    obtain ⟨_, rfl, h0⟩ := hq
    have e1 : (r < 0) = False := eq_false (by omega)
    have e2 : (r ≥ 0) = True := eq_true h0
    (repeat' (first | exact trivial | (with_reducible first | apply awA | apply awC | apply awD | apply awF | apply awG) | ((with_reducible first | apply awn | apply awo | refine awQ ?_ | refine awT ?_); intro r hr; simp only [go_sem, Nat.reduceBEq, Nat.reduceLT, Nat.reduceLeDiff, Nat.reduceAdd, Nat.reduceMul, e1, e2] at hr; subst hr; (first | refine awV ?_ ?_ | refine endGK ?_ ?_ ?_ | (refine condK (fun h => ?_) (fun h => ?_) <;> (try simp only [go_sem, reduceCtorEq] at h) <;> (try (exfalso; omega))))))) <;> (try omega)
    all_goals first | exact AV.up_rfl _ | exact obUp_nil
  | ok r0 =>
   dsimp only at hv ⊢
   have hs0 : 0 ≤ secF e C N := by
    by_cases h : 0 ≤ secF e C N
    ·exact h
    ·rw [if_neg h] at hv; exact absurd rfl hv
   rw [if_pos hs0]
   have sec' := sec (hlk _ rfl)
   have hsp := secF_spec e C N
   generalize secF e C N = sr at hs0 hsp ⊢
   have e1 : ((-1 : Int) < 0) = True := eq_true (by decide)
   have e2 : (sr ≥ 0) = True := eq_true hs0
   clear hlk sec hv
   refine go_fnG (tyOf_ok _) Try.func19 rfl rfl (by rw [Try.results19]) Try.ntmps19 rfl fun E => ?_
   (repeat' (first | exact trivial | (refine aw_nilvar 23 5 3 1 15002 (.inr (by decide)) (by decide) rfl rfl ?_) | (with_reducible first | apply awA | apply awC | apply awF) | (refine aw_draw (id := 4) (t := (.node [0, 1, 2, 3, 5, 6, 7] [(.node [4, 8, 9, 10, 11] []), (.node [8, 4, 9, 10, 11] [])])) (drR [1] [] []) mixed (by kernel_rfl) (by kernel_rfl) (fun _ _ h => h) ?_) | (refine at_done (by simp only [go_sem]; exact rfl) ?_) | (refine at_alt (by simp only [go_sem]; exact rfl) ?_) | refine qalt_normal ?_ | refine ats_cons ?_ ?_ | exact ats_nil | ((with_reducible first | apply awn | apply awo | apply awp | refine awQ ?_); intro r hr; simp only [go_sem, Nat.reduceBEq, Nat.reduceLT, Nat.reduceLeDiff, Nat.reduceAdd, Nat.reduceMul, encIs_len, AState.nilvar, hr1, hr2, Int.cast_ofNat_Int] at hr; subst hr; (first | refine caA (fun _ => hck) rfl ?_ ?_ ?_ | refine awV ?_ ?_ | refine awW ?_ ?_ | (refine condK (fun h => ?_) (fun h => ?_) <;> (try simp only [go_sem, reduceCtorEq] at h) <;> (try (exfalso; omega))))) | (refine go_callGE [(23, 10000), (17, 15000), (21, 15001), (15002, 15002)] [(10000, 23), (15000, 17), (15001, 21), (15002, 15002)] [17, 21, 15002] [23] ?_; intro r hr; simp only [go_sem, Nat.reduceBEq, Nat.reduceLT] at hr; subst hr; refine callGV (fe) rfl rfl (by first | exact .inl rfl | exact .inr rfl) ?_ (.inl rfl) (fun q hq => hold ?_)))) <;> (try omega)
   all_goals
    refine ⟨?_⟩
    obtain ⟨r, L, W⟩ := q
    obtain ⟨_, rfl, rfl⟩ := hq
    (repeat' (first | exact trivial | (with_reducible first | apply awA | apply awF) | ((with_reducible first | apply awn | apply awo | refine awQ ?_); intro r hr; simp only [go_sem, Nat.reduceBEq, Nat.reduceLT, Nat.reduceLeDiff, Nat.reduceAdd, Nat.reduceMul, e1] at hr; subst hr; (first | refine awV ?_ ?_ | refine awW ?_ ?_ | (refine condK (fun h => ?_) (fun h => ?_) <;> (try simp only [go_sem, reduceCtorEq] at h) <;> (try (exfalso; omega))))) | (refine go_callGE [] [] [] [] ?_; intro r hr; simp only [go_sem, Nat.reduceBEq, Nat.reduceLT] at hr; subst hr; refine callGV (sec') rfl rfl (by first | exact .inl rfl | exact .inr rfl) ?_ (.inl rfl) (fun q hq => hold ?_)))) <;> (try omega)
    refine ⟨?_⟩
    have hqq := hq.uniq hsp
    subst hqq
    (repeat' (first | exact trivial | (with_reducible first | apply awA | apply awD | apply awF | apply awG) | ((with_reducible first | apply awn | apply awo | refine awQ ?_ | refine awT ?_); intro r hr; simp only [go_sem, Nat.reduceBEq, Nat.reduceLT, Nat.reduceLeDiff, Nat.reduceAdd, Nat.reduceMul, e2] at hr; subst hr; (first | refine awV ?_ ?_ | refine endGK ?_ ?_ ?_ | (refine condK (fun h => ?_) (fun h => ?_) <;> (try simp only [go_sem, reduceCtorEq] at h) <;> (try (exfalso; omega))))))) <;> (try omega)
    all_goals first | exact AV.up_rfl _ | exact obUp_nil
 ·rw [if_pos (by simpa using hc)] at hv ⊢
  generalize chkF e C N = ch at hck hc ⊢
  obtain ⟨c1, c2⟩ := ch
  have e1 : (c1 = 0) = False := eq_false hc
  unfold pG at *
  refine go_fnG (tyOf_ok _) Try.func19 rfl rfl (by rw [Try.results19]) Try.ntmps19 rfl fun E => ?_
  (repeat' (first | exact trivial | (with_reducible first | apply awA | apply awD | apply awF | apply awG) | (refine aw_draw (id := 3) (t := (.node [0, 1, 2] [])) (drR [4] [] []) mixed (by kernel_rfl) (by kernel_rfl) (fun _ _ h => h) ?_) | (refine at_done (by simp only [go_sem]; exact rfl) ?_) | (refine at_alt (by simp only [go_sem]; exact rfl) ?_) | refine qalt_normal ?_ | refine ats_cons ?_ ?_ | exact ats_nil | ((with_reducible first | apply awn | apply awo | apply awp | refine awQ ?_ | refine awT ?_); intro r hr; simp only [go_sem, Nat.reduceBEq, Nat.reduceLT, Nat.reduceLeDiff, Nat.reduceAdd, Nat.reduceMul, e1] at hr; subst hr; (first | refine caA (fun _ => hck) rfl ?_ ?_ ?_ | refine awV ?_ ?_ | refine endGK ?_ ?_ ?_ | (refine condK (fun h => ?_) (fun h => ?_) <;> (try simp only [go_sem, reduceCtorEq] at h) <;> (try (exfalso; omega))))))) <;> (try omega)
  all_goals first | exact AV.up_rfl _ | exact obUp_nil
def lkR (e : Bool) (C : List InsM) (N : List Int) (L : LkM) (W : List Int) : List (Nat × AObj) :=
 [(23, .var [vB e, .lst 4 (encIs C), .lst 1 (v8 N), .ref 62 6 17 0 C.length, .ref 4 1 21 0 C.length, .ref 3 1 15002 0 W.length]), (17, .row 62 6 (encSts L)), (21, .row 4 1 (encHas L)), (15002, .row 3 1 (v8 W))]
theorem ver_ok {e : Bool} {C : List InsM} {N : List Int} (hv : (verF e C N).1 = 0) : chkF e C N = (0, 0) ∧ (∃ r, firstF e C N = .ok r) ∧ secF e C N < 0 ∧ verF e C N = (0, 0) := by
 unfold verF at hv ⊢
 by_cases hc : (chkF e C N).1 = 0
 ·rw [if_neg (by simpa using hc)] at hv ⊢
  refine ⟨chkF_err.1 hc, ?_⟩
  cases hf : firstF e C N with
  | error j => rw [hf] at hv; cases hv
  | ok r =>
   rw [hf] at hv
   dsimp only at hv ⊢
   by_cases h : 0 ≤ secF e C N
   ·rw [if_pos h] at hv; cases hv
   ·rw [if_neg h]; exact ⟨⟨r, rfl⟩, by omega, rfl⟩
 ·rw [if_pos (by simpa using hc)] at hv; exact absurd hv hc
theorem looked_ok (e : Bool) (C : List InsM) (N : List Int) (hv : (verF e C N).1 = 0) {r : LkM × List Nat} (hf : firstF e C N = .ok r) :
  GCallE Try.prog 19 [pG e C N] [] (fun _ : List Int => True) (fun _ => .tup [.ptr 1 23 0 0, vFa (0, 0)]) (fun W => lkR e C N r.1 W) := by
 obtain ⟨hc0, _, hs, _⟩ := ver_ok hv
 have hok := codeOK_of hc0
 have hl := hok.len
 have hck := check_any e C N (by omega) (by have := hok.lenN; omega)
 rw [hc0] at hck
 have fe := first_E e C N hok
 unfold lkO lkV at fe
 simp only [List.length_replicate, List.length_nil] at fe
 have hr1 := repl_sts C.length
 have hr2 := repl_has C.length
 have sec := second_E e C N hok (looked_of hc0 hf)
 rw [hf] at fe
 have hsp := secF_spec e C N
 generalize secF e C N = sr at hs hsp
 generalize encSts (List.replicate C.length none) = rows1 at fe hr1
 generalize encHas (List.replicate C.length none) = rows2 at fe hr2
 have e1 : ((-1 : Int) < 0) = True := eq_true (by decide)
 have e2 : (sr ≥ 0) = False := eq_false (by omega)
 unfold pG at *
 unfold lkR
 refine go_fnE (tyOf_ok _) Try.func19 rfl rfl (by rw [Try.results19]) Try.ntmps19 rfl fun E => ?_
 (repeat' (first | exact trivial | (refine aw_nilvar 23 5 3 1 15002 (.inr (by decide)) (by decide) rfl rfl ?_) | (with_reducible first | apply awA | apply awC | apply awF) | (refine aw_draw (id := 4) (t := (.node [0, 1, 2, 3, 5, 6, 7] [(.node [4, 8, 9, 10, 11] []), (.node [8, 4, 9, 10, 11] [])])) (drR [1] [] []) mixed (by kernel_rfl) (by kernel_rfl) (fun _ _ h => h) ?_) | (refine at_done (by simp only [go_sem]; exact rfl) ?_) | (refine at_alt (by simp only [go_sem]; exact rfl) ?_) | refine qalt_normal ?_ | refine ats_cons ?_ ?_ | exact ats_nil | ((with_reducible first | apply awn | apply awo | apply awp | refine awQ ?_); intro r hr; simp only [go_sem, Nat.reduceBEq, Nat.reduceLT, Nat.reduceLeDiff, Nat.reduceAdd, Nat.reduceMul, encIs_len, AState.nilvar, hr1, hr2, Int.cast_ofNat_Int] at hr; subst hr; (first | refine caA (fun _ => hck) rfl ?_ ?_ ?_ | refine awV ?_ ?_ | refine awW ?_ ?_ | (refine condK (fun h => ?_) (fun h => ?_) <;> (try simp only [go_sem, reduceCtorEq] at h) <;> (try (exfalso; omega))))) | (refine go_callGE [(23, 10000), (17, 15000), (21, 15001), (15002, 15002)] [(10000, 23), (15000, 17), (15001, 21), (15002, 15002)] [17, 21, 15002] [23] ?_; intro r hr; simp only [go_sem, Nat.reduceBEq, Nat.reduceLT] at hr; subst hr; refine callGV (fe) rfl rfl (by first | exact .inl rfl | exact .inr rfl) ?_ (.inl rfl) (fun q hq => hold ?_)))) <;> (try omega)
 all_goals
  refine ⟨?_⟩
  obtain ⟨r1, L, W⟩ := q
  obtain ⟨hL, rfl, rfl⟩ := hq
  simp only at hL
  (repeat' (first | exact trivial | (with_reducible first | apply awA | apply awF) | ((with_reducible first | apply awn | apply awo | refine awQ ?_); intro r hr; simp only [go_sem, Nat.reduceBEq, Nat.reduceLT, Nat.reduceLeDiff, Nat.reduceAdd, Nat.reduceMul, e1] at hr; subst hr; (first | refine awV ?_ ?_ | refine awW ?_ ?_ | (refine condK (fun h => ?_) (fun h => ?_) <;> (try simp only [go_sem, reduceCtorEq] at h) <;> (try (exfalso; omega))))) | (refine go_callGE [] [] [] [] ?_; intro r hr; simp only [go_sem, Nat.reduceBEq, Nat.reduceLT] at hr; subst hr; refine callGV (sec) rfl rfl (by first | exact .inl rfl | exact .inr rfl) ?_ (.inl rfl) (fun q hq => hold ?_)))) <;> (try omega)
  refine ⟨?_⟩
  have hqq := hq.uniq hsp
  subst hqq
  (repeat' (first | exact trivial | (with_reducible first | apply awA | apply awC | apply awD | apply awF) | ((with_reducible first | apply awn | apply awo | refine awQ ?_ | refine aweR ?_); intro r hr; simp only [go_sem, Nat.reduceBEq, Nat.reduceLT, Nat.reduceLeDiff, Nat.reduceAdd, Nat.reduceMul, e2, hL] at hr; subst hr; (first | refine awV ?_ ?_ | refine endEK ?_ ?_ | (refine condK (fun h => ?_) (fun h => ?_) <;> (try simp only [go_sem, reduceCtorEq] at h) <;> (try (exfalso; omega))))))) <;> (try omega)
  all_goals refine ⟨W, trivial, AV.up_rfl _, ?_⟩
  all_goals repeat first | exact obUp_nil | refine obUp_cons rfl ?_
theorem verify_any (e : Bool) (C : List InsM) (N : List Int) (hC : C.length ≤ 140737488355328) (hN : N.length ≤ 140737488355328) : PCall Try.prog 10 [pG e C N] (fun r => r = vFa (verF e C N)) := by
 have key : GCall Try.prog 10 [pG e C N] [] (vFa (verF e C N)) [] := by
  by_cases hv : (verF e C N).1 = 0
  ·obtain ⟨_, ⟨r, hf⟩, _, h4⟩ := ver_ok hv
   have hlk := looked_ok e C N hv hf
   rw [h4]
   unfold pG lkR at *
   refine go_fnG (tyOf_ok _) Try.func10 rfl rfl (by rw [Try.results10]) Try.ntmps10 rfl fun E => ?_
   (repeat' (first | exact trivial | (with_reducible first | apply awA | apply awD | apply awF) | ((with_reducible first | apply awn | apply awo | refine awT ?_); intro r hr; simp only [go_sem, Nat.reduceBEq, Nat.reduceLT, Nat.reduceLeDiff, Nat.reduceAdd, Nat.reduceMul] at hr; subst hr; (first | refine awV ?_ ?_ | refine awW ?_ ?_ | refine endGK ?_ ?_ ?_)) | (refine go_callGE [] [] [] [] ?_; intro r hr; simp only [go_sem, Nat.reduceBEq, Nat.reduceLT] at hr; subst hr; refine callGV (hlk) rfl rfl (by first | exact .inl rfl | exact .inr rfl) ?_ (.inl rfl) (fun q hq => ?_)))) <;> (try omega)
   all_goals first | exact AV.up_rfl _ | exact obUp_nil
  ·have hlk := looked_bad e C N hC hN hv
   generalize verF e C N = f at hlk ⊢
   unfold pG at *
   refine go_fnG (tyOf_ok _) Try.func10 rfl rfl (by rw [Try.results10]) Try.ntmps10 rfl fun E => ?_
   (repeat' (first | exact trivial | (with_reducible first | apply awA | apply awD | apply awF) | ((with_reducible first | apply awn | apply awo | refine awT ?_); intro r hr; simp only [go_sem, Nat.reduceBEq, Nat.reduceLT, Nat.reduceLeDiff, Nat.reduceAdd, Nat.reduceMul] at hr; subst hr; (first | refine awV ?_ ?_ | refine awW ?_ ?_ | refine endGK ?_ ?_ ?_)) | (refine go_callGE [] [] [] [] ?_; intro r hr; simp only [go_sem, Nat.reduceBEq, Nat.reduceLT] at hr; subst hr; refine callGK (hlk) rfl rfl (by first | exact .inl rfl | exact .inr rfl) ?_ (.inl rfl) ?_))) <;> (try omega)
   all_goals first | exact AV.up_rfl _ | exact obUp_nil
 exact key.toP ⟨trivial, trivial, trivial⟩
end Go.Proofs.Ytjeplogcfedmeaa
end
section
namespace Go.Proofs.Ytjeplogcfedmeaa
open Go.RowKit
set_option maxRecDepth 100000
set_option maxHeartbeats 8000000
def outV : Option StM → Int
 | some s => shapeF s
 | none => -1
theorem outF_eq (L : LkM) : outF L = L.map outV := by
 unfold outF
 exact List.map_congr_left fun s _ => by cases s <;> rfl
theorem outF_len (L : LkM) : (outF L).length = L.length := by simp [outF]
theorem outF_take {L : LkM} {i : Nat} (h : i < L.length) : (outF L).take (i + 1) = (outF L).take i ++ [outV (L.getD i none)] := by
 rw [List.take_succ_eq_append_getElem (by rw [outF_len]; exact h)]
 simp [outF_eq, List.getD, h]
theorem shape_G (e : Bool) (C : List InsM) (N : List Int) (hC : C.length ≤ 140737488355328) (hN : N.length ≤ 140737488355328) :
  GCall Try.prog 14 [pG e C N] [] (.tup [.ref 3 1 21 0 (shF e C N).length, vFa (verF e C N)]) [(21, .row 3 1 (v8 (shF e C N)))] := by
 unfold shF
 by_cases hv : (verF e C N).1 = 0
 ·obtain ⟨hc0, ⟨r, hf⟩, _, h4⟩ := ver_ok hv
  have hlk := looked_ok e C N hv hf
  have hok := codeOK_of hc0
  have hl := hok.len
  rw [if_neg (by simpa using hv), h4, hf]
  dsimp only
  have hL : r.1.length = C.length := by
   obtain ⟨_, hr, hN'⟩ := chkF_ok hc0
   obtain ⟨⟨_, g, _⟩, _⟩ := firstL_ok (fun k hk j hj => (ways_in hr hk j hj).1) hN' (FirstI.init e C) (fun k hk => by rw [init_none] at hk; cases hk) hf
   exact g.len
  generalize r.1 = L at hlk hL ⊢
  have hn0 : (0 : Int) ≤ C.length := by omega
  have zc : ((C.length : Int)).toNat = C.length := by omega
  unfold pG lkR at *
  refine go_fnG (tyOf_ok _) Try.func14 rfl rfl (by rw [Try.results14]) Try.ntmps14 rfl fun E => ?_
  (repeat' (first | exact trivial | (with_reducible first | apply awA | apply awF) | ((with_reducible apply awn); intro r hr; simp only [go_sem, Nat.reduceBEq, Nat.reduceLT, Nat.reduceLeDiff, Nat.reduceAdd, Nat.reduceMul] at hr; subst hr; (first | refine awV ?_ ?_ | refine awW ?_ ?_)) | (refine go_callGE [] [(23, 15010), (17, 15011), (21, 15012), (15002, 15013)] [15010, 15011, 15012, 15013] [] ?_; intro r hr; simp only [go_sem, Nat.reduceBEq, Nat.reduceLT] at hr; subst hr; refine callGV (hlk) rfl rfl (by first | exact .inl rfl | exact .inr rfl) ?_ (.inl rfl) (fun q hq => hold ?_)))) <;> (try omega)
  refine ⟨?_⟩
  have hr0 : (outF L).length = C.length := by rw [outF_len]; exact hL
  rw [hr0]
  (repeat' (first | exact trivial | (with_reducible first | apply awA | apply awB | apply awC | apply awF) | ((with_reducible first | apply awn | apply awo | refine awQ ?_); intro r hr; simp only [go_sem, Nat.reduceBEq, Nat.reduceLT, Nat.reduceLeDiff, Nat.reduceAdd, Nat.reduceMul, encIs_len, Int.toNat_zero, Int.cast_ofNat_Int, Int.reduceLE] at hr; subst hr; (first | refine awV ?_ ?_ | (refine condK (fun h => ?_) (fun h => ?_) <;> (try simp only [go_sem, reduceCtorEq] at h) <;> (try (exfalso; omega))))))) <;> (try omega)
  refine go_loop [1, 3, 4, 5, 6, 25, 26, 27] [1, 3, 5, 15010, 15011, 15012, 21] (fun i : Nat => ⟨[(1, true, .ptr 1 1 0 0), (3, true, .ptr 1 3 0 0), (4, true, .ptr 1 15010 0 0), (5, true, .ptr 1 5 0 0), (6, true, .ref 3 1 21 0 i), (25, true, .ref 62 6 15011 0 C.length), (26, true, vI C.length), (27, true, vI i)],
   [(1, .var [vB e, .lst 4 (encIs C), .lst 1 (v8 N)]), (3, .var [vI 0, vI 0]), (5, .var [vI 0, vI 0]), (15010, .var [vB e, .lst 4 (encIs C), .lst 1 (v8 N), .ref 62 6 15011 0 C.length, .ref 4 1 15012 0 C.length, .ref 3 1 15013 0 q.length]), (15011, .row 62 6 (encSts L)), (15012, .row 4 1 (encHas L)), (21, .row 3 1 (v8 ((outF L).take i)))]⟩)
   (fun i => i ≤ C.length) (fun i => C.length - i) 0 (by simp only [List.take_zero, go_sem, Nat.reduceBEq] <;> exact rfl) (Nat.zero_le _) ?_
  intro i hi
  have hwi := wrap_i64 (n := (i : Int) + 1) (by omega)
  have zi : ((i : Int)).toNat = i := by omega
  by_cases hlt : i < C.length
  ·have e1 : ((i : Int) < (C.length : Int)) = True := eq_true (by omega)
   have gs := encSts_get (L := L) (k := i) (by omega)
   have gh := encHas_get (L := L) (k := i) (by omega)
   have htl : ((outF L).take i).length = i := by rw [List.length_take, hr0]; omega
   have ht : (v8 ((outF L).take i)).take i = v8 ((outF L).take i) := by rw [v8_take, List.take_of_length_le (by omega)]
   have hov := outF_take (L := L) (i := i) (by omega)
   have ha := fun z => v8_app ((outF L).take i) z
   cases hs : L.getD i none with
   | some s =>
    rw [hs] at gh hov
    have hst : stAt L i = s := by unfold stAt; rw [hs]; rfl
    rw [hst] at gs
    have sh := shape_any s
    simp only [Option.isSome_some] at gh
    have hov' : v8 ((outF L).take (i + 1)) = v8 ((outF L).take i) ++ [[vI (shapeF s)]] := by rw [hov]; exact (ha _).symm
    (repeat' (first | exact trivial | (with_reducible first | apply awA | apply awB | apply awC | apply awF | apply awI) | ((with_reducible first | apply awn | apply awo | refine awQ ?_); intro r hr; simp only [go_sem, Nat.reduceBEq, Nat.reduceLT, Nat.reduceLeDiff, Nat.reduceAdd, Nat.reduceMul, Nat.reduceEqDiff, e1, zi, hwi, gs, gh, v8_len, htl, ht, List.length_append, Nat.zero_add] at hr; subst hr; (first | refine caA (fun _ => sh) rfl ?_ ?_ ?_ | refine awV ?_ ?_ | (refine condK (fun h => ?_) (fun h => ?_) <;> (try simp only [go_sem, reduceCtorEq] at h) <;> (try (exfalso; omega))))))) <;> (try omega)
    refine ⟨i + 1, ?_, hlt, by omega⟩
    simp only [hov', go_sem, Nat.reduceBEq]
    try exact rfl
   | none =>
    rw [hs] at gh hov
    simp only [Option.isSome_none] at gh
    have hov' : v8 ((outF L).take (i + 1)) = v8 ((outF L).take i) ++ [[vI (-1)]] := by rw [hov]; exact (ha _).symm
    (repeat' (first | exact trivial | (with_reducible first | apply awA | apply awB | apply awC | apply awF | apply awI) | ((with_reducible first | apply awn | refine awQ ?_); intro r hr; simp only [go_sem, Nat.reduceBEq, Nat.reduceLT, Nat.reduceLeDiff, Nat.reduceAdd, Nat.reduceMul, Nat.reduceEqDiff, e1, zi, hwi, gs, gh, v8_len, htl, ht, List.length_append, Nat.zero_add] at hr; subst hr; (first | refine awV ?_ ?_ | (refine condK (fun h => ?_) (fun h => ?_) <;> (try simp only [go_sem, reduceCtorEq] at h) <;> (try (exfalso; omega))))))) <;> (try omega)
    refine ⟨i + 1, ?_, hlt, by omega⟩
    simp only [hov', go_sem, Nat.reduceBEq]
    try exact rfl
  ·have e1 : ((i : Int) < (C.length : Int)) = False := eq_false (by omega)
   have hie : i = C.length := by omega
   subst hie
   have ht : (outF L).take C.length = outF L := List.take_of_length_le (by omega)
   rw [ht]
   (repeat' (first | exact trivial | (with_reducible first | apply awA | apply awD | apply awE | apply awF | apply awH | apply awK) | (refine aw_draw (id := 12) (t := (.node [0, 1, 2, 3] [])) (drR [5] [] []) mixed (by kernel_rfl) (by kernel_rfl) (fun _ _ h => h) ?_) | (refine at_done (by simp only [go_sem]; exact rfl) ?_) | (refine at_alt (by simp only [go_sem]; exact rfl) ?_) | refine qalt_normal ?_ | refine ats_cons ?_ ?_ | exact ats_nil | ((with_reducible first | apply awn | apply awp | refine awQ ?_ | refine awT ?_); intro r hr; simp only [go_sem, Nat.reduceBEq, Nat.reduceLT, Nat.reduceLeDiff, Nat.reduceAdd, Nat.reduceMul, e1] at hr; subst hr; (first | refine awV ?_ ?_ | refine endGK ?_ ?_ ?_ | (refine condK (fun h => ?_) (fun h => ?_) <;> (try simp only [go_sem, reduceCtorEq] at h) <;> (try (exfalso; omega))))))) <;> (try omega)
   all_goals first | exact AV.up_rfl _ | exact AV.up_dead _ | (repeat first | exact obUp_nil | refine obUp_cons rfl ?_)
 ·have hlk := looked_bad e C N hC hN hv
  rw [if_pos (by simpa using hv)]
  generalize verF e C N = f at hlk hv ⊢
  obtain ⟨f1, f2⟩ := f
  have e1 : (f1 = 0) = False := eq_false hv
  unfold pG at *
  refine go_fnG (tyOf_ok _) Try.func14 rfl rfl (by rw [Try.results14]) Try.ntmps14 rfl fun E => ?_
  (repeat' (first | exact trivial | (with_reducible first | apply awA | apply awD | apply awF | apply awG) | (refine aw_draw (id := 3) (t := (.node [0, 1, 2] [])) (drR [5] [] []) mixed (by kernel_rfl) (by kernel_rfl) (fun _ _ h => h) ?_) | (refine at_done (by simp only [go_sem]; exact rfl) ?_) | (refine at_alt (by simp only [go_sem]; exact rfl) ?_) | refine qalt_normal ?_ | refine ats_cons ?_ ?_ | exact ats_nil | ((with_reducible first | apply awn | apply awo | apply awp | refine awQ ?_ | refine awT ?_); intro r hr; simp only [go_sem, Nat.reduceBEq, Nat.reduceLT, Nat.reduceLeDiff, Nat.reduceAdd, Nat.reduceMul, e1] at hr; subst hr; (first | refine awV ?_ ?_ | refine awW ?_ ?_ | refine endGK ?_ ?_ ?_ | (refine condK (fun h => ?_) (fun h => ?_) <;> (try simp only [go_sem, reduceCtorEq] at h) <;> (try (exfalso; omega))))) | (refine go_callGE [] [] [] [] ?_; intro r hr; simp only [go_sem, Nat.reduceBEq, Nat.reduceLT] at hr; subst hr; refine callGK (hlk) rfl rfl (by first | exact .inl rfl | exact .inr rfl) ?_ (.inl rfl) ?_))) <;> (try omega)
  all_goals first | exact AV.up_tup ⟨AV.up_nilref _ _ _ _, AV.up_rfl _, trivial⟩ | exact obUp_row0 obUp_nil | skip
end Go.Proofs.Ytjeplogcfedmeaa
end
section
namespace Go.Proofs.Ytjeplogcfedmeaa
open Go.RowKit
set_option maxRecDepth 100000
set_option maxHeartbeats 8000000
theorem ints_any (xs ys : List Int) (hx : xs.length ≤ 4611686018427387904) : PCall Try.prog 16 [.lst 1 (v8 xs), .lst 1 (v8 ys)] (fun r => r = vB (decide (xs = ys))) := by
 by_cases hl : xs.length = ys.length
 ·have e0 : ((xs.length : Int) = (ys.length : Int)) = True := eq_true (by omega)
  refine go_fn (tyOf_ok _) Try.func16 rfl rfl (by rw [Try.results16]) Try.ntmps16 rfl fun E => ?_
  (repeat' (first | exact trivial | (with_reducible first | apply awA | apply awB | apply awC | apply awF) | ((with_reducible first | apply awn | refine awQ ?_); intro r hr; simp only [go_sem, Nat.reduceBEq, Nat.reduceLT, v8_len, e0] at hr; subst hr; (first | refine awV ?_ ?_ | (refine condK (fun h => ?_) (fun h => ?_) <;> (try simp only [go_sem, reduceCtorEq] at h) <;> (try (exfalso; omega))))))) <;> (try omega)
  refine go_loop [0, 1, 5] [] (fun i : Nat => ⟨[(0, true, .lst 1 (v8 xs)), (1, true, .lst 1 (v8 ys)), (5, true, vI i)], []⟩)
   (fun i => i ≤ xs.length ∧ xs.take i = ys.take i) (fun i => xs.length - i) 0 (by simp only [go_sem, Nat.reduceBEq] <;> exact rfl) ⟨Nat.zero_le _, rfl⟩ ?_
  intro i ⟨hi, hinv⟩
  have hwi := wrap_i64 (n := (i : Int) + 1) (by omega)
  have zi : ((i : Int)).toNat = i := by omega
  by_cases hlt : i < xs.length
  ·have e1 : ((i : Int) < (xs.length : Int)) = True := eq_true (by omega)
   have g1 := v8_get hlt
   have g2 := v8_get (show i < ys.length by omega)
   by_cases hq : xs[i] = ys[i]
   ·have e2 : (xs[i] = ys[i]) = True := eq_true hq
    (repeat' (first | exact trivial | (with_reducible first | apply awA | apply awB | apply awC | apply awF | apply awI) | (refine aw_draw (id := 6) (t := (.node [0, 1, 2, 3, 4, 5, 6, 7, 8] [])) (drR [] [20, 24] []) mixed (by kernel_rfl) (by kernel_rfl) (fun _ _ h => h) ?_) | (refine at_done (by simp only [go_sem]; exact rfl) ?_) | (refine at_alt (by simp only [go_sem]; exact rfl) ?_) | refine qalt_normal ?_ | refine ats_cons ?_ ?_ | exact ats_nil | ((with_reducible first | apply awn | apply awp | refine awQ ?_); intro r hr; simp only [go_sem, Nat.reduceBEq, Nat.reduceLT, Nat.reduceLeDiff, reduceCtorEq, e1, zi, hwi, g1, g2, v8_len, e2] at hr; subst hr; (first | refine awV ?_ ?_ | (refine condK (fun h => ?_) (fun h => ?_) <;> (try simp only [go_sem, reduceCtorEq] at h) <;> (try (exfalso; omega))))))) <;> (try omega)
    all_goals refine ⟨i + 1, ?_, ⟨hlt, by rw [List.take_succ_eq_append_getElem hlt, List.take_succ_eq_append_getElem (show i < ys.length by omega), hinv, hq]⟩, by omega⟩
    all_goals simp only [go_sem, Nat.reduceBEq]
    all_goals try exact rfl
   ·have e2 : (xs[i] = ys[i]) = False := eq_false hq
    have hne : xs ≠ ys := fun h => hq (by subst h; rfl)
    rw [decide_eq_false hne]
    (repeat' (first | exact trivial | (with_reducible first | apply awA | apply awB | apply awC | apply awD | apply awF | apply awG | apply awJ) | (refine aw_draw (id := 6) (t := (.node [0, 1, 2, 3, 4, 5, 6, 7, 8] [])) (drR [] [20, 24] []) mixed (by kernel_rfl) (by kernel_rfl) (fun _ _ h => h) ?_) | (refine at_done (by simp only [go_sem]; exact rfl) ?_) | (refine at_alt (by simp only [go_sem]; exact rfl) ?_) | refine qalt_normal ?_ | refine ats_cons ?_ ?_ | exact ats_nil | ((with_reducible first | apply awn | apply awp | refine awQ ?_ | refine awR ?_); intro r hr; simp only [go_sem, Nat.reduceBEq, Nat.reduceLT, Nat.reduceLeDiff, reduceCtorEq, e1, zi, g1, g2, v8_len, e2] at hr; subst hr; (first | refine awV ?_ ?_ | refine endK ?_ ?_ | (refine condK (fun h => ?_) (fun h => ?_) <;> (try simp only [go_sem, reduceCtorEq] at h) <;> (try (exfalso; omega))))))) <;> (try omega)
    all_goals rfl
  ·have e1 : ((i : Int) < (xs.length : Int)) = False := eq_false (by omega)
   have heq : xs = ys := by
    rw [List.take_of_length_le (by omega), List.take_of_length_le (by omega)] at hinv
    exact hinv
   rw [decide_eq_true heq]
   (repeat' (first | exact trivial | (with_reducible first | apply awA | apply awD | apply awE | apply awF | apply awH | apply awK) | ((with_reducible first | apply awn | refine awQ ?_ | refine awR ?_); intro r hr; simp only [go_sem, Nat.reduceBEq, Nat.reduceLT, e1, v8_len] at hr; subst hr; (first | refine awV ?_ ?_ | refine endK ?_ ?_ | (refine condK (fun h => ?_) (fun h => ?_) <;> (try simp only [go_sem, reduceCtorEq] at h) <;> (try (exfalso; omega))))))) <;> (try omega)
   all_goals rfl
 ·have e0 : ((xs.length : Int) = (ys.length : Int)) = False := eq_false (by omega)
  have hne : xs ≠ ys := fun h => hl (by rw [h])
  rw [decide_eq_false hne]
  refine go_fn (tyOf_ok _) Try.func16 rfl rfl (by rw [Try.results16]) Try.ntmps16 rfl fun E => ?_
  (repeat' (first | exact trivial | (with_reducible first | apply awA | apply awD | apply awF | apply awG) | ((with_reducible first | apply awn | refine awQ ?_ | refine awR ?_); intro r hr; simp only [go_sem, Nat.reduceBEq, Nat.reduceLT, v8_len, e0] at hr; subst hr; (first | refine awV ?_ ?_ | refine endK ?_ ?_ | (refine condK (fun h => ?_) (fun h => ?_) <;> (try simp only [go_sem, reduceCtorEq] at h) <;> (try (exfalso; omega))))))) <;> (try omega)
  all_goals rfl
def cP : List InsM := [⟨6, 0, 0, 0⟩, ⟨1, 1, 1, 0⟩, ⟨1, 0, 1, 0⟩, ⟨20, 0, 0, 0⟩]
def cQ : List InsM := [⟨1, -1, 2, 0⟩, ⟨1, -1, 2, 0⟩, ⟨20, 0, 0, 0⟩]
def cE : List InsM := [⟨38, 3, 0, 0⟩, ⟨33, -1, 1, 0⟩, ⟨47, 0, 1, 0⟩, ⟨20, 0, 0, 0⟩]
def errF (e : Bool) (C : List InsM) (N : List Int) : Option Int := match firstF e C N with | .error j => some j | .ok _ => none
def okF (e : Bool) (C : List InsM) (N : List Int) : List Int := match firstF e C N with | .error _ => [] | .ok r => outF r.1
theorem chk_P : chkF false cP [0] = (0, 0) := by decide +kernel
theorem chk_Q : chkF false cQ [0] = (0, 0) := by decide +kernel
theorem chk_E : chkF true cE [0] = (0, 0) := by decide +kernel
theorem err_Q : errF false cQ [0] = some 1 := by decide +kernel
theorem err_P : errF false cP [0] = none := by decide +kernel
theorem err_E : errF true cE [0] = some 1 := by decide +kernel
theorem ok_P : okF false cP [0] = [0, 2, 3, 4] := by decide +kernel
theorem firstF_err {e : Bool} {C : List InsM} {N : List Int} {j : Int} (h : errF e C N = some j) : firstF e C N = .error j := by
 unfold errF at h
 split at h
 ·injection h with h; rw [← h]; assumption
 ·cases h
theorem verF_err {e : Bool} {C : List InsM} {N : List Int} {j : Int} (hc : chkF e C N = (0, 0)) (h : errF e C N = some j) : verF e C N = (150, j) := by
 unfold verF
 rw [hc, firstF_err h, if_neg (by decide)]
theorem sec_none {C : List InsM} (hw : ∀ a b g, wayR C g a b → a < b) (hc : ∀ k, (insAt C k).op ≠ 16) : secF false C [0] = -1 := by
 have hR : ∀ g a b, Rch (wayR C g) a b → a < b := fun g a b h => by
  induction h with
  | one h => exact hw _ _ _ h
  | more _ h ih => exact Nat.lt_trans ih (hw _ _ _ h)
 have hno : ∀ B en, ¬ ∃ k, BadP false C B en k := fun B en ⟨k, _, h⟩ => by
  rcases h with h | ⟨_, _, ⟨h, _⟩, _⟩
  ·have := hR _ _ _ h; omega
  ·exact hc _ h
 exact SecI.uniq (secF_spec false C [0]) (.inr ⟨hno _ _, rfl⟩)
theorem way_P (a b : Nat) (g : Nat → Int → Bool) (h : wayR cP g a b) : a < b := by
 obtain ⟨w, h, _⟩ := h
 have h2 : (b : Int) ∈ waysF cP a (insAt cP a) := List.mem_of_getElem? h
 by_cases h4 : a < 4
 ·obtain rfl | rfl | rfl | rfl : a = 0 ∨ a = 1 ∨ a = 2 ∨ a = 3 := by omega
  ·have : (b : Int) ∈ [(1 : Int)] := h2
   simp at this; omega
  ·have : (b : Int) ∈ [(2 : Int)] := h2
   simp at this; omega
  ·have : (b : Int) ∈ [(3 : Int)] := h2
   simp at this; omega
  ·have : (b : Int) ∈ ([] : List Int) := h2
   simp at this
 ·have hz : insAt cP a = ⟨0, 0, 0, 0⟩ := by
   unfold insAt
   rw [List.getD_eq_getElem?_getD, List.getElem?_eq_none (by show 4 ≤ a; omega)]
   rfl
  rw [hz] at h2
  have : (b : Int) ∈ [(a : Int) + 1] := h2
  simp at this; omega
theorem op_P (k : Nat) : (insAt cP k).op ≠ 16 := by
 by_cases h4 : k < 4
 ·obtain rfl | rfl | rfl | rfl : k = 0 ∨ k = 1 ∨ k = 2 ∨ k = 3 := by omega
  all_goals decide
 ·have hz : insAt cP k = ⟨0, 0, 0, 0⟩ := by
   unfold insAt
   rw [List.getD_eq_getElem?_getD, List.getElem?_eq_none (by show 4 ≤ k; omega)]
   rfl
  rw [hz]
  decide
theorem ver_P : verF false cP [0] = (0, 0) := by
 have h := err_P
 obtain ⟨r, hr⟩ : ∃ r, firstF false cP [0] = .ok r := by
  unfold errF at h
  cases hf : firstF false cP [0] with
  | ok r => exact ⟨r, rfl⟩
  | error j => rw [hf] at h; cases h
 unfold verF
 rw [chk_P, if_neg (by decide), hr, sec_none (fun a b g h => way_P a b g h) op_P, if_neg (by decide)]
theorem sh_P : shF false cP [0] = [0, 2, 3, 4] := by
 have h := ok_P
 unfold okF at h
 unfold shF
 rw [ver_P, if_neg (by decide)]
 exact h
theorem first_any : PCall Try.prog 8 [] (fun r => r = vB true) := by
 have h1 := shape_G false cP [0] (by decide) (by decide)
 rw [sh_P, ver_P] at h1
 have h2 := verify_any false cP [0] (by decide) (by decide)
 rw [ver_P] at h2
 have h3 := verify_any false cQ [0] (by decide) (by decide)
 rw [verF_err chk_Q err_Q] at h3
 have h4 := verify_any true cE [0] (by decide) (by decide)
 rw [verF_err chk_E err_E] at h4
 have hi := ints_any [0, 2, 3, 4] [0, 2, 3, 4] (by decide)
 rw [decide_eq_true rfl] at hi
 refine go_fn (tyOf_ok _) Try.func8 rfl rfl (by rw [Try.results8]) Try.ntmps8 rfl fun E => ?_
 (repeat' (first | exact trivial | (with_reducible first | apply awA | apply awD | apply awF) | ((with_reducible first | apply awn | apply awo | refine awR ?_); intro r hr; simp only [go_sem, Nat.reduceBEq, Nat.reduceLT, Nat.reduceLeDiff, Nat.reduceAdd, Nat.reduceMul, reduceCtorEq] at hr; subst hr; (first | refine caA (fun _ => h2) rfl ?_ ?_ ?_ | refine caA (fun _ => h3) rfl ?_ ?_ ?_ | refine caA (fun _ => h4) rfl ?_ ?_ ?_ | refine caA (fun _ => hi) rfl ?_ ?_ ?_ | refine awV ?_ ?_ | refine awW ?_ ?_ | refine endK ?_ ?_)) | (refine go_callGE [] [(21, 2)] [2] [] ?_; intro r hr; simp only [go_sem, Nat.reduceBEq, Nat.reduceLT] at hr; subst hr; refine callGK (h1) rfl rfl (by first | exact .inl rfl | exact .inr rfl) ?_ (.inl rfl) ?_))) <;> (try omega)
 ·decide
 ·rfl
end Go.Proofs.Ytjeplogcfedmeaa
end
section
namespace Go.Proofs.Ytjeplogcfedmeaa
open Go.RowKit
set_option maxRecDepth 100000
set_option maxHeartbeats 8000000
def StOK (s : StM) : Prop := s.place = 6 → 0 ≤ s.left ∧ s.left ≤ 64
theorem StOK.same {s r : StM} (h : StOK s) (h1 : r.place = s.place) (h2 : r.left = s.left) : StOK r := fun g => by rw [h2]; exact h (by rw [← h1]; exact g)
theorem StOK.far {r : StM} (h : r.place ≠ 6) : StOK r := fun g => absurd g h
theorem StOK.zero : StOK .zero := .far (by decide)
theorem StOK.still {s : StM} (h : StOK s) : StOK s.still := h.same rfl rfl
theorem StOK.fill {s : StM} (h : StOK s) (k : Int) : StOK (s.fill k).1 := by
 unfold StM.fill
 split
 ·exact .far (by show (4 : Int) ≠ 6; decide)
 ·split
  ·exact .far (by show (4 : Int) ≠ 6; decide)
  ·split
   ·exact h.still
   ·split
    ·split
     ·exact h
     ·exact h.same rfl rfl
    ·exact h
theorem StOK.take {s : StM} (h : StOK s) {n : Int} (hn : 0 ≤ n ∧ n ≤ 64) (hok : (s.take n).2 = true) : StOK (s.take n).1 := by
 unfold StM.take at hok ⊢
 split
 ·exact fun _ => ⟨Int.le_refl _, by show (0 : Int) ≤ 64; decide⟩
 ·rename_i h1
  rw [if_neg h1] at hok
  split
  ·rename_i h2
   rw [if_pos h2] at hok
   obtain ⟨h3, h4⟩ := h h2
   have hw : IntKind.i64.wrap (s.left - n) = s.left - n := wrap_i64 (by omega)
   rw [hw] at hok ⊢
   have := of_decide_eq_true hok
   exact fun _ => ⟨this, by show s.left - n ≤ 64; omega⟩
  ·exact h
theorem StOK.turn {s : StM} (h : StOK s) : StOK s.turn.1 := h.still
theorem StOK.runN : ∀ (n : Nat) (k : Int) {s : StM} (ok : Bool), StOK s → StOK (Go.Proofs.Ytjeplogcfedmeaa.runN n k s ok).1
 | 0, _, _, _, h => h
 | n + 1, k, s, ok, h => by
  unfold Go.Proofs.Ytjeplogcfedmeaa.runN
  split
  ·exact StOK.runN n (k + 1) _ (h.fill k)
  ·exact h
def EfOK (E : EfM) : Prop := StOK E.next ∧ StOK E.target
theorem EfOK.both {s : StM} (h : StOK s) : EfOK (both s) := ⟨h, h⟩
def InsOK (e : Bool) (x : InsM) : Prop := e = true → (x.op = 39 → 0 ≤ x.a ∧ x.a ≤ 64) ∧ (x.op = 34 → 0 ≤ x.b ∧ x.b ≤ 64)
theorem ef_ite {p : Prop} [Decidable p] {a b : EfM × Bool} (ha : p → EfOK a.1) (hb : ¬ p → EfOK b.1) : EfOK (if p then a else b).1 := by
 by_cases h : p
 ·rw [if_pos h]; exact ha h
 ·rw [if_neg h]; exact hb h
theorem ef_ite2 {p : Prop} [Decidable p] {a b : EfM × Bool} (ha : p → a.2 = true → EfOK a.1) (hb : ¬ p → b.2 = true → EfOK b.1) : (if p then a else b).2 = true → EfOK (if p then a else b).1 := by
 by_cases h : p
 ·rw [if_pos h]; exact ha h
 ·rw [if_neg h]; exact hb h
theorem offset_ok {s : StM} (h : StOK s) (f : Int) : EfOK (s.offset f).1 := by
 unfold StM.offset
 refine ef_ite (fun _ => .both (h.same rfl rfl)) (fun _ => .both (h.same rfl rfl))
theorem part_ok {s : StM} (h : StOK s) (x : InsM) : EfOK (s.part x).1 := by
 unfold StM.part
 refine ef_ite (fun _ => .both h.still) (fun _ => .both ((h.fill x.a).same rfl rfl))
theorem rounds_ok {s : StM} (h : StOK s) (x : InsM) : EfOK (s.rounds x).1 := by
 unfold StM.rounds
 dsimp only
 refine ef_ite (fun _ => ⟨h.same rfl rfl, h.still⟩) fun _ => ?_
 refine ef_ite (fun _ => ⟨h.still, h.same rfl rfl⟩) fun _ => ?_
 refine ef_ite (fun _ => ⟨h.same rfl rfl, h.still⟩) fun _ => ?_
 refine ef_ite (fun _ => ⟨h.still, h.same rfl rfl⟩) fun _ => ?_
 exact ef_ite (fun _ => ⟨h.still, h.same rfl rfl⟩) fun _ => .both h.still
theorem decS_ok {s : StM} {x : InsM} {t : Int} (h : StOK s) : EfOK (decS s x t).1 := by
 unfold decS
 dsimp only
 refine ef_ite (fun _ => ef_ite (fun _ => .both .zero) fun _ => .both (h.fill _)) fun _ => ?_
 refine ef_ite (fun _ => .both (h.fill _)) fun _ => ?_
 refine ef_ite (fun _ => .both (StOK.runN _ _ _ h)) fun _ => ?_
 refine ef_ite (fun _ => .both (.far (by show (1 : Int) ≠ 6; decide))) fun _ => ?_
 refine ef_ite (fun _ => .both (.far (by show (2 : Int) ≠ 6; decide))) fun _ => ?_
 refine ef_ite (fun _ => ⟨.far (by show (3 : Int) ≠ 6; decide), .far (by show (4 : Int) ≠ 6; decide)⟩) fun _ => ?_
 refine ef_ite (fun _ => .both (.far (by show (3 : Int) ≠ 6; decide))) fun _ => ?_
 refine ef_ite (fun _ => offset_ok h _) fun _ => ?_
 refine ef_ite (fun _ => ef_ite (fun _ => .both .zero) fun _ => part_ok h x) fun _ => ?_
 refine ef_ite (fun _ => rounds_ok h x) fun _ => ?_
 refine ef_ite (fun _ => .both h) fun _ => ?_
 exact ef_ite (fun _ => .both .zero) fun _ => .both .zero
theorem encS_ok {s : StM} {x : InsM} {t : Int} (h : StOK s) (hx : (x.op = 39 → 0 ≤ x.a ∧ x.a ≤ 64) ∧ (x.op = 34 → 0 ≤ x.b ∧ x.b ≤ 64)) : (encS s x t).2 = true → EfOK (encS s x t).1 := by
 have f1 : ∀ l, 0 ≤ l ∧ l ≤ 64 → StOK ⟨6, 0, 0, 0, 0, l⟩ := fun l hl _ => hl
 have f2 : ∀ f, StOK ⟨7, 0, 0, 0, f, 0⟩ := fun f => .far (by show (7 : Int) ≠ 6; decide)
 have ft : (s.take 1).2 = true → StOK (s.take 1).1 := fun g => h.take ⟨by decide, by decide⟩ g
 unfold encS
 dsimp only
 refine ef_ite2 (fun _ => ef_ite2 (fun _ _ => .both .zero) fun _ => ef_ite2 (fun _ _ => .both h.turn) fun _ g => .both (ft g)) fun _ => ?_
 refine ef_ite2 (fun _ => ef_ite2 (fun _ _ => .both h.turn) fun _ g => .both (ft g)) fun _ => ?_
 refine ef_ite2 (fun ho g => .both (h.take (hx.2 ho) (by rw [Bool.and_eq_true] at g; exact g.1))) fun _ => ?_
 refine ef_ite2 (fun _ _ => .both (f2 2)) fun _ => ?_
 refine ef_ite2 (fun _ _ => .both (f2 0)) fun _ => ?_
 refine ef_ite2 (fun ho _ => .both (f1 _ (hx.1 ho))) fun _ => ?_
 refine ef_ite2 (fun _ _ => ⟨f1 1 (by decide), f1 0 (by decide)⟩) fun _ => ?_
 refine ef_ite2 (fun _ _ => .both (f1 1 (by decide))) fun _ => ?_
 refine ef_ite2 (fun _ _ => .both h) fun _ => ?_
 refine ef_ite2 (fun _ _ => .both h) fun _ => ?_
 refine ef_ite2 (fun _ _ => ⟨f1 0 (by decide), f2 2⟩) fun _ => ?_
 refine ef_ite2 (fun _ _ => .both h) fun _ => ?_
 exact ef_ite2 (fun _ _ => .both .zero) fun _ _ => .both .zero
theorem standF_ok {e : Bool} {s : StM} {x : InsM} {t : Int} (h : StOK s) (hx : InsOK e x) (hok : (standF e x s t).2 = true) : EfOK (standF e x s t).1 := by
 unfold standF at hok ⊢
 cases e with
 | true => rw [if_pos rfl] at hok ⊢; exact encS_ok h (hx rfl) hok
 | false => rw [if_neg (by decide)]; exact decS_ok h
def LkOK (L : LkM) : Prop := ∀ k s, L.getD k none = some s → StOK s
theorem LkOK.set {L : LkM} (h : LkOK L) {s : StM} (hs : StOK s) (k : Nat) : LkOK (L.set k (some s)) := fun j r hj => by
 by_cases hjk : k = j
 ·subst hjk
  by_cases hl : k < L.length
  ·simp [List.getD, hl] at hj
   rw [← hj]; exact hs
  ·rw [List.set_eq_of_length_le (by omega)] at hj
   exact h k r hj
 ·refine h j r ?_
  simp only [List.getD, List.getElem?_set_ne hjk] at hj ⊢; exact hj
theorem LkOK.st {L : LkM} (h : LkOK L) (k : Nat) : StOK (stAt L k) := by
 unfold stAt
 cases hs : L.getD k none with
 | none => exact .zero
 | some s => exact h k s hs
theorem LkOK.hand {e : Bool} {C : List InsM} {L L' : LkM} {k : Nat} {s : StM} {t : Int} (h : LkOK L) (hs : StOK s) (hh : handF e C L k s t = .some L') : LkOK L' := by
 unfold handF at hh
 split at hh
 ·injection hh with hh; subst hh; exact h.set hs k
 ·split at hh
  ·injection hh with hh; subst hh; exact h
  ·split at hh
   ·injection hh with hh; subst hh; exact h
   ·cases hh
theorem LkOK.handS {e : Bool} {C : List InsM} {t : Int} {E : EfM} (hE : EfOK E) {arms : Bool} : ∀ {ks : List Int} {w : Nat} {L L' : LkM}, LkOK L → Go.Proofs.Ytjeplogcfedmeaa.handS e C t E arms ks w L = .ok L' → LkOK L'
 | [], _, L, L', h, hh => by
  unfold Go.Proofs.Ytjeplogcfedmeaa.handS at hh
  injection hh with hh; subst hh; exact h
 | k :: ks, w, L, L', h, hh => by
  unfold Go.Proofs.Ytjeplogcfedmeaa.handS at hh
  split at hh
  ·cases hh
  ·rename_i L1 h1
   refine LkOK.handS hE (h.hand ?_ h1) hh
   split
   ·exact hE.2
   ·exact hE.1
theorem LkOK.goes {e : Bool} {C : List InsM} (hI : ∀ k, InsOK e (insAt C k)) {t : Int} {L L' : LkM} {k : Nat} (h : LkOK L) (hg : goesF e C k L t = .ok L') : LkOK L' := by
 unfold goesF at hg
 dsimp only at hg
 split at hg
 ·cases hg
 ·rename_i hn
  simp only [not_or, Bool.not_eq_false, Bool.not_eq_true] at hn
  exact LkOK.handS (standF_ok (h.st k) (hI k) hn.1) h hg
theorem LkOK.loop {e : Bool} {C : List InsM} (hI : ∀ k, InsOK e (insAt C k)) {t : Int} : ∀ {f : Nat} {L L' : LkM} {D D' : List Nat}, LkOK L → loopF e C t f L D = .ok (L', D') → LkOK L'
 | 0, L, L', D, D', h, hl => by
  unfold loopF at hl
  injection hl with hl
  injection hl with h1 h2
  subst h1; exact h
 | f + 1, L, L', D, D', h, hl => by
  unfold loopF at hl
  split at hl
  ·injection hl with hl
   injection hl with h1 h2
   subst h1; exact h
  ·split at hl
   ·cases hl
   ·rename_i L1 hg
    exact LkOK.loop hI (h.goes hI hg) hl
theorem LkOK.first {e : Bool} {C : List InsM} (hI : ∀ k, InsOK e (insAt C k)) : ∀ {N : List Int} {t : Int} {L L' : LkM} {D D' : List Nat}, LkOK L → firstL e C N t L D = .ok (L', D') → LkOK L'
 | [], _, L, L', D, D', h, hf => by
  unfold firstL at hf
  injection hf with hf
  injection hf with h1 h2
  subst h1; exact h
 | n :: ns, t, L, L', D, D', h, hf => by
  unfold firstL at hf
  split at hf
  ·cases hf
  ·rename_i L1 h1
   split at hf
   ·cases hf
   ·rename_i L2 D2 h2
    refine LkOK.first hI (LkOK.loop hI (h.hand ?_ h1) h2) hf
    unfold beginS
    split
    ·exact .far (by show (5 : Int) ≠ 6; decide)
    ·exact .zero
theorem insOK_of {e : Bool} {C : List InsM} {N : List Int} (hr : ∀ k, k < C.length → rightF e C N k = true) (k : Nat) : InsOK e (insAt C k) := by
 intro he
 subst he
 by_cases hk : k < C.length
 ·obtain ⟨_, h1, h2, _⟩ := right_parts (hr k hk)
  refine ⟨fun ho => ?_, fun ho => ?_⟩
  ·rw [ho] at h1
   have : inF (insAt C k).a 1 64 = true := h1
   simp only [inF, Bool.and_eq_true, decide_eq_true_eq] at this
   omega
  ·rw [ho] at h2
   have : inF (insAt C k).b 2 64 = true := h2
   simp only [inF, Bool.and_eq_true, decide_eq_true_eq] at this
   omega
 ·have hz : insAt C k = ⟨0, 0, 0, 0⟩ := by
   unfold insAt
   rw [List.getD_eq_getElem?_getD, List.getElem?_eq_none (by omega)]
   rfl
  rw [hz]
  exact ⟨fun h => absurd h (by decide), fun h => absurd h (by decide)⟩
theorem shape_ne {s : StM} (h : StOK s) : shapeF s ≠ -1 := by
 unfold shapeF
 split
 ·decide
 split
 ·decide
 split
 ·omega
 split
 ·rename_i h6
  have := h h6
  rw [wrap_i64 (by omega)]
  omega
 split
 ·decide
 ·decide
theorem over_shape {s : StM} (ho : s.over = true) : shapeF s ≠ 0 := by
 unfold StM.over at ho
 unfold shapeF
 split
 ·decide
 split
 ·decide
 split
 ·omega
 rename_i h4 h1 h2
 by_cases h6 : s.place = 6
 ·rw [if_pos h6]
  rw [if_neg (by omega), if_neg h2, if_pos h6] at ho
  rw [of_decide_eq_true ho]
  decide
 ·rw [if_neg (by omega), if_neg h2, if_neg h6] at ho
  cases ho
theorem stand_ret {e : Bool} {x : InsM} {s : StM} {t : Int} (h : (standF e x s t).2 = true) (ho : x.op = 20) : shapeF s ≠ 0 := by
 unfold standF at h
 cases e with
 | true =>
  rw [if_pos rfl] at h
  unfold encS at h
  simp only [ho, Int.reduceEq, or_self, if_false, false_and, if_true, Bool.and_eq_true] at h
  exact over_shape h.2
 | false =>
  rw [if_neg (by decide)] at h
  unfold decS at h
  simp only [ho, Int.reduceEq, or_self, if_false, if_true] at h
  exact over_shape h
theorem stand_arm {e : Bool} {x : InsM} {s : StM} {t : Int} (h : (standF e x s t).2 = true) : x.op ≠ 9 := fun ho => by
 unfold standF at h
 cases e with
 | true =>
  rw [if_pos rfl] at h
  unfold encS at h
  simp only [ho, Int.reduceEq, or_self, if_false, false_and] at h
  cases h
 | false =>
  rw [if_neg (by decide)] at h
  unfold decS at h
  simp only [ho, Int.reduceEq, or_self, if_false] at h
  cases h
structure EndsP (C : List InsM) (N : List Int) (l : List Int) : Prop where
 len : l.length = C.length
 ent : ∀ n ∈ N, (0 ≤ n ∧ n < C.length) ∧ l.getD n.toNat 0 ≠ -1
 st : ∀ k, k < C.length → l.getD k 0 ≠ -1 → ((insAt C k).op = 20 → l.getD k 0 ≠ 0) ∧ (insAt C k).op ≠ 9 ∧ ∀ j ∈ waysF C k (insAt C k), 0 ≤ j ∧ j < C.length ∧ l.getD j.toNat 0 ≠ -1
theorem ends_of {e : Bool} {C : List InsM} {N : List Int} (hv : (verF e C N).1 = 0) : EndsP C N (shF e C N) := by
 obtain ⟨hc, ⟨⟨L, D⟩, hf⟩, _, h0⟩ := ver_ok hv
 have hsh : shF e C N = outF L := by
  unfold shF
  rw [h0, if_neg (by decide), hf]
 obtain ⟨_, hr, hN⟩ := chkF_ok hc
 have hp : PosW C := fun k hk j hj => (ways_in hr hk j hj).1
 obtain ⟨⟨t', hI, _⟩, _, hD, hE⟩ := firstL_ok hp hN (FirstI.init e C) (fun k hk => by rw [init_none] at hk; cases hk) hf
 have hL : LkOK L := LkOK.first (insOK_of hr) (L := List.replicate C.length none) (fun k s hk => by
  have := init_none C k
  rw [hk] at this; cases this) hf
 have hout : ∀ k, k < C.length → (outF L).getD k 0 = outV (L.getD k none) := fun k hk => by
  rw [outF_eq]
  have : k < L.length := by rw [hI.len]; exact hk
  simp [List.getD, this]
 have hsome : ∀ k, k < C.length → (L.getD k none).isSome = true → (outF L).getD k 0 ≠ -1 := fun k hk hs => by
  rw [hout k hk]
  cases h : L.getD k none with
  | none => rw [h] at hs; cases hs
  | some s => exact shape_ne (hL k s h)
 rw [hsh]
 refine ⟨by rw [outF_len, hI.len], fun n hn => ⟨hN n hn, ?_⟩, fun k hk hne => ?_⟩
 ·obtain ⟨i, hi⟩ := List.mem_iff_getElem?.1 hn
  have := hN n hn
  exact hsome _ (by omega) (hE i n hi).1
 ·rw [hout k hk] at hne
  cases h : L.getD k none with
  | none => rw [h] at hne; exact absurd rfl hne
  | some s =>
   have hkD := hD k (by rw [h]; rfl)
   obtain ⟨t1, _, hst⟩ := hI.st k hkD
   have hs : stAt L k = s := by unfold stAt; rw [h]; rfl
   rw [hs] at hst
   refine ⟨fun ho => ?_, stand_arm hst, fun j hj => ?_⟩
   ·rw [hout k hk, h]
    exact stand_ret hst ho
   ·have h1 := hp k hk j hj
    obtain ⟨h2, h3⟩ := hI.cl k hkD j hj
    exact ⟨h1, h2, hsome _ (by omega) h3⟩
end Go.Proofs.Ytjeplogcfedmeaa
end
section
namespace Go.Proofs.Ytjeplogcfedmeaa
open Go.RowKit
set_option maxRecDepth 100000
set_option maxHeartbeats 8000000
theorem shape_P (e : Bool) (C : List InsM) (N : List Int) (hC : C.length ≤ 140737488355328) (hN : N.length ≤ 140737488355328) : PCall Try.prog 14 [pG e C N] (fun r => r = .tup [.lst 1 (v8 (shF e C N)), vFa (verF e C N)]) := by
 refine ((shape_G e C N hC hN).toP (by simp [AV.snapOK, AV.snapOK.snapOKL, lk, v8_len])).mono fun r hr => hr.trans ?_
 have e1 : (v8 (shF e C N)).take (shF e C N).length = v8 (shF e C N) := List.take_of_length_le (by rw [v8_len]; omega)
 simp only [AV.snap, AV.snap.snapL, lk, Nat.zero_add, List.drop_zero, Nat.reduceBEq, cond_true, e1]
def tgF (op : Int) : Bool :=
 if op = 7 then true else if op = 9 then true else if op = 11 then true else if op = 12 then true else if op = 13 then true else if op = 14 then true
 else if op = 15 then true else if op = 19 then true else if op = 40 then true else if op = 47 then true else false
theorem targets_any (op : Int) : PCall Try.prog 15 [vI op] (fun r => r = vB (tgF op)) := by
 refine go_fn (tyOf_ok _) Try.func15 rfl rfl (by rw [Try.results15]) Try.ntmps15 rfl fun E => ?_
 (repeat' (first | exact trivial | (with_reducible first | apply awA | apply awB | apply awC | apply awD | apply awF | apply awG | apply awI | apply awJ) | ((with_reducible first | apply awn | refine awQ ?_ | refine awR ?_); intro r hr; simp only [go_sem, Nat.reduceBEq, Nat.reduceLT] at hr; subst hr; (first | refine awV ?_ ?_ | refine endK ?_ ?_ | (refine condK (fun h => ?_) (fun h => ?_) <;> (try simp only [go_sem] at h) <;> (try (exfalso; omega))))))) <;> (try omega)
 all_goals first | (subst_vars; rfl) | (unfold tgF; simp only [*, if_false]; rfl) | skip
theorem sec_lt {e : Bool} {C : List InsM} : ∀ {ns : List Int} {B : List Bool} {r : Int}, SecI e C ns B r → (∀ n ∈ ns, ∃ S : Nat → Prop, S n.toNat ∧ ∀ k, S k → k < C.length ∧ ∀ j ∈ waysF C k (insAt C k), 0 ≤ j ∧ S j.toNat) → 0 ≤ r → r < C.length
 | [], _, r, h, _, h0 => by have : r = -1 := h; omega
 | n :: ns, B, r, h, hS, h0 => by
  rcases h with ⟨k, hk, hb, _⟩ | ⟨_, h⟩
  ·obtain ⟨S, h1, h2⟩ := hS n (.head _)
   have hstep : ∀ a b, S a → wayR C alwaysF a b → S b := fun a b ha ⟨w, hw, _⟩ => by
    have := ((h2 a ha).2 _ (List.mem_of_getElem? hw)).2
    simpa using this
   have hR : ∀ a b, Rch (wayR C alwaysF) a b → S a → S b := fun a b hab ha => by
    induction hab with
    | one g => exact hstep _ _ ha g
    | more _ g ih => exact hstep _ _ ih g
   have : S k := by
    rcases hb.1 with g | g
    ·rw [g]; exact h1
    ·exact hR _ _ g h1
   have := (h2 k this).1
   omega
  ·exact sec_lt h (fun n hn => hS n (.tail _ hn)) h0
theorem ver_err {e : Bool} {C : List InsM} {N : List Int} (hc : chkF e C N = (0, 0)) (hv : (verF e C N).1 ≠ 0) : ∃ j : Int, verF e C N = (150, j) ∧ 0 ≤ j ∧ j < C.length := by
 obtain ⟨_, hr, hN⟩ := chkF_ok hc
 have hp : PosW C := fun k hk j hj => (ways_in hr hk j hj).1
 unfold verF at hv ⊢
 rw [hc, if_neg (by decide)] at hv ⊢
 cases hf : firstF e C N with
 | error j => exact ⟨j, rfl, firstL_err hp hN (FirstI.init e C) hf⟩
 | ok r =>
  rw [hf] at hv
  dsimp only at hv ⊢
  by_cases h0 : 0 ≤ secF e C N
  ·rw [if_pos h0]
   refine ⟨_, rfl, h0, ?_⟩
   obtain ⟨L, D⟩ := r
   have hlk := looked_of hc hf
   refine sec_lt (secF_spec e C N) (fun n hn => ?_) h0
   obtain ⟨t, ht⟩ := List.mem_iff_getElem?.1 hn
   obtain ⟨S, g1, g2⟩ := hlk t n ht
   have hcl := g2 (List.replicate t false) (by simp)
   exact ⟨S, g1, fun k hk => ⟨hcl.1 k hk, hcl.ways k hk⟩⟩
  ·rw [if_neg h0] at hv
   exact absurd rfl hv
end Go.Proofs.Ytjeplogcfedmeaa
end
section
namespace Go.Proofs.Ytjeplogcfedmeaa
open Go.ChangeShapes Go.WideShapes Go.ChangeAt Go.RowKit
theorem own : ownKnob Try.prog.godebug = none := by kernel_rfl
theorem laidOut : laidOutB Try.prog = true := by kernel_rfl
theorem I64.of_wf {n : Int} (h : (Lit.int .i64 n).wf = true) : I64 n := bounds_i64 h
end Go.Proofs.Ytjeplogcfedmeaa
end
section
namespace Go.Proofs.Ytjeplogcfedmeaa
open Go.ChangeShapes Go.WideShapes Go.ChangeAt Go.RowKit Go.Deep
theorem addr_plain (b off j : Nat) : (⟨b, off, none⟩ : Addr).add j = ⟨b, off + j, none⟩ := by
 unfold Addr.add; by_cases h : j = 0 <;> simp [h]
section
variable {H : Type} {enc : TypeId × Value → H} {P : Program} {w : World} {base : Nat} {spare : Nat → Bool} {held : Bool}
end
end Go.Proofs.Ytjeplogcfedmeaa
end
section
namespace Go.Proofs.Ytjeplogcfedmeaa
open Go.RowKit
section
variable {P : Program} {w : World}
theorem PCall.row {f : Nat} {args : List AV} (h : PCall P f args (fun r => r = .v (.bool true))) (vs : Array Value) (hl : vs.size = args.length)
  (ha : ∀ (i : Nat) (x : AV) (v : Value), args[i]? = some x → vs[i]? = some v → AVR (fun b => b < w.heap.size) (fun _ => none) w x v) (hg : FOK (fun b => b < w.heap.size) w) :
  Calls P f vs w fun e w' => e = .returned (.bool true) ∧ Below w.heap.size w w' :=
 (h.2 w _ vs hg hl ha).mono fun e w' ⟨v, r, h1, h2, h3, h4⟩ => by
  subst h2
  cases h4 with
  | s h4 =>
  cases h4 with
  | v _ => exact ⟨h1, h3⟩
end
end Go.Proofs.Ytjeplogcfedmeaa
end
section
namespace Go.Proofs.Ytjeplogcfedmeaa.bulks
open Go.ChangeShapes Go.WideShapes Go.ChangeAt Go.RowKit
theorem one_le {H : Type} (d : DataW H) : 1 ≤ Rows.uptoBulk d := by
 cases d with
 | lit l => cases l <;> simp [Rows.uptoBulk]
 | nil => simp [Rows.uptoBulk]
 | ptr d => simp [Rows.uptoBulk]
 | slice elems spare => simp [Rows.uptoBulk]
 | agg parts => simp [Rows.uptoBulk]
 | iface t d => simp [Rows.uptoBulk]
 | map entries => simp [Rows.uptoBulk]
 | held h => simp [Rows.uptoBulk]
theorem part_le {H : Type} {d : DataW H} {l : List (DataW H)} (h : d ∈ l) : Rows.uptoBulk d ≤ Rows.uptoBulkAll l := by
 induction l with
 | nil => cases h
 | cons x r ih =>
  simp only [Rows.uptoBulkAll]
  cases List.mem_cons.1 h with
  | inl e => subst e; omega
  | inr e => have := ih e; omega
theorem length_le {H : Type} (l : List (DataW H)) : l.length ≤ Rows.uptoBulkAll l := by
 induction l with
 | nil => simp [Rows.uptoBulkAll]
 | cons x r ih => have := one_le x; simp only [Rows.uptoBulkAll, List.length_cons]; omega
theorem bound {H : Type} {l : List (DataW H)} (hk : Rows.uptoSmall H l = true) : Rows.uptoBulkAll l ≤ 1048576 := of_decide_eq_true hk
end Go.Proofs.Ytjeplogcfedmeaa.bulks
end
section
namespace Go.Proofs.Ytjeplogcfedmeaa
open Go.ChangeShapes Go.WideShapes Go.ChangeAt Go.RowKit Go.Deep
def tileB (P : Program) : List Field → Nat → Nat → Bool
 | [], o, n => o == n
 | f :: l, o, n => (f.offset == o) && tileB P l (o + P.cellsOf f.type) n
def plainTy (P : Program) : Nat → TypeId → Bool
 | 0, _ => false
 | n + 1, t =>
  match P.underlying t with
  | some .bool | some .string => P.cellsOf t == 1
  | some (.int _) => P.cellsOf t == 1
  | some (.slice e) => P.cellsOf t == 1 && Nat.blt 0 (P.cellsOf e) && plainTy P n e
  | some (.struct fs) => tileB P fs.toList 0 (P.cellsOf t) && fs.toList.all fun f => plainTy P n f.type
  | _ => false
def Typed (P : Program) (B : Nat) : Nat → TypeId → List AV → Prop
 | 0, _, _ => False
 | n + 1, t, us =>
  match P.underlying t with
  | some .bool => ∃ b, us = [.v (.bool b)]
  | some (.int k) => ∃ z, us = [.v (.int k z)] ∧ (Lit.int k z).wf = true
  | some .string => ∃ s : ByteArray, us = [.v (.string s)] ∧ s.size ≤ B
  | some (.slice e) => ∃ xs, us = [.lst (P.cellsOf e) xs] ∧ xs.length ≤ B ∧ ∀ cs ∈ xs, cs.length = P.cellsOf e ∧ Typed P B n e cs
  | some (.struct fs) => us.length = P.cellsOf t ∧ ∀ (i : Nat) (f : Field), fs[i]? = some f → Typed P B n f.type ((us.drop f.offset).take (P.cellsOf f.type))
  | _ => False
def TypedA (P : Program) (B n : Nat) (t : TypeId) (x : AV) : Prop :=
 match P.underlying t with
 | some (.struct _) => ∃ us, x = .agg us ∧ Typed P B n t us
 | _ => Typed P B n t [x]
def TypedL (P : Program) (B n : Nat) : List TypeId → List AV → Prop
 | [], [] => True
 | t :: ts, x :: xs => TypedA P B n t x ∧ TypedL P B n ts xs
 | _, _ => False
theorem bulk_slice {H : Type} {elems spare : List (DataW H)} {B : Nat} (h : Rows.uptoBulk (.slice elems spare) ≤ B) : elems.length ≤ B ∧ ∀ d ∈ elems, Rows.uptoBulk d ≤ B := by
 simp only [Rows.uptoBulk] at h
 have h1 := bulks.length_le elems
 exact ⟨by omega, fun d hd => by have := bulks.part_le hd; omega⟩
theorem bulk_agg {H : Type} {parts : List (DataW H)} {B : Nat} (h : Rows.uptoBulk (.agg parts) ≤ B) : ∀ d ∈ parts, Rows.uptoBulk d ≤ B := fun d hd => by
 simp only [Rows.uptoBulk] at h
 have := bulks.part_le hd; omega
section
variable {H : Type} {enc : TypeId × Value → H} {P : Program} {w : World} {base : Nat} {spare : Nat → Bool} {held : Bool}
theorem tile_cover : ∀ (l : List Field) (o n : Nat), tileB P l o n = true → ∀ (us : Nat → List AV), (∀ (i : Nat) (f : Field), l[i]? = some f → (us i).length = P.cellsOf f.type) →
  ∃ r : List AV, r.length = n - o ∧ o ≤ n ∧ (∀ (i : Nat) (f : Field), l[i]? = some f → o ≤ f.offset ∧ (r.drop (f.offset - o)).take (P.cellsOf f.type) = us i) ∧
   ∀ j, j < n - o → ∃ i f q, l[i]? = some f ∧ q < P.cellsOf f.type ∧ o + j = f.offset + q ∧ r[j]? = (us i)[q]? := by
 intro l
 induction l with
 | nil =>
  intro o n h us _
  simp only [tileB, beq_iff_eq] at h
  subst h
  exact ⟨[], by simp, Nat.le_refl _, fun i f h => by simp at h, fun j hj => by omega⟩
 | cons g l ih =>
  intro o n h us hus
  simp only [tileB, Bool.and_eq_true, beq_iff_eq] at h
  obtain ⟨rfl, h⟩ := h
  obtain ⟨r, h1, h2, h3, h4⟩ := ih _ _ h (fun i => us (i + 1)) fun i f hf => hus (i + 1) f (by simpa using hf)
  have hl0 := hus 0 g rfl
  refine ⟨us 0 ++ r, by rw [List.length_append]; omega, by omega, fun i f hf => ?_, fun j hj => ?_⟩
  ·cases i with
   | zero =>
    simp only [List.getElem?_cons_zero, Option.some.injEq] at hf
    subst hf
    refine ⟨Nat.le_refl _, ?_⟩
    rw [Nat.sub_self, List.drop_zero, ← hl0, List.take_left]
   | succ i =>
    obtain ⟨g1, g2⟩ := h3 i f (by simpa using hf)
    refine ⟨by omega, ?_⟩
    rw [show f.offset - g.offset = (us 0).length + (f.offset - (g.offset + P.cellsOf g.type)) by omega, List.drop_append, List.drop_of_length_le (by omega), List.nil_append]
    rw [show (us 0).length + (f.offset - (g.offset + P.cellsOf g.type)) - (us 0).length = f.offset - (g.offset + P.cellsOf g.type) by omega]
    exact g2
  ·rcases Nat.lt_or_ge j (us 0).length with hlt | hge
   ·exact ⟨0, g, j, rfl, by omega, rfl, by rw [List.getElem?_append_left hlt]⟩
   ·obtain ⟨i, f, q, g1, g2, g3, g4⟩ := h4 (j - (us 0).length) (by omega)
    exact ⟨i + 1, f, q, by simpa using g1, g2, by omega, by rw [List.getElem?_append_right hge]; exact g4⟩
theorem open_gen (B : Nat) : ∀ (n : Nat) (t : TypeId), plainTy P n t = true → ∀ (fuel : Nat) (cs : List Value) (x : DataW H × List MemPlace), DataW.trod enc P w base spare held fuel t cs = some x → (Rows.uptoBulk x.1 ≤ B ∨ maxLen ≤ B) →
  ∃ us : List AV, us.length = cs.length ∧ cs.length = P.cellsOf t ∧ (∀ (j : Nat) (u : AV) (v : Value), us[j]? = some u → cs[j]? = some v → SVR (fun b => b < w.heap.size) w u v) ∧ Typed P B n t us := by
 intro n
 induction n with
 | zero => intro t h; cases h
 | succ n ih =>
  intro t hp fuel cs x h hB
  have one : ∀ (u : AV) (v : Value), SVR (fun b => b < w.heap.size) w u v → ∀ (j : Nat) (u' : AV) (v' : Value), [u][j]? = some u' → [v][j]? = some v' → SVR (fun b => b < w.heap.size) w u' v' := fun u v hs j u' v' h1 h2 => by
   cases j with
   | zero => simp only [List.getElem?_cons_zero, Option.some.injEq] at h1 h2; subst h1; subst h2; exact hs
   | succ j => simp at h1
  unfold plainTy at hp
  split at hp
  ·rename_i ht
   obtain ⟨b, rfl, rfl⟩ := DataW.trod_bool ht h
   simp only [beq_iff_eq] at hp
   exact ⟨[.v (.bool b)], rfl, hp.symm, one _ _ (.v rfl), by unfold Typed; rw [ht]; exact ⟨b, rfl⟩⟩
  ·rename_i ht
   obtain ⟨s, rfl, rfl, hs⟩ := DataW.trod_string ht h
   simp only [beq_iff_eq] at hp
   have hsB : s.size ≤ B := by
    rcases hB with hB | hB
    ·simp only [Rows.uptoBulk] at hB
     have h1 : s.data.toList.length = s.size := by rw [Array.length_toList]; rfl
     omega
    ·exact Nat.le_trans hs hB
   refine ⟨[.v (.string s)], rfl, hp.symm, one _ _ (.v rfl), ?_⟩
   unfold Typed
   rw [ht]
   exact ⟨s, rfl, hsB⟩
  ·rename_i k ht
   obtain ⟨z, rfl, rfl, hz⟩ := DataW.trod_int ht h
   simp only [beq_iff_eq] at hp
   exact ⟨[.v (.int k z)], rfl, hp.symm, one _ _ (.v rfl), by unfold Typed; rw [ht]; exact ⟨z, rfl, hz⟩⟩
  ·rename_i e ht
   simp only [Bool.and_eq_true, beq_iff_eq] at hp
   obtain ⟨⟨hp1, hp2⟩, hp3⟩ := hp
   have hk0 : 0 < P.cellsOf e := Nat.le_of_ble_eq_true hp2
   rcases open_slice ht h with ⟨h0, _⟩ | ⟨a, len, cap, m, f', D, Pl, rfl, hb, hl, hm, hmm, hx0, hx⟩
   ·subst h0
    refine ⟨[.lst (P.cellsOf e) []], rfl, hp1.symm, one _ _ (.lst (fun _ _ => .nilFunc) rfl (Nat.le_refl _) (by decide) (fun cs h => by cases h) (fun h => absurd h (Nat.lt_irrefl _)) (fun i j hi => absurd hi (Nat.not_lt_zero _)) (fun i j cs u h => by simp at h)), ?_⟩
    unfold Typed
    rw [ht]
    exact ⟨[], rfl, Nat.zero_le _, fun cs h => by cases h⟩
   ·have hlm : len ≤ m := by rw [hmm]; split <;> omega
    have hBe : ∀ i, i < len → Rows.uptoBulk (D i) ≤ B ∨ maxLen ≤ B := fun i hi => by
     rcases hB with hB | hB
     ·rw [hx0] at hB
      exact .inl ((bulk_slice hB).2 _ (List.mem_map.2 ⟨i, List.mem_range.2 hi, rfl⟩))
     ·exact .inr hB
    have hBl : len ≤ B := by
     rcases hB with hB | hB
     ·rw [hx0] at hB
      have := (bulk_slice hB).1
      simpa using this
     ·omega
    obtain ⟨f, hf⟩ := choose_lt (n := len) (p := fun i (y : List AV × List Value) => w.cells? base (a.add (i * P.cellsOf e)) (P.cellsOf e) = some y.2 ∧ y.1.length = y.2.length ∧ y.2.length = P.cellsOf e ∧
      (∀ (j : Nat) (u : AV) (v : Value), y.1[j]? = some u → y.2[j]? = some v → SVR (fun b => b < w.heap.size) w u v) ∧ Typed P B n e y.1) (fun i hi => by
     obtain ⟨cs', h1, h2⟩ := hx i (by omega)
     obtain ⟨us, g1, g2, g3, g4⟩ := ih e hp3 _ _ _ h2 (hBe i hi)
     exact ⟨(us, cs'), h1, g1, g2, g3, g4⟩)
    refine ⟨[.lst (P.cellsOf e) ((List.range len).map fun i => (f i).1)], rfl, hp1.symm, one _ _ ?_, ?_⟩
    ·refine .lst (fun i j => ((f i).2[j]?).getD undef) (by simp) hl hm (fun cs hcs => ?_) (fun hn => ?_) (fun i j hi hj => ?_) (fun i j cs u hc hu => ?_)
     ·obtain ⟨i, hi, rfl⟩ := List.mem_map.1 hcs
      have := hf i (List.mem_range.1 hi)
      omega
     ·have hcell : ∀ i j, i < len → j < P.cellsOf e → w.cell? ((a.add (i * P.cellsOf e)).add j) = (f i).2[j]? := fun i j hi hj => (World.cells?_some (hf i hi).1).2.2 j hj
      obtain ⟨b, off, spot⟩ := a
      have h00 := hcell 0 0 hn hk0
      rw [Nat.zero_mul] at h00
      have hz : ((⟨b, off, spot⟩ : Addr).add 0).add 0 = ⟨b, off, spot⟩ := by simp [Addr.add]
      rw [hz, List.getElem?_eq_getElem (by have := hf 0 hn; omega)] at h00
      have hspot : spot = none := World.cell?_spot h00
      subst hspot
      refine ⟨b, off, rfl, World.block_lt_of_cell? w _ h00, fun i j hi hj => ?_⟩
      have h5 := hcell i j hi hj
      rw [add_add, addr_plain] at h5
      rw [h5, List.getElem?_eq_getElem (by have := hf i hi; omega)]
      rfl
     ·have h5 := hf i hi
      have hj1 : j < (f i).1.length := by omega
      have hj2 : j < (f i).2.length := by omega
      rw [List.getElem?_eq_getElem hj2, Option.getD_some]
      exact (h5.2.2.2.1 j _ _ (List.getElem?_eq_getElem hj1) (List.getElem?_eq_getElem hj2)).one
     ·rw [List.getElem?_map] at hc
      rcases Nat.lt_or_ge i len with hi | hi
      ·rw [List.getElem?_range hi] at hc
       simp only [Option.map_some, Option.some.injEq] at hc
       subst hc
       have h5 := hf i hi
       have hj1 : j < (f i).1.length := lt_of_get hu
       have hj2 : j < (f i).2.length := by omega
       rw [List.getElem?_eq_getElem hj2, Option.getD_some]
       exact h5.2.2.2.1 j _ _ hu (List.getElem?_eq_getElem hj2)
      ·rw [List.getElem?_eq_none (by simpa using hi)] at hc; cases hc
    ·unfold Typed
     rw [ht]
     refine ⟨_, rfl, by simpa using hBl, fun cs hcs => ?_⟩
     obtain ⟨i, hi, rfl⟩ := List.mem_map.1 hcs
     have := hf i (List.mem_range.1 hi)
     exact ⟨by omega, this.2.2.2.2⟩
  ·rename_i fs ht
   simp only [Bool.and_eq_true, List.all_eq_true] at hp
   obtain ⟨hp1, hp2⟩ := hp
   obtain ⟨xs, n', rfl, hx0, hlen, hxl, hf⟩ := DataW.trod_struct ht h
   have hBe : ∀ (i : Nat) (y : DataW H × List MemPlace), xs[i]? = some y → Rows.uptoBulk y.1 ≤ B ∨ maxLen ≤ B := fun i y hy => by
    rcases hB with hB | hB
    ·rw [hx0] at hB
     exact .inl (bulk_agg hB _ (List.mem_map.2 ⟨y, List.mem_of_getElem? hy, rfl⟩))
    ·exact .inr hB
   obtain ⟨us, hus⟩ := choose_lt (n := fs.size) (p := fun i (u : List AV) => ∀ f, fs[i]? = some f → u.length = P.cellsOf f.type ∧ ((cs.drop f.offset).take (P.cellsOf f.type)).length = P.cellsOf f.type ∧
     (∀ (j : Nat) (a : AV) (v : Value), u[j]? = some a → ((cs.drop f.offset).take (P.cellsOf f.type))[j]? = some v → SVR (fun b => b < w.heap.size) w a v) ∧ Typed P B n f.type u) (fun i hi => by
    have hix : i < xs.length := by omega
    have hfi := hf i fs[i] (Array.getElem?_eq_getElem hi)
    rw [List.getElem?_eq_getElem hix] at hfi
    obtain ⟨u, g1, g2, g3, g4⟩ := ih (fs[i]).type (hp2 _ (by simp)) _ _ _ hfi (hBe i _ (List.getElem?_eq_getElem hix))
    refine ⟨u, fun f hf' => ?_⟩
    rw [Array.getElem?_eq_getElem hi] at hf'
    injection hf' with hf'
    subst hf'
    exact ⟨by omega, g2, g3, g4⟩)
   have lt_of : ∀ (i : Nat) (f : Field), fs[i]? = some f → i < fs.size := fun i f h => by
    rcases Nat.lt_or_ge i fs.size with h' | h'
    ·exact h'
    ·rw [Array.getElem?_eq_none h'] at h; cases h
   obtain ⟨r, r1, r2, r3, r4⟩ := tile_cover fs.toList 0 (P.cellsOf t) hp1 us fun i f hf' => by
    have hf'' : fs[i]? = some f := by simpa using hf'
    exact (hus i (lt_of i f hf'') f hf'').1
   refine ⟨r, by omega, hlen, fun j u v hu hv => ?_, ?_⟩
   ·obtain ⟨i, f, q, g1, g2, g3, g4⟩ := r4 j (by have := lt_of_get hu; omega)
    have g1' : fs[i]? = some f := by simpa using g1
    rw [hu] at g4
    refine (hus i (lt_of i f g1') f g1').2.2.1 q u v g4.symm ?_
    rw [List.getElem?_take_of_lt g2, List.getElem?_drop, ← g3, Nat.zero_add]
    exact hv
   ·unfold Typed
    rw [ht]
    refine ⟨by omega, fun i f hf' => ?_⟩
    have := (r3 i f (by simpa using hf')).2
    rw [Nat.sub_zero] at this
    rw [this]
    exact (hus i (lt_of i f hf') f hf').2.2.2
  ·cases hp
theorem open_arg {B n : Nat} {t : TypeId} (hp : plainTy P n t = true) {v : Value} {d : DataW H} {p : List MemPlace} (h : DataW.Trod enc P w base spare held t v d p) {r : Reach} {b0 : Nat} (ho : Value.okWide P w r b0 t v) (hB : Rows.uptoBulk d ≤ B ∨ maxLen ≤ B) :
  ∃ x, AVR (fun b => b < w.heap.size) (fun _ => none) w x v ∧ TypedA P B n t x := by
 obtain ⟨fuel, hf⟩ := h
 obtain ⟨us, h1, h2, h3, h4⟩ := open_gen B n t hp fuel _ _ hf hB
 have leaf : v.cells = #[v] → (∀ fs, P.underlying t ≠ some (.struct fs)) → ∃ x, AVR (fun b => b < w.heap.size) (fun _ => none) w x v ∧ TypedA P B n t x := fun hv hns => by
  rw [hv] at h1 h3
  obtain ⟨u, rfl⟩ := List.length_eq_one_iff.1 (show us.length = 1 by simpa using h1)
  refine ⟨u, .s (h3 0 u v rfl rfl), ?_⟩
  unfold TypedA
  split
  ·rename_i fs ht; exact absurd ht (hns fs)
  ·exact h4
 have hp' := hp
 cases n with
 | zero => cases hp
 | succ n =>
 unfold plainTy at hp'
 split at hp'
 ·rename_i ht
  obtain ⟨b, rfl⟩ := okWide_bool ht ho
  exact leaf rfl fun fs h => by rw [ht] at h; cases h
 ·rename_i ht
  obtain ⟨b, rfl⟩ := okWide_string ht ho
  exact leaf rfl fun fs h => by rw [ht] at h; cases h
 ·rename_i k ht
  obtain ⟨b, rfl⟩ := okWide_int ht ho
  exact leaf rfl fun fs h => by rw [ht] at h; cases h
 ·rename_i e ht
  obtain ⟨a, l, c, rfl⟩ := okWide_slice ht ho
  exact leaf rfl fun fs h => by rw [ht] at h; cases h
 ·rename_i fs ht
  obtain ⟨cs, rfl, hcs⟩ := okWide_struct ht ho
  have hc : (Value.agg cs).cells = cs := rfl
  rw [hc] at h1 h3
  refine ⟨.agg us, .agg (by simpa using h1.symm) (fun i u hu => ?_) (fun i c u hc hu => .s (h3 i c u hc (by simpa using hu))), ?_⟩
  ·have hi : i < us.length := by
    rw [h1]
    have := lt_of_get (l := cs.toList) (i := i) (x := u) (by simpa using hu)
    exact this
   exact (h3 i _ u (List.getElem?_eq_getElem hi) (by simpa using hu)).one
  ·unfold TypedA
   rw [ht]
   exact ⟨us, rfl, h4⟩
 ·cases hp'
theorem open_args {B n : Nat} {r : Reach} {b0 : Nat} : ∀ (ts : List TypeId) (vs : List Value) (ds : List (DataW H)) (p : List MemPlace), DataW.TrodAll enc P w base spare held ts vs ds p → (∀ t ∈ ts, plainTy P n t = true) →
  (∀ (j : Nat) t v, ts[j]? = some t → vs[j]? = some v → Value.okWide P w r b0 t v) → (Rows.uptoBulkAll ds ≤ B ∨ maxLen ≤ B) →
  ds.length = ts.length ∧ vs.length = ts.length ∧ ∃ as' : List AV, as'.length = vs.length ∧ (∀ (i : Nat) (x : AV) (v : Value), as'[i]? = some x → vs[i]? = some v → AVR (fun b => b < w.heap.size) (fun _ => none) w x v) ∧ TypedL P B n ts as' := by
 intro ts
 induction ts with
 | nil =>
  intro vs ds p h _ _ _
  obtain ⟨rfl, rfl, rfl⟩ := trodAll_nil h
  exact ⟨rfl, rfl, [], rfl, fun i x v h => by simp at h, trivial⟩
 | cons t ts ih =>
  intro vs ds p h hp ho hB
  obtain ⟨v, vs', d, ds', p1, q, rfl, rfl, rfl, h1, h2⟩ := trodAll_cons h
  have hB1 : Rows.uptoBulk d ≤ B ∨ maxLen ≤ B := hB.imp (fun h => by simp only [Rows.uptoBulkAll] at h; omega) id
  have hB2 : Rows.uptoBulkAll ds' ≤ B ∨ maxLen ≤ B := hB.imp (fun h => by simp only [Rows.uptoBulkAll] at h; omega) id
  obtain ⟨x, g1, g2⟩ := open_arg (hp t (.head _)) h1 (ho 0 t v rfl rfl) hB1
  obtain ⟨e1, e2, as', g3, g4, g5⟩ := ih vs' ds' q h2 (fun t ht => hp t (.tail _ ht)) (fun j t v h1 h2 => ho (j + 1) t v (by simpa using h1) (by simpa using h2)) hB2
  refine ⟨by simp [e1], by simp [e2], x :: as', by simp [g3], fun i y u hy hu => ?_, g2, g5⟩
  cases i with
  | zero => simp only [List.getElem?_cons_zero, Option.some.injEq] at hy hu; subst hy; subst hu; exact g1
  | succ i => exact g4 i y u (by simpa using hy) (by simpa using hu)
end
theorem trodAll_stays {H : Type} {enc : TypeId × Value → H} {P : Program} (hl : laidOutB P = true) {W W' : World} (hb : Below W.heap.size W W') : ∀ (ts : List TypeId) (vs : List Value) (ds : List (DataW H)) (p : List MemPlace),
  (∀ t ∈ ts, P.readableRec t = true ∧ t < P.types.size) → DataW.TrodAll enc P W 0 (fun _ => true) true ts vs ds p → DataW.TrodAll enc P W' 0 (fun b => decide (b < W.heap.size)) true ts vs ds p := by
 intro ts
 induction ts with
 | nil =>
  intro vs ds p _ h
  obtain ⟨rfl, rfl, rfl⟩ := trodAll_nil h
  exact trodAll_mk0
 | cons t ts ih =>
  intro vs ds p hr h
  obtain ⟨v, vs', d, ds', p1, q, rfl, rfl, rfl, h1, h2⟩ := trodAll_cons h
  have hlt : ∀ x ∈ p1, x.block < W.heap.size := by obtain ⟨m, hm⟩ := h1; exact DataW.trod_lt m _ _ _ hm
  exact trodAll_cons_mk (Below.trod hl (hr t (.head _)).1 (hr t (.head _)).2 h1 hb hlt) (ih vs' ds' q (fun t ht => hr t (.tail _ ht)) h2)
theorem law_contractF {P : Program} (hl : laidOutB P = true) {f : FuncId} {fn : Func} {spec : ChangeSpec} {tb B n : Nat} (hvars : spec.vars = []) (hres : fn.resultTypes = #[tb]) (htb : P.underlying tb = some .bool)
  (hfn : ∀ (H : Type) (ds : List (DataW H)), ds.length = fn.params.toList.length → spec.fn H ds = { results := [.lit (.bool true)], args := ds, vars := [] })
  (hplain : (fn.params.toList.all fun t => plainTy P n t && P.readableRec t && decide (t < P.types.size)) = true)
  (walk : ∀ as', TypedL P B n fn.params.toList as' → PCall P f as' (fun r => r = .v (.bool true)))
  (H : Type) (enc : TypeId × Value → H) (W : World) (base : Nat) (args : Array Value) (ds gs : List (DataW H)) (before : List MemPlace)
  (hval : ∀ (j : Nat) t v, fn.params[j]? = some t → args[j]? = some v → Value.okWide P W .any base t v)
  (hW : DataW.Whole enc P fn.params.toList spec.vars false W args.toList ds gs before) (hk : Rows.uptoBulkAll (ds ++ gs) ≤ B ∨ maxLen ≤ B) (hF : FOK (fun b => b < W.heap.size) W) :
  Calls P f args W fun e W' => ∃ v, e = .returned v ∧ spec.post enc P fn false true false false W args v W' := by
 have hW' := hW
 obtain ⟨p, q, hA, hV, rfl, hfz, hnd⟩ := hW
 rw [hvars] at hV
 obtain ⟨rfl, rfl⟩ := trodVars_none hV
 rw [List.append_nil] at hk
 simp only [List.all_eq_true, Bool.and_eq_true, decide_eq_true_eq] at hplain
 obtain ⟨e1, e2, as', g1, g2, g3⟩ := open_args _ _ _ _ hA (fun t ht => (hplain t ht).1.1) (fun j t v h1 h2 => hval j t v (by simpa using h1) (by simpa using h2)) hk
 refine (PCall.row (walk as' g3) args (by simpa using g1.symm) (fun i x v hx hv => g2 i x v hx (by simpa using hv)) hF).mono fun e W' ⟨he, bel⟩ => ?_
 subst he
 have hs : spec.fn H (ds ++ []) = { results := [.lit (.bool true)], args := ds, vars := [] } := by rw [List.append_nil]; exact hfn H ds e1
 refine ⟨_, rfl, ds, [], _, [], p, [], hW', ?_, ?_, ?_, bel.frame _, fun h => by cases h⟩
 ·rw [hs, hres]
  exact trodAll_mk1 (shut_bool htb _)
 ·rw [hs]
  exact trodAll_stays hl bel _ _ _ _ (fun t ht => ⟨(hplain t ht).1.2, (hplain t ht).2⟩) hA
 ·rw [hs, hvars]; rfl
end Go.Proofs.Ytjeplogcfedmeaa
end
section
namespace Go.Proofs.Ytjeplogcfedmeaa
open Go.ChangeShapes Go.WideShapes Go.ChangeAt Go.RowKit
set_option maxRecDepth 100000
section
variable {P : Program} {B n : Nat} {t e : TypeId} {us : List AV}
theorem td_int {k : IntKind} (ht : P.underlying t = some (.int k)) (h : Typed P B (n + 1) t us) : ∃ z, us = [.v (.int k z)] ∧ (Lit.int k z).wf = true := by
 unfold Typed at h; rw [ht] at h; exact h
theorem td_bool (ht : P.underlying t = some .bool) (h : Typed P B (n + 1) t us) : ∃ b, us = [.v (.bool b)] := by
 unfold Typed at h; rw [ht] at h; exact h
theorem tl_cons {ts : List TypeId} {as' : List AV} (h : TypedL P B n (t :: ts) as') : ∃ x xs, as' = x :: xs ∧ TypedA P B n t x ∧ TypedL P B n ts xs := by
 cases as' with
 | nil => exact h.elim
 | cons x xs => exact ⟨x, xs, rfl, h.1, h.2⟩
theorem tl_nil {as' : List AV} (h : TypedL P B n [] as') : as' = [] := by
 cases as' with
 | nil => rfl
 | cons x xs => exact h.elim
theorem td_struct {fs : Array Field} {k : Nat} (ht : P.underlying t = some (.struct fs)) (hk : P.cellsOf t = k) (h : Typed P B (n + 1) t us) : us.length = k ∧ ∀ (i : Nat) (f : Field), fs[i]? = some f → Typed P B n f.type ((us.drop f.offset).take (P.cellsOf f.type)) := by
 unfold Typed at h; rw [ht, hk] at h; exact h
theorem td_argS {fs : Array Field} {x : AV} (ht : P.underlying t = some (.struct fs)) (h : TypedA P B n t x) : ∃ us, x = .agg us ∧ Typed P B n t us := by
 unfold TypedA at h; rw [ht] at h; exact h
theorem td_list {α : Type} {xs : List (List AV)} {enc : α → List AV} {p : α → Prop} (h : ∀ cs ∈ xs, ∃ a, cs = enc a ∧ p a) : ∃ l : List α, xs = l.map enc ∧ ∀ a ∈ l, p a := by
 induction xs with
 | nil => exact ⟨[], rfl, fun a h => by cases h⟩
 | cons x xs ih =>
  obtain ⟨a, rfl, ha⟩ := h x (.head _)
  obtain ⟨l, rfl, hl⟩ := ih fun cs hcs => h cs (.tail _ hcs)
  exact ⟨a :: l, rfl, fun b hb => by rcases List.mem_cons.1 hb with rfl | hb; (· exact ha); exact hl b hb⟩
theorem td_slice {α : Type} {enc : α → List AV} {p : α → Prop} {k : Nat} (ht : P.underlying t = some (.slice e)) (hk : P.cellsOf e = k) (h : Typed P B (n + 1) t us) (he : ∀ cs, Typed P B n e cs → ∃ a, cs = enc a ∧ p a) :
  ∃ l : List α, us = [.lst k (l.map enc)] ∧ l.length ≤ B ∧ ∀ a ∈ l, p a := by
 unfold Typed at h
 rw [ht] at h
 obtain ⟨xs, rfl, h1, h2⟩ := h
 obtain ⟨l, rfl, h3⟩ := td_list (enc := enc) (p := p) fun cs hcs => he cs (h2 cs hcs).2
 exact ⟨l, by rw [hk], by simpa using h1, h3⟩
theorem td_ints {k : IntKind} (ht : P.underlying t = some (.slice e)) (he : P.underlying e = some (.int k)) (hk : P.cellsOf e = 1) (h : Typed P B (n + 2) t us) :
  ∃ l : List Int, us = [.lst 1 (l.map fun z => [.v (.int k z)])] ∧ l.length ≤ B ∧ ∀ z ∈ l, (Lit.int k z).wf = true :=
 td_slice ht hk h fun cs hcs => by obtain ⟨z, h1, h2⟩ := td_int he hcs; exact ⟨z, h1, h2⟩
end
theorem td_arg_int {P : Program} {B n : Nat} {t : TypeId} {x : AV} {k : IntKind} (ht : P.underlying t = some (.int k)) (h : TypedA P B (n + 1) t x) : ∃ z, x = .v (.int k z) ∧ (Lit.int k z).wf = true := by
 unfold TypedA at h
 rw [ht] at h
 obtain ⟨z, h1, h2⟩ := td_int ht h
 injection h1 with h1
 exact ⟨z, h1, h2⟩
end Go.Proofs.Ytjeplogcfedmeaa
end
section
namespace Go.Proofs.Ytjeplogcfedmeaa
open Go.ChangeShapes Go.WideShapes Go.ChangeAt Go.RowKit
set_option maxRecDepth 100000
theorem cp_int : (Try.prog).cellsOf 3 = 1 := by kernel_rfl
theorem cp_bool : (Try.prog).cellsOf 4 = 1 := by kernel_rfl
theorem cp_ins : (Try.prog).cellsOf 37 = 4 := by kernel_rfl
theorem cp_code : (Try.prog).cellsOf 22 = 1 := by kernel_rfl
theorem cp_ints : (Try.prog).cellsOf 23 = 1 := by kernel_rfl
theorem cp_prog : (Try.prog).cellsOf 25 = 3 := by kernel_rfl
theorem td_ins {B n : Nat} {us : List AV} (h : Typed Try.prog B (n + 2) 37 us) : ∃ x : InsM, us = encI x ∧ True := by
 obtain ⟨hl, hf⟩ := td_struct Try.underlying37 cp_ins h
 have h0 : Typed Try.prog B _ 3 ((us.drop 0).take ((Try.prog).cellsOf 3)) := hf 0 _ rfl
 have h1 : Typed Try.prog B _ 3 ((us.drop 1).take ((Try.prog).cellsOf 3)) := hf 1 _ rfl
 have h2 : Typed Try.prog B _ 3 ((us.drop 2).take ((Try.prog).cellsOf 3)) := hf 2 _ rfl
 have h3 : Typed Try.prog B _ 3 ((us.drop 3).take ((Try.prog).cellsOf 3)) := hf 3 _ rfl
 match us, hl, h0, h1, h2, h3 with
 | [u0, u1, u2, u3], _, h0, h1, h2, h3 =>
 simp only [cp_int, List.drop_zero, List.drop_succ_cons, List.take_succ_cons, List.take_zero] at h0 h1 h2 h3
 obtain ⟨a, g1, _⟩ := td_int Try.underlying3 h0
 obtain ⟨b, g3, _⟩ := td_int Try.underlying3 h1
 obtain ⟨c, g5, _⟩ := td_int Try.underlying3 h2
 obtain ⟨d, g7, _⟩ := td_int Try.underlying3 h3
 injection g1 with g1; injection g3 with g3; injection g5 with g5; injection g7 with g7
 subst g1; subst g3; subst g5; subst g7
 exact ⟨⟨a, b, c, d⟩, rfl, trivial⟩
theorem td_prog {B n : Nat} {x : AV} (h : TypedA Try.prog B (n + 6) 25 x) : ∃ e C N, x = pG e C N ∧ C.length ≤ B ∧ N.length ≤ B := by
 obtain ⟨us, rfl, h'⟩ := td_argS Try.underlying25 h
 obtain ⟨hl, hf⟩ := td_struct Try.underlying25 cp_prog h'
 have h0 : Typed Try.prog B _ 4 ((us.drop 0).take ((Try.prog).cellsOf 4)) := hf 0 _ rfl
 have h1 : Typed Try.prog B _ 22 ((us.drop 1).take ((Try.prog).cellsOf 22)) := hf 1 _ rfl
 have h2 : Typed Try.prog B _ 23 ((us.drop 2).take ((Try.prog).cellsOf 23)) := hf 2 _ rfl
 match us, hl, h0, h1, h2 with
 | [u0, u1, u2], _, h0, h1, h2 =>
 simp only [cp_bool, cp_code, cp_ints, List.drop_zero, List.drop_succ_cons, List.take_succ_cons, List.take_zero] at h0 h1 h2
 obtain ⟨e, g0⟩ := td_bool Try.underlying4 h0
 obtain ⟨C, g1, g2, _⟩ := td_slice (enc := encI) Try.underlying22 cp_ins h1 (fun cs => td_ins)
 obtain ⟨N, g4, g5, _⟩ := td_ints Try.underlying23 Try.underlying3 cp_int h2
 injection g0 with g0; injection g1 with g1; injection g4 with g4
 subst g0; subst g1; subst g4
 exact ⟨e, C, N, rfl, g2, g5⟩
end Go.Proofs.Ytjeplogcfedmeaa
end
section
namespace Go.Proofs.Ytjeplogcfedmeaa
open Go.RowKit
set_option maxRecDepth 100000
set_option maxHeartbeats 8000000
theorem firstL_front {e : Bool} {C : List InsM} (hp : PosW C) : ∀ {N : List Int} {n : Nat} {t : Int} {L : LkM} {D : List Nat} {r : LkM × List Nat}, (∀ n ∈ N, 0 ≤ n ∧ n < C.length) → FirstI e C t L D → (∀ k, (L.getD k none).isSome = true → k ∈ D) → firstL e C N t L D = .ok r →
  ∃ r1, firstL e C (N.take n) t L D = .ok r1 ∧ Ext r1.1 r.1
 | [], n, t, L, D, r, _, _, _, hf => by
  rw [List.take_nil]
  exact ⟨r, hf, Ext.refl _⟩
 | a :: N, 0, t, L, D, r, hN, h, ha, hf => by
  obtain ⟨L', D'⟩ := r
  obtain ⟨_, g, _⟩ := firstL_ok hp hN h ha hf
  exact ⟨(L, D), rfl, g⟩
 | a :: N, n + 1, t, L, D, r, hN, h, ha, hf => by
  unfold firstL at hf
  rw [List.take_succ_cons]
  unfold firstL
  have hn := hN a (.head _)
  split at hf
  ·cases hf
  ·rename_i L1 h1
   obtain ⟨g1, g2⟩ := handF_ext (by rw [h.len]; omega) h1
   split at hf
   ·cases hf
   ·rename_i L2 D2 h2
    obtain ⟨g3, g4, g5⟩ := loopF_ok hp (h.hand g1) (by have := h.dlen; omega) h2
    exact firstL_front hp (fun m hm => hN m (.tail _ hm)) (g3.up (by omega : t ≤ t + 1)) g5 hf
theorem SecI.front {e : Bool} {C : List InsM} : ∀ {ns : List Int} {n : Nat} {B : List Bool}, SecI e C ns B (-1) → SecI e C (ns.take n) B (-1)
 | [], n, B, h => by rw [List.take_nil]; exact h
 | a :: ns, 0, B, h => rfl
 | a :: ns, n + 1, B, h => by
  rw [List.take_succ_cons]
  rcases h with ⟨k, hk, _⟩ | ⟨h1, h2⟩
  ·omega
  ·exact .inr ⟨h1, SecI.front h2⟩
theorem secI_neg {e : Bool} {C : List InsM} : ∀ {ns : List Int} {B : List Bool} {r : Int}, SecI e C ns B r → r < 0 → r = -1
 | [], _, _, h, _ => h
 | a :: ns, B, r, h, h0 => by
  rcases h with ⟨k, hk, _⟩ | ⟨h1, h2⟩
  ·omega
  ·exact secI_neg h2 h0
theorem getD_out {L : LkM} {k : Nat} (h : k < L.length) : (outF L).getD k 0 = outV (L.getD k none) := by
 rw [outF_eq]
 simp [List.getD, h]
theorem fewer {e : Bool} {C : List InsM} {N : List Int} (hv : (verF e C N).1 = 0) (n : Nat) : ((∃ j, verF e C (N.take n) = (140, j)) ∧ shF e C (N.take n) = []) ∨
  (verF e C (N.take n) = (0, 0) ∧ (shF e C (N.take n)).length = C.length ∧ ∀ k, k < C.length → (shF e C (N.take n)).getD k 0 ≠ -1 → (shF e C N).getD k 0 ≠ -1) := by
 obtain ⟨hc, ⟨⟨L, D⟩, hf⟩, hs, h0⟩ := ver_ok hv
 obtain ⟨hlen, hr, hN⟩ := chkF_ok hc
 have hp : PosW C := fun k hk j hj => (ways_in hr hk j hj).1
 have hT : ∀ m ∈ N.take n, 0 ≤ m ∧ m < C.length := fun m hm => hN m (List.mem_of_mem_take hm)
 have hl2 : (N.take n).length ≤ 1048576 := by rw [List.length_take]; omega
 have hsh : shF e C N = outF L := by
  unfold shF
  rw [h0, if_neg (by decide), hf]
 cases hb : firstBad (rightF e C (N.take n)) 0 C.length with
 | some i =>
  have hck : chkF e C (N.take n) = (140, (i : Int)) := by
   unfold chkF
   rw [if_neg (by omega), hb]
  have hvf : verF e C (N.take n) = (140, (i : Int)) := by
   unfold verF
   rw [hck, if_pos (by simp)]
  refine .inl ⟨⟨i, hvf⟩, ?_⟩
  unfold shF
  rw [hvf, if_pos (by simp)]
 | none =>
  have hck : chkF e C (N.take n) = (0, 0) := chkF_iff.2 ⟨⟨hlen.1, hl2⟩, fun k hk => firstBad_none.1 hb k (Nat.zero_le _) (by omega), hT⟩
  obtain ⟨⟨L1, D1⟩, g1, g2⟩ := firstL_front (n := n) hp hN (FirstI.init e C) (fun k hk => by rw [init_none] at hk; cases hk) hf
  have g1' : firstF e C (N.take n) = .ok (L1, D1) := g1
  have hs1 : secF e C (N.take n) = -1 := SecI.uniq (secF_spec e C (N.take n)) (SecI.front (by
   have := secF_spec e C N
   rwa [secI_neg this hs] at this))
  have hvf : verF e C (N.take n) = (0, 0) := by
   unfold verF
   rw [hck, if_neg (by decide), g1', hs1]
   rfl
  have hsf : shF e C (N.take n) = outF L1 := by
   unfold shF
   rw [hvf, if_neg (by decide), g1']
  obtain ⟨⟨t', hI, _⟩, _⟩ := firstL_ok hp hN (FirstI.init e C) (fun k hk => by rw [init_none] at hk; cases hk) hf
  have hL : LkOK L := LkOK.first (insOK_of hr) (L := List.replicate C.length none) (fun k s hk => by
   have := init_none C k
   rw [hk] at this; cases this) hf
  have hl1 : L1.length = C.length := by rw [← hI.len]; exact g2.1.symm
  refine .inr ⟨hvf, by rw [hsf, outF_len, hl1], fun k hk hne => ?_⟩
  rw [hsf, getD_out (by omega)] at hne
  rw [hsh, getD_out (by rw [hI.len]; exact hk)]
  cases h : L1.getD k none with
  | none => rw [h] at hne; exact absurd rfl hne
  | some s =>
   have h2 := g2.2 k s h
   rw [h2]
   exact shape_ne (hL k s h2)
end Go.Proofs.Ytjeplogcfedmeaa
end
section
namespace Go.Proofs.Ytjeplogcfedmeaa
open Go.RowKit
set_option maxRecDepth 100000
set_option maxHeartbeats 8000000
structure Agr (C C' : List InsM) (S : Nat → Prop) : Prop where
 le : C.length ≤ C'.length
 lt : ∀ k, S k → k < C.length
 ins : ∀ k, S k → insAt C' k = insAt C k
 ways : ∀ k, S k → waysF C' k (insAt C k) = waysF C k (insAt C k)
 cl : ∀ k, S k → ∀ j ∈ waysF C k (insAt C k), 0 ≤ j ∧ S j.toNat
abbrev liveL (L : LkM) (k : Nat) : Prop := (L.getD k none).isSome = true
abbrev nones (m : Nat) : LkM := List.replicate m none
theorem getD_nones {L : LkM} {m k : Nat} : (L ++ nones m).getD k none = L.getD k none := by
 rcases Nat.lt_or_ge k L.length with h | h
 ·simp [List.getD, List.getElem?_append_left h]
 ·simp only [List.getD, List.getElem?_append_right h, List.getElem?_replicate, List.getElem?_eq_none h]
  split <;> rfl
theorem nextF_nones {L : LkM} {m : Nat} {D : List Nat} : nextF (L ++ nones m) D = nextF L D := by
 have hw : ∀ k, waitsB (L ++ nones m) D k = waitsB L D k := fun k => by unfold waitsB; rw [getD_nones]
 cases h : nextF L D with
 | none =>
  unfold nextF at h ⊢
  rw [List.find?_eq_none] at h ⊢
  intro k _ hk
  rw [hw] at hk
  exact h k (List.mem_range.2 (waits_lt hk)) hk
 | some k =>
  unfold nextF at h ⊢
  rw [List.find?_range_eq_some] at h ⊢
  obtain ⟨h1, h2, h3⟩ := h
  refine ⟨by rw [hw]; exact h1, ?_, fun j hj => by rw [hw]; exact h3 j hj⟩
  rw [List.mem_range] at h2 ⊢
  rw [List.length_append]; omega
section
variable {e : Bool} {C C' : List InsM} {Lf : LkM} {m : Nat} (hA : Agr C C' (liveL Lf))
include hA
theorem handF_sim {L L1 : LkM} {k : Nat} {s : StM} {t : Int} (hk : k < L.length) (h : handF e C L k s t = some L1) (hx : Ext L1 Lf) : handF e C' (L ++ nones m) k s t = some (L1 ++ nones m) := by
 unfold handF at h ⊢
 rw [getD_nones]
 split at h
 ·rename_i hn
  injection h with h
  subst h
  rw [List.set_append_left _ _ hk]
 ·rename_i s0 hs
  split at h
  ·rename_i h1
   injection h with h
   subst h
   rw [if_pos h1]
  ·rename_i h1
   split at h
   ·rename_i h2
    injection h with h
    subst h
    have hl : liveL Lf k := hx.some (by rw [hs]; rfl)
    rw [if_neg h1, hA.ins k hl, if_pos h2]
   ·cases h
theorem handS_sim {t : Int} {E : EfM} {arms : Bool} : ∀ {ks : List Int} {w : Nat} {L L1 : LkM}, (∀ j ∈ ks, j.toNat < L.length) → handS e C t E arms ks w L = .ok L1 → Ext L1 Lf → handS e C' t E arms ks w (L ++ nones m) = .ok (L1 ++ nones m)
 | [], w, L, L1, _, h, _ => by
  unfold handS at h ⊢
  injection h with h
  subst h
  rfl
 | k :: ks, w, L, L1, hlt, h, hx => by
  unfold handS at h ⊢
  split at h
  ·cases h
  ·rename_i L2 h2
   obtain ⟨g1, _⟩ := handF_ext (hlt k (.head _)) h2
   have hlt2 : ∀ j ∈ ks, j.toNat < L2.length := fun j hj => by rw [g1.1]; exact hlt j (.tail _ hj)
   obtain ⟨g3, _⟩ := handS_ext hlt2 h
   rw [handF_sim hA (hlt k (.head _)) h2 (g3.trans hx)]
   exact handS_sim hlt2 h hx
theorem goesF_sim (hp : PosW C) {t : Int} {L L1 : LkM} {k : Nat} (hl : L.length = C.length) (hk : k < C.length) (hs : liveL L k) (h : goesF e C k L t = .ok L1) (hx : Ext L1 Lf) (hx0 : Ext L Lf) : goesF e C' k (L ++ nones m) t = .ok (L1 ++ nones m) := by
 have hv : liveL Lf k := hx0.some hs
 have hst : stAt (L ++ nones m) k = stAt L k := by unfold stAt; rw [getD_nones]
 unfold goesF at h ⊢
 dsimp only at h ⊢
 rw [hA.ins k hv, hA.ways k hv, hst]
 split at h
 ·cases h
 ·rename_i hn
  simp only [not_or, Bool.not_eq_false, Bool.not_eq_true] at hn
  obtain ⟨h1, h2⟩ := hn
  have hlt : ∀ j ∈ waysF C k (insAt C k), j < C.length := fun j hj => by
   have := List.any_eq_false.1 h2 j hj
   simpa using this
  have h3 : (waysF C k (insAt C k)).any (fun j => decide ((C'.length : Int) ≤ j)) = false := List.any_eq_false.2 fun j hj => by
   have := hlt j hj
   have := hA.le
   simp; omega
  rw [if_neg (by rw [h1, h3]; simp)]
  exact handS_sim hA (fun j hj => by have := hlt j hj; have := hp k hk j hj; omega) h hx
theorem loopF_sim (hp : PosW C) {t : Int} : ∀ {f f' : Nat} {L : LkM} {D : List Nat} {r : LkM × List Nat}, FirstI e C t L D → C.length + 1 ≤ f + D.length → f ≤ f' → loopF e C t f L D = .ok r → Ext r.1 Lf → loopF e C' t f' (L ++ nones m) D = .ok (r.1 ++ nones m, r.2)
 | 0, f', L, D, r, h, hf, _, _, _ => by have := h.dlen; omega
 | f + 1, 0, L, D, r, h, hf, hff, _, _ => by omega
 | f + 1, f' + 1, L, D, r, h, hf, hff, hl, hx => by
  have hl0 := hl
  unfold loopF at hl ⊢
  rw [nextF_nones]
  split at hl
  ·rename_i hn
   injection hl with hl
   subst hl
   rfl
  ·rename_i k hn
   obtain ⟨h1, h2, h3⟩ := nextF_some hn
   rw [h.len] at h1
   split at hl
   ·cases hl
   ·rename_i L1 hg
    obtain ⟨g1, g2⟩ := goesF_ok hp h h1 h2 h3 hg
    have hf1 : C.length + 1 ≤ f + (k :: D).length := by rw [List.length_cons]; omega
    obtain ⟨L', D'⟩ := r
    obtain ⟨_, g4, _⟩ := loopF_ok hp g1 hf1 hl
    rw [goesF_sim hA hp h.len h1 h2 hg (g4.trans hx) ((g2.trans g4).trans hx)]
    exact loopF_sim hp g1 hf1 (by omega) hl hx
theorem firstL_sim (hp : PosW C) : ∀ {N : List Int} {t : Int} {L : LkM} {D : List Nat} {r : LkM × List Nat}, (∀ n ∈ N, 0 ≤ n ∧ n < C.length) → FirstI e C t L D → (∀ k, liveL L k → k ∈ D) → firstL e C N t L D = .ok r → Ext r.1 Lf → firstL e C' N t (L ++ nones m) D = .ok (r.1 ++ nones m, r.2)
 | [], t, L, D, r, _, _, _, hf, _ => by
  unfold firstL at hf ⊢
  injection hf with hf
  subst hf
  rfl
 | n :: ns, t, L, D, r, hN, h, ha, hf, hx => by
  unfold firstL at hf ⊢
  have hn := hN n (.head _)
  split at hf
  ·cases hf
  ·rename_i L1 h1
   have hnl : n.toNat < L.length := by rw [h.len]; omega
   obtain ⟨g1, g2⟩ := handF_ext hnl h1
   split at hf
   ·cases hf
   ·rename_i L2 D2 h2
    have hfu : C.length + 1 ≤ (C.length + 1 - D.length) + D.length := by have := h.dlen; omega
    obtain ⟨g3, g4, g5⟩ := loopF_ok hp (h.hand g1) hfu h2
    have hN' : ∀ m ∈ ns, 0 ≤ m ∧ m < C.length := fun m hm => hN m (.tail _ hm)
    have g3' := g3.up (by omega : t ≤ t + 1)
    obtain ⟨L', D'⟩ := r
    obtain ⟨_, g7, _⟩ := firstL_ok hp hN' g3' g5 hf
    have hx2 : Ext L2 Lf := g7.trans hx
    rw [handF_sim hA hnl h1 (g4.trans hx2)]
    dsimp only
    rw [loopF_sim hA hp (f' := C'.length + 1 - D.length) (h.hand g1) hfu (by have := hA.le; omega) h2 hx2]
    exact firstL_sim hp hN' g3' g5 hf hx
end
section
variable {C C' : List InsM} {S : Nat → Prop} (hA : Agr C C' S)
include hA
theorem wayR_sim {g g' : Nat → Int → Bool} (hg : ∀ k w, S k → g' k w = g k w) {a b : Nat} (ha : S a) : wayR C' g' a b ↔ wayR C g a b := by
 unfold wayR
 rw [hA.ins a ha, hA.ways a ha]
 exact ⟨fun ⟨w, h1, h2⟩ => ⟨w, h1, by rw [← hg a w ha]; exact h2⟩, fun ⟨w, h1, h2⟩ => ⟨w, h1, by rw [hg a w ha]; exact h2⟩⟩
theorem wayR_in {g : Nat → Int → Bool} {a b : Nat} (ha : S a) (h : wayR C g a b) : S b := by
 obtain ⟨w, h1, _⟩ := h
 have := (hA.cl a ha _ (List.mem_of_getElem? h1)).2
 simpa using this
theorem rch_in {g : Nat → Int → Bool} {a b : Nat} (ha : S a) (h : Rch (wayR C g) a b) : S b := by
 induction h with
 | one h => exact wayR_in hA ha h
 | more _ h ih => exact wayR_in hA ih h
theorem rch_sim {g g' : Nat → Int → Bool} (hg : ∀ k w, S k → g' k w = g k w) {a b : Nat} (ha : S a) : Rch (wayR C' g') a b ↔ Rch (wayR C g) a b := by
 constructor
 ·intro h
  induction h with
  | one h => exact .one ((wayR_sim hA hg ha).1 h)
  | more _ h ih => exact .more ih ((wayR_sim hA hg (rch_in hA ha ih)).1 h)
 ·intro h
  induction h with
  | one h => exact .one ((wayR_sim hA hg ha).2 h)
  | more h0 h ih => exact .more ih ((wayR_sim hA hg (rch_in hA ha h0)).2 h)
theorem come_in {g : Nat → Int → Bool} {a b : Nat} (ha : S a) (h : Come (wayR C g) a b) : S b := by
 rcases h with h | h
 ·rw [h]; exact ha
 ·exact rch_in hA ha h
theorem come_sim {g g' : Nat → Int → Bool} (hg : ∀ k w, S k → g' k w = g k w) {a b : Nat} (ha : S a) : Come (wayR C' g') a b ↔ Come (wayR C g) a b := by
 unfold Come
 rw [rch_sim hA hg ha]
theorem takes_sim (B : List Bool) (k : Nat) (w : Int) (hk : S k) : takesF C' B k w = takesF C B k w := by unfold takesF; rw [hA.ins k hk]
theorem bare_sim (B : List Bool) (k : Nat) (w : Int) (hk : S k) : bareF C' B k w = bareF C B k w := by unfold bareF; rw [takes_sim hA B k w hk]
theorem pays_sim (B : List Bool) (k : Nat) (w : Int) (hk : S k) : paysF C' B k w = paysF C B k w := by unfold paysF; rw [takes_sim hA B k w hk, hA.ins k hk]
theorem pay_sim (B : List Bool) {en : Nat} (he : S en) : payF C' B en = payF C B en := by
 unfold payF
 congr 1
 refine propext (forall_congr' fun k => ?_)
 constructor
 ·intro h hc
  have hk := come_in hA he hc
  rw [← hA.ins k hk]
  exact h ((come_sim hA (pays_sim hA B) he).2 hc)
 ·intro h hc
  have hc' := (come_sim hA (pays_sim hA B) he).1 hc
  rw [hA.ins k (come_in hA he hc')]
  exact h hc'
theorem bad_sim {e : Bool} (B : List Bool) {en : Nat} (he : S en) (k : Nat) : BadP e C' B en k ↔ BadP e C B en k := by
 have free : ∀ a, S a → (freeI C' B a ↔ freeI C B a) := fun a ha => by unfold freeI; rw [hA.ins a ha]
 have cs := fun k => come_sim hA (g := alwaysF) (g' := alwaysF) (fun _ _ _ => rfl) (b := k) he
 unfold BadP
 rw [cs]
 refine and_congr_right fun hc => ?_
 have hk := come_in hA he hc
 rw [rch_sim hA (bare_sim hA B) hk]
 refine or_congr_right (and_congr_right fun _ => ?_)
 unfold unpaidP
 rw [cs, free k hk, rch_sim hA (bare_sim hA B) he]
 refine and_congr_right fun _ => and_congr_right fun _ => or_congr_right (or_congr_right (exists_congr fun a => ?_))
 rw [cs]
 refine and_congr_right fun ha => ?_
 have hs := come_in hA he ha
 rw [free a hs, rch_sim hA (bare_sim hA B) hs]
theorem secI_sim {e : Bool} : ∀ {ns : List Int} {B : List Bool} {r : Int}, (∀ n ∈ ns, S n.toNat) → SecI e C ns B r → SecI e C' ns B r
 | [], _, _, _, h => h
 | n :: ns, B, r, hn, h => by
  have he := hn n (.head _)
  have hb := fun k => bad_sim hA (e := e) B he k
  rcases h with ⟨k, h1, h2, h3⟩ | ⟨h1, h2⟩
  ·exact .inl ⟨k, h1, (hb k).2 h2, fun j hj => h3 j ((hb j).1 hj)⟩
  ·refine .inr ⟨fun ⟨k, hk⟩ => h1 ⟨k, (hb k).1 hk⟩, ?_⟩
   rw [pay_sim hA B he]
   exact secI_sim (fun m hm => hn m (.tail _ hm)) h2
end
theorem dead_sim {e : Bool} {C C' : List InsM} {N : List Int} (hv : (verF e C N).1 = 0) (hc' : chkF e C' N = (0, 0)) (hle : C.length ≤ C'.length) (hins : ∀ k, k < C.length → (shF e C N).getD k 0 ≠ -1 → insAt C' k = insAt C k ∧ waysF C' k (insAt C k) = waysF C k (insAt C k)) :
  verF e C' N = (0, 0) ∧ shF e C' N = shF e C N ++ List.replicate (C'.length - C.length) (-1) := by
 obtain ⟨hc, ⟨⟨L, D⟩, hf⟩, hs, h0⟩ := ver_ok hv
 obtain ⟨hlen, hr, hN⟩ := chkF_ok hc
 have hp : PosW C := fun k hk j hj => (ways_in hr hk j hj).1
 have hsh : shF e C N = outF L := by
  unfold shF
  rw [h0, if_neg (by decide), hf]
 obtain ⟨⟨t', hI, _⟩, _, hD, hE⟩ := firstL_ok hp hN (FirstI.init e C) (fun k hk => by rw [init_none] at hk; cases hk) hf
 have hL : LkOK L := LkOK.first (insOK_of hr) (L := List.replicate C.length none) (fun k s hk => by
  have := init_none C k
  rw [hk] at this; cases this) hf
 have hll : ∀ k, liveL L k → k < C.length := fun k hk => (hI.dok k (hD k hk)).1
 have hne : ∀ k, liveL L k → (shF e C N).getD k 0 ≠ -1 := fun k hk => by
  rw [hsh, getD_out (by rw [hI.len]; exact hll k hk)]
  cases h : L.getD k none with
  | none => rw [liveL, h] at hk; cases hk
  | some s => exact shape_ne (hL k s h)
 have hA : Agr C C' (liveL L) := ⟨hle, hll, fun k hk => (hins k (hll k hk) (hne k hk)).1, fun k hk => (hins k (hll k hk) (hne k hk)).2, fun k hk j hj => by
  have h1 := hp k (hll k hk) j hj
  exact ⟨h1, (hI.cl k (hD k hk) j hj).2⟩⟩
 have hf' : firstF e C' N = .ok (L ++ nones (C'.length - C.length), D) := by
  have := firstL_sim (e := e) hA (m := C'.length - C.length) hp hN (FirstI.init e C) (fun k hk => by rw [liveL, init_none] at hk; cases hk) hf (Ext.refl _)
  unfold firstF
  rw [show List.replicate C'.length (none : Option StM) = List.replicate C.length none ++ nones (C'.length - C.length) by rw [List.replicate_append_replicate]; congr 1; omega]
  exact this
 have hs1 : secF e C' N = -1 := SecI.uniq (secF_spec e C' N) (secI_sim hA (fun n hn => by
  obtain ⟨i, hi⟩ := List.mem_iff_getElem?.1 hn
  exact (hE i n hi).1) (by
   have := secF_spec e C N
   rwa [secI_neg this hs] at this))
 have hvf : verF e C' N = (0, 0) := by
  unfold verF
  rw [hc', if_neg (by decide), hf', hs1]
  rfl
 refine ⟨hvf, ?_⟩
 rw [hsh]
 unfold shF
 rw [hvf, if_neg (by decide), hf']
 simp [outF_eq, outV]
end Go.Proofs.Ytjeplogcfedmeaa
end
section
namespace Go.Proofs.Ytjeplogcfedmeaa
open Go.RowKit
set_option maxRecDepth 100000
set_option maxHeartbeats 8000000
def plainW : List Int := [32, 107, 112, 75, 119, 110, 102, 109, 115, 97, 103, 80, 113, 98, 122]
def callB (op : Int) : Bool := decide (op = 16) || decide (op = 17) || decide (44 ≤ op) && decide (op ≤ 46)
def lettB (n : Nat) (f : FormM) : Bool :=
 !f.known || (plainW.contains (bAt f.has 0) && (if tgF n = true then decide (bAt f.has 1 = 116) else plainW.contains (bAt f.has 1)) && (if callB n = true then decide (bAt f.has 2 = 121) else plainW.contains (bAt f.has 2)) && (decide (f.name = kindO ∨ f.name = kindC) == decide (n = 8 ∨ n = 41)))
theorem lett_low : (List.range 48).all (fun n => lettB n (formF true n) && lettB n (formF false n)) = true := by decide +kernel
structure Lett (op : Int) (f : FormM) : Prop where
 a : bAt f.has 0 ∈ plainW
 b0 : ¬ tgF op = true → bAt f.has 1 ∈ plainW
 b1 : tgF op = true → bAt f.has 1 = 116
 c0 : ¬ callB op = true → bAt f.has 2 ∈ plainW
 c1 : callB op = true → bAt f.has 2 = 121
 n : (f.name = kindO ∨ f.name = kindC) ↔ (op = 8 ∨ op = 41)
theorem lett {e : Bool} {op : Int} (h : (formF e op).known = true) : Lett op (formF e op) := by
 obtain ⟨n, rfl, hn⟩ : ∃ n : Nat, op = n ∧ n < 48 := by
  by_cases g : op < 0 ∨ 48 ≤ op
  ·rw [formF_out e g] at h; cases h
  ·exact ⟨op.toNat, by omega, by omega⟩
 have ht : lettB n (formF e n) = true := by
  have := List.all_eq_true.1 lett_low n (List.mem_range.2 hn)
  rw [Bool.and_eq_true] at this
  cases e
  ·exact this.2
  ·exact this.1
 unfold lettB at ht
 rw [h] at ht
 simp only [Bool.not_true, Bool.false_or, Bool.and_eq_true, List.contains_iff_mem] at ht
 obtain ⟨⟨⟨h1, h2⟩, h3⟩, h4⟩ := ht
 refine ⟨h1, fun g => ?_, fun g => ?_, fun g => ?_, fun g => ?_, ?_⟩
 ·rw [if_neg g] at h2; simpa using h2
 ·rw [if_pos g] at h2; simpa using h2
 ·rw [if_neg g] at h3; simpa using h3
 ·rw [if_pos g] at h3; simpa using h3
 ·simp only [beq_iff_eq, decide_eq_decide] at h4
  exact h4.trans (by omega)
theorem may_plain {w : Int} (h : w ∈ plainW) (nC nN nC' nN' : Nat) (x : Int) : mayF nC nN w x = mayF nC' nN' w x := by
 simp only [plainW, List.mem_cons, List.not_mem_nil, or_false] at h
 rcases h with rfl | rfl | rfl | rfl | rfl | rfl | rfl | rfl | rfl | rfl | rfl | rfl | rfl | rfl | rfl <;> rfl
theorem may_116 {nC nN : Nat} {x : Int} (h : 0 ≤ x ∧ x < nC) : mayF nC nN 116 x = true := by
 show inF x 0 ((nC : Int) - 1) = true
 simp only [inF, Bool.and_eq_true, decide_eq_true_eq]; omega
theorem may_121 {nC nN : Nat} {x : Int} (h : 0 ≤ x ∧ x < nN) : mayF nC nN 121 x = true := by
 show inF x 0 ((nN : Int) - 1) = true
 simp only [inF, Bool.and_eq_true, decide_eq_true_eq]; omega
theorem right_else {e : Bool} {W C' : List InsM} {M N : List Int} {j k : Nat} (h : rightF e W M j = true) (hi : insAt C' k = insAt W j) (hu : ¬ ((insAt W j).op = 8 ∨ (insAt W j).op = 41)) (hb : tgF (insAt W j).op = true → 0 ≤ (insAt W j).b ∧ (insAt W j).b < C'.length) (hc : callB (insAt W j).op = true → 0 ≤ (insAt W j).c ∧ (insAt W j).c < N.length) : rightF e C' N k = true := by
 obtain ⟨h1, h2, h3, h4, h5⟩ := right_parts h
 have T := lett h1
 generalize insAt W j = x at *
 unfold rightF mayB
 dsimp only
 rw [hi, h1]
 have g2 : mayF C'.length N.length (bAt (formF e x.op).has 0) x.a = true := by rw [may_plain T.a _ _ W.length M.length]; exact h2
 have g3 : mayF C'.length N.length (bAt (formF e x.op).has 1) x.b = true := by
  by_cases gt : tgF x.op = true
  ·rw [T.b1 gt]; exact may_116 (hb gt)
  ·rw [may_plain (T.b0 gt) _ _ W.length M.length]; exact h3
 have g4 : mayF C'.length N.length (bAt (formF e x.op).has 2) x.c = true := by
  by_cases gt : callB x.op = true
  ·rw [T.c1 gt]; exact may_121 (hc gt)
  ·rw [may_plain (T.c0 gt) _ _ W.length M.length]; exact h4
 have g5 : restF (formF e x.op).name C' k x = true := by
  have hn : ¬ ((formF e x.op).name = kindO ∨ (formF e x.op).name = kindC) := fun g => hu (T.n.1 g)
  unfold restF at h5 ⊢
  rw [if_neg hn] at h5 ⊢
  exact h5
 rw [g2, g3, g4, g5]
 rfl
theorem right_same {e : Bool} {C C' : List InsM} {N : List Int} {k : Nat} (hr : ∀ k, k < C.length → rightF e C N k = true) (hk : k < C.length) (hle : C.length ≤ C'.length) (hi : insAt C' k = insAt C k) (ha : ∀ j, j < C.length → (insAt C j).op = 9 → insAt C' j = insAt C j) : rightF e C' N k = true ∧ waysF C' k (insAt C k) = waysF C k (insAt C k) := by
 have h := hr k hk
 by_cases hu : (insAt C k).op = 8 ∨ (insAt C k).op = 41
 ·obtain ⟨a1, a2, a3, a4⟩ := right_arms h hu
  have hin : ∀ i : Nat, (i : Int) < (insAt C k).a → insAt C' (k + 1 + i) = insAt C (k + 1 + i) := fun i hi2 => ha _ (by omega) (armsOK_all a4 _ (List.mem_of_getElem? (armsL_get hi2 a3)))
  have hlen : ∀ X : List InsM, (k : Int) + (insAt C k).a < X.length → (armsL X k (insAt C k).a).length = (insAt C k).a.toNat := fun X hX => by
   unfold armsL
   rw [List.length_drop, List.length_take]; omega
  have hL : armsL C' k (insAt C k).a = armsL C k (insAt C k).a := by
   refine List.ext_getElem? fun i => ?_
   by_cases hi2 : (i : Int) < (insAt C k).a
   ·rw [armsL_get hi2 (by omega), armsL_get hi2 a3, hin i hi2]
   ·rw [List.getElem?_eq_none (by rw [hlen C' (by omega)]; omega), List.getElem?_eq_none (by rw [hlen C a3]; omega)]
  refine ⟨?_, ?_⟩
  ·obtain ⟨h1, h2, h3, h4, h5⟩ := right_parts h
   have T := lett h1
   have hn := T.n.2 hu
   have q3 : mayF C'.length N.length (bAt (formF e (insAt C k).op).has 1) (insAt C k).b = true := by
    by_cases gt : tgF (insAt C k).op = true
    ·rw [T.b1 gt] at h3 ⊢
     have := may_t h3
     exact may_116 (by omega)
    ·rw [may_plain (T.b0 gt) _ _ C.length N.length]; exact h3
   have q4 : mayF C'.length N.length (bAt (formF e (insAt C k).op).has 2) (insAt C k).c = true := by
    by_cases gt : callB (insAt C k).op = true
    ·rw [T.c1 gt] at h4 ⊢
     exact h4
    ·rw [may_plain (T.c0 gt) _ _ C.length N.length]; exact h4
   unfold rightF mayB
   dsimp only
   rw [hi, h1, q3, q4, may_plain T.a C'.length N.length C.length N.length, h2, restF_O hn, if_neg (by omega), hL, a4]
   rfl
  ·have e1 : ¬ (insAt C k).op = 19 := by omega
   have e2 : ¬ ((insAt C k).op = 20 ∨ (insAt C k).op = 9) := by omega
   unfold waysF
   rw [if_neg e1, if_neg e2, if_pos hu, if_neg e1, if_neg e2, if_pos hu]
   refine List.map_congr_left fun i hi2 => ?_
   rw [List.mem_range] at hi2
   rw [wayArm_eq (by omega), wayArm_eq (by omega), hin i (by omega)]
 ·refine ⟨right_else h hi hu (fun ht => ?_) (fun hc => ?_), ?_⟩
  ·obtain ⟨h1, _, h3, _⟩ := right_parts h
   rw [(lett h1).b1 ht] at h3
   have := may_t h3
   omega
  ·obtain ⟨h1, _, _, h4, _⟩ := right_parts h
   rw [(lett h1).c1 hc] at h4
   exact may_y h4
  ·unfold waysF
   simp only [if_neg hu]
def repB (l : List Int) (C W : List InsM) (nN i : Nat) : Bool :=
 decide (l.getD i 0 = -1) && !decide ((insAt C i).op = 9) && !decide ((insAt W i).op = 9) && !decide ((insAt W i).op = 8) && !decide ((insAt W i).op = 41) && !(tgF (insAt W i).op && decide ((C.length : Int) ≤ (insAt W i).b)) && !(callB (insAt W i).op && decide ((nN : Int) ≤ (insAt W i).c))
def deadC (l : List Int) (C W : List InsM) (nN i : Nat) : List InsM := C.mapIdx fun j y => if j < i ∧ repB l C W nN j = true then insAt W j else y
theorem deadC_len (l : List Int) (C W : List InsM) (nN i : Nat) : (deadC l C W nN i).length = C.length := by simp [deadC]
theorem deadC_at {l : List Int} {C W : List InsM} {nN i k : Nat} (hk : k < C.length) : insAt (deadC l C W nN i) k = if k < i ∧ repB l C W nN k = true then insAt W k else insAt C k := by
 simp [insAt, deadC, List.getD, hk]
theorem deadC_zero (l : List Int) (C W : List InsM) (nN : Nat) : deadC l C W nN 0 = C := by
 refine List.ext_getElem? fun j => ?_
 rw [deadC, List.getElem?_mapIdx]
 cases C[j]? <;> simp
theorem deadC_no {l : List Int} {C W : List InsM} {nN i : Nat} (h : repB l C W nN i = false) : deadC l C W nN (i + 1) = deadC l C W nN i := by
 refine List.ext_getElem? fun j => ?_
 rw [deadC, deadC, List.getElem?_mapIdx, List.getElem?_mapIdx]
 cases C[j]? with
 | none => rfl
 | some y =>
  by_cases hj : j = i
  ·subst hj; simp [h]
  ·have : (j < i + 1 ∧ repB l C W nN j = true) ↔ (j < i ∧ repB l C W nN j = true) := by
    constructor <;> rintro ⟨h1, h2⟩ <;> exact ⟨by omega, h2⟩
   simp [this]
theorem deadC_yes {l : List Int} {C W : List InsM} {nN i : Nat} (h : repB l C W nN i = true) (hi : i < C.length) : deadC l C W nN (i + 1) = (deadC l C W nN i).set i (insAt W i) := by
 refine List.ext_getElem? fun j => ?_
 by_cases hj : j = i
 ·subst hj
  rw [List.getElem?_set_self (by rw [deadC_len]; exact hi), deadC, List.getElem?_mapIdx, List.getElem?_eq_getElem hi]
  simp [h]
 ·rw [List.getElem?_set_ne (Ne.symm hj), deadC, deadC, List.getElem?_mapIdx, List.getElem?_mapIdx]
  cases C[j]? with
  | none => rfl
  | some y =>
   have : (j < i + 1 ∧ repB l C W nN j = true) ↔ (j < i ∧ repB l C W nN j = true) := by
    constructor <;> rintro ⟨h1, h2⟩ <;> exact ⟨by omega, h2⟩
   simp [this]
def endC : List InsM := [⟨20, 0, 0, 0⟩, ⟨19, 0, 0, 0⟩, ⟨20, 0, 0, 0⟩]
theorem insAt_left {A B : List InsM} {k : Nat} (h : k < A.length) : insAt (A ++ B) k = insAt A k := by simp [insAt, List.getD, List.getElem?_append_left h]
theorem insAt_right {A B : List InsM} (k : Nat) : insAt (A ++ B) (A.length + k) = insAt B k := by simp [insAt, List.getD, List.getElem?_append_right]
theorem dead_ok {e : Bool} {C W : List InsM} {N M : List Int} (hv : (verF e C N).1 = 0) (hW : chkF e W M = (0, 0)) (h100 : C.length ≤ 1000000) (n : Nat) (hn : n ≤ W.length) :
  verF e (deadC (shF e C N) C W N.length n ++ endC) N = (0, 0) ∧ shF e (deadC (shF e C N) C W N.length n ++ endC) N = shF e C N ++ [-1, -1, -1] := by
 obtain ⟨hc, _⟩ := ver_ok hv
 obtain ⟨hlen, hr, hN⟩ := chkF_ok hc
 obtain ⟨_, hrW, _⟩ := chkF_ok hW
 have hdl := deadC_len (shF e C N) C W N.length n
 have hat : ∀ k, k < C.length → insAt (deadC (shF e C N) C W N.length n ++ endC) k = if k < n ∧ repB (shF e C N) C W N.length k = true then insAt W k else insAt C k := fun k hk => by rw [insAt_left (by rw [hdl]; exact hk), deadC_at hk]
 have hrep : ∀ k, repB (shF e C N) C W N.length k = true → (shF e C N).getD k 0 = -1 ∧ (insAt C k).op ≠ 9 ∧ ((insAt W k).op ≠ 8 ∧ (insAt W k).op ≠ 41) ∧ (tgF (insAt W k).op = true → (insAt W k).b < C.length) ∧ (callB (insAt W k).op = true → (insAt W k).c < N.length) := fun k h => by
  unfold repB at h
  simp only [Bool.and_eq_true, Bool.not_eq_true', decide_eq_true_eq, decide_eq_false_iff_not] at h
  obtain ⟨⟨⟨⟨⟨⟨h1, h2⟩, _⟩, h4⟩, h5⟩, h6⟩, h7⟩ := h
  refine ⟨h1, h2, ⟨h4, h5⟩, fun g => ?_, fun g => ?_⟩
  ·rw [g] at h6; simpa using h6
  ·rw [g] at h7; simpa using h7
 generalize hCC : deadC (shF e C N) C W N.length n ++ endC = C' at *
 have hl' : C'.length = C.length + 3 := by rw [← hCC, List.length_append, hdl]; rfl
 have harm : ∀ j, j < C.length → (insAt C j).op = 9 → insAt C' j = insAt C j := fun j hj h9 => by
  rw [hat j hj]
  by_cases h : j < n ∧ repB (shF e C N) C W N.length j = true
  ·exact absurd h9 (hrep j h.2).2.1
  ·rw [if_neg h]
 have hend : ∀ j : Nat, insAt C' (C.length + j) = insAt endC j := fun j => by
  have := insAt_right (A := deadC (shF e C N) C W N.length n) (B := endC) j
  rw [hCC, hdl] at this
  exact this
 have hright : ∀ k, k < C'.length → rightF e C' N k = true := fun k hk => by
  by_cases hlt : k < C.length
  ·by_cases h : k < n ∧ repB (shF e C N) C W N.length k = true
   ·have hi := hat k hlt
    rw [if_pos h] at hi
    obtain ⟨_, _, g1, g2, g3⟩ := hrep k h.2
    have hw := hrW k (by omega)
    refine right_else hw hi (fun g => by omega) (fun ht => ?_) (fun hcc => ?_)
    ·obtain ⟨q1, _, q3, _⟩ := right_parts hw
     rw [(lett q1).b1 ht] at q3
     have := g2 ht
     have := may_t q3
     omega
    ·obtain ⟨q1, _, _, q4, _⟩ := right_parts hw
     rw [(lett q1).c1 hcc] at q4
     have := g3 hcc
     have := may_y q4
     omega
   ·have hi := hat k hlt
    rw [if_neg h] at hi
    exact (right_same hr hlt (by omega) hi harm).1
  ·obtain ⟨j, rfl⟩ : ∃ j, k = C.length + j := ⟨k - C.length, by omega⟩
   have hj : j < 3 := by omega
   have h116 : mayF C'.length N.length 116 0 = true := may_116 (by omega)
   unfold rightF mayB
   dsimp only
   rw [hend j]
   obtain rfl | rfl | rfl : j = 0 ∨ j = 1 ∨ j = 2 := by omega
   ·cases e <;> rfl
   ·cases e
    ·show (true && (true && mayF C'.length N.length 116 0 && true) && true) = true
     rw [h116]; rfl
    ·show (true && (true && mayF C'.length N.length 116 0 && true) && true) = true
     rw [h116]; rfl
   ·cases e <;> rfl
 have hc' : chkF e C' N = (0, 0) := chkF_iff.2 ⟨⟨by omega, hlen.2⟩, hright, fun m hm => by have := hN m hm; omega⟩
 obtain ⟨g1, g2⟩ := dead_sim hv hc' (by omega) fun k hk hne => by
  have hi : insAt C' k = insAt C k := by
   rw [hat k hk]
   by_cases h : k < n ∧ repB (shF e C N) C W N.length k = true
   ·exact absurd (hrep k h.2).1 hne
   ·rw [if_neg h]
  exact ⟨hi, (right_same hr hk (by omega) hi harm).2⟩
 refine ⟨g1, ?_⟩
 rw [g2, hl', show C.length + 3 - C.length = 3 by omega]
 rfl
end Go.Proofs.Ytjeplogcfedmeaa
end

import Derived.Test.YtjeplogcfedmeaaRows
import Derived.ProofKit
import Derived.OpenShut
import Derived.ShutString
import Derived.ChangeOld
import Derived.Deep.Slices
import Derived.JoinedCond
import Derived.Test.YtjeplogcfedmeaaP11
set_option linter.all false
section
namespace Go.Proofs.Ytjeplogcfedmeaa
open Go.RowKit
set_option maxRecDepth 100000
set_option maxHeartbeats 8000000
noncomputable def verF (e : Bool) (C : List InsM) (N : List Int) : Int × Int :=
 if (chkF e C N).1 ≠ 0 then chkF e C N
 else match firstF e C N with
  | .error j => (150, j)
  | .ok _ => if 0 ≤ secF e C N then (150, secF e C N) else (0, 0)
def outF (L : LkM) : List Int := L.map fun s => match s with | some s => shapeF s | none => -1
noncomputable def shF (e : Bool) (C : List InsM) (N : List Int) : List Int :=
 if (verF e C N).1 ≠ 0 then []
 else match firstF e C N with
  | .error _ => []
  | .ok r => outF r.1
theorem repl_sts (n : Nat) : (List.replicate n [vI 0, .v (.int .u64 0), vI 0, vI 0, vI 0, vI 0] : List (List AV)) = encSts (List.replicate n none) := by simp [encSts, encSt, StM.zero]
theorem repl_has (n : Nat) : (List.replicate n [vB false] : List (List AV)) = encHas (List.replicate n none) := by simp [encHas]
theorem looked_bad (e : Bool) (C : List InsM) (N : List Int) (hC : C.length ≤ 140737488355328) (hN : N.length ≤ 140737488355328) (hv : (verF e C N).1 ≠ 0) :
  GCall Try.prog 19 [pG e C N] [] (.tup [.v (.pointer none), vFa (verF e C N)]) [] := by
 have hck := check_any e C N hC hN
 unfold verF at hv ⊢
 by_cases hc : (chkF e C N).1 = 0
 ·have hc0 := chkF_err.1 hc
  have hok := codeOK_of hc0
  have hl := hok.len
  rw [if_neg (by simpa using hc)] at hv ⊢
  rw [hc0] at hck
  have fe := first_E e C N hok
  unfold lkO lkV at fe
  simp only [List.length_replicate, List.length_nil] at fe
  have hr1 := repl_sts C.length
  have hr2 := repl_has C.length
  have sec := fun hlk => second_E e C N hok hlk
  have hlk : ∀ r, firstF e C N = .ok r → LookedOK C N := fun r h => looked_of hc0 h
  generalize firstF e C N = R at fe hv hlk ⊢
  generalize encSts (List.replicate C.length none) = rows1 at fe hr1
  generalize encHas (List.replicate C.length none) = rows2 at fe hr2
  unfold pG at *
  cases R with
  | error j =>
   dsimp only
   refine go_fnG (tyOf_ok _) Try.func19 rfl rfl (by rw [Try.results19]) Try.ntmps19 rfl fun E => ?_
   (repeat' (first | exact trivial | (refine aw_nilvar 23 5 3 1 15002 (.inr (by decide)) (by decide) rfl rfl ?_) | (with_reducible first | apply awA | apply awC | apply awF) | (refine aw_draw (id := 4) (t := (.node [0, 1, 2, 3, 5, 6, 7] [(.node [4, 8, 9, 10, 11] []), (.node [8, 4, 9, 10, 11] [])])) (drR [1] [] []) mixed (by kernel_rfl) (by kernel_rfl) (fun _ _ h => h) ?_) | (refine at_done (by simp only [go_sem]; exact rfl) ?_) | (refine at_alt (by simp only [go_sem]; exact rfl) ?_) | refine qalt_normal ?_ | refine ats_cons ?_ ?_ | exact ats_nil | ((with_reducible first | apply awn | apply awo | apply awp | refine awQ ?_); intro r hr; simp only [go_sem, Nat.reduceBEq, Nat.reduceLT, Nat.reduceLeDiff, Nat.reduceAdd, Nat.reduceMul, encIs_len, AState.nilvar, hr1, hr2, Int.cast_ofNat_Int] at hr; subst hr; (first | refine caA (fun _ => hck) rfl ?_ ?_ ?_ | refine awV ?_ ?_ | refine awW ?_ ?_ | (refine condK (fun h => ?_) (fun h => ?_) <;> (try simp only [go_sem, reduceCtorEq] at h) <;> (try (exfalso; omega))))) | (refine go_callGE [(23, 10000), (17, 15000), (21, 15001), (15002, 15002)] [(10000, 23), (15000, 17), (15001, 21), (15002, 15002)] [17, 21, 15002] [23] ?_; intro r hr; simp only [go_sem, Nat.reduceBEq, Nat.reduceLT] at hr; subst hr; refine callGV (fe) rfl rfl (by first | exact .inl rfl | exact .inr rfl) ?_ (.inl rfl) (fun q hq => hold ?_)))) <;> (try omega)
   all_goals
    refine ⟨?_⟩
    obtain ⟨r, L, W⟩ := q
    obtain ⟨_, rfl, h0⟩ := hq
    have e1 : (r < 0) = False := eq_false (by omega)
    have e2 : (r ≥ 0) = True := eq_true h0
    (repeat' (first | exact trivial | (with_reducible first | apply awA | apply awC | apply awD | apply awF | apply awG) | ((with_reducible first | apply awn | apply awo | refine awQ ?_ | refine awT ?_); intro r hr; simp only [go_sem, Nat.reduceBEq, Nat.reduceLT, Nat.reduceLeDiff, Nat.reduceAdd, Nat.reduceMul, e1, e2] at hr; subst hr; (first | refine awV ?_ ?_ | refine endGK ?_ ?_ ?_ | (refine condK (fun h => ?_) (fun h => ?_) <;> (try simp only [go_sem, reduceCtorEq] at h) <;> (try (exfalso; omega))))))) <;> (try omega)
    all_goals first | exact AV.up_rfl _ | exact obUp_nil
  | ok r0 =>
   dsimp only at hv ⊢
   have hs0 : 0 ≤ secF e C N := by
    by_cases h : 0 ≤ secF e C N
    ·exact h
    ·rw [if_neg h] at hv; exact absurd rfl hv
   rw [if_pos hs0]
   have sec' := sec (hlk _ rfl)
   have hsp := secF_spec e C N
   generalize secF e C N = sr at hs0 hsp ⊢
   have e1 : ((-1 : Int) < 0) = True := eq_true (by decide)
   have e2 : (sr ≥ 0) = True := eq_true hs0
   clear hlk sec hv
   refine go_fnG (tyOf_ok _) Try.func19 rfl rfl (by rw [Try.results19]) Try.ntmps19 rfl fun E => ?_
   (repeat' (first | exact trivial | (refine aw_nilvar 23 5 3 1 15002 (.inr (by decide)) (by decide) rfl rfl ?_) | (with_reducible first | apply awA | apply awC | apply awF) | (refine aw_draw (id := 4) (t := (.node [0, 1, 2, 3, 5, 6, 7] [(.node [4, 8, 9, 10, 11] []), (.node [8, 4, 9, 10, 11] [])])) (drR [1] [] []) mixed (by kernel_rfl) (by kernel_rfl) (fun _ _ h => h) ?_) | (refine at_done (by simp only [go_sem]; exact rfl) ?_) | (refine at_alt (by simp only [go_sem]; exact rfl) ?_) | refine qalt_normal ?_ | refine ats_cons ?_ ?_ | exact ats_nil | ((with_reducible first | apply awn | apply awo | apply awp | refine awQ ?_); intro r hr; simp only [go_sem, Nat.reduceBEq, Nat.reduceLT, Nat.reduceLeDiff, Nat.reduceAdd, Nat.reduceMul, encIs_len, AState.nilvar, hr1, hr2, Int.cast_ofNat_Int] at hr; subst hr; (first | refine caA (fun _ => hck) rfl ?_ ?_ ?_ | refine awV ?_ ?_ | refine awW ?_ ?_ | (refine condK (fun h => ?_) (fun h => ?_) <;> (try simp only [go_sem, reduceCtorEq] at h) <;> (try (exfalso; omega))))) | (refine go_callGE [(23, 10000), (17, 15000), (21, 15001), (15002, 15002)] [(10000, 23), (15000, 17), (15001, 21), (15002, 15002)] [17, 21, 15002] [23] ?_; intro r hr; simp only [go_sem, Nat.reduceBEq, Nat.reduceLT] at hr; subst hr; refine callGV (fe) rfl rfl (by first | exact .inl rfl | exact .inr rfl) ?_ (.inl rfl) (fun q hq => hold ?_)))) <;> (try omega)
   all_goals
    refine ⟨?_⟩
    obtain ⟨r, L, W⟩ := q
    obtain ⟨_, rfl, rfl⟩ := hq
    (repeat' (first | exact trivial | (with_reducible first | apply awA | apply awF) | ((with_reducible first | apply awn | apply awo | refine awQ ?_); intro r hr; simp only [go_sem, Nat.reduceBEq, Nat.reduceLT, Nat.reduceLeDiff, Nat.reduceAdd, Nat.reduceMul, e1] at hr; subst hr; (first | refine awV ?_ ?_ | refine awW ?_ ?_ | (refine condK (fun h => ?_) (fun h => ?_) <;> (try simp only [go_sem, reduceCtorEq] at h) <;> (try (exfalso; omega))))) | (refine go_callGE [] [] [] [] ?_; intro r hr; simp only [go_sem, Nat.reduceBEq, Nat.reduceLT] at hr; subst hr; refine callGV (sec') rfl rfl (by first | exact .inl rfl | exact .inr rfl) ?_ (.inl rfl) (fun q hq => hold ?_)))) <;> (try omega)
    refine ⟨?_⟩
    have hqq := hq.uniq hsp
    subst hqq
    (repeat' (first | exact trivial | (with_reducible first | apply awA | apply awD | apply awF | apply awG) | ((with_reducible first | apply awn | apply awo | refine awQ ?_ | refine awT ?_); intro r hr; simp only [go_sem, Nat.reduceBEq, Nat.reduceLT, Nat.reduceLeDiff, Nat.reduceAdd, Nat.reduceMul, e2] at hr; subst hr; (first | refine awV ?_ ?_ | refine endGK ?_ ?_ ?_ | (refine condK (fun h => ?_) (fun h => ?_) <;> (try simp only [go_sem, reduceCtorEq] at h) <;> (try (exfalso; omega))))))) <;> (try omega)
    all_goals first | exact AV.up_rfl _ | exact obUp_nil
 ·rw [if_pos (by simpa using hc)] at hv ⊢
  generalize chkF e C N = ch at hck hc ⊢
  obtain ⟨c1, c2⟩ := ch
  have e1 : (c1 = 0) = False := eq_false hc
  unfold pG at *
  refine go_fnG (tyOf_ok _) Try.func19 rfl rfl (by rw [Try.results19]) Try.ntmps19 rfl fun E => ?_
  (repeat' (first | exact trivial | (with_reducible first | apply awA | apply awD | apply awF | apply awG) | (refine aw_draw (id := 3) (t := (.node [0, 1, 2] [])) (drR [4] [] []) mixed (by kernel_rfl) (by kernel_rfl) (fun _ _ h => h) ?_) | (refine at_done (by simp only [go_sem]; exact rfl) ?_) | (refine at_alt (by simp only [go_sem]; exact rfl) ?_) | refine qalt_normal ?_ | refine ats_cons ?_ ?_ | exact ats_nil | ((with_reducible first | apply awn | apply awo | apply awp | refine awQ ?_ | refine awT ?_); intro r hr; simp only [go_sem, Nat.reduceBEq, Nat.reduceLT, Nat.reduceLeDiff, Nat.reduceAdd, Nat.reduceMul, e1] at hr; subst hr; (first | refine caA (fun _ => hck) rfl ?_ ?_ ?_ | refine awV ?_ ?_ | refine endGK ?_ ?_ ?_ | (refine condK (fun h => ?_) (fun h => ?_) <;> (try simp only [go_sem, reduceCtorEq] at h) <;> (try (exfalso; omega))))))) <;> (try omega)
  all_goals first | exact AV.up_rfl _ | exact obUp_nil
def lkR (e : Bool) (C : List InsM) (N : List Int) (L : LkM) (W : List Int) : List (Nat × AObj) :=
 [(23, .var [vB e, .lst 4 (encIs C), .lst 1 (v8 N), .ref 62 6 17 0 C.length, .ref 4 1 21 0 C.length, .ref 3 1 15002 0 W.length]), (17, .row 62 6 (encSts L)), (21, .row 4 1 (encHas L)), (15002, .row 3 1 (v8 W))]
theorem ver_ok {e : Bool} {C : List InsM} {N : List Int} (hv : (verF e C N).1 = 0) : chkF e C N = (0, 0) ∧ (∃ r, firstF e C N = .ok r) ∧ secF e C N < 0 ∧ verF e C N = (0, 0) := by
 unfold verF at hv ⊢
 by_cases hc : (chkF e C N).1 = 0
 ·rw [if_neg (by simpa using hc)] at hv ⊢
  refine ⟨chkF_err.1 hc, ?_⟩
  cases hf : firstF e C N with
  | error j => rw [hf] at hv; cases hv
  | ok r =>
   rw [hf] at hv
   dsimp only at hv ⊢
   by_cases h : 0 ≤ secF e C N
   ·rw [if_pos h] at hv; cases hv
   ·rw [if_neg h]; exact ⟨⟨r, rfl⟩, by omega, rfl⟩
 ·rw [if_pos (by simpa using hc)] at hv; exact absurd hv hc
theorem looked_ok (e : Bool) (C : List InsM) (N : List Int) (hv : (verF e C N).1 = 0) {r : LkM × List Nat} (hf : firstF e C N = .ok r) :
  GCallE Try.prog 19 [pG e C N] [] (fun _ : List Int => True) (fun _ => .tup [.ptr 1 23 0 0, vFa (0, 0)]) (fun W => lkR e C N r.1 W) := by
 obtain ⟨hc0, _, hs, _⟩ := ver_ok hv
 have hok := codeOK_of hc0
 have hl := hok.len
 have hck := check_any e C N (by omega) (by have := hok.lenN; omega)
 rw [hc0] at hck
 have fe := first_E e C N hok
 unfold lkO lkV at fe
 simp only [List.length_replicate, List.length_nil] at fe
 have hr1 := repl_sts C.length
 have hr2 := repl_has C.length
 have sec := second_E e C N hok (looked_of hc0 hf)
 rw [hf] at fe
 have hsp := secF_spec e C N
 generalize secF e C N = sr at hs hsp
 generalize encSts (List.replicate C.length none) = rows1 at fe hr1
 generalize encHas (List.replicate C.length none) = rows2 at fe hr2
 have e1 : ((-1 : Int) < 0) = True := eq_true (by decide)
 have e2 : (sr ≥ 0) = False := eq_false (by omega)
 unfold pG at *
 unfold lkR
 refine go_fnE (tyOf_ok _) Try.func19 rfl rfl (by rw [Try.results19]) Try.ntmps19 rfl fun E => ?_
 (repeat' (first | exact trivial | (refine aw_nilvar 23 5 3 1 15002 (.inr (by decide)) (by decide) rfl rfl ?_) | (with_reducible first | apply awA | apply awC | apply awF) | (refine aw_draw (id := 4) (t := (.node [0, 1, 2, 3, 5, 6, 7] [(.node [4, 8, 9, 10, 11] []), (.node [8, 4, 9, 10, 11] [])])) (drR [1] [] []) mixed (by kernel_rfl) (by kernel_rfl) (fun _ _ h => h) ?_) | (refine at_done (by simp only [go_sem]; exact rfl) ?_) | (refine at_alt (by simp only [go_sem]; exact rfl) ?_) | refine qalt_normal ?_ | refine ats_cons ?_ ?_ | exact ats_nil | ((with_reducible first | apply awn | apply awo | apply awp | refine awQ ?_); intro r hr; simp only [go_sem, Nat.reduceBEq, Nat.reduceLT, Nat.reduceLeDiff, Nat.reduceAdd, Nat.reduceMul, encIs_len, AState.nilvar, hr1, hr2, Int.cast_ofNat_Int] at hr; subst hr; (first | refine caA (fun _ => hck) rfl ?_ ?_ ?_ | refine awV ?_ ?_ | refine awW ?_ ?_ | (refine condK (fun h => ?_) (fun h => ?_) <;> (try simp only [go_sem, reduceCtorEq] at h) <;> (try (exfalso; omega))))) | (refine go_callGE [(23, 10000), (17, 15000), (21, 15001), (15002, 15002)] [(10000, 23), (15000, 17), (15001, 21), (15002, 15002)] [17, 21, 15002] [23] ?_; intro r hr; simp only [go_sem, Nat.reduceBEq, Nat.reduceLT] at hr; subst hr; refine callGV (fe) rfl rfl (by first | exact .inl rfl | exact .inr rfl) ?_ (.inl rfl) (fun q hq => hold ?_)))) <;> (try omega)
 all_goals
  refine ⟨?_⟩
  obtain ⟨r1, L, W⟩ := q
  obtain ⟨hL, rfl, rfl⟩ := hq
  simp only at hL
  (repeat' (first | exact trivial | (with_reducible first | apply awA | apply awF) | ((with_reducible first | apply awn | apply awo | refine awQ ?_); intro r hr; simp only [go_sem, Nat.reduceBEq, Nat.reduceLT, Nat.reduceLeDiff, Nat.reduceAdd, Nat.reduceMul, e1] at hr; subst hr; (first | refine awV ?_ ?_ | refine awW ?_ ?_ | (refine condK (fun h => ?_) (fun h => ?_) <;> (try simp only [go_sem, reduceCtorEq] at h) <;> (try (exfalso; omega))))) | (refine go_callGE [] [] [] [] ?_; intro r hr; simp only [go_sem, Nat.reduceBEq, Nat.reduceLT] at hr; subst hr; refine callGV (sec) rfl rfl (by first | exact .inl rfl | exact .inr rfl) ?_ (.inl rfl) (fun q hq => hold ?_)))) <;> (try omega)
  refine ⟨?_⟩
  have hqq := hq.uniq hsp
  subst hqq
  (repeat' (first | exact trivial | (with_reducible first | apply awA | apply awC | apply awD | apply awF) | ((with_reducible first | apply awn | apply awo | refine awQ ?_ | refine aweR ?_); intro r hr; simp only [go_sem, Nat.reduceBEq, Nat.reduceLT, Nat.reduceLeDiff, Nat.reduceAdd, Nat.reduceMul, e2, hL] at hr; subst hr; (first | refine awV ?_ ?_ | refine endEK ?_ ?_ | (refine condK (fun h => ?_) (fun h => ?_) <;> (try simp only [go_sem, reduceCtorEq] at h) <;> (try (exfalso; omega))))))) <;> (try omega)
  all_goals refine ⟨W, trivial, AV.up_rfl _, ?_⟩
  all_goals repeat first | exact obUp_nil | refine obUp_cons rfl ?_
theorem verify_any (e : Bool) (C : List InsM) (N : List Int) (hC : C.length ≤ 140737488355328) (hN : N.length ≤ 140737488355328) : PCall Try.prog 10 [pG e C N] (fun r => r = vFa (verF e C N)) := by
 have key : GCall Try.prog 10 [pG e C N] [] (vFa (verF e C N)) [] := by
  by_cases hv : (verF e C N).1 = 0
  ·obtain ⟨_, ⟨r, hf⟩, _, h4⟩ := ver_ok hv
   have hlk := looked_ok e C N hv hf
   rw [h4]
   unfold pG lkR at *
   refine go_fnG (tyOf_ok _) Try.func10 rfl rfl (by rw [Try.results10]) Try.ntmps10 rfl fun E => ?_
   (repeat' (first | exact trivial | (with_reducible first | apply awA | apply awD | apply awF) | ((with_reducible first | apply awn | apply awo | refine awT ?_); intro r hr; simp only [go_sem, Nat.reduceBEq, Nat.reduceLT, Nat.reduceLeDiff, Nat.reduceAdd, Nat.reduceMul] at hr; subst hr; (first | refine awV ?_ ?_ | refine awW ?_ ?_ | refine endGK ?_ ?_ ?_)) | (refine go_callGE [] [] [] [] ?_; intro r hr; simp only [go_sem, Nat.reduceBEq, Nat.reduceLT] at hr; subst hr; refine callGV (hlk) rfl rfl (by first | exact .inl rfl | exact .inr rfl) ?_ (.inl rfl) (fun q hq => ?_)))) <;> (try omega)
   all_goals first | exact AV.up_rfl _ | exact obUp_nil
  ·have hlk := looked_bad e C N hC hN hv
   generalize verF e C N = f at hlk ⊢
   unfold pG at *
   refine go_fnG (tyOf_ok _) Try.func10 rfl rfl (by rw [Try.results10]) Try.ntmps10 rfl fun E => ?_
   (repeat' (first | exact trivial | (with_reducible first | apply awA | apply awD | apply awF) | ((with_reducible first | apply awn | apply awo | refine awT ?_); intro r hr; simp only [go_sem, Nat.reduceBEq, Nat.reduceLT, Nat.reduceLeDiff, Nat.reduceAdd, Nat.reduceMul] at hr; subst hr; (first | refine awV ?_ ?_ | refine awW ?_ ?_ | refine endGK ?_ ?_ ?_)) | (refine go_callGE [] [] [] [] ?_; intro r hr; simp only [go_sem, Nat.reduceBEq, Nat.reduceLT] at hr; subst hr; refine callGK (hlk) rfl rfl (by first | exact .inl rfl | exact .inr rfl) ?_ (.inl rfl) ?_))) <;> (try omega)
   all_goals first | exact AV.up_rfl _ | exact obUp_nil
 exact key.toP ⟨trivial, trivial, trivial⟩
end Go.Proofs.Ytjeplogcfedmeaa
end
section
namespace Go.Proofs.Ytjeplogcfedmeaa
open Go.RowKit
set_option maxRecDepth 100000
set_option maxHeartbeats 8000000
def outV : Option StM → Int
 | some s => shapeF s
 | none => -1
theorem outF_eq (L : LkM) : outF L = L.map outV := by
 unfold outF
 exact List.map_congr_left fun s _ => by cases s <;> rfl
theorem outF_len (L : LkM) : (outF L).length = L.length := by simp [outF]
theorem outF_take {L : LkM} {i : Nat} (h : i < L.length) : (outF L).take (i + 1) = (outF L).take i ++ [outV (L.getD i none)] := by
 rw [List.take_succ_eq_append_getElem (by rw [outF_len]; exact h)]
 simp [outF_eq, List.getD, h]
theorem shape_G (e : Bool) (C : List InsM) (N : List Int) (hC : C.length ≤ 140737488355328) (hN : N.length ≤ 140737488355328) :
  GCall Try.prog 14 [pG e C N] [] (.tup [.ref 3 1 21 0 (shF e C N).length, vFa (verF e C N)]) [(21, .row 3 1 (v8 (shF e C N)))] := by
 unfold shF
 by_cases hv : (verF e C N).1 = 0
 ·obtain ⟨hc0, ⟨r, hf⟩, _, h4⟩ := ver_ok hv
  have hlk := looked_ok e C N hv hf
  have hok := codeOK_of hc0
  have hl := hok.len
  rw [if_neg (by simpa using hv), h4, hf]
  dsimp only
  have hL : r.1.length = C.length := by
   obtain ⟨_, hr, hN'⟩ := chkF_ok hc0
   obtain ⟨⟨_, g, _⟩, _⟩ := firstL_ok (fun k hk j hj => (ways_in hr hk j hj).1) hN' (FirstI.init e C) (fun k hk => by rw [init_none] at hk; cases hk) hf
   exact g.len
  generalize r.1 = L at hlk hL ⊢
  have hn0 : (0 : Int) ≤ C.length := by omega
  have zc : ((C.length : Int)).toNat = C.length := by omega
  unfold pG lkR at *
  refine go_fnG (tyOf_ok _) Try.func14 rfl rfl (by rw [Try.results14]) Try.ntmps14 rfl fun E => ?_
  (repeat' (first | exact trivial | (with_reducible first | apply awA | apply awF) | ((with_reducible apply awn); intro r hr; simp only [go_sem, Nat.reduceBEq, Nat.reduceLT, Nat.reduceLeDiff, Nat.reduceAdd, Nat.reduceMul] at hr; subst hr; (first | refine awV ?_ ?_ | refine awW ?_ ?_)) | (refine go_callGE [] [(23, 15010), (17, 15011), (21, 15012), (15002, 15013)] [15010, 15011, 15012, 15013] [] ?_; intro r hr; simp only [go_sem, Nat.reduceBEq, Nat.reduceLT] at hr; subst hr; refine callGV (hlk) rfl rfl (by first | exact .inl rfl | exact .inr rfl) ?_ (.inl rfl) (fun q hq => hold ?_)))) <;> (try omega)
  refine ⟨?_⟩
  have hr0 : (outF L).length = C.length := by rw [outF_len]; exact hL
  rw [hr0]
  (repeat' (first | exact trivial | (with_reducible first | apply awA | apply awB | apply awC | apply awF) | ((with_reducible first | apply awn | apply awo | refine awQ ?_); intro r hr; simp only [go_sem, Nat.reduceBEq, Nat.reduceLT, Nat.reduceLeDiff, Nat.reduceAdd, Nat.reduceMul, encIs_len, Int.toNat_zero, Int.cast_ofNat_Int, Int.reduceLE] at hr; subst hr; (first | refine awV ?_ ?_ | (refine condK (fun h => ?_) (fun h => ?_) <;> (try simp only [go_sem, reduceCtorEq] at h) <;> (try (exfalso; omega))))))) <;> (try omega)
  refine go_loop [1, 3, 4, 5, 6, 25, 26, 27] [1, 3, 5, 15010, 15011, 15012, 21] (fun i : Nat => ⟨[(1, true, .ptr 1 1 0 0), (3, true, .ptr 1 3 0 0), (4, true, .ptr 1 15010 0 0), (5, true, .ptr 1 5 0 0), (6, true, .ref 3 1 21 0 i), (25, true, .ref 62 6 15011 0 C.length), (26, true, vI C.length), (27, true, vI i)],
   [(1, .var [vB e, .lst 4 (encIs C), .lst 1 (v8 N)]), (3, .var [vI 0, vI 0]), (5, .var [vI 0, vI 0]), (15010, .var [vB e, .lst 4 (encIs C), .lst 1 (v8 N), .ref 62 6 15011 0 C.length, .ref 4 1 15012 0 C.length, .ref 3 1 15013 0 q.length]), (15011, .row 62 6 (encSts L)), (15012, .row 4 1 (encHas L)), (21, .row 3 1 (v8 ((outF L).take i)))]⟩)
   (fun i => i ≤ C.length) (fun i => C.length - i) 0 (by simp only [List.take_zero, go_sem, Nat.reduceBEq] <;> exact rfl) (Nat.zero_le _) ?_
  intro i hi
  have hwi := wrap_i64 (n := (i : Int) + 1) (by omega)
  have zi : ((i : Int)).toNat = i := by omega
  by_cases hlt : i < C.length
  ·have e1 : ((i : Int) < (C.length : Int)) = True := eq_true (by omega)
   have gs := encSts_get (L := L) (k := i) (by omega)
   have gh := encHas_get (L := L) (k := i) (by omega)
   have htl : ((outF L).take i).length = i := by rw [List.length_take, hr0]; omega
   have ht : (v8 ((outF L).take i)).take i = v8 ((outF L).take i) := by rw [v8_take, List.take_of_length_le (by omega)]
   have hov := outF_take (L := L) (i := i) (by omega)
   have ha := fun z => v8_app ((outF L).take i) z
   cases hs : L.getD i none with
   | some s =>
    rw [hs] at gh hov
    have hst : stAt L i = s := by unfold stAt; rw [hs]; rfl
    rw [hst] at gs
    have sh := shape_any s
    simp only [Option.isSome_some] at gh
    have hov' : v8 ((outF L).take (i + 1)) = v8 ((outF L).take i) ++ [[vI (shapeF s)]] := by rw [hov]; exact (ha _).symm
    (repeat' (first | exact trivial | (with_reducible first | apply awA | apply awB | apply awC | apply awF | apply awI) | ((with_reducible first | apply awn | apply awo | refine awQ ?_); intro r hr; simp only [go_sem, Nat.reduceBEq, Nat.reduceLT, Nat.reduceLeDiff, Nat.reduceAdd, Nat.reduceMul, Nat.reduceEqDiff, e1, zi, hwi, gs, gh, v8_len, htl, ht, List.length_append, Nat.zero_add] at hr; subst hr; (first | refine caA (fun _ => sh) rfl ?_ ?_ ?_ | refine awV ?_ ?_ | (refine condK (fun h => ?_) (fun h => ?_) <;> (try simp only [go_sem, reduceCtorEq] at h) <;> (try (exfalso; omega))))))) <;> (try omega)
    refine ⟨i + 1, ?_, hlt, by omega⟩
    simp only [hov', go_sem, Nat.reduceBEq]
    try exact rfl
   | none =>
    rw [hs] at gh hov
    simp only [Option.isSome_none] at gh
    have hov' : v8 ((outF L).take (i + 1)) = v8 ((outF L).take i) ++ [[vI (-1)]] := by rw [hov]; exact (ha _).symm
    (repeat' (first | exact trivial | (with_reducible first | apply awA | apply awB | apply awC | apply awF | apply awI) | ((with_reducible first | apply awn | refine awQ ?_); intro r hr; simp only [go_sem, Nat.reduceBEq, Nat.reduceLT, Nat.reduceLeDiff, Nat.reduceAdd, Nat.reduceMul, Nat.reduceEqDiff, e1, zi, hwi, gs, gh, v8_len, htl, ht, List.length_append, Nat.zero_add] at hr; subst hr; (first | refine awV ?_ ?_ | (refine condK (fun h => ?_) (fun h => ?_) <;> (try simp only [go_sem, reduceCtorEq] at h) <;> (try (exfalso; omega))))))) <;> (try omega)
    refine ⟨i + 1, ?_, hlt, by omega⟩
    simp only [hov', go_sem, Nat.reduceBEq]
    try exact rfl
  ·have e1 : ((i : Int) < (C.length : Int)) = False := eq_false (by omega)
   have hie : i = C.length := by omega
   subst hie
   have ht : (outF L).take C.length = outF L := List.take_of_length_le (by omega)
   rw [ht]
   (repeat' (first | exact trivial | (with_reducible first | apply awA | apply awD | apply awE | apply awF | apply awH | apply awK) | (refine aw_draw (id := 12) (t := (.node [0, 1, 2, 3] [])) (drR [5] [] []) mixed (by kernel_rfl) (by kernel_rfl) (fun _ _ h => h) ?_) | (refine at_done (by simp only [go_sem]; exact rfl) ?_) | (refine at_alt (by simp only [go_sem]; exact rfl) ?_) | refine qalt_normal ?_ | refine ats_cons ?_ ?_ | exact ats_nil | ((with_reducible first | apply awn | apply awp | refine awQ ?_ | refine awT ?_); intro r hr; simp only [go_sem, Nat.reduceBEq, Nat.reduceLT, Nat.reduceLeDiff, Nat.reduceAdd, Nat.reduceMul, e1] at hr; subst hr; (first | refine awV ?_ ?_ | refine endGK ?_ ?_ ?_ | (refine condK (fun h => ?_) (fun h => ?_) <;> (try simp only [go_sem, reduceCtorEq] at h) <;> (try (exfalso; omega))))))) <;> (try omega)
   all_goals first | exact AV.up_rfl _ | exact AV.up_dead _ | (repeat first | exact obUp_nil | refine obUp_cons rfl ?_)
 ·have hlk := looked_bad e C N hC hN hv
  rw [if_pos (by simpa using hv)]
  generalize verF e C N = f at hlk hv ⊢
  obtain ⟨f1, f2⟩ := f
  have e1 : (f1 = 0) = False := eq_false hv
  unfold pG at *
  refine go_fnG (tyOf_ok _) Try.func14 rfl rfl (by rw [Try.results14]) Try.ntmps14 rfl fun E => ?_
  (repeat' (first | exact trivial | (with_reducible first | apply awA | apply awD | apply awF | apply awG) | (refine aw_draw (id := 3) (t := (.node [0, 1, 2] [])) (drR [5] [] []) mixed (by kernel_rfl) (by kernel_rfl) (fun _ _ h => h) ?_) | (refine at_done (by simp only [go_sem]; exact rfl) ?_) | (refine at_alt (by simp only [go_sem]; exact rfl) ?_) | refine qalt_normal ?_ | refine ats_cons ?_ ?_ | exact ats_nil | ((with_reducible first | apply awn | apply awo | apply awp | refine awQ ?_ | refine awT ?_); intro r hr; simp only [go_sem, Nat.reduceBEq, Nat.reduceLT, Nat.reduceLeDiff, Nat.reduceAdd, Nat.reduceMul, e1] at hr; subst hr; (first | refine awV ?_ ?_ | refine awW ?_ ?_ | refine endGK ?_ ?_ ?_ | (refine condK (fun h => ?_) (fun h => ?_) <;> (try simp only [go_sem, reduceCtorEq] at h) <;> (try (exfalso; omega))))) | (refine go_callGE [] [] [] [] ?_; intro r hr; simp only [go_sem, Nat.reduceBEq, Nat.reduceLT] at hr; subst hr; refine callGK (hlk) rfl rfl (by first | exact .inl rfl | exact .inr rfl) ?_ (.inl rfl) ?_))) <;> (try omega)
  all_goals first | exact AV.up_tup ⟨AV.up_nilref _ _ _ _, AV.up_rfl _, trivial⟩ | exact obUp_row0 obUp_nil | skip
end Go.Proofs.Ytjeplogcfedmeaa
end
section
namespace Go.Proofs.Ytjeplogcfedmeaa
open Go.RowKit
set_option maxRecDepth 100000
set_option maxHeartbeats 8000000
theorem ints_any (xs ys : List Int) (hx : xs.length ≤ 4611686018427387904) : PCall Try.prog 16 [.lst 1 (v8 xs), .lst 1 (v8 ys)] (fun r => r = vB (decide (xs = ys))) := by
 by_cases hl : xs.length = ys.length
 ·have e0 : ((xs.length : Int) = (ys.length : Int)) = True := eq_true (by omega)
  refine go_fn (tyOf_ok _) Try.func16 rfl rfl (by rw [Try.results16]) Try.ntmps16 rfl fun E => ?_
  (repeat' (first | exact trivial | (with_reducible first | apply awA | apply awB | apply awC | apply awF) | ((with_reducible first | apply awn | refine awQ ?_); intro r hr; simp only [go_sem, Nat.reduceBEq, Nat.reduceLT, v8_len, e0] at hr; subst hr; (first | refine awV ?_ ?_ | (refine condK (fun h => ?_) (fun h => ?_) <;> (try simp only [go_sem, reduceCtorEq] at h) <;> (try (exfalso; omega))))))) <;> (try omega)
  refine go_loop [0, 1, 5] [] (fun i : Nat => ⟨[(0, true, .lst 1 (v8 xs)), (1, true, .lst 1 (v8 ys)), (5, true, vI i)], []⟩)
   (fun i => i ≤ xs.length ∧ xs.take i = ys.take i) (fun i => xs.length - i) 0 (by simp only [go_sem, Nat.reduceBEq] <;> exact rfl) ⟨Nat.zero_le _, rfl⟩ ?_
  intro i ⟨hi, hinv⟩
  have hwi := wrap_i64 (n := (i : Int) + 1) (by omega)
  have zi : ((i : Int)).toNat = i := by omega
  by_cases hlt : i < xs.length
  ·have e1 : ((i : Int) < (xs.length : Int)) = True := eq_true (by omega)
   have g1 := v8_get hlt
   have g2 := v8_get (show i < ys.length by omega)
   by_cases hq : xs[i] = ys[i]
   ·have e2 : (xs[i] = ys[i]) = True := eq_true hq
    (repeat' (first | exact trivial | (with_reducible first | apply awA | apply awB | apply awC | apply awF | apply awI) | (refine aw_draw (id := 6) (t := (.node [0, 1, 2, 3, 4, 5, 6, 7, 8] [])) (drR [] [20, 24] []) mixed (by kernel_rfl) (by kernel_rfl) (fun _ _ h => h) ?_) | (refine at_done (by simp only [go_sem]; exact rfl) ?_) | (refine at_alt (by simp only [go_sem]; exact rfl) ?_) | refine qalt_normal ?_ | refine ats_cons ?_ ?_ | exact ats_nil | ((with_reducible first | apply awn | apply awp | refine awQ ?_); intro r hr; simp only [go_sem, Nat.reduceBEq, Nat.reduceLT, Nat.reduceLeDiff, reduceCtorEq, e1, zi, hwi, g1, g2, v8_len, e2] at hr; subst hr; (first | refine awV ?_ ?_ | (refine condK (fun h => ?_) (fun h => ?_) <;> (try simp only [go_sem, reduceCtorEq] at h) <;> (try (exfalso; omega))))))) <;> (try omega)
    all_goals refine ⟨i + 1, ?_, ⟨hlt, by rw [List.take_succ_eq_append_getElem hlt, List.take_succ_eq_append_getElem (show i < ys.length by omega), hinv, hq]⟩, by omega⟩
    all_goals simp only [go_sem, Nat.reduceBEq]
    all_goals try exact rfl
   ·have e2 : (xs[i] = ys[i]) = False := eq_false hq
    have hne : xs ≠ ys := fun h => hq (by subst h; rfl)
    rw [decide_eq_false hne]
    (repeat' (first | exact trivial | (with_reducible first | apply awA | apply awB | apply awC | apply awD | apply awF | apply awG | apply awJ) | (refine aw_draw (id := 6) (t := (.node [0, 1, 2, 3, 4, 5, 6, 7, 8] [])) (drR [] [20, 24] []) mixed (by kernel_rfl) (by kernel_rfl) (fun _ _ h => h) ?_) | (refine at_done (by simp only [go_sem]; exact rfl) ?_) | (refine at_alt (by simp only [go_sem]; exact rfl) ?_) | refine qalt_normal ?_ | refine ats_cons ?_ ?_ | exact ats_nil | ((with_reducible first | apply awn | apply awp | refine awQ ?_ | refine awR ?_); intro r hr; simp only [go_sem, Nat.reduceBEq, Nat.reduceLT, Nat.reduceLeDiff, reduceCtorEq, e1, zi, g1, g2, v8_len, e2] at hr; subst hr; (first | refine awV ?_ ?_ | refine endK ?_ ?_ | (refine condK (fun h => ?_) (fun h => ?_) <;> (try simp only [go_sem, reduceCtorEq] at h) <;> (try (exfalso; omega))))))) <;> (try omega)
    all_goals rfl
  ·have e1 : ((i : Int) < (xs.length : Int)) = False := eq_false (by omega)
   have heq : xs = ys := by
    rw [List.take_of_length_le (by omega), List.take_of_length_le (by omega)] at hinv
    exact hinv
   rw [decide_eq_true heq]
   (repeat' (first | exact trivial | (with_reducible first | apply awA | apply awD | apply awE | apply awF | apply awH | apply awK) | ((with_reducible first | apply awn | refine awQ ?_ | refine awR ?_); intro r hr; simp only [go_sem, Nat.reduceBEq, Nat.reduceLT, e1, v8_len] at hr; subst hr; (first | refine awV ?_ ?_ | refine endK ?_ ?_ | (refine condK (fun h => ?_) (fun h => ?_) <;> (try simp only [go_sem, reduceCtorEq] at h) <;> (try (exfalso; omega))))))) <;> (try omega)
   all_goals rfl
 ·have e0 : ((xs.length : Int) = (ys.length : Int)) = False := eq_false (by omega)
  have hne : xs ≠ ys := fun h => hl (by rw [h])
  rw [decide_eq_false hne]
  refine go_fn (tyOf_ok _) Try.func16 rfl rfl (by rw [Try.results16]) Try.ntmps16 rfl fun E => ?_
  (repeat' (first | exact trivial | (with_reducible first | apply awA | apply awD | apply awF | apply awG) | ((with_reducible first | apply awn | refine awQ ?_ | refine awR ?_); intro r hr; simp only [go_sem, Nat.reduceBEq, Nat.reduceLT, v8_len, e0] at hr; subst hr; (first | refine awV ?_ ?_ | refine endK ?_ ?_ | (refine condK (fun h => ?_) (fun h => ?_) <;> (try simp only [go_sem, reduceCtorEq] at h) <;> (try (exfalso; omega))))))) <;> (try omega)
  all_goals rfl
def cP : List InsM := [⟨6, 0, 0, 0⟩, ⟨1, 1, 1, 0⟩, ⟨1, 0, 1, 0⟩, ⟨20, 0, 0, 0⟩]
def cQ : List InsM := [⟨1, -1, 2, 0⟩, ⟨1, -1, 2, 0⟩, ⟨20, 0, 0, 0⟩]
def cE : List InsM := [⟨38, 3, 0, 0⟩, ⟨33, -1, 1, 0⟩, ⟨47, 0, 1, 0⟩, ⟨20, 0, 0, 0⟩]
def errF (e : Bool) (C : List InsM) (N : List Int) : Option Int := match firstF e C N with | .error j => some j | .ok _ => none
def okF (e : Bool) (C : List InsM) (N : List Int) : List Int := match firstF e C N with | .error _ => [] | .ok r => outF r.1
theorem chk_P : chkF false cP [0] = (0, 0) := by decide +kernel
theorem chk_Q : chkF false cQ [0] = (0, 0) := by decide +kernel
theorem chk_E : chkF true cE [0] = (0, 0) := by decide +kernel
theorem err_Q : errF false cQ [0] = some 1 := by decide +kernel
theorem err_P : errF false cP [0] = none := by decide +kernel
theorem err_E : errF true cE [0] = some 1 := by decide +kernel
theorem ok_P : okF false cP [0] = [0, 2, 3, 4] := by decide +kernel
theorem firstF_err {e : Bool} {C : List InsM} {N : List Int} {j : Int} (h : errF e C N = some j) : firstF e C N = .error j := by
 unfold errF at h
 split at h
 ·injection h with h; rw [← h]; assumption
 ·cases h
theorem verF_err {e : Bool} {C : List InsM} {N : List Int} {j : Int} (hc : chkF e C N = (0, 0)) (h : errF e C N = some j) : verF e C N = (150, j) := by
 unfold verF
 rw [hc, firstF_err h, if_neg (by decide)]
theorem sec_none {C : List InsM} (hw : ∀ a b g, wayR C g a b → a < b) (hc : ∀ k, (insAt C k).op ≠ 16) : secF false C [0] = -1 := by
 have hR : ∀ g a b, Rch (wayR C g) a b → a < b := fun g a b h => by
  induction h with
  | one h => exact hw _ _ _ h
  | more _ h ih => exact Nat.lt_trans ih (hw _ _ _ h)
 have hno : ∀ B en, ¬ ∃ k, BadP false C B en k := fun B en ⟨k, _, h⟩ => by
  rcases h with h | ⟨_, _, ⟨h, _⟩, _⟩
  ·have := hR _ _ _ h; omega
  ·exact hc _ h
 exact SecI.uniq (secF_spec false C [0]) (.inr ⟨hno _ _, rfl⟩)
theorem way_P (a b : Nat) (g : Nat → Int → Bool) (h : wayR cP g a b) : a < b := by
 obtain ⟨w, h, _⟩ := h
 have h2 : (b : Int) ∈ waysF cP a (insAt cP a) := List.mem_of_getElem? h
 by_cases h4 : a < 4
 ·obtain rfl | rfl | rfl | rfl : a = 0 ∨ a = 1 ∨ a = 2 ∨ a = 3 := by omega
  ·have : (b : Int) ∈ [(1 : Int)] := h2
   simp at this; omega
  ·have : (b : Int) ∈ [(2 : Int)] := h2
   simp at this; omega
  ·have : (b : Int) ∈ [(3 : Int)] := h2
   simp at this; omega
  ·have : (b : Int) ∈ ([] : List Int) := h2
   simp at this
 ·have hz : insAt cP a = ⟨0, 0, 0, 0⟩ := by
   unfold insAt
   rw [List.getD_eq_getElem?_getD, List.getElem?_eq_none (by show 4 ≤ a; omega)]
   rfl
  rw [hz] at h2
  have : (b : Int) ∈ [(a : Int) + 1] := h2
  simp at this; omega
theorem op_P (k : Nat) : (insAt cP k).op ≠ 16 := by
 by_cases h4 : k < 4
 ·obtain rfl | rfl | rfl | rfl : k = 0 ∨ k = 1 ∨ k = 2 ∨ k = 3 := by omega
  all_goals decide
 ·have hz : insAt cP k = ⟨0, 0, 0, 0⟩ := by
   unfold insAt
   rw [List.getD_eq_getElem?_getD, List.getElem?_eq_none (by show 4 ≤ k; omega)]
   rfl
  rw [hz]
  decide
theorem ver_P : verF false cP [0] = (0, 0) := by
 have h := err_P
 obtain ⟨r, hr⟩ : ∃ r, firstF false cP [0] = .ok r := by
  unfold errF at h
  cases hf : firstF false cP [0] with
  | ok r => exact ⟨r, rfl⟩
  | error j => rw [hf] at h; cases h
 unfold verF
 rw [chk_P, if_neg (by decide), hr, sec_none (fun a b g h => way_P a b g h) op_P, if_neg (by decide)]
theorem sh_P : shF false cP [0] = [0, 2, 3, 4] := by
 have h := ok_P
 unfold okF at h
 unfold shF
 rw [ver_P, if_neg (by decide)]
 exact h
theorem first_any : PCall Try.prog 8 [] (fun r => r = vB true) := by
 have h1 := shape_G false cP [0] (by decide) (by decide)
 rw [sh_P, ver_P] at h1
 have h2 := verify_any false cP [0] (by decide) (by decide)
 rw [ver_P] at h2
 have h3 := verify_any false cQ [0] (by decide) (by decide)
 rw [verF_err chk_Q err_Q] at h3
 have h4 := verify_any true cE [0] (by decide) (by decide)
 rw [verF_err chk_E err_E] at h4
 have hi := ints_any [0, 2, 3, 4] [0, 2, 3, 4] (by decide)
 rw [decide_eq_true rfl] at hi
 refine go_fn (tyOf_ok _) Try.func8 rfl rfl (by rw [Try.results8]) Try.ntmps8 rfl fun E => ?_
 (repeat' (first | exact trivial | (with_reducible first | apply awA | apply awD | apply awF) | ((with_reducible first | apply awn | apply awo | refine awR ?_); intro r hr; simp only [go_sem, Nat.reduceBEq, Nat.reduceLT, Nat.reduceLeDiff, Nat.reduceAdd, Nat.reduceMul, reduceCtorEq] at hr; subst hr; (first | refine caA (fun _ => h2) rfl ?_ ?_ ?_ | refine caA (fun _ => h3) rfl ?_ ?_ ?_ | refine caA (fun _ => h4) rfl ?_ ?_ ?_ | refine caA (fun _ => hi) rfl ?_ ?_ ?_ | refine awV ?_ ?_ | refine awW ?_ ?_ | refine endK ?_ ?_)) | (refine go_callGE [] [(21, 2)] [2] [] ?_; intro r hr; simp only [go_sem, Nat.reduceBEq, Nat.reduceLT] at hr; subst hr; refine callGK (h1) rfl rfl (by first | exact .inl rfl | exact .inr rfl) ?_ (.inl rfl) ?_))) <;> (try omega)
 ·decide
 ·rfl
end Go.Proofs.Ytjeplogcfedmeaa
end
section
namespace Go.Proofs.Ytjeplogcfedmeaa
open Go.RowKit
set_option maxRecDepth 100000
set_option maxHeartbeats 8000000
def StOK (s : StM) : Prop := s.place = 6 → 0 ≤ s.left ∧ s.left ≤ 64
theorem StOK.same {s r : StM} (h : StOK s) (h1 : r.place = s.place) (h2 : r.left = s.left) : StOK r := fun g => by rw [h2]; exact h (by rw [← h1]; exact g)
theorem StOK.far {r : StM} (h : r.place ≠ 6) : StOK r := fun g => absurd g h
theorem StOK.zero : StOK .zero := .far (by decide)
theorem StOK.still {s : StM} (h : StOK s) : StOK s.still := h.same rfl rfl
theorem StOK.fill {s : StM} (h : StOK s) (k : Int) : StOK (s.fill k).1 := by
 unfold StM.fill
 split
 ·exact .far (by show (4 : Int) ≠ 6; decide)
 ·split
  ·exact .far (by show (4 : Int) ≠ 6; decide)
  ·split
   ·exact h.still
   ·split
    ·split
     ·exact h
     ·exact h.same rfl rfl
    ·exact h
theorem StOK.take {s : StM} (h : StOK s) {n : Int} (hn : 0 ≤ n ∧ n ≤ 64) (hok : (s.take n).2 = true) : StOK (s.take n).1 := by
 unfold StM.take at hok ⊢
 split
 ·exact fun _ => ⟨Int.le_refl _, by show (0 : Int) ≤ 64; decide⟩
 ·rename_i h1
  rw [if_neg h1] at hok
  split
  ·rename_i h2
   rw [if_pos h2] at hok
   obtain ⟨h3, h4⟩ := h h2
   have hw : IntKind.i64.wrap (s.left - n) = s.left - n := wrap_i64 (by omega)
   rw [hw] at hok ⊢
   have := of_decide_eq_true hok
   exact fun _ => ⟨this, by show s.left - n ≤ 64; omega⟩
  ·exact h
theorem StOK.turn {s : StM} (h : StOK s) : StOK s.turn.1 := h.still
theorem StOK.runN : ∀ (n : Nat) (k : Int) {s : StM} (ok : Bool), StOK s → StOK (Go.Proofs.Ytjeplogcfedmeaa.runN n k s ok).1
 | 0, _, _, _, h => h
 | n + 1, k, s, ok, h => by
  unfold Go.Proofs.Ytjeplogcfedmeaa.runN
  split
  ·exact StOK.runN n (k + 1) _ (h.fill k)
  ·exact h
def EfOK (E : EfM) : Prop := StOK E.next ∧ StOK E.target
theorem EfOK.both {s : StM} (h : StOK s) : EfOK (both s) := ⟨h, h⟩
def InsOK (e : Bool) (x : InsM) : Prop := e = true → (x.op = 39 → 0 ≤ x.a ∧ x.a ≤ 64) ∧ (x.op = 34 → 0 ≤ x.b ∧ x.b ≤ 64)
theorem ef_ite {p : Prop} [Decidable p] {a b : EfM × Bool} (ha : p → EfOK a.1) (hb : ¬ p → EfOK b.1) : EfOK (if p then a else b).1 := by
 by_cases h : p
 ·rw [if_pos h]; exact ha h
 ·rw [if_neg h]; exact hb h
theorem ef_ite2 {p : Prop} [Decidable p] {a b : EfM × Bool} (ha : p → a.2 = true → EfOK a.1) (hb : ¬ p → b.2 = true → EfOK b.1) : (if p then a else b).2 = true → EfOK (if p then a else b).1 := by
 by_cases h : p
 ·rw [if_pos h]; exact ha h
 ·rw [if_neg h]; exact hb h
theorem offset_ok {s : StM} (h : StOK s) (f : Int) : EfOK (s.offset f).1 := by
 unfold StM.offset
 refine ef_ite (fun _ => .both (h.same rfl rfl)) (fun _ => .both (h.same rfl rfl))
theorem part_ok {s : StM} (h : StOK s) (x : InsM) : EfOK (s.part x).1 := by
 unfold StM.part
 refine ef_ite (fun _ => .both h.still) (fun _ => .both ((h.fill x.a).same rfl rfl))
theorem rounds_ok {s : StM} (h : StOK s) (x : InsM) : EfOK (s.rounds x).1 := by
 unfold StM.rounds
 dsimp only
 refine ef_ite (fun _ => ⟨h.same rfl rfl, h.still⟩) fun _ => ?_
 refine ef_ite (fun _ => ⟨h.still, h.same rfl rfl⟩) fun _ => ?_
 refine ef_ite (fun _ => ⟨h.same rfl rfl, h.still⟩) fun _ => ?_
 refine ef_ite (fun _ => ⟨h.still, h.same rfl rfl⟩) fun _ => ?_
 exact ef_ite (fun _ => ⟨h.still, h.same rfl rfl⟩) fun _ => .both h.still
theorem decS_ok {s : StM} {x : InsM} {t : Int} (h : StOK s) : EfOK (decS s x t).1 := by
 unfold decS
 dsimp only
 refine ef_ite (fun _ => ef_ite (fun _ => .both .zero) fun _ => .both (h.fill _)) fun _ => ?_
 refine ef_ite (fun _ => .both (h.fill _)) fun _ => ?_
 refine ef_ite (fun _ => .both (StOK.runN _ _ _ h)) fun _ => ?_
 refine ef_ite (fun _ => .both (.far (by show (1 : Int) ≠ 6; decide))) fun _ => ?_
 refine ef_ite (fun _ => .both (.far (by show (2 : Int) ≠ 6; decide))) fun _ => ?_
 refine ef_ite (fun _ => ⟨.far (by show (3 : Int) ≠ 6; decide), .far (by show (4 : Int) ≠ 6; decide)⟩) fun _ => ?_
 refine ef_ite (fun _ => .both (.far (by show (3 : Int) ≠ 6; decide))) fun _ => ?_
 refine ef_ite (fun _ => offset_ok h _) fun _ => ?_
 refine ef_ite (fun _ => ef_ite (fun _ => .both .zero) fun _ => part_ok h x) fun _ => ?_
 refine ef_ite (fun _ => rounds_ok h x) fun _ => ?_
 refine ef_ite (fun _ => .both h) fun _ => ?_
 exact ef_ite (fun _ => .both .zero) fun _ => .both .zero
theorem encS_ok {s : StM} {x : InsM} {t : Int} (h : StOK s) (hx : (x.op = 39 → 0 ≤ x.a ∧ x.a ≤ 64) ∧ (x.op = 34 → 0 ≤ x.b ∧ x.b ≤ 64)) : (encS s x t).2 = true → EfOK (encS s x t).1 := by
 have f1 : ∀ l, 0 ≤ l ∧ l ≤ 64 → StOK ⟨6, 0, 0, 0, 0, l⟩ := fun l hl _ => hl
 have f2 : ∀ f, StOK ⟨7, 0, 0, 0, f, 0⟩ := fun f => .far (by show (7 : Int) ≠ 6; decide)
 have ft : (s.take 1).2 = true → StOK (s.take 1).1 := fun g => h.take ⟨by decide, by decide⟩ g
 unfold encS
 dsimp only
 refine ef_ite2 (fun _ => ef_ite2 (fun _ _ => .both .zero) fun _ => ef_ite2 (fun _ _ => .both h.turn) fun _ g => .both (ft g)) fun _ => ?_
 refine ef_ite2 (fun _ => ef_ite2 (fun _ _ => .both h.turn) fun _ g => .both (ft g)) fun _ => ?_
 refine ef_ite2 (fun ho g => .both (h.take (hx.2 ho) (by rw [Bool.and_eq_true] at g; exact g.1))) fun _ => ?_
 refine ef_ite2 (fun _ _ => .both (f2 2)) fun _ => ?_
 refine ef_ite2 (fun _ _ => .both (f2 0)) fun _ => ?_
 refine ef_ite2 (fun ho _ => .both (f1 _ (hx.1 ho))) fun _ => ?_
 refine ef_ite2 (fun _ _ => ⟨f1 1 (by decide), f1 0 (by decide)⟩) fun _ => ?_
 refine ef_ite2 (fun _ _ => .both (f1 1 (by decide))) fun _ => ?_
 refine ef_ite2 (fun _ _ => .both h) fun _ => ?_
 refine ef_ite2 (fun _ _ => .both h) fun _ => ?_
 refine ef_ite2 (fun _ _ => ⟨f1 0 (by decide), f2 2⟩) fun _ => ?_
 refine ef_ite2 (fun _ _ => .both h) fun _ => ?_
 exact ef_ite2 (fun _ _ => .both .zero) fun _ _ => .both .zero
theorem standF_ok {e : Bool} {s : StM} {x : InsM} {t : Int} (h : StOK s) (hx : InsOK e x) (hok : (standF e x s t).2 = true) : EfOK (standF e x s t).1 := by
 unfold standF at hok ⊢
 cases e with
 | true => rw [if_pos rfl] at hok ⊢; exact encS_ok h (hx rfl) hok
 | false => rw [if_neg (by decide)]; exact decS_ok h
def LkOK (L : LkM) : Prop := ∀ k s, L.getD k none = some s → StOK s
theorem LkOK.set {L : LkM} (h : LkOK L) {s : StM} (hs : StOK s) (k : Nat) : LkOK (L.set k (some s)) := fun j r hj => by
 by_cases hjk : k = j
 ·subst hjk
  by_cases hl : k < L.length
  ·simp [List.getD, hl] at hj
   rw [← hj]; exact hs
  ·rw [List.set_eq_of_length_le (by omega)] at hj
   exact h k r hj
 ·refine h j r ?_
  simp only [List.getD, List.getElem?_set_ne hjk] at hj ⊢; exact hj
theorem LkOK.st {L : LkM} (h : LkOK L) (k : Nat) : StOK (stAt L k) := by
 unfold stAt
 cases hs : L.getD k none with
 | none => exact .zero
 | some s => exact h k s hs
theorem LkOK.hand {e : Bool} {C : List InsM} {L L' : LkM} {k : Nat} {s : StM} {t : Int} (h : LkOK L) (hs : StOK s) (hh : handF e C L k s t = .some L') : LkOK L' := by
 unfold handF at hh
 split at hh
 ·injection hh with hh; subst hh; exact h.set hs k
 ·split at hh
  ·injection hh with hh; subst hh; exact h
  ·split at hh
   ·injection hh with hh; subst hh; exact h
   ·cases hh
theorem LkOK.handS {e : Bool} {C : List InsM} {t : Int} {E : EfM} (hE : EfOK E) {arms : Bool} : ∀ {ks : List Int} {w : Nat} {L L' : LkM}, LkOK L → Go.Proofs.Ytjeplogcfedmeaa.handS e C t E arms ks w L = .ok L' → LkOK L'
 | [], _, L, L', h, hh => by
  unfold Go.Proofs.Ytjeplogcfedmeaa.handS at hh
  injection hh with hh; subst hh; exact h
 | k :: ks, w, L, L', h, hh => by
  unfold Go.Proofs.Ytjeplogcfedmeaa.handS at hh
  split at hh
  ·cases hh
  ·rename_i L1 h1
   refine LkOK.handS hE (h.hand ?_ h1) hh
   split
   ·exact hE.2
   ·exact hE.1
theorem LkOK.goes {e : Bool} {C : List InsM} (hI : ∀ k, InsOK e (insAt C k)) {t : Int} {L L' : LkM} {k : Nat} (h : LkOK L) (hg : goesF e C k L t = .ok L') : LkOK L' := by
 unfold goesF at hg
 dsimp only at hg
 split at hg
 ·cases hg
 ·rename_i hn
  simp only [not_or, Bool.not_eq_false, Bool.not_eq_true] at hn
  exact LkOK.handS (standF_ok (h.st k) (hI k) hn.1) h hg
theorem LkOK.loop {e : Bool} {C : List InsM} (hI : ∀ k, InsOK e (insAt C k)) {t : Int} : ∀ {f : Nat} {L L' : LkM} {D D' : List Nat}, LkOK L → loopF e C t f L D = .ok (L', D') → LkOK L'
 | 0, L, L', D, D', h, hl => by
  unfold loopF at hl
  injection hl with hl
  injection hl with h1 h2
  subst h1; exact h
 | f + 1, L, L', D, D', h, hl => by
  unfold loopF at hl
  split at hl
  ·injection hl with hl
   injection hl with h1 h2
   subst h1; exact h
  ·split at hl
   ·cases hl
   ·rename_i L1 hg
    exact LkOK.loop hI (h.goes hI hg) hl
theorem LkOK.first {e : Bool} {C : List InsM} (hI : ∀ k, InsOK e (insAt C k)) : ∀ {N : List Int} {t : Int} {L L' : LkM} {D D' : List Nat}, LkOK L → firstL e C N t L D = .ok (L', D') → LkOK L'
 | [], _, L, L', D, D', h, hf => by
  unfold firstL at hf
  injection hf with hf
  injection hf with h1 h2
  subst h1; exact h
 | n :: ns, t, L, L', D, D', h, hf => by
  unfold firstL at hf
  split at hf
  ·cases hf
  ·rename_i L1 h1
   split at hf
   ·cases hf
   ·rename_i L2 D2 h2
    refine LkOK.first hI (LkOK.loop hI (h.hand ?_ h1) h2) hf
    unfold beginS
    split
    ·exact .far (by show (5 : Int) ≠ 6; decide)
    ·exact .zero
theorem insOK_of {e : Bool} {C : List InsM} {N : List Int} (hr : ∀ k, k < C.length → rightF e C N k = true) (k : Nat) : InsOK e (insAt C k) := by
 intro he
 subst he
 by_cases hk : k < C.length
 ·obtain ⟨_, h1, h2, _⟩ := right_parts (hr k hk)
  refine ⟨fun ho => ?_, fun ho => ?_⟩
  ·rw [ho] at h1
   have : inF (insAt C k).a 1 64 = true := h1
   simp only [inF, Bool.and_eq_true, decide_eq_true_eq] at this
   omega
  ·rw [ho] at h2
   have : inF (insAt C k).b 2 64 = true := h2
   simp only [inF, Bool.and_eq_true, decide_eq_true_eq] at this
   omega
 ·have hz : insAt C k = ⟨0, 0, 0, 0⟩ := by
   unfold insAt
   rw [List.getD_eq_getElem?_getD, List.getElem?_eq_none (by omega)]
   rfl
  rw [hz]
  exact ⟨fun h => absurd h (by decide), fun h => absurd h (by decide)⟩
theorem shape_ne {s : StM} (h : StOK s) : shapeF s ≠ -1 := by
 unfold shapeF
 split
 ·decide
 split
 ·decide
 split
 ·omega
 split
 ·rename_i h6
  have := h h6
  rw [wrap_i64 (by omega)]
  omega
 split
 ·decide
 ·decide
theorem over_shape {s : StM} (ho : s.over = true) : shapeF s ≠ 0 := by
 unfold StM.over at ho
 unfold shapeF
 split
 ·decide
 split
 ·decide
 split
 ·omega
 rename_i h4 h1 h2
 by_cases h6 : s.place = 6
 ·rw [if_pos h6]
  rw [if_neg (by omega), if_neg h2, if_pos h6] at ho
  rw [of_decide_eq_true ho]
  decide
 ·rw [if_neg (by omega), if_neg h2, if_neg h6] at ho
  cases ho
theorem stand_ret {e : Bool} {x : InsM} {s : StM} {t : Int} (h : (standF e x s t).2 = true) (ho : x.op = 20) : shapeF s ≠ 0 := by
 unfold standF at h
 cases e with
 | true =>
  rw [if_pos rfl] at h
  unfold encS at h
  simp only [ho, Int.reduceEq, or_self, if_false, false_and, if_true, Bool.and_eq_true] at h
  exact over_shape h.2
 | false =>
  rw [if_neg (by decide)] at h
  unfold decS at h
  simp only [ho, Int.reduceEq, or_self, if_false, if_true] at h
  exact over_shape h
theorem stand_arm {e : Bool} {x : InsM} {s : StM} {t : Int} (h : (standF e x s t).2 = true) : x.op ≠ 9 := fun ho => by
 unfold standF at h
 cases e with
 | true =>
  rw [if_pos rfl] at h
  unfold encS at h
  simp only [ho, Int.reduceEq, or_self, if_false, false_and] at h
  cases h
 | false =>
  rw [if_neg (by decide)] at h
  unfold decS at h
  simp only [ho, Int.reduceEq, or_self, if_false] at h
  cases h
structure EndsP (C : List InsM) (N : List Int) (l : List Int) : Prop where
 len : l.length = C.length
 ent : ∀ n ∈ N, (0 ≤ n ∧ n < C.length) ∧ l.getD n.toNat 0 ≠ -1
 st : ∀ k, k < C.length → l.getD k 0 ≠ -1 → ((insAt C k).op = 20 → l.getD k 0 ≠ 0) ∧ (insAt C k).op ≠ 9 ∧ ∀ j ∈ waysF C k (insAt C k), 0 ≤ j ∧ j < C.length ∧ l.getD j.toNat 0 ≠ -1
theorem ends_of {e : Bool} {C : List InsM} {N : List Int} (hv : (verF e C N).1 = 0) : EndsP C N (shF e C N) := by
 obtain ⟨hc, ⟨⟨L, D⟩, hf⟩, _, h0⟩ := ver_ok hv
 have hsh : shF e C N = outF L := by
  unfold shF
  rw [h0, if_neg (by decide), hf]
 obtain ⟨_, hr, hN⟩ := chkF_ok hc
 have hp : PosW C := fun k hk j hj => (ways_in hr hk j hj).1
 obtain ⟨⟨t', hI, _⟩, _, hD, hE⟩ := firstL_ok hp hN (FirstI.init e C) (fun k hk => by rw [init_none] at hk; cases hk) hf
 have hL : LkOK L := LkOK.first (insOK_of hr) (L := List.replicate C.length none) (fun k s hk => by
  have := init_none C k
  rw [hk] at this; cases this) hf
 have hout : ∀ k, k < C.length → (outF L).getD k 0 = outV (L.getD k none) := fun k hk => by
  rw [outF_eq]
  have : k < L.length := by rw [hI.len]; exact hk
  simp [List.getD, this]
 have hsome : ∀ k, k < C.length → (L.getD k none).isSome = true → (outF L).getD k 0 ≠ -1 := fun k hk hs => by
  rw [hout k hk]
  cases h : L.getD k none with
  | none => rw [h] at hs; cases hs
  | some s => exact shape_ne (hL k s h)
 rw [hsh]
 refine ⟨by rw [outF_len, hI.len], fun n hn => ⟨hN n hn, ?_⟩, fun k hk hne => ?_⟩
 ·obtain ⟨i, hi⟩ := List.mem_iff_getElem?.1 hn
  have := hN n hn
  exact hsome _ (by omega) (hE i n hi).1
 ·rw [hout k hk] at hne
  cases h : L.getD k none with
  | none => rw [h] at hne; exact absurd rfl hne
  | some s =>
   have hkD := hD k (by rw [h]; rfl)
   obtain ⟨t1, _, hst⟩ := hI.st k hkD
   have hs : stAt L k = s := by unfold stAt; rw [h]; rfl
   rw [hs] at hst
   refine ⟨fun ho => ?_, stand_arm hst, fun j hj => ?_⟩
   ·rw [hout k hk, h]
    exact stand_ret hst ho
   ·have h1 := hp k hk j hj
    obtain ⟨h2, h3⟩ := hI.cl k hkD j hj
    exact ⟨h1, h2, hsome _ (by omega) h3⟩
end Go.Proofs.Ytjeplogcfedmeaa
end
section
namespace Go.Proofs.Ytjeplogcfedmeaa
open Go.RowKit
set_option maxRecDepth 100000
set_option maxHeartbeats 8000000
theorem shape_P (e : Bool) (C : List InsM) (N : List Int) (hC : C.length ≤ 140737488355328) (hN : N.length ≤ 140737488355328) : PCall Try.prog 14 [pG e C N] (fun r => r = .tup [.lst 1 (v8 (shF e C N)), vFa (verF e C N)]) := by
 refine ((shape_G e C N hC hN).toP (by simp [AV.snapOK, AV.snapOK.snapOKL, lk, v8_len])).mono fun r hr => hr.trans ?_
 have e1 : (v8 (shF e C N)).take (shF e C N).length = v8 (shF e C N) := List.take_of_length_le (by rw [v8_len]; omega)
 simp only [AV.snap, AV.snap.snapL, lk, Nat.zero_add, List.drop_zero, Nat.reduceBEq, cond_true, e1]
def tgF (op : Int) : Bool :=
 if op = 7 then true else if op = 9 then true else if op = 11 then true else if op = 12 then true else if op = 13 then true else if op = 14 then true
 else if op = 15 then true else if op = 19 then true else if op = 40 then true else if op = 47 then true else false
theorem targets_any (op : Int) : PCall Try.prog 15 [vI op] (fun r => r = vB (tgF op)) := by
 refine go_fn (tyOf_ok _) Try.func15 rfl rfl (by rw [Try.results15]) Try.ntmps15 rfl fun E => ?_
 (repeat' (first | exact trivial | (with_reducible first | apply awA | apply awB | apply awC | apply awD | apply awF | apply awG | apply awI | apply awJ) | ((with_reducible first | apply awn | refine awQ ?_ | refine awR ?_); intro r hr; simp only [go_sem, Nat.reduceBEq, Nat.reduceLT] at hr; subst hr; (first | refine awV ?_ ?_ | refine endK ?_ ?_ | (refine condK (fun h => ?_) (fun h => ?_) <;> (try simp only [go_sem] at h) <;> (try (exfalso; omega))))))) <;> (try omega)
 all_goals first | (subst_vars; rfl) | (unfold tgF; simp only [*, if_false]; rfl) | skip
theorem sec_lt {e : Bool} {C : List InsM} : ∀ {ns : List Int} {B : List Bool} {r : Int}, SecI e C ns B r → (∀ n ∈ ns, ∃ S : Nat → Prop, S n.toNat ∧ ∀ k, S k → k < C.length ∧ ∀ j ∈ waysF C k (insAt C k), 0 ≤ j ∧ S j.toNat) → 0 ≤ r → r < C.length
 | [], _, r, h, _, h0 => by have : r = -1 := h; omega
 | n :: ns, B, r, h, hS, h0 => by
  rcases h with ⟨k, hk, hb, _⟩ | ⟨_, h⟩
  ·obtain ⟨S, h1, h2⟩ := hS n (.head _)
   have hstep : ∀ a b, S a → wayR C alwaysF a b → S b := fun a b ha ⟨w, hw, _⟩ => by
    have := ((h2 a ha).2 _ (List.mem_of_getElem? hw)).2
    simpa using this
   have hR : ∀ a b, Rch (wayR C alwaysF) a b → S a → S b := fun a b hab ha => by
    induction hab with
    | one g => exact hstep _ _ ha g
    | more _ g ih => exact hstep _ _ ih g
   have : S k := by
    rcases hb.1 with g | g
    ·rw [g]; exact h1
    ·exact hR _ _ g h1
   have := (h2 k this).1
   omega
  ·exact sec_lt h (fun n hn => hS n (.tail _ hn)) h0
theorem ver_err {e : Bool} {C : List InsM} {N : List Int} (hc : chkF e C N = (0, 0)) (hv : (verF e C N).1 ≠ 0) : ∃ j : Int, verF e C N = (150, j) ∧ 0 ≤ j ∧ j < C.length := by
 obtain ⟨_, hr, hN⟩ := chkF_ok hc
 have hp : PosW C := fun k hk j hj => (ways_in hr hk j hj).1
 unfold verF at hv ⊢
 rw [hc, if_neg (by decide)] at hv ⊢
 cases hf : firstF e C N with
 | error j => exact ⟨j, rfl, firstL_err hp hN (FirstI.init e C) hf⟩
 | ok r =>
  rw [hf] at hv
  dsimp only at hv ⊢
  by_cases h0 : 0 ≤ secF e C N
  ·rw [if_pos h0]
   refine ⟨_, rfl, h0, ?_⟩
   obtain ⟨L, D⟩ := r
   have hlk := looked_of hc hf
   refine sec_lt (secF_spec e C N) (fun n hn => ?_) h0
   obtain ⟨t, ht⟩ := List.mem_iff_getElem?.1 hn
   obtain ⟨S, g1, g2⟩ := hlk t n ht
   have hcl := g2 (List.replicate t false) (by simp)
   exact ⟨S, g1, fun k hk => ⟨hcl.1 k hk, hcl.ways k hk⟩⟩
  ·rw [if_neg h0] at hv
   exact absurd rfl hv
end Go.Proofs.Ytjeplogcfedmeaa
end
section
namespace Go.Proofs.Ytjeplogcfedmeaa
open Go.ChangeShapes Go.WideShapes Go.ChangeAt Go.RowKit
theorem own : ownKnob Try.prog.godebug = none := by kernel_rfl
theorem laidOut : laidOutB Try.prog = true := by kernel_rfl
theorem I64.of_wf {n : Int} (h : (Lit.int .i64 n).wf = true) : I64 n := bounds_i64 h
end Go.Proofs.Ytjeplogcfedmeaa
end
section
namespace Go.Proofs.Ytjeplogcfedmeaa
open Go.ChangeShapes Go.WideShapes Go.ChangeAt Go.RowKit Go.Deep
theorem addr_plain (b off j : Nat) : (⟨b, off, none⟩ : Addr).add j = ⟨b, off + j, none⟩ := by
 unfold Addr.add; by_cases h : j = 0 <;> simp [h]
section
variable {H : Type} {enc : TypeId × Value → H} {P : Program} {w : World} {base : Nat} {spare : Nat → Bool} {held : Bool}
end
end Go.Proofs.Ytjeplogcfedmeaa
end
section
namespace Go.Proofs.Ytjeplogcfedmeaa
open Go.RowKit
section
variable {P : Program} {w : World}
theorem PCall.row {f : Nat} {args : List AV} (h : PCall P f args (fun r => r = .v (.bool true))) (vs : Array Value) (hl : vs.size = args.length)
  (ha : ∀ (i : Nat) (x : AV) (v : Value), args[i]? = some x → vs[i]? = some v → AVR (fun b => b < w.heap.size) (fun _ => none) w x v) (hg : FOK (fun b => b < w.heap.size) w) :
  Calls P f vs w fun e w' => e = .returned (.bool true) ∧ Below w.heap.size w w' :=
 (h.2 w _ vs hg hl ha).mono fun e w' ⟨v, r, h1, h2, h3, h4⟩ => by
  subst h2
  cases h4 with
  | s h4 =>
  cases h4 with
  | v _ => exact ⟨h1, h3⟩
end
end Go.Proofs.Ytjeplogcfedmeaa
end
section
namespace Go.Proofs.Ytjeplogcfedmeaa.bulks
open Go.ChangeShapes Go.WideShapes Go.ChangeAt Go.RowKit
theorem one_le {H : Type} (d : DataW H) : 1 ≤ Rows.uptoBulk d := by
 cases d with
 | lit l => cases l <;> simp [Rows.uptoBulk]
 | nil => simp [Rows.uptoBulk]
 | ptr d => simp [Rows.uptoBulk]
 | slice elems spare => simp [Rows.uptoBulk]
 | agg parts => simp [Rows.uptoBulk]
 | iface t d => simp [Rows.uptoBulk]
 | map entries => simp [Rows.uptoBulk]
 | held h => simp [Rows.uptoBulk]
theorem part_le {H : Type} {d : DataW H} {l : List (DataW H)} (h : d ∈ l) : Rows.uptoBulk d ≤ Rows.uptoBulkAll l := by
 induction l with
 | nil => cases h
 | cons x r ih =>
  simp only [Rows.uptoBulkAll]
  cases List.mem_cons.1 h with
  | inl e => subst e; omega
  | inr e => have := ih e; omega
theorem length_le {H : Type} (l : List (DataW H)) : l.length ≤ Rows.uptoBulkAll l := by
 induction l with
 | nil => simp [Rows.uptoBulkAll]
 | cons x r ih => have := one_le x; simp only [Rows.uptoBulkAll, List.length_cons]; omega
theorem bound {H : Type} {l : List (DataW H)} (hk : Rows.uptoSmall H l = true) : Rows.uptoBulkAll l ≤ 1048576 := of_decide_eq_true hk
end Go.Proofs.Ytjeplogcfedmeaa.bulks
end
section
namespace Go.Proofs.Ytjeplogcfedmeaa
open Go.ChangeShapes Go.WideShapes Go.ChangeAt Go.RowKit Go.Deep
def tileB (P : Program) : List Field → Nat → Nat → Bool
 | [], o, n => o == n
 | f :: l, o, n => (f.offset == o) && tileB P l (o + P.cellsOf f.type) n
def plainTy (P : Program) : Nat → TypeId → Bool
 | 0, _ => false
 | n + 1, t =>
  match P.underlying t with
  | some .bool | some .string => P.cellsOf t == 1
  | some (.int _) => P.cellsOf t == 1
  | some (.slice e) => P.cellsOf t == 1 && Nat.blt 0 (P.cellsOf e) && plainTy P n e
  | some (.struct fs) => tileB P fs.toList 0 (P.cellsOf t) && fs.toList.all fun f => plainTy P n f.type
  | _ => false
def Typed (P : Program) (B : Nat) : Nat → TypeId → List AV → Prop
 | 0, _, _ => False
 | n + 1, t, us =>
  match P.underlying t with
  | some .bool => ∃ b, us = [.v (.bool b)]
  | some (.int k) => ∃ z, us = [.v (.int k z)] ∧ (Lit.int k z).wf = true
  | some .string => ∃ s : ByteArray, us = [.v (.string s)] ∧ s.size ≤ B
  | some (.slice e) => ∃ xs, us = [.lst (P.cellsOf e) xs] ∧ xs.length ≤ B ∧ ∀ cs ∈ xs, cs.length = P.cellsOf e ∧ Typed P B n e cs
  | some (.struct fs) => us.length = P.cellsOf t ∧ ∀ (i : Nat) (f : Field), fs[i]? = some f → Typed P B n f.type ((us.drop f.offset).take (P.cellsOf f.type))
  | _ => False
def TypedA (P : Program) (B n : Nat) (t : TypeId) (x : AV) : Prop :=
 match P.underlying t with
 | some (.struct _) => ∃ us, x = .agg us ∧ Typed P B n t us
 | _ => Typed P B n t [x]
def TypedL (P : Program) (B n : Nat) : List TypeId → List AV → Prop
 | [], [] => True
 | t :: ts, x :: xs => TypedA P B n t x ∧ TypedL P B n ts xs
 | _, _ => False
theorem bulk_slice {H : Type} {elems spare : List (DataW H)} {B : Nat} (h : Rows.uptoBulk (.slice elems spare) ≤ B) : elems.length ≤ B ∧ ∀ d ∈ elems, Rows.uptoBulk d ≤ B := by
 simp only [Rows.uptoBulk] at h
 have h1 := bulks.length_le elems
 exact ⟨by omega, fun d hd => by have := bulks.part_le hd; omega⟩
theorem bulk_agg {H : Type} {parts : List (DataW H)} {B : Nat} (h : Rows.uptoBulk (.agg parts) ≤ B) : ∀ d ∈ parts, Rows.uptoBulk d ≤ B := fun d hd => by
 simp only [Rows.uptoBulk] at h
 have := bulks.part_le hd; omega
section
variable {H : Type} {enc : TypeId × Value → H} {P : Program} {w : World} {base : Nat} {spare : Nat → Bool} {held : Bool}
theorem tile_cover : ∀ (l : List Field) (o n : Nat), tileB P l o n = true → ∀ (us : Nat → List AV), (∀ (i : Nat) (f : Field), l[i]? = some f → (us i).length = P.cellsOf f.type) →
  ∃ r : List AV, r.length = n - o ∧ o ≤ n ∧ (∀ (i : Nat) (f : Field), l[i]? = some f → o ≤ f.offset ∧ (r.drop (f.offset - o)).take (P.cellsOf f.type) = us i) ∧
   ∀ j, j < n - o → ∃ i f q, l[i]? = some f ∧ q < P.cellsOf f.type ∧ o + j = f.offset + q ∧ r[j]? = (us i)[q]? := by
 intro l
 induction l with
 | nil =>
  intro o n h us _
  simp only [tileB, beq_iff_eq] at h
  subst h
  exact ⟨[], by simp, Nat.le_refl _, fun i f h => by simp at h, fun j hj => by omega⟩
 | cons g l ih =>
  intro o n h us hus
  simp only [tileB, Bool.and_eq_true, beq_iff_eq] at h
  obtain ⟨rfl, h⟩ := h
  obtain ⟨r, h1, h2, h3, h4⟩ := ih _ _ h (fun i => us (i + 1)) fun i f hf => hus (i + 1) f (by simpa using hf)
  have hl0 := hus 0 g rfl
  refine ⟨us 0 ++ r, by rw [List.length_append]; omega, by omega, fun i f hf => ?_, fun j hj => ?_⟩
  ·cases i with
   | zero =>
    simp only [List.getElem?_cons_zero, Option.some.injEq] at hf
    subst hf
    refine ⟨Nat.le_refl _, ?_⟩
    rw [Nat.sub_self, List.drop_zero, ← hl0, List.take_left]
   | succ i =>
    obtain ⟨g1, g2⟩ := h3 i f (by simpa using hf)
    refine ⟨by omega, ?_⟩
    rw [show f.offset - g.offset = (us 0).length + (f.offset - (g.offset + P.cellsOf g.type)) by omega, List.drop_append, List.drop_of_length_le (by omega), List.nil_append]
    rw [show (us 0).length + (f.offset - (g.offset + P.cellsOf g.type)) - (us 0).length = f.offset - (g.offset + P.cellsOf g.type) by omega]
    exact g2
  ·rcases Nat.lt_or_ge j (us 0).length with hlt | hge
   ·exact ⟨0, g, j, rfl, by omega, rfl, by rw [List.getElem?_append_left hlt]⟩
   ·obtain ⟨i, f, q, g1, g2, g3, g4⟩ := h4 (j - (us 0).length) (by omega)
    exact ⟨i + 1, f, q, by simpa using g1, g2, by omega, by rw [List.getElem?_append_right hge]; exact g4⟩
theorem open_gen (B : Nat) : ∀ (n : Nat) (t : TypeId), plainTy P n t = true → ∀ (fuel : Nat) (cs : List Value) (x : DataW H × List MemPlace), DataW.trod enc P w base spare held fuel t cs = some x → (Rows.uptoBulk x.1 ≤ B ∨ maxLen ≤ B) →
  ∃ us : List AV, us.length = cs.length ∧ cs.length = P.cellsOf t ∧ (∀ (j : Nat) (u : AV) (v : Value), us[j]? = some u → cs[j]? = some v → SVR (fun b => b < w.heap.size) w u v) ∧ Typed P B n t us := by
 intro n
 induction n with
 | zero => intro t h; cases h
 | succ n ih =>
  intro t hp fuel cs x h hB
  have one : ∀ (u : AV) (v : Value), SVR (fun b => b < w.heap.size) w u v → ∀ (j : Nat) (u' : AV) (v' : Value), [u][j]? = some u' → [v][j]? = some v' → SVR (fun b => b < w.heap.size) w u' v' := fun u v hs j u' v' h1 h2 => by
   cases j with
   | zero => simp only [List.getElem?_cons_zero, Option.some.injEq] at h1 h2; subst h1; subst h2; exact hs
   | succ j => simp at h1
  unfold plainTy at hp
  split at hp
  ·rename_i ht
   obtain ⟨b, rfl, rfl⟩ := DataW.trod_bool ht h
   simp only [beq_iff_eq] at hp
   exact ⟨[.v (.bool b)], rfl, hp.symm, one _ _ (.v rfl), by unfold Typed; rw [ht]; exact ⟨b, rfl⟩⟩
  ·rename_i ht
   obtain ⟨s, rfl, rfl, hs⟩ := DataW.trod_string ht h
   simp only [beq_iff_eq] at hp
   have hsB : s.size ≤ B := by
    rcases hB with hB | hB
    ·simp only [Rows.uptoBulk] at hB
     have h1 : s.data.toList.length = s.size := by rw [Array.length_toList]; rfl
     omega
    ·exact Nat.le_trans hs hB
   refine ⟨[.v (.string s)], rfl, hp.symm, one _ _ (.v rfl), ?_⟩
   unfold Typed
   rw [ht]
   exact ⟨s, rfl, hsB⟩
  ·rename_i k ht
   obtain ⟨z, rfl, rfl, hz⟩ := DataW.trod_int ht h
   simp only [beq_iff_eq] at hp
   exact ⟨[.v (.int k z)], rfl, hp.symm, one _ _ (.v rfl), by unfold Typed; rw [ht]; exact ⟨z, rfl, hz⟩⟩
  ·rename_i e ht
   simp only [Bool.and_eq_true, beq_iff_eq] at hp
   obtain ⟨⟨hp1, hp2⟩, hp3⟩ := hp
   have hk0 : 0 < P.cellsOf e := Nat.le_of_ble_eq_true hp2
   rcases open_slice ht h with ⟨h0, _⟩ | ⟨a, len, cap, m, f', D, Pl, rfl, hb, hl, hm, hmm, hx0, hx⟩
   ·subst h0
    refine ⟨[.lst (P.cellsOf e) []], rfl, hp1.symm, one _ _ (.lst (fun _ _ => .nilFunc) rfl (Nat.le_refl _) (by decide) (fun cs h => by cases h) (fun h => absurd h (Nat.lt_irrefl _)) (fun i j hi => absurd hi (Nat.not_lt_zero _)) (fun i j cs u h => by simp at h)), ?_⟩
    unfold Typed
    rw [ht]
    exact ⟨[], rfl, Nat.zero_le _, fun cs h => by cases h⟩
   ·have hlm : len ≤ m := by rw [hmm]; split <;> omega
    have hBe : ∀ i, i < len → Rows.uptoBulk (D i) ≤ B ∨ maxLen ≤ B := fun i hi => by
     rcases hB with hB | hB
     ·rw [hx0] at hB
      exact .inl ((bulk_slice hB).2 _ (List.mem_map.2 ⟨i, List.mem_range.2 hi, rfl⟩))
     ·exact .inr hB
    have hBl : len ≤ B := by
     rcases hB with hB | hB
     ·rw [hx0] at hB
      have := (bulk_slice hB).1
      simpa using this
     ·omega
    obtain ⟨f, hf⟩ := choose_lt (n := len) (p := fun i (y : List AV × List Value) => w.cells? base (a.add (i * P.cellsOf e)) (P.cellsOf e) = some y.2 ∧ y.1.length = y.2.length ∧ y.2.length = P.cellsOf e ∧
      (∀ (j : Nat) (u : AV) (v : Value), y.1[j]? = some u → y.2[j]? = some v → SVR (fun b => b < w.heap.size) w u v) ∧ Typed P B n e y.1) (fun i hi => by
     obtain ⟨cs', h1, h2⟩ := hx i (by omega)
     obtain ⟨us, g1, g2, g3, g4⟩ := ih e hp3 _ _ _ h2 (hBe i hi)
     exact ⟨(us, cs'), h1, g1, g2, g3, g4⟩)
    refine ⟨[.lst (P.cellsOf e) ((List.range len).map fun i => (f i).1)], rfl, hp1.symm, one _ _ ?_, ?_⟩
    ·refine .lst (fun i j => ((f i).2[j]?).getD undef) (by simp) hl hm (fun cs hcs => ?_) (fun hn => ?_) (fun i j hi hj => ?_) (fun i j cs u hc hu => ?_)
     ·obtain ⟨i, hi, rfl⟩ := List.mem_map.1 hcs
      have := hf i (List.mem_range.1 hi)
      omega
     ·have hcell : ∀ i j, i < len → j < P.cellsOf e → w.cell? ((a.add (i * P.cellsOf e)).add j) = (f i).2[j]? := fun i j hi hj => (World.cells?_some (hf i hi).1).2.2 j hj
      obtain ⟨b, off, spot⟩ := a
      have h00 := hcell 0 0 hn hk0
      rw [Nat.zero_mul] at h00
      have hz : ((⟨b, off, spot⟩ : Addr).add 0).add 0 = ⟨b, off, spot⟩ := by simp [Addr.add]
      rw [hz, List.getElem?_eq_getElem (by have := hf 0 hn; omega)] at h00
      have hspot : spot = none := World.cell?_spot h00
      subst hspot
      refine ⟨b, off, rfl, World.block_lt_of_cell? w _ h00, fun i j hi hj => ?_⟩
      have h5 := hcell i j hi hj
      rw [add_add, addr_plain] at h5
      rw [h5, List.getElem?_eq_getElem (by have := hf i hi; omega)]
      rfl
     ·have h5 := hf i hi
      have hj1 : j < (f i).1.length := by omega
      have hj2 : j < (f i).2.length := by omega
      rw [List.getElem?_eq_getElem hj2, Option.getD_some]
      exact (h5.2.2.2.1 j _ _ (List.getElem?_eq_getElem hj1) (List.getElem?_eq_getElem hj2)).one
     ·rw [List.getElem?_map] at hc
      rcases Nat.lt_or_ge i len with hi | hi
      ·rw [List.getElem?_range hi] at hc
       simp only [Option.map_some, Option.some.injEq] at hc
       subst hc
       have h5 := hf i hi
       have hj1 : j < (f i).1.length := lt_of_get hu
       have hj2 : j < (f i).2.length := by omega
       rw [List.getElem?_eq_getElem hj2, Option.getD_some]
       exact h5.2.2.2.1 j _ _ hu (List.getElem?_eq_getElem hj2)
      ·rw [List.getElem?_eq_none (by simpa using hi)] at hc; cases hc
    ·unfold Typed
     rw [ht]
     refine ⟨_, rfl, by simpa using hBl, fun cs hcs => ?_⟩
     obtain ⟨i, hi, rfl⟩ := List.mem_map.1 hcs
     have := hf i (List.mem_range.1 hi)
     exact ⟨by omega, this.2.2.2.2⟩
  ·rename_i fs ht
   simp only [Bool.and_eq_true, List.all_eq_true] at hp
   obtain ⟨hp1, hp2⟩ := hp
   obtain ⟨xs, n', rfl, hx0, hlen, hxl, hf⟩ := DataW.trod_struct ht h
   have hBe : ∀ (i : Nat) (y : DataW H × List MemPlace), xs[i]? = some y → Rows.uptoBulk y.1 ≤ B ∨ maxLen ≤ B := fun i y hy => by
    rcases hB with hB | hB
    ·rw [hx0] at hB
     exact .inl (bulk_agg hB _ (List.mem_map.2 ⟨y, List.mem_of_getElem? hy, rfl⟩))
    ·exact .inr hB
   obtain ⟨us, hus⟩ := choose_lt (n := fs.size) (p := fun i (u : List AV) => ∀ f, fs[i]? = some f → u.length = P.cellsOf f.type ∧ ((cs.drop f.offset).take (P.cellsOf f.type)).length = P.cellsOf f.type ∧
     (∀ (j : Nat) (a : AV) (v : Value), u[j]? = some a → ((cs.drop f.offset).take (P.cellsOf f.type))[j]? = some v → SVR (fun b => b < w.heap.size) w a v) ∧ Typed P B n f.type u) (fun i hi => by
    have hix : i < xs.length := by omega
    have hfi := hf i fs[i] (Array.getElem?_eq_getElem hi)
    rw [List.getElem?_eq_getElem hix] at hfi
    obtain ⟨u, g1, g2, g3, g4⟩ := ih (fs[i]).type (hp2 _ (by simp)) _ _ _ hfi (hBe i _ (List.getElem?_eq_getElem hix))
    refine ⟨u, fun f hf' => ?_⟩
    rw [Array.getElem?_eq_getElem hi] at hf'
    injection hf' with hf'
    subst hf'
    exact ⟨by omega, g2, g3, g4⟩)
   have lt_of : ∀ (i : Nat) (f : Field), fs[i]? = some f → i < fs.size := fun i f h => by
    rcases Nat.lt_or_ge i fs.size with h' | h'
    ·exact h'
    ·rw [Array.getElem?_eq_none h'] at h; cases h
   obtain ⟨r, r1, r2, r3, r4⟩ := tile_cover fs.toList 0 (P.cellsOf t) hp1 us fun i f hf' => by
    have hf'' : fs[i]? = some f := by simpa using hf'
    exact (hus i (lt_of i f hf'') f hf'').1
   refine ⟨r, by omega, hlen, fun j u v hu hv => ?_, ?_⟩
   ·obtain ⟨i, f, q, g1, g2, g3, g4⟩ := r4 j (by have := lt_of_get hu; omega)
    have g1' : fs[i]? = some f := by simpa using g1
    rw [hu] at g4
    refine (hus i (lt_of i f g1') f g1').2.2.1 q u v g4.symm ?_
    rw [List.getElem?_take_of_lt g2, List.getElem?_drop, ← g3, Nat.zero_add]
    exact hv
   ·unfold Typed
    rw [ht]
    refine ⟨by omega, fun i f hf' => ?_⟩
    have := (r3 i f (by simpa using hf')).2
    rw [Nat.sub_zero] at this
    rw [this]
    exact (hus i (lt_of i f hf') f hf').2.2.2
  ·cases hp
theorem open_arg {B n : Nat} {t : TypeId} (hp : plainTy P n t = true) {v : Value} {d : DataW H} {p : List MemPlace} (h : DataW.Trod enc P w base spare held t v d p) {r : Reach} {b0 : Nat} (ho : Value.okWide P w r b0 t v) (hB : Rows.uptoBulk d ≤ B ∨ maxLen ≤ B) :
  ∃ x, AVR (fun b => b < w.heap.size) (fun _ => none) w x v ∧ TypedA P B n t x := by
 obtain ⟨fuel, hf⟩ := h
 obtain ⟨us, h1, h2, h3, h4⟩ := open_gen B n t hp fuel _ _ hf hB
 have leaf : v.cells = #[v] → (∀ fs, P.underlying t ≠ some (.struct fs)) → ∃ x, AVR (fun b => b < w.heap.size) (fun _ => none) w x v ∧ TypedA P B n t x := fun hv hns => by
  rw [hv] at h1 h3
  obtain ⟨u, rfl⟩ := List.length_eq_one_iff.1 (show us.length = 1 by simpa using h1)
  refine ⟨u, .s (h3 0 u v rfl rfl), ?_⟩
  unfold TypedA
  split
  ·rename_i fs ht; exact absurd ht (hns fs)
  ·exact h4
 have hp' := hp
 cases n with
 | zero => cases hp
 | succ n =>
 unfold plainTy at hp'
 split at hp'
 ·rename_i ht
  obtain ⟨b, rfl⟩ := okWide_bool ht ho
  exact leaf rfl fun fs h => by rw [ht] at h; cases h
 ·rename_i ht
  obtain ⟨b, rfl⟩ := okWide_string ht ho
  exact leaf rfl fun fs h => by rw [ht] at h; cases h
 ·rename_i k ht
  obtain ⟨b, rfl⟩ := okWide_int ht ho
  exact leaf rfl fun fs h => by rw [ht] at h; cases h
 ·rename_i e ht
  obtain ⟨a, l, c, rfl⟩ := okWide_slice ht ho
  exact leaf rfl fun fs h => by rw [ht] at h; cases h
 ·rename_i fs ht
  obtain ⟨cs, rfl, hcs⟩ := okWide_struct ht ho
  have hc : (Value.agg cs).cells = cs := rfl
  rw [hc] at h1 h3
  refine ⟨.agg us, .agg (by simpa using h1.symm) (fun i u hu => ?_) (fun i c u hc hu => .s (h3 i c u hc (by simpa using hu))), ?_⟩
  ·have hi : i < us.length := by
    rw [h1]
    have := lt_of_get (l := cs.toList) (i := i) (x := u) (by simpa using hu)
    exact this
   exact (h3 i _ u (List.getElem?_eq_getElem hi) (by simpa using hu)).one
  ·unfold TypedA
   rw [ht]
   exact ⟨us, rfl, h4⟩
 ·cases hp'
theorem open_args {B n : Nat} {r : Reach} {b0 : Nat} : ∀ (ts : List TypeId) (vs : List Value) (ds : List (DataW H)) (p : List MemPlace), DataW.TrodAll enc P w base spare held ts vs ds p → (∀ t ∈ ts, plainTy P n t = true) →
  (∀ (j : Nat) t v, ts[j]? = some t → vs[j]? = some v → Value.okWide P w r b0 t v) → (Rows.uptoBulkAll ds ≤ B ∨ maxLen ≤ B) →
  ds.length = ts.length ∧ vs.length = ts.length ∧ ∃ as' : List AV, as'.length = vs.length ∧ (∀ (i : Nat) (x : AV) (v : Value), as'[i]? = some x → vs[i]? = some v → AVR (fun b => b < w.heap.size) (fun _ => none) w x v) ∧ TypedL P B n ts as' := by
 intro ts
 induction ts with
 | nil =>
  intro vs ds p h _ _ _
  obtain ⟨rfl, rfl, rfl⟩ := trodAll_nil h
  exact ⟨rfl, rfl, [], rfl, fun i x v h => by simp at h, trivial⟩
 | cons t ts ih =>
  intro vs ds p h hp ho hB
  obtain ⟨v, vs', d, ds', p1, q, rfl, rfl, rfl, h1, h2⟩ := trodAll_cons h
  have hB1 : Rows.uptoBulk d ≤ B ∨ maxLen ≤ B := hB.imp (fun h => by simp only [Rows.uptoBulkAll] at h; omega) id
  have hB2 : Rows.uptoBulkAll ds' ≤ B ∨ maxLen ≤ B := hB.imp (fun h => by simp only [Rows.uptoBulkAll] at h; omega) id
  obtain ⟨x, g1, g2⟩ := open_arg (hp t (.head _)) h1 (ho 0 t v rfl rfl) hB1
  obtain ⟨e1, e2, as', g3, g4, g5⟩ := ih vs' ds' q h2 (fun t ht => hp t (.tail _ ht)) (fun j t v h1 h2 => ho (j + 1) t v (by simpa using h1) (by simpa using h2)) hB2
  refine ⟨by simp [e1], by simp [e2], x :: as', by simp [g3], fun i y u hy hu => ?_, g2, g5⟩
  cases i with
  | zero => simp only [List.getElem?_cons_zero, Option.some.injEq] at hy hu; subst hy; subst hu; exact g1
  | succ i => exact g4 i y u (by simpa using hy) (by simpa using hu)
end
theorem trodAll_stays {H : Type} {enc : TypeId × Value → H} {P : Program} (hl : laidOutB P = true) {W W' : World} (hb : Below W.heap.size W W') : ∀ (ts : List TypeId) (vs : List Value) (ds : List (DataW H)) (p : List MemPlace),
  (∀ t ∈ ts, P.readableRec t = true ∧ t < P.types.size) → DataW.TrodAll enc P W 0 (fun _ => true) true ts vs ds p → DataW.TrodAll enc P W' 0 (fun b => decide (b < W.heap.size)) true ts vs ds p := by
 intro ts
 induction ts with
 | nil =>
  intro vs ds p _ h
  obtain ⟨rfl, rfl, rfl⟩ := trodAll_nil h
  exact trodAll_mk0
 | cons t ts ih =>
  intro vs ds p hr h
  obtain ⟨v, vs', d, ds', p1, q, rfl, rfl, rfl, h1, h2⟩ := trodAll_cons h
  have hlt : ∀ x ∈ p1, x.block < W.heap.size := by obtain ⟨m, hm⟩ := h1; exact DataW.trod_lt m _ _ _ hm
  exact trodAll_cons_mk (Below.trod hl (hr t (.head _)).1 (hr t (.head _)).2 h1 hb hlt) (ih vs' ds' q (fun t ht => hr t (.tail _ ht)) h2)
theorem law_contractF {P : Program} (hl : laidOutB P = true) {f : FuncId} {fn : Func} {spec : ChangeSpec} {tb B n : Nat} (hvars : spec.vars = []) (hres : fn.resultTypes = #[tb]) (htb : P.underlying tb = some .bool)
  (hfn : ∀ (H : Type) (ds : List (DataW H)), ds.length = fn.params.toList.length → spec.fn H ds = { results := [.lit (.bool true)], args := ds, vars := [] })
  (hplain : (fn.params.toList.all fun t => plainTy P n t && P.readableRec t && decide (t < P.types.size)) = true)
  (walk : ∀ as', TypedL P B n fn.params.toList as' → PCall P f as' (fun r => r = .v (.bool true)))
  (H : Type) (enc : TypeId × Value → H) (W : World) (base : Nat) (args : Array Value) (ds gs : List (DataW H)) (before : List MemPlace)
  (hval : ∀ (j : Nat) t v, fn.params[j]? = some t → args[j]? = some v → Value.okWide P W .any base t v)
  (hW : DataW.Whole enc P fn.params.toList spec.vars false W args.toList ds gs before) (hk : Rows.uptoBulkAll (ds ++ gs) ≤ B ∨ maxLen ≤ B) (hF : FOK (fun b => b < W.heap.size) W) :
  Calls P f args W fun e W' => ∃ v, e = .returned v ∧ spec.post enc P fn false true false false W args v W' := by
 have hW' := hW
 obtain ⟨p, q, hA, hV, rfl, hfz, hnd⟩ := hW
 rw [hvars] at hV
 obtain ⟨rfl, rfl⟩ := trodVars_none hV
 rw [List.append_nil] at hk
 simp only [List.all_eq_true, Bool.and_eq_true, decide_eq_true_eq] at hplain
 obtain ⟨e1, e2, as', g1, g2, g3⟩ := open_args _ _ _ _ hA (fun t ht => (hplain t ht).1.1) (fun j t v h1 h2 => hval j t v (by simpa using h1) (by simpa using h2)) hk
 refine (PCall.row (walk as' g3) args (by simpa using g1.symm) (fun i x v hx hv => g2 i x v hx (by simpa using hv)) hF).mono fun e W' ⟨he, bel⟩ => ?_
 subst he
 have hs : spec.fn H (ds ++ []) = { results := [.lit (.bool true)], args := ds, vars := [] } := by rw [List.append_nil]; exact hfn H ds e1
 refine ⟨_, rfl, ds, [], _, [], p, [], hW', ?_, ?_, ?_, bel.frame _, fun h => by cases h⟩
 ·rw [hs, hres]
  exact trodAll_mk1 (shut_bool htb _)
 ·rw [hs]
  exact trodAll_stays hl bel _ _ _ _ (fun t ht => ⟨(hplain t ht).1.2, (hplain t ht).2⟩) hA
 ·rw [hs, hvars]; rfl
end Go.Proofs.Ytjeplogcfedmeaa
end
section
namespace Go.Proofs.Ytjeplogcfedmeaa
open Go.ChangeShapes Go.WideShapes Go.ChangeAt Go.RowKit
set_option maxRecDepth 100000
section
variable {P : Program} {B n : Nat} {t e : TypeId} {us : List AV}
theorem td_int {k : IntKind} (ht : P.underlying t = some (.int k)) (h : Typed P B (n + 1) t us) : ∃ z, us = [.v (.int k z)] ∧ (Lit.int k z).wf = true := by
 unfold Typed at h; rw [ht] at h; exact h
theorem td_bool (ht : P.underlying t = some .bool) (h : Typed P B (n + 1) t us) : ∃ b, us = [.v (.bool b)] := by
 unfold Typed at h; rw [ht] at h; exact h
theorem tl_cons {ts : List TypeId} {as' : List AV} (h : TypedL P B n (t :: ts) as') : ∃ x xs, as' = x :: xs ∧ TypedA P B n t x ∧ TypedL P B n ts xs := by
 cases as' with
 | nil => exact h.elim
 | cons x xs => exact ⟨x, xs, rfl, h.1, h.2⟩
theorem tl_nil {as' : List AV} (h : TypedL P B n [] as') : as' = [] := by
 cases as' with
 | nil => rfl
 | cons x xs => exact h.elim
theorem td_struct {fs : Array Field} {k : Nat} (ht : P.underlying t = some (.struct fs)) (hk : P.cellsOf t = k) (h : Typed P B (n + 1) t us) : us.length = k ∧ ∀ (i : Nat) (f : Field), fs[i]? = some f → Typed P B n f.type ((us.drop f.offset).take (P.cellsOf f.type)) := by
 unfold Typed at h; rw [ht, hk] at h; exact h
theorem td_argS {fs : Array Field} {x : AV} (ht : P.underlying t = some (.struct fs)) (h : TypedA P B n t x) : ∃ us, x = .agg us ∧ Typed P B n t us := by
 unfold TypedA at h; rw [ht] at h; exact h
theorem td_list {α : Type} {xs : List (List AV)} {enc : α → List AV} {p : α → Prop} (h : ∀ cs ∈ xs, ∃ a, cs = enc a ∧ p a) : ∃ l : List α, xs = l.map enc ∧ ∀ a ∈ l, p a := by
 induction xs with
 | nil => exact ⟨[], rfl, fun a h => by cases h⟩
 | cons x xs ih =>
  obtain ⟨a, rfl, ha⟩ := h x (.head _)
  obtain ⟨l, rfl, hl⟩ := ih fun cs hcs => h cs (.tail _ hcs)
  exact ⟨a :: l, rfl, fun b hb => by rcases List.mem_cons.1 hb with rfl | hb; (· exact ha); exact hl b hb⟩
theorem td_slice {α : Type} {enc : α → List AV} {p : α → Prop} {k : Nat} (ht : P.underlying t = some (.slice e)) (hk : P.cellsOf e = k) (h : Typed P B (n + 1) t us) (he : ∀ cs, Typed P B n e cs → ∃ a, cs = enc a ∧ p a) :
  ∃ l : List α, us = [.lst k (l.map enc)] ∧ l.length ≤ B ∧ ∀ a ∈ l, p a := by
 unfold Typed at h
 rw [ht] at h
 obtain ⟨xs, rfl, h1, h2⟩ := h
 obtain ⟨l, rfl, h3⟩ := td_list (enc := enc) (p := p) fun cs hcs => he cs (h2 cs hcs).2
 exact ⟨l, by rw [hk], by simpa using h1, h3⟩
theorem td_ints {k : IntKind} (ht : P.underlying t = some (.slice e)) (he : P.underlying e = some (.int k)) (hk : P.cellsOf e = 1) (h : Typed P B (n + 2) t us) :
  ∃ l : List Int, us = [.lst 1 (l.map fun z => [.v (.int k z)])] ∧ l.length ≤ B ∧ ∀ z ∈ l, (Lit.int k z).wf = true :=
 td_slice ht hk h fun cs hcs => by obtain ⟨z, h1, h2⟩ := td_int he hcs; exact ⟨z, h1, h2⟩
end
theorem td_arg_int {P : Program} {B n : Nat} {t : TypeId} {x : AV} {k : IntKind} (ht : P.underlying t = some (.int k)) (h : TypedA P B (n + 1) t x) : ∃ z, x = .v (.int k z) ∧ (Lit.int k z).wf = true := by
 unfold TypedA at h
 rw [ht] at h
 obtain ⟨z, h1, h2⟩ := td_int ht h
 injection h1 with h1
 exact ⟨z, h1, h2⟩
end Go.Proofs.Ytjeplogcfedmeaa
end
section
namespace Go.Proofs.Ytjeplogcfedmeaa
open Go.ChangeShapes Go.WideShapes Go.ChangeAt Go.RowKit
set_option maxRecDepth 100000
theorem cp_int : (Try.prog).cellsOf 3 = 1 := by kernel_rfl
theorem cp_bool : (Try.prog).cellsOf 4 = 1 := by kernel_rfl
theorem cp_ins : (Try.prog).cellsOf 37 = 4 := by kernel_rfl
theorem cp_code : (Try.prog).cellsOf 22 = 1 := by kernel_rfl
theorem cp_ints : (Try.prog).cellsOf 23 = 1 := by kernel_rfl
theorem cp_prog : (Try.prog).cellsOf 25 = 3 := by kernel_rfl
theorem td_ins {B n : Nat} {us : List AV} (h : Typed Try.prog B (n + 2) 37 us) : ∃ x : InsM, us = encI x ∧ True := by
 obtain ⟨hl, hf⟩ := td_struct Try.underlying37 cp_ins h
 have h0 : Typed Try.prog B _ 3 ((us.drop 0).take ((Try.prog).cellsOf 3)) := hf 0 _ rfl
 have h1 : Typed Try.prog B _ 3 ((us.drop 1).take ((Try.prog).cellsOf 3)) := hf 1 _ rfl
 have h2 : Typed Try.prog B _ 3 ((us.drop 2).take ((Try.prog).cellsOf 3)) := hf 2 _ rfl
 have h3 : Typed Try.prog B _ 3 ((us.drop 3).take ((Try.prog).cellsOf 3)) := hf 3 _ rfl
 match us, hl, h0, h1, h2, h3 with
 | [u0, u1, u2, u3], _, h0, h1, h2, h3 =>
 simp only [cp_int, List.drop_zero, List.drop_succ_cons, List.take_succ_cons, List.take_zero] at h0 h1 h2 h3
 obtain ⟨a, g1, _⟩ := td_int Try.underlying3 h0
 obtain ⟨b, g3, _⟩ := td_int Try.underlying3 h1
 obtain ⟨c, g5, _⟩ := td_int Try.underlying3 h2
 obtain ⟨d, g7, _⟩ := td_int Try.underlying3 h3
 injection g1 with g1; injection g3 with g3; injection g5 with g5; injection g7 with g7
 subst g1; subst g3; subst g5; subst g7
 exact ⟨⟨a, b, c, d⟩, rfl, trivial⟩
theorem td_prog {B n : Nat} {x : AV} (h : TypedA Try.prog B (n + 6) 25 x) : ∃ e C N, x = pG e C N ∧ C.length ≤ B ∧ N.length ≤ B := by
 obtain ⟨us, rfl, h'⟩ := td_argS Try.underlying25 h
 obtain ⟨hl, hf⟩ := td_struct Try.underlying25 cp_prog h'
 have h0 : Typed Try.prog B _ 4 ((us.drop 0).take ((Try.prog).cellsOf 4)) := hf 0 _ rfl
 have h1 : Typed Try.prog B _ 22 ((us.drop 1).take ((Try.prog).cellsOf 22)) := hf 1 _ rfl
 have h2 : Typed Try.prog B _ 23 ((us.drop 2).take ((Try.prog).cellsOf 23)) := hf 2 _ rfl
 match us, hl, h0, h1, h2 with
 | [u0, u1, u2], _, h0, h1, h2 =>
 simp only [cp_bool, cp_code, cp_ints, List.drop_zero, List.drop_succ_cons, List.take_succ_cons, List.take_zero] at h0 h1 h2
 obtain ⟨e, g0⟩ := td_bool Try.underlying4 h0
 obtain ⟨C, g1, g2, _⟩ := td_slice (enc := encI) Try.underlying22 cp_ins h1 (fun cs => td_ins)
 obtain ⟨N, g4, g5, _⟩ := td_ints Try.underlying23 Try.underlying3 cp_int h2
 injection g0 with g0; injection g1 with g1; injection g4 with g4
 subst g0; subst g1; subst g4
 exact ⟨e, C, N, rfl, g2, g5⟩
end Go.Proofs.Ytjeplogcfedmeaa
end
section
namespace Go.Proofs.Ytjeplogcfedmeaa
open Go.RowKit
theorem kn_lo (d i : Nat) : (kn d i < 10000) = False := eq_false (by unfold kn; omega)
theorem kn_hi (d i : Nat) : (20000 ≤ kn d i) = True := eq_true (by unfold kn; omega)
theorem kn_15 (d i : Nat) : (15000 ≤ kn d i) = True := eq_true (by unfold kn; omega)
theorem kn_ne (d i : Nat) {n : Nat} (h : n < 20000) : (kn d i == n) = false := by
 have : kn d i ≠ n := by unfold kn; omega
 simpa using this
theorem kn_ne' (d i : Nat) {n : Nat} (h : n < 20000) : (n == kn d i) = false := by
 have : n ≠ kn d i := by unfold kn; omega
 simpa using this
theorem kn_inj {d i j : Nat} (h : kn d i = kn d j) : i = j := by unfold kn at h; omega
theorem kn_eq (d i j : Nat) : (kn d i == kn d j) = (i == j) := by
 by_cases h : i = j
 ·subst h; simp
 ·have h' : kn d i ≠ kn d j := fun g => h (kn_inj g)
  rw [beq_false_of_ne h', beq_false_of_ne h]
def kc (ty kk d m i : Nat) (ys : List (List AV)) : AV := bif Nat.blt i m then .lst kk ys else .ref ty kk (kn d i) 0 ys.length
def kcells (ty kk d m : Nat) : Nat → List (Int × List (List AV)) → List AV
 | _, [] => []
 | i, p :: S => .v (.int .i64 p.1) :: kc ty kk d m i p.2 :: kcells ty kk d m (i + 1) S
def kids (ty kk d m : Nat) : Nat → List (Int × List (List AV)) → List (Nat × AObj)
 | _, [] => []
 | i, p :: S => bif Nat.blt i m then kids ty kk d m (i + 1) S else (kn d i, .row ty kk p.2) :: kids ty kk d m (i + 1) S
def kidNames (d n : Nat) : List Nat := (List.range n).map (kn d)
theorem blt_t {i m : Nat} (h : i < m) : Nat.blt i m = true := Nat.ble_eq_true_of_le h
theorem blt_f {i m : Nat} (h : m ≤ i) : Nat.blt i m = false := by
 cases hb : Nat.blt i m
 ·rfl
 ·have := Nat.le_of_ble_eq_true hb; omega
theorem kc_t {ty kk d m i : Nat} {ys : List (List AV)} (h : i < m) : kc ty kk d m i ys = .lst kk ys := by rw [kc, blt_t h]; rfl
theorem kc_f {ty kk d m i : Nat} {ys : List (List AV)} (h : m ≤ i) : kc ty kk d m i ys = .ref ty kk (kn d i) 0 ys.length := by rw [kc, blt_f h]; rfl
section
variable {ty kk d m : Nat}
theorem frz_kcells_at {ys : List (List AV)} {a : Int} : ∀ (S : List (Int × List (List AV))) (i : Nat), i ≤ m → S[m - i]? = some (a, ys) → AV.frz.frzL (kn d m) ty kk ys (kcells ty kk d m i S) = kcells ty kk d (m + 1) i S := by
 intro S
 have tail : ∀ (S : List (Int × List (List AV))) (i : Nat), m < i → AV.frz.frzL (kn d m) ty kk ys (kcells ty kk d m i S) = kcells ty kk d (m + 1) i S := by
  intro S
  induction S with
  | nil => intro i _; rfl
  | cons p S ih =>
   intro i hi
   rw [kcells, kcells, kc_f (by omega), kc_f (by omega)]
   simp only [AV.frz.frzL, AV.frz, ih (i + 1) (by omega)]
   have : (kn d i == kn d m) = false := by rw [kn_eq]; simpa using Nat.ne_of_gt hi
   rw [this]
   rfl
 induction S with
 | nil => intro i _ h; simp at h
 | cons p S ih =>
  intro i hi h
  by_cases he : i = m
  ·subst he
   rw [Nat.sub_self, List.getElem?_cons_zero] at h
   injection h with h
   subst h
   rw [kcells, kcells, kc_f (Nat.le_refl _), kc_t (by omega)]
   simp only [AV.frz.frzL, AV.frz, tail S (i + 1) (by omega), beq_self_eq_true, cond_true, Nat.zero_add, Nat.le_refl, and_self, if_true, List.take_length, List.drop_zero]
  ·have h' : S[m - (i + 1)]? = some (a, ys) := by
    rw [show m - i = (m - (i + 1)) + 1 by omega] at h
    simpa using h
   rw [kcells, kcells, kc_t (by omega), kc_t (by omega)]
   simp only [AV.frz.frzL, AV.frz, ih (i + 1) (by omega) h']
theorem kids_names {S : List (Int × List (List AV))} {q : Nat × AObj} : ∀ i, q ∈ kids ty kk d m i S → ∃ j p, S[j]? = some p ∧ m ≤ i + j ∧ q = (kn d (i + j), .row ty kk p.2) := by
 induction S with
 | nil => intro i h; cases h
 | cons p S ih =>
  intro i h
  rw [kids] at h
  have go : q ∈ kids ty kk d m (i + 1) S → ∃ j p', (p :: S)[j]? = some p' ∧ m ≤ i + j ∧ q = (kn d (i + j), .row ty kk p'.2) := fun h => by
   obtain ⟨j, p', h1, h2, h3⟩ := ih (i + 1) h
   exact ⟨j + 1, p', by simpa using h1, by omega, by rw [h3, show i + 1 + j = i + (j + 1) by omega]⟩
  by_cases hm : i < m
  ·rw [blt_t hm] at h; exact go h
  ·rw [blt_f (by omega)] at h
   rcases List.mem_cons.1 h with h | h
   ·exact ⟨0, p, rfl, by omega, h⟩
   ·exact go h
theorem lk_kids : ∀ (S : List (Int × List (List AV))) (i j : Nat), i ≤ j → lk (kids ty kk d m i S) (kn d j) = if m ≤ j then (S[j - i]?).map (fun p => .row ty kk p.2) else none := by
 intro S
 induction S with
 | nil => intro i j _; simp [kids, lk]
 | cons p S ih =>
  intro i j hij
  rw [kids]
  by_cases he : i = j
  ·subst he
   by_cases hm : i < m
   ·rw [blt_t hm, cond_true, if_neg (by omega)]
    cases h : lk (kids ty kk d m (i + 1) S) (kn d i) with
    | none => rfl
    | some o =>
     obtain ⟨j, p, _, _, h3⟩ := kids_names (i + 1) (lk_mem h)
     injection h3 with h3 _
     have := kn_inj h3; omega
   ·rw [blt_f (by omega), cond_false, lk_cons, bif_eq rfl, if_pos (by omega), Nat.sub_self]; rfl
  ·have h1 := ih (i + 1) j (by omega)
   have h2 : (p :: S)[j - i]? = S[j - (i + 1)]? := by rw [show j - i = (j - (i + 1)) + 1 by omega, List.getElem?_cons_succ]
   by_cases hm : i < m
   ·rw [blt_t hm, cond_true, h1, h2]
   ·rw [blt_f (by omega), cond_false, lk_cons, bif_ne (fun g => he (kn_inj g)), h1, h2]
theorem lk_kids0 (S : List (Int × List (List AV))) {j : Nat} {p : Int × List (List AV)} (hm : m ≤ j) (h : S[j]? = some p) : lk (kids ty kk d m 0 S) (kn d j) = some (.row ty kk p.2) := by
 rw [lk_kids S 0 j (Nat.zero_le _), if_pos hm, Nat.sub_zero, h]; rfl
theorem rm_none {α : Type} {e : Nat} : ∀ {l : List (Nat × α)}, (∀ q ∈ l, q.1 ≠ e) → rm e l = l
 | [], _ => rfl
 | (k, a) :: l, h => by
  rw [rm, bif_ne (h (k, a) (.head _)), rm_none fun q hq => h q (.tail _ hq)]
theorem rm_kids {e : Nat} (he : e < 20000) (i : Nat) (S : List (Int × List (List AV))) : rm e (kids ty kk d m i S) = kids ty kk d m i S :=
 rm_none fun q hq => by
  obtain ⟨j, p, _, _, rfl⟩ := kids_names i hq
  show kn d (i + j) ≠ e
  unfold kn; omega
theorem kids_up : ∀ (S : List (Int × List (List AV))) (i : Nat), m < i → kids ty kk d (m + 1) i S = kids ty kk d m i S := by
 intro S
 induction S with
 | nil => intro i _; rfl
 | cons p S ih =>
  intro i hi
  rw [kids, kids, blt_f (by omega), blt_f (by omega), cond_false, cond_false, ih (i + 1) (by omega)]
theorem rm_kids_at : ∀ (S : List (Int × List (List AV))) (i : Nat), i ≤ m → rm (kn d m) (kids ty kk d m i S) = kids ty kk d (m + 1) i S := by
 intro S
 induction S with
 | nil => intro i _; rfl
 | cons p S ih =>
  intro i hi
  rw [kids, kids]
  by_cases he : i = m
  ·subst he
   rw [blt_f (Nat.le_refl _), blt_t (Nat.lt_succ_self _), cond_false, cond_true, rm, bif_eq rfl, kids_up S (i + 1) (by omega)]
   exact rm_none fun q hq => by
    obtain ⟨j, p, _, _, rfl⟩ := kids_names (i + 1) hq
    exact fun g => by have := kn_inj g; omega
  ·rw [blt_t (by omega), blt_t (by omega), cond_true, cond_true, ih (i + 1) (by omega)]
theorem kids_map (f : AObj → AObj) (hf : ∀ t k xs, f (.row t k xs) = .row t k xs) (i : Nat) (S : List (Int × List (List AV))) : (kids ty kk d m i S).map (fun p => (p.1, f p.2)) = kids ty kk d m i S := by
 conv => rhs; rw [← List.map_id (kids ty kk d m i S)]
 refine List.map_congr_left fun q hq => ?_
 obtain ⟨j, p, _, _, rfl⟩ := kids_names i hq
 simp only [hf, id_eq]
theorem kids_kill (e i : Nat) (S : List (Int × List (List AV))) : (kids ty kk d m i S).map (fun p => (p.1, p.2.kill e)) = kids ty kk d m i S := kids_map (AObj.kill e) (fun _ _ _ => rfl) i S
theorem kids_frz (e t k : Nat) (xs : List (List AV)) (i : Nat) (S : List (Int × List (List AV))) : (kids ty kk d m i S).map (fun p => (p.1, p.2.frz e t k xs)) = kids ty kk d m i S := kids_map (AObj.frz e t k xs) (fun _ _ _ => rfl) i S
theorem kids_cut (K V : List Nat) (i : Nat) (S : List (Int × List (List AV))) : (kids ty kk d m i S).map (fun p => (p.1, p.2.cut K V)) = kids ty kk d m i S := kids_map (AObj.cut K V) (fun _ _ _ => rfl) i S
theorem keep_range (g : Nat → Option AObj) : ∀ (n i : Nat) (S : List (Int × List (List AV))), S.length ≤ n → (∀ j, i ≤ j → g j = if m ≤ j then (S[j - i]?).map (fun p => .row ty kk p.2) else none) →
  (List.range' i n).filterMap (fun j => (g j).map fun o => (kn d j, o)) = kids ty kk d m i S := by
 intro n
 induction n with
 | zero =>
  intro i S hS _
  have hS0 : S = [] := List.eq_nil_of_length_eq_zero (by omega)
  subst hS0
  rfl
 | succ n ih =>
  intro i S hS hg
  rw [List.range'_succ, List.filterMap_cons]
  have h0 := hg i (Nat.le_refl _)
  rw [Nat.sub_self] at h0
  cases S with
  | nil =>
   have : g i = none := by rw [h0]; split <;> rfl
   rw [this]
   exact ih (i + 1) [] (Nat.zero_le _) fun j hj => by rw [hg j (by omega)]; simp
  | cons p S =>
   have ht := ih (i + 1) S (by rw [List.length_cons] at hS; omega) fun j hj => by
    rw [hg j (by omega), show j - i = (j - (i + 1)) + 1 by omega, List.getElem?_cons_succ]
   rw [kids]
   by_cases hm : i < m
   ·rw [h0, if_neg (by omega), blt_t hm]
    exact ht
   ·rw [h0, if_pos (by omega), blt_f (by omega)]
    show (kn d i, AObj.row ty kk p.2) :: _ = _
    rw [ht]; rfl
theorem keep_kids {ob : List (Nat × AObj)} {n : Nat} {S : List (Int × List (List AV))} (hS : S.length ≤ n) (h : ∀ j, lk ob (kn d j) = if m ≤ j then (S[j]?).map (fun p => .row ty kk p.2) else none) :
  (kidNames d n).filterMap (fun e => (lk ob e).map fun o => (e, o)) = kids ty kk d m 0 S := by
 rw [kidNames, List.filterMap_map, List.range_eq_range']
 exact keep_range (fun j => lk ob (kn d j)) n 0 S hS fun j _ => h j
end
end Go.Proofs.Ytjeplogcfedmeaa
end
section
namespace Go.Proofs.Ytjeplogcfedmeaa
open Go.RowKit
abbrev KidL := List (Int × List (List AV))
def kcel (ty kk d m : Nat) : Nat → KidL → List AV
 | _, [] => []
 | i, p :: S => kc ty kk d m i p.2 :: kcel ty kk d m (i + 1) S
section
variable {ty kk d m : Nat}
theorem kcel_len (i : Nat) (S : KidL) : (kcel ty kk d m i S).length = S.length := by
 induction S generalizing i with
 | nil => rfl
 | cons p S ih => simp only [kcel, List.length_cons, ih]
theorem kcel_get {S : KidL} {p : Int × List (List AV)} : ∀ (i j : Nat), S[j]? = some p → (kcel ty kk d m i S)[j]? = some (kc ty kk d m (i + j) p.2) := by
 induction S with
 | nil => intro i j h; simp at h
 | cons q S ih =>
  intro i j h
  cases j with
  | zero => simp only [List.getElem?_cons_zero, Option.some.injEq] at h; subst h; rfl
  | succ j =>
   have h' : S[j]? = some p := by simpa using h
   rw [kcel, List.getElem?_cons_succ, ih (i + 1) j h', show i + 1 + j = i + (j + 1) by omega]
theorem kcel_snoc (p : Int × List (List AV)) (S : KidL) : ∀ i, kcel ty kk d m i S ++ [kc ty kk d m (i + S.length) p.2] = kcel ty kk d m i (S ++ [p]) := by
 induction S with
 | nil => intro i; rfl
 | cons q S ih =>
  intro i
  rw [kcel, List.cons_append, List.cons_append, kcel, ← ih (i + 1), List.length_cons, show i + (S.length + 1) = i + 1 + S.length by omega]
theorem kcel_mem {S : KidL} {u : AV} : ∀ i, u ∈ kcel ty kk d m i S → ∃ j p, S[j]? = some p ∧ u = kc ty kk d m (i + j) p.2 := by
 induction S with
 | nil => intro i h; cases h
 | cons q S ih =>
  intro i h
  rw [kcel] at h
  rcases List.mem_cons.1 h with h | h
  ·exact ⟨0, q, rfl, h⟩
  ·obtain ⟨j, p, h1, h2⟩ := ih (i + 1) h
   exact ⟨j + 1, p, by simpa using h1, by rw [h2, show i + 1 + j = i + (j + 1) by omega]⟩
theorem kcel_map {f : AV → AV} {S : KidL} (i : Nat) (h : ∀ u ∈ kcel ty kk d m i S, f u = u) : (kcel ty kk d m i S).map f = kcel ty kk d m i S := by
 conv => rhs; rw [← List.map_id (kcel ty kk d m i S)]
 exact List.map_congr_left fun u hu => h u hu
theorem kill_kcel {e : Nat} (he : e < 20000) (i : Nat) (S : KidL) : AV.kill.killL e (kcel ty kk d m i S) = kcel ty kk d m i S := by
 rw [AV.killL_eq]
 refine kcel_map i fun u hu => ?_
 obtain ⟨j, p, _, rfl⟩ := kcel_mem i hu
 unfold kc
 cases Nat.blt (i + j) m
 ·simp only [cond_false, AV.kill, kn_ne d (i + j) he]
 ·rfl
theorem frz_kcel {e t k : Nat} {xs : List (List AV)} (he : e < 20000) (i : Nat) (S : KidL) : AV.frz.frzL e t k xs (kcel ty kk d m i S) = kcel ty kk d m i S := by
 rw [AV.frzL_eq]
 refine kcel_map i fun u hu => ?_
 obtain ⟨j, p, _, rfl⟩ := kcel_mem i hu
 unfold kc
 cases Nat.blt (i + j) m
 ·simp only [cond_false, AV.frz, kn_ne d (i + j) he]
 ·rfl
theorem cut_kcel {K : List Nat} (i : Nat) (S : KidL) (hK : ∀ e ∈ K, ∀ j, j < S.length → kn d (i + j) ≠ e) : AV.cut.cutL K [] (kcel ty kk d m i S) = kcel ty kk d m i S := by
 rw [AV.cutL_eq]
 refine kcel_map i fun u hu => ?_
 obtain ⟨j, p, hj, rfl⟩ := kcel_mem i hu
 unfold kc
 cases Nat.blt (i + j) m
 ·have : K.contains (kn d (i + j)) = false := by
   rw [List.contains_eq_mem, decide_eq_false_iff_not]
   exact fun h => hK _ h j (lt_of_get hj) rfl
  simp only [cond_false, AV.cut, this]
 ·rfl
theorem frz_kcel_at {ys : List (List AV)} {a : Int} : ∀ (S : KidL) (i : Nat), i ≤ m → S[m - i]? = some (a, ys) → AV.frz.frzL (kn d m) ty kk ys (kcel ty kk d m i S) = kcel ty kk d (m + 1) i S := by
 intro S
 have tail : ∀ (S : KidL) (i : Nat), m < i → AV.frz.frzL (kn d m) ty kk ys (kcel ty kk d m i S) = kcel ty kk d (m + 1) i S := by
  intro S
  induction S with
  | nil => intro i _; rfl
  | cons p S ih =>
   intro i hi
   rw [kcel, kcel, kc_f (by omega), kc_f (by omega)]
   simp only [AV.frz.frzL, AV.frz, ih (i + 1) (by omega)]
   have : (kn d i == kn d m) = false := by rw [kn_eq]; simpa using Nat.ne_of_gt hi
   rw [this]
   rfl
 induction S with
 | nil => intro i _ h; simp at h
 | cons p S ih =>
  intro i hi h
  by_cases he : i = m
  ·subst he
   rw [Nat.sub_self, List.getElem?_cons_zero] at h
   injection h with h
   subst h
   rw [kcel, kcel, kc_f (Nat.le_refl _), kc_t (by omega)]
   simp only [AV.frz.frzL, AV.frz, tail S (i + 1) (by omega), beq_self_eq_true, cond_true, Nat.zero_add, Nat.le_refl, and_self, if_true, List.take_length, List.drop_zero]
  ·have h' : S[m - (i + 1)]? = some (a, ys) := by
    rw [show m - i = (m - (i + 1)) + 1 by omega] at h
    simpa using h
   rw [kcel, kcel, kc_t (by omega), kc_t (by omega)]
   simp only [AV.frz.frzL, AV.frz, ih (i + 1) (by omega) h']
theorem keep_nest {n : Nat} {S : KidL} {s : AState} (ts os : List Nat) (hS : S.length ≤ n) (h : ∀ j, lk s.ob (kn d j) = if m ≤ j then (S[j]?).map (fun p => .row ty kk p.2) else none) :
  s.keep ts (os ++ kidNames d n) = { fr := (s.keep ts os).fr, ob := (s.keep ts os).ob ++ kids ty kk d m 0 S } := by
 show AState.mk _ _ = AState.mk _ _
 rw [List.filterMap_append, keep_kids hS h]
 rfl
theorem lk_kids_new {k : Nat} {S : KidL} {p : Int × List (List AV)} (hk : S.length = k) (j : Nat) :
  (bif k == j then some (AObj.row ty kk p.2) else lk (kids ty kk d 0 0 S) (kn d j)) = ((S ++ [p])[j]?).map (fun p => .row ty kk p.2) := by
 by_cases he : k = j
 ·subst he; subst hk; simp
 ·rw [bif_ne he, lk_kids S 0 j (Nat.zero_le _), if_pos (Nat.zero_le _), Nat.sub_zero]
  by_cases hj : j < S.length
  ·rw [List.getElem?_append_left hj]
  ·rw [List.getElem?_eq_none (by omega), List.getElem?_eq_none (by simp; omega)]
theorem handOK_one (nm e : Nat) (he : 20000 ≤ e) : handOK [] [(nm, e)] [e] [] = true := by
 have h15 : 15000 ≤ e := by omega
 simp [handOK, lk, inv2, h15]
theorem kids_full : ∀ (S : KidL) (i : Nat), i + S.length ≤ m → kids ty kk d m i S = []
 | [], _, _ => rfl
 | p :: S, i, h => by
  rw [List.length_cons] at h
  rw [kids, blt_t (by omega), cond_true, kids_full S (i + 1) (by omega)]
theorem lk_kidsB (m : Nat) (S : KidL) (j : Nat) : lk (kids ty kk d m 0 S) (kn d j) = if m ≤ j then (S[j]?).map (fun p => .row ty kk p.2) else none := by rw [lk_kids S 0 j (Nat.zero_le _), Nat.sub_zero]
theorem kcel_same : ∀ (S S' : KidL) (i : Nat), S.map (fun p => p.2.length) = S'.map (fun p => p.2.length) → kcel ty kk d 0 i S = kcel ty kk d 0 i S'
 | [], [], _, _ => rfl
 | [], _ :: _, _, h => by simp at h
 | _ :: _, [], _, h => by simp at h
 | p :: S, q :: S', i, h => by
  simp only [List.map_cons, List.cons.injEq] at h
  rw [kcel, kcel, kc_f (Nat.zero_le _), kc_f (Nat.zero_le _), h.1, kcel_same S S' (i + 1) h.2]
end
def kidI (S : List (List Int)) : KidL := S.map fun l => (0, v8 l)
theorem kidI_len (S : List (List Int)) : (kidI S).length = S.length := by simp [kidI]
theorem kidI_get {S : List (List Int)} {i : Nat} {l : List Int} (h : S[i]? = some l) : (kidI S)[i]? = some (0, v8 l) := by simp [kidI, h]
theorem kidI_snoc (S : List (List Int)) (l : List Int) : kidI (S ++ [l]) = kidI S ++ [(0, v8 l)] := by simp [kidI]
def lstI (S : List (List Int)) : List (List AV) := S.map fun l => [.lsx 1 (v8 l) []]
theorem lstI_len (S : List (List Int)) : (lstI S).length = S.length := by simp [lstI]
theorem lstI_get {S : List (List Int)} {i : Nat} {l : List Int} (h : S[i]? = some l) : (lstI S)[i]? = some [.lsx 1 (v8 l) []] := by simp [lstI, h]
theorem lstI_snoc (S : List (List Int)) (l : List Int) : lstI S ++ [[.lsx 1 (v8 l) []]] = lstI (S ++ [l]) := by simp [lstI]
def wrI (S : List (List Int)) (i k : Nat) : List (List Int) := S.mapIdx fun j l => if j < i then List.replicate l.length (-5 - (j : Int)) else if j = i then List.replicate k (-5 - (j : Int)) ++ l.drop k else l
theorem wrI_len (S : List (List Int)) (i k : Nat) : (wrI S i k).length = S.length := by simp [wrI]
theorem wrI_get (S : List (List Int)) (i k j : Nat) : (wrI S i k)[j]? = (S[j]?).map fun l => if j < i then List.replicate l.length (-5 - (j : Int)) else if j = i then List.replicate k (-5 - (j : Int)) ++ l.drop k else l := by rw [wrI, List.getElem?_mapIdx]
theorem wrI_at {S : List (List Int)} {i k : Nat} {l : List Int} (h : S[i]? = some l) : (wrI S i k)[i]? = some (List.replicate k (-5 - (i : Int)) ++ l.drop k) := by
 rw [wrI_get, h]; simp
theorem wrI_zero (S : List (List Int)) : wrI S 0 0 = S := by
 refine List.ext_getElem? fun j => ?_
 rw [wrI_get]
 cases S[j]? with
 | none => rfl
 | some p => by_cases hj : j = 0 <;> simp [hj]
theorem wrI_next {S : List (List Int)} {i : Nat} {l : List Int} (h : S[i]? = some l) : wrI S i l.length = wrI S (i + 1) 0 := by
 refine List.ext_getElem? fun j => ?_
 rw [wrI_get, wrI_get]
 by_cases hj : j = i
 ·subst hj; rw [h]; simp
 ·cases S[j]? with
  | none => rfl
  | some q =>
   by_cases h1 : j < i
   ·simp [h1, show j < i + 1 by omega]
   ·by_cases h2 : j = i + 1
    ·subst h2; simp; intro h; omega
    ·simp [h1, hj, h2, show ¬ j < i + 1 by omega]
theorem wrI_all {S : List (List Int)} {j : Nat} {l : List Int} (h : S[j]? = some l) : (wrI S S.length 0)[j]? = some (List.replicate l.length (-5 - (j : Int))) := by
 have hj : j < S.length := lt_of_get h
 rw [wrI_get, h]
 simp [hj]
theorem wrI_set {l : List Int} {k : Nat} (z : Int) (h : k < l.length) : (List.replicate k z ++ l.drop k).set k z = List.replicate (k + 1) z ++ l.drop (k + 1) := by
 rw [List.set_append_right _ _ (by simp), List.length_replicate, Nat.sub_self, List.drop_eq_getElem_cons h, List.set_cons_zero, List.replicate_succ', List.append_assoc]
 rfl
theorem lens_wrI {S : List (List Int)} {i k : Nat} (hk : ∀ l, S[i]? = some l → k ≤ l.length) : (kidI (wrI S i k)).map (fun p => p.2.length) = (kidI S).map (fun p => p.2.length) := by
 refine List.ext_getElem? fun j => ?_
 simp only [kidI, List.getElem?_map, wrI_get]
 cases hj : S[j]? with
 | none => rfl
 | some l =>
  by_cases h1 : j < i
  ·simp [h1, v8_len]
  ·by_cases h2 : j = i
   ·have := hk l (by rw [← h2]; exact hj)
    simp [h2, v8_len]; omega
   ·simp [h1, h2]
theorem kcel_wrI {ty d i k : Nat} {S : List (List Int)} (hk : ∀ l, S[i]? = some l → k ≤ l.length) : kcel ty 1 d 0 0 (kidI (wrI S i k)) = kcel ty 1 d 0 0 (kidI S) := kcel_same _ _ 0 (lens_wrI hk)
theorem lk_wrI {ty d i k : Nat} {S : List (List Int)} {l : List Int} (h : S[i]? = some l) (j : Nat) :
  (bif i == j then some (AObj.row ty 1 (v8 (List.replicate (k + 1) (-5 - (i : Int)) ++ l.drop (k + 1)))) else lk (rm (kn d i) (kids ty 1 d 0 0 (kidI (wrI S i k)))) (kn d j)) = ((kidI (wrI S i (k + 1)))[j]?).map (fun p => .row ty 1 p.2) := by
 by_cases he : i = j
 ·subst he
  rw [bif_eq rfl, kidI_get (wrI_at h)]; rfl
 ·rw [bif_ne he, lk_rm, bif_ne (fun g => he (kn_inj g).symm), lk_kids _ 0 j (Nat.zero_le _), if_pos (Nat.zero_le _), Nat.sub_zero]
  simp only [kidI, List.getElem?_map, wrI_get]
  cases S[j]? with
  | none => rfl
  | some q =>
   have h2 : ¬ j = i := fun g => he g.symm
   by_cases h1 : j < i
   ·simp [h1]
   ·simp [h1, h2]
def growI (S : List (List Int)) (i : Nat) : List (List Int) := (S.take i).mapIdx fun j l => List.replicate l.length (-5 - (j : Int)) ++ [-5 - (j : Int)]
theorem growI_len {S : List (List Int)} {i : Nat} (h : i ≤ S.length) : (growI S i).length = i := by simp [growI]; omega
theorem growI_get {S : List (List Int)} {i j : Nat} {l : List Int} (hj : j < i) (h : S[j]? = some l) : (growI S i)[j]? = some (List.replicate l.length (-5 - (j : Int)) ++ [-5 - (j : Int)]) := by
 rw [growI, List.getElem?_mapIdx, List.getElem?_take_of_lt hj, h]; rfl
theorem growI_succ {S : List (List Int)} {i : Nat} {l : List Int} (h : S[i]? = some l) : growI S i ++ [List.replicate l.length (-5 - (i : Int)) ++ [-5 - (i : Int)]] = growI S (i + 1) := by
 have hlt := lt_of_get h
 have hl := growI_len (S := S) (i := i) (by omega)
 refine List.ext_getElem? fun j => ?_
 by_cases hj : j < i
 ·rw [List.getElem?_append_left (by omega), growI, growI, List.getElem?_mapIdx, List.getElem?_mapIdx, List.getElem?_take_of_lt hj, List.getElem?_take_of_lt (by omega)]
 ·by_cases he : j = i
  ·subst he
   rw [List.getElem?_append_right (by omega), hl, Nat.sub_self, growI_get (by omega) h]; rfl
  ·rw [List.getElem?_eq_none (by simp; omega), List.getElem?_eq_none (by rw [growI_len (by omega)]; omega)]
end Go.Proofs.Ytjeplogcfedmeaa
end

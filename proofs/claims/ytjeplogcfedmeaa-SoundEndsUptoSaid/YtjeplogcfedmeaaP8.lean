import Derived.Lib.SliceRun
import Derived.Test.YtjeplogcfedmeaaP7
set_option linter.all false
section
namespace Go.Proofs.Ytjeplogcfedmeaa
open Go.RowKit
set_option maxRecDepth 100000
set_option maxHeartbeats 8000000
section
variable {P : Program} {T : Nat → Option TyD} {E : Env} {s : AState} {n : Nat} {ops : Array Oper} {Q : Exit → AState → Prop} {rest : List Oper} {o : Oper} {D : Dr}
theorem al_refnil (hT : TOK P T) {x y : Operand} {t t2 e d off m k : Nat} {te : Nat} {dt : TyD} (hG : guardAV ops s o.guard = some true) (ho : o.op = .binOp .eql t x y t2) (hdst : dstOK n o.dst) (hgx : s.gd x = true) (hgy : s.gd y = true)
  (hx : s.ev x = .ref te k d off m) (hy : s.ev y = .v (.slice none 0 0)) (hTt : T t = some dt) (hsh : dt.sh = .slice e) (hm : 0 < m) (hr : AListD P E n ops D rest Q (s.put o.dst true (.v (.bool false)))) : AListR P E n ops D (o :: rest) Q s := by
 intro a w β hn hd hs
 have hw := guard_ok (ops := ops) hs hG
 have vx := hs.ev x hgx (a := a) rfl
 have vy := hs.ev y hgy (a := a) rfl
 rw [hx] at vx
 rw [hy] at vy
 generalize hux : a.eval x = ux at vx
 generalize huy : a.eval y = uy at vy
 cases vy with | s vy => cases vy with | v _ =>
 obtain ⟨d1, d2, d3, d4⟩ := dt
 dsimp only at hsh
 subst hsh
 have hu := T_slice hT hTt rfl
 cases vx with
 | s h => cases h
 | nil => omega
 | empty => omega
 | @ref _ _ _ _ _ c b A h1 h2 h3 h4 h5 =>
  subst h4
  obtain ⟨g1, g2, g3⟩ := putRel hn hd hs hdst true (.v (.bool false)) (v := .bool false) (fun _ => .s (.v rfl)) (fun h => by cases h)
  exact step_N (v := .bool false) (by rw [ho]; rfl) hw (fun _ w' _ => by simp [execOp, ho, hux, huy, eqGuard, Lib.run_eql_slice_nil w' t e (some ⟨b, off * k, none⟩) m c 0 0 hu]) (fun h => by cases h) (hr _ _ _ g1 g2 g3)
end
theorem zero_of {P : Program} {t : Nat} {z : Value} (h : (P.info? t).bind (·.zero) = some z) (w : World) : (zeroValue t).run P w = .ok z w := by
 cases hi : P.info? t with
 | none => rw [hi] at h; cases h
 | some i =>
  rw [hi] at h
  have h2 : i.zero = some z := h
  simp [zeroValue, typeInfo, hi, h2]
theorem zero_int (w : World) : (zeroValue 3).run Try.prog w = .ok (.int .i64 0) w := zero_of (by kernel_rfl) w
theorem zero_ints (w : World) : (zeroValue 23).run Try.prog w = .ok (.slice none 0 0) w := zero_of (by kernel_rfl) w
theorem clone_G (l : List Int) (h0 : 0 < l.length) (hl : l.length ≤ 1000000000) :
  GCall Try.prog 53 [.ref 3 1 10004 0 l.length] [(10004, .row 3 1 (v8 l))] (.ref 3 1 5 0 l.length) [(5, .row 3 1 (v8 l)), (10004, .row 3 1 (v8 l))] := by
 have ht : (v8 l).take l.length = v8 l := by rw [v8_take, List.take_length]
 refine go_fnG (tyOf_ok _) Try.func53 rfl rfl (by rw [Try.results53]) Try.ntmps53 rfl fun E => ?_
 (repeat' (first | exact trivial | (with_reducible first | apply awA | apply awC | apply awD | apply awF) | ((with_reducible first | refine awN (tyOf_ok _) [5] ?_ | refine awO (tyOf_ok _) [5] ?_ | refine awQ ?_ | refine awT ?_); intro r hr; simp only [go_sem, Nat.reduceBEq, Nat.reduceBneDiff, Nat.reduceLT, Nat.reduceLeDiff, Nat.reduceAdd, Nat.reduceMul, Nat.reduceSub, Nat.reduceEqDiff, reduceCtorEq, v8_len, ht, List.take_nil] at hr; subst hr; (first | refine awV ?_ ?_ | refine awW ?_ ?_ | refine endGK ?_ ?_ ?_ | (refine condK (fun h => ?_) (fun h => ?_) <;> (try simp only [go_sem, reduceCtorEq] at h) <;> (try (exfalso; omega))))) | (refine al_refnil (tyOf_ok _) rfl rfl ⟨by decide, by decide⟩ rfl rfl rfl rfl t23 rfl h0 ?_))) <;> (try omega)
 all_goals first | exact AV.up_rfl _ | (repeat first | exact obUp_nil | refine obUp_cons rfl ?_)
def natI (l : List Nat) : List Int := l.map fun k : Nat => ((k : Nat) : Int)
theorem natI_len (l : List Nat) : (natI l).length = l.length := by simp [natI]
theorem natI_get {l : List Nat} {i k : Nat} (h : l[i]? = some k) : (v8 (natI l))[i]? = some [vI k] := by simp [v8, natI, h]
theorem natI_app (l : List Nat) (k : Nat) : v8 (natI l) ++ [[vI k]] = v8 (natI (l ++ [k])) := by simp [v8, natI]
def qL (Q : List Nat) : List (Nat × Int × Unit) := Q.zipIdx.map fun p => (p.2, (p.1 : Int), ())
theorem qL_app (Q : List Nat) (k : Nat) : qL (Q ++ [k]) = qL Q ++ [(Q.length, (k : Int), ())] := by simp [qL, List.zipIdx_append]
theorem mset_app {α : Type} (c : Nat) (k : Int) (a : α) : ∀ (L : List (Nat × Int × α)), mf k L = none → mset c k a L = L ++ [(c, k, a)]
 | [], _ => rfl
 | (b, k', a') :: L, h => by
  unfold mf at h
  by_cases hk : k' = k
  ·rw [if_pos hk] at h; cases h
  ·rw [if_neg hk] at h
   simp [mset, hk, mset_app c k a L h]
theorem mf_keys {α : Type} (k : Int) (L : List (Nat × Int × α)) : mf k L = none ↔ k ∉ L.map (·.2.1) := by
 induction L with
 | nil => simp [mf]
 | cons e L ih =>
  obtain ⟨b, k', a⟩ := e
  simp only [mf, List.map_cons, List.mem_cons, not_or]
  by_cases h : k' = k
  ·simp [h]
  ·rw [if_neg h, ih]
   exact ⟨fun g => ⟨fun e => h e.symm, g⟩, fun g => g.2⟩
theorem qL_keys (Q : List Nat) : (qL Q).map (·.2.1) = natI Q := by
 apply List.ext_getElem?
 intro i
 simp [qL, natI]
 cases Q[i]? <;> rfl
theorem natI_mem {Q : List Nat} {k : Nat} : (k : Int) ∈ natI Q ↔ k ∈ Q := by
  simp only [natI, List.mem_map]
  exact ⟨fun ⟨x, h1, h2⟩ => by have : x = k := by omega
                               rw [← this]; exact h1, fun h => ⟨k, h, rfl⟩⟩
theorem mf_qL_none {Q : List Nat} {k : Nat} (h : k ∉ Q) : mf (k : Int) (qL Q) = none := by rw [mf_keys, qL_keys, natI_mem]; exact h
theorem mf_qL_some {Q : List Nat} {k : Nat} (h : k ∈ Q) : mf (k : Int) (qL Q) = some () := by
 cases hq : mf (k : Int) (qL Q) with
 | some a => rfl
 | none => rw [mf_keys, qL_keys, natI_mem] at hq; exact absurd h hq
theorem mset_qL {Q : List Nat} {k : Nat} (h : k ∉ Q) : mset Q.length (k : Int) () (qL Q) = qL (Q ++ [k]) := by rw [mset_app _ _ _ _ (mf_qL_none h), qL_app]
theorem mclk_qL {Q : List Nat} {k : Nat} (h : k ∉ Q) : mclk Q.length (k : Int) (qL Q) = (Q ++ [k]).length := by simp [mclk, mf_qL_none h]
def alwaysF (_ : Nat) (_ : Int) : Bool := true
def bareF (C : List InsM) (B : List Bool) (k : Nat) (w : Int) : Bool := !(takesF C B k w)
def wayR (C : List InsM) (g : Nat → Int → Bool) (a b : Nat) : Prop := ∃ w : Nat, (waysF C a (insAt C a))[w]? = some (b : Int) ∧ g a w = true
structure ReachI (C : List InsM) (g : Nat → Int → Bool) (fr Q : List Nat) : Prop where
 nd : Q.Nodup
 iff : ∀ k, k ∈ Q ↔ RchS (wayR C g) fr k
structure ClosedS (C : List InsM) (B : List Bool) (S : Nat → Prop) : Prop where
 lt : ∀ k, S k → k < C.length
 ways : ∀ k, S k → ∀ j ∈ waysF C k (insAt C k), 0 ≤ j ∧ S j.toNat
 calls : ∀ k, S k → (insAt C k).op = 16 → 0 ≤ (insAt C k).c ∧ (insAt C k).c < B.length
theorem reach1 (e : Bool) (C : List InsM) (N : List Int) (B : List Bool) (en : Int) (hok : CodeOK C N) (S : Nat → Prop) (hS : ClosedS C B S) (fr : List Nat) (hne : fr ≠ []) (hfr : ∀ k ∈ fr, S k) (hlf : fr.length ≤ 1048576) :
  GCallE Try.prog 37 [.ptr 1 10000 0 0, .ref 3 1 10004 0 fr.length, .v (.func (.func 38) #[] #[])] ([(10000, rtV e C N B en (.v (.map none))), (10002, .row 4 1 (encT B))] ++ [(10004, .row 3 1 (v8 (natI fr)))]) (fun Q : List Nat => ReachI C (alwaysF) fr Q) (fun _ => .map 14) (fun Q => ([(10000, rtV e C N B en (.v (.map none))), (10002, .row 4 1 (encT B))] ++ [(10004, .row 3 1 (v8 (natI fr)))]) ++ [(14, .mapr Q.length (mK (qL Q)))]) := by
 have hC := hok.len
 have h0 : 0 < fr.length := List.length_pos_iff.2 hne
 have hcl := clone_G (natI fr) (by rw [natI_len]; exact h0) (by rw [natI_len]; omega)
 rw [natI_len] at hcl
 first | unfold rtO rtV | unfold rtV
 refine go_fnE (tyOf_ok _) Try.func37 rfl rfl (by rw [Try.results37]) Try.ntmps37 rfl fun E => ?_
 (repeat' (first | exact trivial | (with_reducible first | apply awA | apply awB | apply awF) | ((with_reducible first | refine awN (tyOf_ok _) [4000014] ?_ | refine awO (tyOf_ok _) [4000014] ?_); intro r hr; simp only [go_sem, Nat.reduceBEq, Nat.reduceBneDiff, Nat.reduceLT, Nat.reduceLeDiff, Nat.reduceAdd, Nat.reduceMul, Nat.reduceSub, Nat.reduceEqDiff, reduceCtorEq, mK_kill, mK_cut, mK_ren] at hr; subst hr; (first | refine awV ?_ ?_ | refine awW ?_ ?_)) | (refine go_callGE [(10004, 10004)] [(5, 16), (10004, 10004)] [16] [10004] ?_; intro r hr; simp only [go_sem, Nat.reduceBEq, Nat.reduceBneDiff, Nat.reduceLT, Nat.reduceLeDiff, Nat.reduceAdd, Nat.reduceMul, Nat.reduceSub, Nat.reduceEqDiff, reduceCtorEq, mK_kill, mK_cut, mK_ren] at hr; subst hr; refine callGK (hcl) rfl rfl (by first | exact .inl rfl | exact .inr rfl) ?_ (.inl rfl) ?_))) <;> (try omega)
 refine go_loop [0, 2, 7, 8, 9] [10000, 10002, 10004, 14, 16] (fun q : Nat × List Nat => ⟨[(0, true, .ptr 1 10000 0 0), (2, true, .v (.func (.func 38) #[] #[])), (7, true, .map 14), (8, true, .ref 3 1 16 0 (fr ++ q.2).length), (9, true, vI q.1)],
  [(10000, .var [vB e, .lst 4 (encIs C), .lst 1 (v8 N), .ref 4 1 10002 0 B.length, vI en, .v (.map none)]), (10002, .row 4 1 (encT B)), (10004, .row 3 1 (v8 (natI fr))), (14, .mapr q.2.length (mK (qL q.2))), (16, .row 3 1 (v8 (natI (fr ++ q.2))))]⟩)
  (fun q => Srch (wayR C (alwaysF)) fr q.2 q.1 ∧ q.1 ≤ (fr ++ q.2).length ∧ ∀ k ∈ q.2, S k) (fun q => fr.length + C.length - q.1) (0, []) (by simp only [mK_kill, mK_cut, mK_ren, go_sem, Nat.reduceBEq, Nat.reduceBneDiff, Nat.reduceLT, Nat.reduceLeDiff, Nat.reduceAdd, Nat.reduceMul, Nat.reduceSub, Nat.reduceEqDiff, reduceCtorEq] <;> exact rfl) ⟨Srch.nil _ _, Nat.zero_le _, fun k hk => by cases hk⟩ ?_
 intro ⟨i, Q⟩ ⟨hs, hi, hQ⟩
 simp only at hs hi hQ ⊢
 have hQl : Q.length ≤ C.length := nodup_le hs.nd fun k hk => hS.lt k (hQ k hk)
 have hll : (fr ++ Q).length = fr.length + Q.length := List.length_append
 have hwi := wrap_i64 (n := (i : Int) + 1) (by omega)
 have zi : ((i : Int)).toNat = i := by omega
 by_cases hlt : i < (fr ++ Q).length
 ·have e1 : ((i : Int) < ((fr ++ Q).length : Int)) = True := eq_true (by omega)
  obtain ⟨x, hx⟩ : ∃ x, (fr ++ Q)[i]? = some x := ⟨_, List.getElem?_eq_getElem hlt⟩
  have hSx : S x := by
   rcases List.mem_append.1 (List.mem_of_getElem? hx) with h | h
   ·exact hfr x h
   ·exact hQ x h
  have hxC := hS.lt x hSx
  have hxw := hS.ways x hSx
  have gi := natI_get hx
  have hw := ways_any e C N (by omega) x hxC (hok.arms x hxC)
  have hgo : ∀ j : Nat, j < (waysF C x (insAt C x)).length → GCall Try.prog 38 [vI x, vI j] [] (vB (alwaysF x j)) [] := fun j _ => always_G x j
  have hR : ∀ k, wayR C (alwaysF) x k → ∃ w : Nat, w < (waysF C x (insAt C x)).length ∧ (waysF C x (insAt C x))[w]? = some (k : Int) ∧ (alwaysF) x w = true := fun k ⟨w, h1, h2⟩ => ⟨w, lt_of_get h1, h1, h2⟩
  have hR2 : ∀ (k w : Nat), (waysF C x (insAt C x))[w]? = some (k : Int) → (alwaysF) x w = true → wayR C (alwaysF) x k := fun k w h1 h2 => ⟨w, h1, h2⟩
  have hkl : (waysF C x (insAt C x)).length ≤ 10000000 := by
   unfold waysF
   split
   ·simp
   ·split
    ·simp
    ·split
     ·rename_i h8
      have := hok.arms x hxC h8
      simp
      omega
     ·split <;> simp
  generalize waysF C x (insAt C x) = ks at hw hxw hgo hR hR2 hkl
  unfold pG at hw
  (repeat' (first | exact trivial | (with_reducible first | apply awA | apply awB | apply awC | apply awF) | (refine aw_draw (id := 6) (t := (.node [0, 1, 2, 3, 4, 5, 6, 7, 10, 8, 9] [])) (drR [10000] [30] []) mixed (by kernel_rfl) (by kernel_rfl) (fun _ _ h => h) ?_) | (refine at_done (by simp only [go_sem]; exact rfl) ?_) | (refine at_alt (by simp only [go_sem]; exact rfl) ?_) | refine qalt_normal ?_ | refine ats_cons ?_ ?_ | exact ats_nil | ((with_reducible first | apply awn | apply awp | refine awQ ?_); intro r hr; simp only [go_sem, Nat.reduceBEq, Nat.reduceBneDiff, Nat.reduceLT, Nat.reduceLeDiff, Nat.reduceAdd, Nat.reduceMul, Nat.reduceSub, Nat.reduceEqDiff, reduceCtorEq, e1, zi, gi, v8_len, natI_len, Nat.zero_add, mK_kill, mK_cut, mK_ren] at hr; subst hr; (first | refine caC (hw) rfl ?_ ?_ ?_ | refine awV ?_ ?_ | (refine condK (fun h => ?_) (fun h => ?_) <;> (try simp only [go_sem, reduceCtorEq] at h) <;> (try (exfalso; omega))))))) <;> (try omega)
  all_goals
   refine go_loop [0, 2, 7, 8, 9, 31, 32, 33] [10000, 10002, 10004, 14, 16] (fun q : Nat × List Nat => ⟨[(0, true, .ptr 1 10000 0 0), (2, true, .v (.func (.func 38) #[] #[])), (7, true, .map 14), (8, true, .ref 3 1 16 0 (fr ++ q.2).length), (9, true, vI i), (31, true, .lst 1 (v8 ks)), (32, true, vI ks.length), (33, true, vI q.1)],
    [(10000, .var [vB e, .lst 4 (encIs C), .lst 1 (v8 N), .ref 4 1 10002 0 B.length, vI en, .v (.map none)]), (10002, .row 4 1 (encT B)), (10004, .row 3 1 (v8 (natI fr))), (14, .mapr q.2.length (mK (qL q.2))), (16, .row 3 1 (v8 (natI (fr ++ q.2))))]⟩)
    (fun q => Srch (wayR C (alwaysF)) fr q.2 i ∧ (fr ++ q.2)[i]? = some x ∧ (∀ k ∈ q.2, S k) ∧ q.1 ≤ ks.length ∧ ∀ w, w < q.1 → ∀ k : Nat, ks[w]? = some (k : Int) → (alwaysF) x w = true → k ∈ q.2) (fun q => ks.length - q.1) (0, Q) (by simp only [v8_len, natI_len, mK_kill, mK_cut, mK_ren, go_sem, Nat.reduceBEq, Nat.reduceBneDiff, Nat.reduceLT, Nat.reduceLeDiff, Nat.reduceAdd, Nat.reduceMul, Nat.reduceSub, Nat.reduceEqDiff, reduceCtorEq] <;> exact rfl) ⟨hs, hx, hQ, Nat.zero_le _, fun w hw => by omega⟩ ?_
   intro ⟨j, Q'⟩ ⟨hs', hx', hQ', hj, hin⟩
   simp only at hs' hx' hQ' hj hin ⊢
   have hQl' : Q'.length ≤ C.length := nodup_le hs'.nd fun k hk => hS.lt k (hQ' k hk)
   have hll' : (fr ++ Q').length = fr.length + Q'.length := List.length_append
   have gi' := natI_get hx'
   have hi' : i < (fr ++ Q').length := lt_of_get hx'
   have hwj := wrap_i64 (n := (j : Int) + 1) (by omega)
   have zj : ((j : Int)).toNat = j := by omega
   by_cases hjl : j < ks.length
   ·have e2 : ((j : Int) < (ks.length : Int)) = True := eq_true (by omega)
    obtain ⟨m, hm⟩ : ∃ m : Nat, ks[j] = m := ⟨ks[j].toNat, by have := (hxw _ (List.getElem_mem hjl)).1; omega⟩
    have hSm : S m := by have := (hxw _ (List.getElem_mem hjl)).2; rwa [hm, Int.toNat_natCast] at this
    have hkj : ks[j]? = some (m : Int) := by rw [List.getElem?_eq_getElem hjl, hm]
    have gj := v8_get hjl
    rw [hm] at gj
    have hgj := hgo j hjl
    have more : ∀ Q2 : List Nat, (∀ k ∈ Q', k ∈ Q2) → ((alwaysF) x j = true → m ∈ Q2) → ∀ w, w < j + 1 → ∀ k : Nat, ks[w]? = some (k : Int) → (alwaysF) x w = true → k ∈ Q2 := fun Q2 h1 h2 w hw k hk hg => by
     rcases Nat.lt_or_ge w j with h | h
     ·exact h1 k (hin w h k hk hg)
     ·have : w = j := by omega
      subst this
      rw [hkj] at hk
      injection hk with hk
      have : m = k := by omega
      subst this
      exact h2 hg
    by_cases hmq : m ∈ Q'
    ·have hf := mf_qL_some hmq
     (repeat' (first | exact trivial | (with_reducible first | apply awA | apply awB | apply awC | apply awF | apply awI) | ((with_reducible first | apply awn | apply awo | refine awQ ?_); intro r hr; simp only [go_sem, Nat.reduceBEq, Nat.reduceBneDiff, Nat.reduceLT, Nat.reduceLeDiff, Nat.reduceAdd, Nat.reduceMul, Nat.reduceSub, Nat.reduceEqDiff, reduceCtorEq, e2, zj, hwj, gj, zi, gi', v8_len, natI_len, Nat.zero_add, mK_kill, mK_cut, mK_ren] at hr; subst hr; (first | refine awV ?_ ?_ | refine awW ?_ ?_ | (refine condK (fun h => ?_) (fun h => ?_) <;> (try simp only [go_sem, reduceCtorEq] at h) <;> (try (exfalso; omega))))) | (refine al_mlook (tyOf_ok _) (d := 14) (L := qL Q') (f := fun _ => AV.dead) (key := (m : Int)) (z := .int .i64 0) rfl rfl ⟨by decide, by decide⟩ rfl rfl rfl rfl t74 rfl t3 rfl zero_int rfl rfl (by rw [hf]) ?_) | (refine al_skipC (vB true) rfl rfl ⟨by decide, by decide⟩ ?_))) <;> (try omega)
     refine ⟨(j + 1, Q'), ?_, ⟨hs', hx', hQ', hjl, more Q' (fun _ h => h) fun _ => hmq⟩, by show ks.length - (j + 1) < ks.length - j; omega⟩
     simp only [hwj, mK_kill, mK_cut, mK_ren, go_sem, Nat.reduceBEq, Nat.reduceBneDiff, Nat.reduceLT, Nat.reduceLeDiff, Nat.reduceAdd, Nat.reduceMul, Nat.reduceSub, Nat.reduceEqDiff, reduceCtorEq]
     try exact rfl
    ·have hf := mf_qL_none hmq
     cases hg : (alwaysF) x j with
     | false =>
      rw [hg] at hgj
      skip
      (repeat' (first | exact trivial | (with_reducible first | apply awA | apply awB | apply awC | apply awF | apply awI) | ((with_reducible first | apply awn | apply awo | refine awQ ?_); intro r hr; simp only [go_sem, Nat.reduceBEq, Nat.reduceBneDiff, Nat.reduceLT, Nat.reduceLeDiff, Nat.reduceAdd, Nat.reduceMul, Nat.reduceSub, Nat.reduceEqDiff, reduceCtorEq, e2, zj, hwj, gj, zi, gi', v8_len, natI_len, Nat.zero_add, mK_kill, mK_cut, mK_ren] at hr; subst hr; (first | refine awV ?_ ?_ | refine awW ?_ ?_ | (refine condK (fun h => ?_) (fun h => ?_) <;> (try simp only [go_sem, reduceCtorEq] at h) <;> (try (exfalso; omega))))) | (refine al_mlook (tyOf_ok _) (d := 14) (L := qL Q') (f := fun _ => AV.dead) (key := (m : Int)) (z := .int .i64 0) rfl rfl ⟨by decide, by decide⟩ rfl rfl rfl rfl t74 rfl t3 rfl zero_int rfl rfl (by rw [hf]) ?_) | (refine go_callI (tyOf_ok _) [] [] [] [] (by simp only [go_sem, Nat.reduceBEq, Nat.reduceBneDiff, Nat.reduceLT, Nat.reduceLeDiff, Nat.reduceAdd, Nat.reduceMul, Nat.reduceSub, Nat.reduceEqDiff, reduceCtorEq, e2, zj, hwj, gj, zi, gi', v8_len, natI_len, Nat.zero_add, mK_kill, mK_cut, mK_ren] <;> exact rfl) ?_ rfl rfl (by first | exact .inl rfl | exact .inr rfl) (by simp only [go_sem, Nat.reduceBEq, Nat.reduceBneDiff, Nat.reduceLT, Nat.reduceLeDiff, Nat.reduceAdd, Nat.reduceMul, Nat.reduceSub, Nat.reduceEqDiff, reduceCtorEq, e2, zj, hwj, gj, zi, gi', v8_len, natI_len, Nat.zero_add, mK_kill, mK_cut, mK_ren] <;> exact rfl) (hgj) (.inl rfl) ?_))) <;> (try omega)
      refine ⟨(j + 1, Q'), ?_, ⟨hs', hx', hQ', hjl, more Q' (fun _ h => h) fun h => by rw [hg] at h; cases h⟩, by show ks.length - (j + 1) < ks.length - j; omega⟩
      simp only [hwj, mK_kill, mK_cut, mK_ren, go_sem, Nat.reduceBEq, Nat.reduceBneDiff, Nat.reduceLT, Nat.reduceLeDiff, Nat.reduceAdd, Nat.reduceMul, Nat.reduceSub, Nat.reduceEqDiff, reduceCtorEq]
      try exact rfl
     | true =>
      rw [hg] at hgj
      skip
      have hset := mset_qL hmq
      have hclk := mclk_qL hmq
      have hadd := hs'.add hx' (hR2 m j hkj hg) hmq
      have ht : (v8 (natI (fr ++ Q'))).take (fr ++ Q').length = v8 (natI (fr ++ Q')) := by rw [v8_take, List.take_of_length_le (by rw [natI_len]; omega)]
      have ha := natI_app (fr ++ Q') m
      rw [List.append_assoc] at ha
      have hl2 : (fr ++ (Q' ++ [m])).length = (fr ++ Q').length + 1 := by simp [Nat.add_assoc]
      (repeat' (first | exact trivial | (with_reducible first | apply awA | apply awB | apply awC | apply awF | apply awI) | ((with_reducible first | apply awn | apply awo | refine awQ ?_); intro r hr; simp only [go_sem, Nat.reduceBEq, Nat.reduceBneDiff, Nat.reduceLT, Nat.reduceLeDiff, Nat.reduceAdd, Nat.reduceMul, Nat.reduceSub, Nat.reduceEqDiff, reduceCtorEq, e2, zj, hwj, gj, zi, gi', v8_len, natI_len, Nat.zero_add, ht, ha, hl2, mK_kill, mK_cut, mK_ren] at hr; subst hr; (first | refine awV ?_ ?_ | refine awW ?_ ?_ | (refine condK (fun h => ?_) (fun h => ?_) <;> (try simp only [go_sem, reduceCtorEq] at h) <;> (try (exfalso; omega))))) | (refine al_mlook (tyOf_ok _) (d := 14) (L := qL Q') (f := fun _ => AV.dead) (key := (m : Int)) (z := .int .i64 0) rfl rfl ⟨by decide, by decide⟩ rfl rfl rfl rfl t74 rfl t3 rfl zero_int rfl rfl (by rw [hf]) ?_) | (refine go_callI (tyOf_ok _) [] [] [] [] (by simp only [go_sem, Nat.reduceBEq, Nat.reduceBneDiff, Nat.reduceLT, Nat.reduceLeDiff, Nat.reduceAdd, Nat.reduceMul, Nat.reduceSub, Nat.reduceEqDiff, reduceCtorEq, e2, zj, hwj, gj, zi, gi', v8_len, natI_len, Nat.zero_add, ht, ha, hl2, mK_kill, mK_cut, mK_ren] <;> exact rfl) ?_ rfl rfl (by first | exact .inl rfl | exact .inr rfl) (by simp only [go_sem, Nat.reduceBEq, Nat.reduceBneDiff, Nat.reduceLT, Nat.reduceLeDiff, Nat.reduceAdd, Nat.reduceMul, Nat.reduceSub, Nat.reduceEqDiff, reduceCtorEq, e2, zj, hwj, gj, zi, gi', v8_len, natI_len, Nat.zero_add, ht, ha, hl2, mK_kill, mK_cut, mK_ren] <;> exact rfl) (hgj) (.inl rfl) ?_) | (refine al_mlen (tyOf_ok _) rfl rfl ⟨by decide, by decide⟩ rfl rfl t74 rfl rfl ?_) | (refine al_mput (tyOf_ok _) (d := 14) (L := qL Q') (f := fun _ => AV.dead) (key := (m : Int)) () rfl rfl rfl rfl rfl rfl rfl rfl (.inr rfl) t74 rfl t3 rfl rfl hclk hset ?_))) <;> (try omega)
      refine ⟨(j + 1, Q' ++ [m]), ?_, ⟨hadd, by rw [← List.append_assoc, List.getElem?_append_left hi']; exact hx', fun k hk => ?_, hjl, more _ (fun _ h => List.mem_append_left _ h) fun _ => by simp⟩, by show ks.length - (j + 1) < ks.length - j; omega⟩
      ·simp only [hwj, v8_len, natI_len, ht, ha, hl2, mK_kill, mK_cut, mK_ren, go_sem, Nat.reduceBEq, Nat.reduceBneDiff, Nat.reduceLT, Nat.reduceLeDiff, Nat.reduceAdd, Nat.reduceMul, Nat.reduceSub, Nat.reduceEqDiff, reduceCtorEq]
       try exact rfl
      ·rcases List.mem_append.1 hk with h | h
       ·exact hQ' k h
       ·simp at h; subst h; exact hSm
   ·have e2 : ((j : Int) < (ks.length : Int)) = False := eq_false (by omega)
    (repeat' (first | exact trivial | (with_reducible first | apply awA | apply awE | apply awF | apply awH | apply awI | apply awK) | ((with_reducible first | apply awn | refine awQ ?_); intro r hr; simp only [go_sem, Nat.reduceBEq, Nat.reduceBneDiff, Nat.reduceLT, Nat.reduceLeDiff, Nat.reduceAdd, Nat.reduceMul, Nat.reduceSub, Nat.reduceEqDiff, reduceCtorEq, e2, hwi, mK_kill, mK_cut, mK_ren] at hr; subst hr; (first | refine awV ?_ ?_ | (refine condK (fun h => ?_) (fun h => ?_) <;> (try simp only [go_sem, reduceCtorEq] at h) <;> (try (exfalso; omega))))))) <;> (try omega)
    refine ⟨(i + 1, Q'), ?_, ⟨hs'.next hx' (fun k hk => ?_), hi', hQ'⟩, by show fr.length + C.length - (i + 1) < fr.length + C.length - i; omega⟩
    ·simp only [hwi, mK_kill, mK_cut, mK_ren, go_sem, Nat.reduceBEq, Nat.reduceBneDiff, Nat.reduceLT, Nat.reduceLeDiff, Nat.reduceAdd, Nat.reduceMul, Nat.reduceSub, Nat.reduceEqDiff, reduceCtorEq]
     try exact rfl
    ·obtain ⟨w, h1, h2, h3⟩ := hR k hk
     exact hin w (by omega) k h2 h3
 ·have e1 : ((i : Int) < ((fr ++ Q).length : Int)) = False := eq_false (by omega)
  (repeat' (first | exact trivial | (with_reducible first | apply awA | apply awD | apply awE | apply awF | apply awH | apply awK) | ((with_reducible first | apply awn | refine awQ ?_ | refine aweR ?_); intro r hr; simp only [go_sem, Nat.reduceBEq, Nat.reduceBneDiff, Nat.reduceLT, Nat.reduceLeDiff, Nat.reduceAdd, Nat.reduceMul, Nat.reduceSub, Nat.reduceEqDiff, reduceCtorEq, e1, mK_kill, mK_cut, mK_ren] at hr; subst hr; (first | refine awV ?_ ?_ | refine endEK ?_ ?_ | (refine condK (fun h => ?_) (fun h => ?_) <;> (try simp only [go_sem, reduceCtorEq] at h) <;> (try (exfalso; omega))))))) <;> (try omega)
  all_goals first | (refine ⟨Q, ⟨hs.nd, fun k => hs.done (by omega) k⟩, AV.up_rfl _, ?_⟩; repeat first | exact obUp_nil | refine obUp_cons rfl ?_) | skip
theorem reach2 (e : Bool) (C : List InsM) (N : List Int) (B : List Bool) (en : Int) (c : Nat) (M : List (Nat × Int × Unit)) (hok : CodeOK C N) (S : Nat → Prop) (hS : ClosedS C B S) (fr : List Nat) (hne : fr ≠ []) (hfr : ∀ k ∈ fr, S k) (hlf : fr.length ≤ 1048576) :
  GCallE Try.prog 37 [.ptr 1 10000 0 0, .ref 3 1 10004 0 fr.length, .fn (54 + 1000000) [.ptr 1 10000 0 0]] (rtO e C N B en c M ++ [(10004, .row 3 1 (v8 (natI fr)))]) (fun Q : List Nat => ReachI C (bareF C B) fr Q) (fun _ => .map 14) (fun Q => (rtO e C N B en c M ++ [(10004, .row 3 1 (v8 (natI fr)))]) ++ [(14, .mapr Q.length (mK (qL Q)))]) := by
 have hC := hok.len
 have h0 : 0 < fr.length := List.length_pos_iff.2 hne
 have hcl := clone_G (natI fr) (by rw [natI_len]; exact h0) (by rw [natI_len]; omega)
 rw [natI_len] at hcl
 first | unfold rtO rtV | unfold rtV
 refine go_fnE (tyOf_ok _) Try.func37 rfl rfl (by rw [Try.results37]) Try.ntmps37 rfl fun E => ?_
 (repeat' (first | exact trivial | (with_reducible first | apply awA | apply awB | apply awF) | ((with_reducible first | refine awN (tyOf_ok _) [4000014] ?_ | refine awO (tyOf_ok _) [4000014] ?_); intro r hr; simp only [go_sem, Nat.reduceBEq, Nat.reduceBneDiff, Nat.reduceLT, Nat.reduceLeDiff, Nat.reduceAdd, Nat.reduceMul, Nat.reduceSub, Nat.reduceEqDiff, reduceCtorEq, mK_kill, mK_cut, mK_ren] at hr; subst hr; (first | refine awV ?_ ?_ | refine awW ?_ ?_)) | (refine go_callGE [(10004, 10004)] [(5, 16), (10004, 10004)] [16] [10004] ?_; intro r hr; simp only [go_sem, Nat.reduceBEq, Nat.reduceBneDiff, Nat.reduceLT, Nat.reduceLeDiff, Nat.reduceAdd, Nat.reduceMul, Nat.reduceSub, Nat.reduceEqDiff, reduceCtorEq, mK_kill, mK_cut, mK_ren] at hr; subst hr; refine callGK (hcl) rfl rfl (by first | exact .inl rfl | exact .inr rfl) ?_ (.inl rfl) ?_))) <;> (try omega)
 refine go_loop [0, 2, 7, 8, 9] [10000, 10002, 10003, 10004, 14, 16] (fun q : Nat × List Nat => ⟨[(0, true, .ptr 1 10000 0 0), (2, true, .fn (54 + 1000000) [.ptr 1 10000 0 0]), (7, true, .map 14), (8, true, .ref 3 1 16 0 (fr ++ q.2).length), (9, true, vI q.1)],
  [(10000, .var [vB e, .lst 4 (encIs C), .lst 1 (v8 N), .ref 4 1 10002 0 B.length, vI en, .map 10003]), (10002, .row 4 1 (encT B)), (10003, .mapr c (mK M)), (10004, .row 3 1 (v8 (natI fr))), (14, .mapr q.2.length (mK (qL q.2))), (16, .row 3 1 (v8 (natI (fr ++ q.2))))]⟩)
  (fun q => Srch (wayR C (bareF C B)) fr q.2 q.1 ∧ q.1 ≤ (fr ++ q.2).length ∧ ∀ k ∈ q.2, S k) (fun q => fr.length + C.length - q.1) (0, []) (by simp only [mK_kill, mK_cut, mK_ren, go_sem, Nat.reduceBEq, Nat.reduceBneDiff, Nat.reduceLT, Nat.reduceLeDiff, Nat.reduceAdd, Nat.reduceMul, Nat.reduceSub, Nat.reduceEqDiff, reduceCtorEq] <;> exact rfl) ⟨Srch.nil _ _, Nat.zero_le _, fun k hk => by cases hk⟩ ?_
 intro ⟨i, Q⟩ ⟨hs, hi, hQ⟩
 simp only at hs hi hQ ⊢
 have hQl : Q.length ≤ C.length := nodup_le hs.nd fun k hk => hS.lt k (hQ k hk)
 have hll : (fr ++ Q).length = fr.length + Q.length := List.length_append
 have hwi := wrap_i64 (n := (i : Int) + 1) (by omega)
 have zi : ((i : Int)).toNat = i := by omega
 by_cases hlt : i < (fr ++ Q).length
 ·have e1 : ((i : Int) < ((fr ++ Q).length : Int)) = True := eq_true (by omega)
  obtain ⟨x, hx⟩ : ∃ x, (fr ++ Q)[i]? = some x := ⟨_, List.getElem?_eq_getElem hlt⟩
  have hSx : S x := by
   rcases List.mem_append.1 (List.mem_of_getElem? hx) with h | h
   ·exact hfr x h
   ·exact hQ x h
  have hxC := hS.lt x hSx
  have hxw := hS.ways x hSx
  have gi := natI_get hx
  have hw := ways_any e C N (by omega) x hxC (hok.arms x hxC)
  have hgo : ∀ j : Nat, j < (waysF C x (insAt C x)).length → GCall Try.prog 54 [.ptr 1 10000 0 0, vI x, vI j] (rtO e C N B en c M) (vB (bareF C B x j)) (rtO e C N B en c M) := fun j _ => bare_G e C N B en c M x hxC j (hS.calls x hSx)
  have hR : ∀ k, wayR C (bareF C B) x k → ∃ w : Nat, w < (waysF C x (insAt C x)).length ∧ (waysF C x (insAt C x))[w]? = some (k : Int) ∧ (bareF C B) x w = true := fun k ⟨w, h1, h2⟩ => ⟨w, lt_of_get h1, h1, h2⟩
  have hR2 : ∀ (k w : Nat), (waysF C x (insAt C x))[w]? = some (k : Int) → (bareF C B) x w = true → wayR C (bareF C B) x k := fun k w h1 h2 => ⟨w, h1, h2⟩
  have hkl : (waysF C x (insAt C x)).length ≤ 10000000 := by
   unfold waysF
   split
   ·simp
   ·split
    ·simp
    ·split
     ·rename_i h8
      have := hok.arms x hxC h8
      simp
      omega
     ·split <;> simp
  generalize waysF C x (insAt C x) = ks at hw hxw hgo hR hR2 hkl
  unfold pG at hw
  (repeat' (first | exact trivial | (with_reducible first | apply awA | apply awB | apply awC | apply awF) | (refine aw_draw (id := 6) (t := (.node [0, 1, 2, 3, 4, 5, 6, 7, 10, 8, 9] [])) (drR [10000] [30] []) mixed (by kernel_rfl) (by kernel_rfl) (fun _ _ h => h) ?_) | (refine at_done (by simp only [go_sem]; exact rfl) ?_) | (refine at_alt (by simp only [go_sem]; exact rfl) ?_) | refine qalt_normal ?_ | refine ats_cons ?_ ?_ | exact ats_nil | ((with_reducible first | apply awn | apply awp | refine awQ ?_); intro r hr; simp only [go_sem, Nat.reduceBEq, Nat.reduceBneDiff, Nat.reduceLT, Nat.reduceLeDiff, Nat.reduceAdd, Nat.reduceMul, Nat.reduceSub, Nat.reduceEqDiff, reduceCtorEq, e1, zi, gi, v8_len, natI_len, Nat.zero_add, mK_kill, mK_cut, mK_ren] at hr; subst hr; (first | refine caC (hw) rfl ?_ ?_ ?_ | refine awV ?_ ?_ | (refine condK (fun h => ?_) (fun h => ?_) <;> (try simp only [go_sem, reduceCtorEq] at h) <;> (try (exfalso; omega))))))) <;> (try omega)
  all_goals
   refine go_loop [0, 2, 7, 8, 9, 31, 32, 33] [10000, 10002, 10003, 10004, 14, 16] (fun q : Nat × List Nat => ⟨[(0, true, .ptr 1 10000 0 0), (2, true, .fn (54 + 1000000) [.ptr 1 10000 0 0]), (7, true, .map 14), (8, true, .ref 3 1 16 0 (fr ++ q.2).length), (9, true, vI i), (31, true, .lst 1 (v8 ks)), (32, true, vI ks.length), (33, true, vI q.1)],
    [(10000, .var [vB e, .lst 4 (encIs C), .lst 1 (v8 N), .ref 4 1 10002 0 B.length, vI en, .map 10003]), (10002, .row 4 1 (encT B)), (10003, .mapr c (mK M)), (10004, .row 3 1 (v8 (natI fr))), (14, .mapr q.2.length (mK (qL q.2))), (16, .row 3 1 (v8 (natI (fr ++ q.2))))]⟩)
    (fun q => Srch (wayR C (bareF C B)) fr q.2 i ∧ (fr ++ q.2)[i]? = some x ∧ (∀ k ∈ q.2, S k) ∧ q.1 ≤ ks.length ∧ ∀ w, w < q.1 → ∀ k : Nat, ks[w]? = some (k : Int) → (bareF C B) x w = true → k ∈ q.2) (fun q => ks.length - q.1) (0, Q) (by simp only [v8_len, natI_len, mK_kill, mK_cut, mK_ren, go_sem, Nat.reduceBEq, Nat.reduceBneDiff, Nat.reduceLT, Nat.reduceLeDiff, Nat.reduceAdd, Nat.reduceMul, Nat.reduceSub, Nat.reduceEqDiff, reduceCtorEq] <;> exact rfl) ⟨hs, hx, hQ, Nat.zero_le _, fun w hw => by omega⟩ ?_
   intro ⟨j, Q'⟩ ⟨hs', hx', hQ', hj, hin⟩
   simp only at hs' hx' hQ' hj hin ⊢
   have hQl' : Q'.length ≤ C.length := nodup_le hs'.nd fun k hk => hS.lt k (hQ' k hk)
   have hll' : (fr ++ Q').length = fr.length + Q'.length := List.length_append
   have gi' := natI_get hx'
   have hi' : i < (fr ++ Q').length := lt_of_get hx'
   have hwj := wrap_i64 (n := (j : Int) + 1) (by omega)
   have zj : ((j : Int)).toNat = j := by omega
   by_cases hjl : j < ks.length
   ·have e2 : ((j : Int) < (ks.length : Int)) = True := eq_true (by omega)
    obtain ⟨m, hm⟩ : ∃ m : Nat, ks[j] = m := ⟨ks[j].toNat, by have := (hxw _ (List.getElem_mem hjl)).1; omega⟩
    have hSm : S m := by have := (hxw _ (List.getElem_mem hjl)).2; rwa [hm, Int.toNat_natCast] at this
    have hkj : ks[j]? = some (m : Int) := by rw [List.getElem?_eq_getElem hjl, hm]
    have gj := v8_get hjl
    rw [hm] at gj
    have hgj := hgo j hjl
    have more : ∀ Q2 : List Nat, (∀ k ∈ Q', k ∈ Q2) → ((bareF C B) x j = true → m ∈ Q2) → ∀ w, w < j + 1 → ∀ k : Nat, ks[w]? = some (k : Int) → (bareF C B) x w = true → k ∈ Q2 := fun Q2 h1 h2 w hw k hk hg => by
     rcases Nat.lt_or_ge w j with h | h
     ·exact h1 k (hin w h k hk hg)
     ·have : w = j := by omega
      subst this
      rw [hkj] at hk
      injection hk with hk
      have : m = k := by omega
      subst this
      exact h2 hg
    by_cases hmq : m ∈ Q'
    ·have hf := mf_qL_some hmq
     (repeat' (first | exact trivial | (with_reducible first | apply awA | apply awB | apply awC | apply awF | apply awI) | ((with_reducible first | apply awn | apply awo | refine awQ ?_); intro r hr; simp only [go_sem, Nat.reduceBEq, Nat.reduceBneDiff, Nat.reduceLT, Nat.reduceLeDiff, Nat.reduceAdd, Nat.reduceMul, Nat.reduceSub, Nat.reduceEqDiff, reduceCtorEq, e2, zj, hwj, gj, zi, gi', v8_len, natI_len, Nat.zero_add, mK_kill, mK_cut, mK_ren] at hr; subst hr; (first | refine awV ?_ ?_ | refine awW ?_ ?_ | (refine condK (fun h => ?_) (fun h => ?_) <;> (try simp only [go_sem, reduceCtorEq] at h) <;> (try (exfalso; omega))))) | (refine al_mlook (tyOf_ok _) (d := 14) (L := qL Q') (f := fun _ => AV.dead) (key := (m : Int)) (z := .int .i64 0) rfl rfl ⟨by decide, by decide⟩ rfl rfl rfl rfl t74 rfl t3 rfl zero_int rfl rfl (by rw [hf]) ?_) | (refine al_skipC (vB true) rfl rfl ⟨by decide, by decide⟩ ?_))) <;> (try omega)
     refine ⟨(j + 1, Q'), ?_, ⟨hs', hx', hQ', hjl, more Q' (fun _ h => h) fun _ => hmq⟩, by show ks.length - (j + 1) < ks.length - j; omega⟩
     simp only [hwj, mK_kill, mK_cut, mK_ren, go_sem, Nat.reduceBEq, Nat.reduceBneDiff, Nat.reduceLT, Nat.reduceLeDiff, Nat.reduceAdd, Nat.reduceMul, Nat.reduceSub, Nat.reduceEqDiff, reduceCtorEq]
     try exact rfl
    ·have hf := mf_qL_none hmq
     cases hg : (bareF C B) x j with
     | false =>
      rw [hg] at hgj
      unfold rtO rtV at hgj
      (repeat' (first | exact trivial | (with_reducible first | apply awA | apply awB | apply awC | apply awF | apply awI) | ((with_reducible first | apply awn | apply awo | refine awQ ?_); intro r hr; simp only [go_sem, Nat.reduceBEq, Nat.reduceBneDiff, Nat.reduceLT, Nat.reduceLeDiff, Nat.reduceAdd, Nat.reduceMul, Nat.reduceSub, Nat.reduceEqDiff, reduceCtorEq, e2, zj, hwj, gj, zi, gi', v8_len, natI_len, Nat.zero_add, mK_kill, mK_cut, mK_ren] at hr; subst hr; (first | refine awV ?_ ?_ | refine awW ?_ ?_ | (refine condK (fun h => ?_) (fun h => ?_) <;> (try simp only [go_sem, reduceCtorEq] at h) <;> (try (exfalso; omega))))) | (refine al_mlook (tyOf_ok _) (d := 14) (L := qL Q') (f := fun _ => AV.dead) (key := (m : Int)) (z := .int .i64 0) rfl rfl ⟨by decide, by decide⟩ rfl rfl rfl rfl t74 rfl t3 rfl zero_int rfl rfl (by rw [hf]) ?_) | (refine go_callI (tyOf_ok _) [(10000, 10000), (10002, 10002), (10003, 10003)] [(10000, 10000), (10002, 10002), (10003, 10003)] [] [10000, 10002, 10003] (by simp only [go_sem, Nat.reduceBEq, Nat.reduceBneDiff, Nat.reduceLT, Nat.reduceLeDiff, Nat.reduceAdd, Nat.reduceMul, Nat.reduceSub, Nat.reduceEqDiff, reduceCtorEq, e2, zj, hwj, gj, zi, gi', v8_len, natI_len, Nat.zero_add, mK_kill, mK_cut, mK_ren] <;> exact rfl) ?_ rfl rfl (by first | exact .inl rfl | exact .inr rfl) (by simp only [go_sem, Nat.reduceBEq, Nat.reduceBneDiff, Nat.reduceLT, Nat.reduceLeDiff, Nat.reduceAdd, Nat.reduceMul, Nat.reduceSub, Nat.reduceEqDiff, reduceCtorEq, e2, zj, hwj, gj, zi, gi', v8_len, natI_len, Nat.zero_add, mK_kill, mK_cut, mK_ren] <;> exact rfl) (hgj) (.inl rfl) ?_))) <;> (try omega)
      refine ⟨(j + 1, Q'), ?_, ⟨hs', hx', hQ', hjl, more Q' (fun _ h => h) fun h => by rw [hg] at h; cases h⟩, by show ks.length - (j + 1) < ks.length - j; omega⟩
      simp only [hwj, mK_kill, mK_cut, mK_ren, go_sem, Nat.reduceBEq, Nat.reduceBneDiff, Nat.reduceLT, Nat.reduceLeDiff, Nat.reduceAdd, Nat.reduceMul, Nat.reduceSub, Nat.reduceEqDiff, reduceCtorEq]
      try exact rfl
     | true =>
      rw [hg] at hgj
      unfold rtO rtV at hgj
      have hset := mset_qL hmq
      have hclk := mclk_qL hmq
      have hadd := hs'.add hx' (hR2 m j hkj hg) hmq
      have ht : (v8 (natI (fr ++ Q'))).take (fr ++ Q').length = v8 (natI (fr ++ Q')) := by rw [v8_take, List.take_of_length_le (by rw [natI_len]; omega)]
      have ha := natI_app (fr ++ Q') m
      rw [List.append_assoc] at ha
      have hl2 : (fr ++ (Q' ++ [m])).length = (fr ++ Q').length + 1 := by simp [Nat.add_assoc]
      (repeat' (first | exact trivial | (with_reducible first | apply awA | apply awB | apply awC | apply awF | apply awI) | ((with_reducible first | apply awn | apply awo | refine awQ ?_); intro r hr; simp only [go_sem, Nat.reduceBEq, Nat.reduceBneDiff, Nat.reduceLT, Nat.reduceLeDiff, Nat.reduceAdd, Nat.reduceMul, Nat.reduceSub, Nat.reduceEqDiff, reduceCtorEq, e2, zj, hwj, gj, zi, gi', v8_len, natI_len, Nat.zero_add, ht, ha, hl2, mK_kill, mK_cut, mK_ren] at hr; subst hr; (first | refine awV ?_ ?_ | refine awW ?_ ?_ | (refine condK (fun h => ?_) (fun h => ?_) <;> (try simp only [go_sem, reduceCtorEq] at h) <;> (try (exfalso; omega))))) | (refine al_mlook (tyOf_ok _) (d := 14) (L := qL Q') (f := fun _ => AV.dead) (key := (m : Int)) (z := .int .i64 0) rfl rfl ⟨by decide, by decide⟩ rfl rfl rfl rfl t74 rfl t3 rfl zero_int rfl rfl (by rw [hf]) ?_) | (refine go_callI (tyOf_ok _) [(10000, 10000), (10002, 10002), (10003, 10003)] [(10000, 10000), (10002, 10002), (10003, 10003)] [] [10000, 10002, 10003] (by simp only [go_sem, Nat.reduceBEq, Nat.reduceBneDiff, Nat.reduceLT, Nat.reduceLeDiff, Nat.reduceAdd, Nat.reduceMul, Nat.reduceSub, Nat.reduceEqDiff, reduceCtorEq, e2, zj, hwj, gj, zi, gi', v8_len, natI_len, Nat.zero_add, ht, ha, hl2, mK_kill, mK_cut, mK_ren] <;> exact rfl) ?_ rfl rfl (by first | exact .inl rfl | exact .inr rfl) (by simp only [go_sem, Nat.reduceBEq, Nat.reduceBneDiff, Nat.reduceLT, Nat.reduceLeDiff, Nat.reduceAdd, Nat.reduceMul, Nat.reduceSub, Nat.reduceEqDiff, reduceCtorEq, e2, zj, hwj, gj, zi, gi', v8_len, natI_len, Nat.zero_add, ht, ha, hl2, mK_kill, mK_cut, mK_ren] <;> exact rfl) (hgj) (.inl rfl) ?_) | (refine al_mlen (tyOf_ok _) rfl rfl ⟨by decide, by decide⟩ rfl rfl t74 rfl rfl ?_) | (refine al_mput (tyOf_ok _) (d := 14) (L := qL Q') (f := fun _ => AV.dead) (key := (m : Int)) () rfl rfl rfl rfl rfl rfl rfl rfl (.inr rfl) t74 rfl t3 rfl rfl hclk hset ?_))) <;> (try omega)
      refine ⟨(j + 1, Q' ++ [m]), ?_, ⟨hadd, by rw [← List.append_assoc, List.getElem?_append_left hi']; exact hx', fun k hk => ?_, hjl, more _ (fun _ h => List.mem_append_left _ h) fun _ => by simp⟩, by show ks.length - (j + 1) < ks.length - j; omega⟩
      ·simp only [hwj, v8_len, natI_len, ht, ha, hl2, mK_kill, mK_cut, mK_ren, go_sem, Nat.reduceBEq, Nat.reduceBneDiff, Nat.reduceLT, Nat.reduceLeDiff, Nat.reduceAdd, Nat.reduceMul, Nat.reduceSub, Nat.reduceEqDiff, reduceCtorEq]
       try exact rfl
      ·rcases List.mem_append.1 hk with h | h
       ·exact hQ' k h
       ·simp at h; subst h; exact hSm
   ·have e2 : ((j : Int) < (ks.length : Int)) = False := eq_false (by omega)
    (repeat' (first | exact trivial | (with_reducible first | apply awA | apply awE | apply awF | apply awH | apply awI | apply awK) | ((with_reducible first | apply awn | refine awQ ?_); intro r hr; simp only [go_sem, Nat.reduceBEq, Nat.reduceBneDiff, Nat.reduceLT, Nat.reduceLeDiff, Nat.reduceAdd, Nat.reduceMul, Nat.reduceSub, Nat.reduceEqDiff, reduceCtorEq, e2, hwi, mK_kill, mK_cut, mK_ren] at hr; subst hr; (first | refine awV ?_ ?_ | (refine condK (fun h => ?_) (fun h => ?_) <;> (try simp only [go_sem, reduceCtorEq] at h) <;> (try (exfalso; omega))))))) <;> (try omega)
    refine ⟨(i + 1, Q'), ?_, ⟨hs'.next hx' (fun k hk => ?_), hi', hQ'⟩, by show fr.length + C.length - (i + 1) < fr.length + C.length - i; omega⟩
    ·simp only [hwi, mK_kill, mK_cut, mK_ren, go_sem, Nat.reduceBEq, Nat.reduceBneDiff, Nat.reduceLT, Nat.reduceLeDiff, Nat.reduceAdd, Nat.reduceMul, Nat.reduceSub, Nat.reduceEqDiff, reduceCtorEq]
     try exact rfl
    ·obtain ⟨w, h1, h2, h3⟩ := hR k hk
     exact hin w (by omega) k h2 h3
 ·have e1 : ((i : Int) < ((fr ++ Q).length : Int)) = False := eq_false (by omega)
  (repeat' (first | exact trivial | (with_reducible first | apply awA | apply awD | apply awE | apply awF | apply awH | apply awK) | ((with_reducible first | apply awn | refine awQ ?_ | refine aweR ?_); intro r hr; simp only [go_sem, Nat.reduceBEq, Nat.reduceBneDiff, Nat.reduceLT, Nat.reduceLeDiff, Nat.reduceAdd, Nat.reduceMul, Nat.reduceSub, Nat.reduceEqDiff, reduceCtorEq, e1, mK_kill, mK_cut, mK_ren] at hr; subst hr; (first | refine awV ?_ ?_ | refine endEK ?_ ?_ | (refine condK (fun h => ?_) (fun h => ?_) <;> (try simp only [go_sem, reduceCtorEq] at h) <;> (try (exfalso; omega))))))) <;> (try omega)
  all_goals first | (refine ⟨Q, ⟨hs.nd, fun k => hs.done (by omega) k⟩, AV.up_rfl _, ?_⟩; repeat first | exact obUp_nil | refine obUp_cons rfl ?_) | skip
theorem reach3 (e : Bool) (C : List InsM) (N : List Int) (B : List Bool) (en : Int) (c : Nat) (M : List (Nat × Int × Unit)) (hok : CodeOK C N) (S : Nat → Prop) (hS : ClosedS C B S) (fr : List Nat) (hne : fr ≠ []) (hfr : ∀ k ∈ fr, S k) (hlf : fr.length ≤ 1048576) :
  GCallE Try.prog 37 [.ptr 1 10000 0 0, .ref 3 1 10004 0 fr.length, .fn 58 [.ptr 1 10005 0 0]] (((10005, AObj.var [.ptr 1 10000 0 0]) :: rtO e C N B en c M) ++ [(10004, .row 3 1 (v8 (natI fr)))]) (fun Q : List Nat => ReachI C (paysF C B) fr Q) (fun _ => .map 14) (fun Q => (((10005, AObj.var [.ptr 1 10000 0 0]) :: rtO e C N B en c M) ++ [(10004, .row 3 1 (v8 (natI fr)))]) ++ [(14, .mapr Q.length (mK (qL Q)))]) := by
 have hC := hok.len
 have h0 : 0 < fr.length := List.length_pos_iff.2 hne
 have hcl := clone_G (natI fr) (by rw [natI_len]; exact h0) (by rw [natI_len]; omega)
 rw [natI_len] at hcl
 first | unfold rtO rtV | unfold rtV
 refine go_fnE (tyOf_ok _) Try.func37 rfl rfl (by rw [Try.results37]) Try.ntmps37 rfl fun E => ?_
 (repeat' (first | exact trivial | (with_reducible first | apply awA | apply awB | apply awF) | ((with_reducible first | refine awN (tyOf_ok _) [4000014] ?_ | refine awO (tyOf_ok _) [4000014] ?_); intro r hr; simp only [go_sem, Nat.reduceBEq, Nat.reduceBneDiff, Nat.reduceLT, Nat.reduceLeDiff, Nat.reduceAdd, Nat.reduceMul, Nat.reduceSub, Nat.reduceEqDiff, reduceCtorEq, mK_kill, mK_cut, mK_ren] at hr; subst hr; (first | refine awV ?_ ?_ | refine awW ?_ ?_)) | (refine go_callGE [(10004, 10004)] [(5, 16), (10004, 10004)] [16] [10004] ?_; intro r hr; simp only [go_sem, Nat.reduceBEq, Nat.reduceBneDiff, Nat.reduceLT, Nat.reduceLeDiff, Nat.reduceAdd, Nat.reduceMul, Nat.reduceSub, Nat.reduceEqDiff, reduceCtorEq, mK_kill, mK_cut, mK_ren] at hr; subst hr; refine callGK (hcl) rfl rfl (by first | exact .inl rfl | exact .inr rfl) ?_ (.inl rfl) ?_))) <;> (try omega)
 refine go_loop [0, 2, 7, 8, 9] [10005, 10000, 10002, 10003, 10004, 14, 16] (fun q : Nat × List Nat => ⟨[(0, true, .ptr 1 10000 0 0), (2, true, .fn 58 [.ptr 1 10005 0 0]), (7, true, .map 14), (8, true, .ref 3 1 16 0 (fr ++ q.2).length), (9, true, vI q.1)],
  [(10005, .var [.ptr 1 10000 0 0]), (10000, .var [vB e, .lst 4 (encIs C), .lst 1 (v8 N), .ref 4 1 10002 0 B.length, vI en, .map 10003]), (10002, .row 4 1 (encT B)), (10003, .mapr c (mK M)), (10004, .row 3 1 (v8 (natI fr))), (14, .mapr q.2.length (mK (qL q.2))), (16, .row 3 1 (v8 (natI (fr ++ q.2))))]⟩)
  (fun q => Srch (wayR C (paysF C B)) fr q.2 q.1 ∧ q.1 ≤ (fr ++ q.2).length ∧ ∀ k ∈ q.2, S k) (fun q => fr.length + C.length - q.1) (0, []) (by simp only [mK_kill, mK_cut, mK_ren, go_sem, Nat.reduceBEq, Nat.reduceBneDiff, Nat.reduceLT, Nat.reduceLeDiff, Nat.reduceAdd, Nat.reduceMul, Nat.reduceSub, Nat.reduceEqDiff, reduceCtorEq] <;> exact rfl) ⟨Srch.nil _ _, Nat.zero_le _, fun k hk => by cases hk⟩ ?_
 intro ⟨i, Q⟩ ⟨hs, hi, hQ⟩
 simp only at hs hi hQ ⊢
 have hQl : Q.length ≤ C.length := nodup_le hs.nd fun k hk => hS.lt k (hQ k hk)
 have hll : (fr ++ Q).length = fr.length + Q.length := List.length_append
 have hwi := wrap_i64 (n := (i : Int) + 1) (by omega)
 have zi : ((i : Int)).toNat = i := by omega
 by_cases hlt : i < (fr ++ Q).length
 ·have e1 : ((i : Int) < ((fr ++ Q).length : Int)) = True := eq_true (by omega)
  obtain ⟨x, hx⟩ : ∃ x, (fr ++ Q)[i]? = some x := ⟨_, List.getElem?_eq_getElem hlt⟩
  have hSx : S x := by
   rcases List.mem_append.1 (List.mem_of_getElem? hx) with h | h
   ·exact hfr x h
   ·exact hQ x h
  have hxC := hS.lt x hSx
  have hxw := hS.ways x hSx
  have gi := natI_get hx
  have hw := ways_any e C N (by omega) x hxC (hok.arms x hxC)
  have hgo : ∀ j : Nat, j < (waysF C x (insAt C x)).length → GCall Try.prog 58 [vI x, vI j, .ptr 1 10005 0 0] ((10005, .var [.ptr 1 10000 0 0]) :: rtO e C N B en c M) (vB (paysF C B x j)) ((10005, .var [.ptr 1 10000 0 0]) :: rtO e C N B en c M) := fun j _ => pay1_G e C N B en c M x hxC j (hS.calls x hSx)
  have hR : ∀ k, wayR C (paysF C B) x k → ∃ w : Nat, w < (waysF C x (insAt C x)).length ∧ (waysF C x (insAt C x))[w]? = some (k : Int) ∧ (paysF C B) x w = true := fun k ⟨w, h1, h2⟩ => ⟨w, lt_of_get h1, h1, h2⟩
  have hR2 : ∀ (k w : Nat), (waysF C x (insAt C x))[w]? = some (k : Int) → (paysF C B) x w = true → wayR C (paysF C B) x k := fun k w h1 h2 => ⟨w, h1, h2⟩
  have hkl : (waysF C x (insAt C x)).length ≤ 10000000 := by
   unfold waysF
   split
   ·simp
   ·split
    ·simp
    ·split
     ·rename_i h8
      have := hok.arms x hxC h8
      simp
      omega
     ·split <;> simp
  generalize waysF C x (insAt C x) = ks at hw hxw hgo hR hR2 hkl
  unfold pG at hw
  (repeat' (first | exact trivial | (with_reducible first | apply awA | apply awB | apply awC | apply awF) | (refine aw_draw (id := 6) (t := (.node [0, 1, 2, 3, 4, 5, 6, 7, 10, 8, 9] [])) (drR [10000] [30] []) mixed (by kernel_rfl) (by kernel_rfl) (fun _ _ h => h) ?_) | (refine at_done (by simp only [go_sem]; exact rfl) ?_) | (refine at_alt (by simp only [go_sem]; exact rfl) ?_) | refine qalt_normal ?_ | refine ats_cons ?_ ?_ | exact ats_nil | ((with_reducible first | apply awn | apply awp | refine awQ ?_); intro r hr; simp only [go_sem, Nat.reduceBEq, Nat.reduceBneDiff, Nat.reduceLT, Nat.reduceLeDiff, Nat.reduceAdd, Nat.reduceMul, Nat.reduceSub, Nat.reduceEqDiff, reduceCtorEq, e1, zi, gi, v8_len, natI_len, Nat.zero_add, mK_kill, mK_cut, mK_ren] at hr; subst hr; (first | refine caC (hw) rfl ?_ ?_ ?_ | refine awV ?_ ?_ | (refine condK (fun h => ?_) (fun h => ?_) <;> (try simp only [go_sem, reduceCtorEq] at h) <;> (try (exfalso; omega))))))) <;> (try omega)
  all_goals
   refine go_loop [0, 2, 7, 8, 9, 31, 32, 33] [10005, 10000, 10002, 10003, 10004, 14, 16] (fun q : Nat × List Nat => ⟨[(0, true, .ptr 1 10000 0 0), (2, true, .fn 58 [.ptr 1 10005 0 0]), (7, true, .map 14), (8, true, .ref 3 1 16 0 (fr ++ q.2).length), (9, true, vI i), (31, true, .lst 1 (v8 ks)), (32, true, vI ks.length), (33, true, vI q.1)],
    [(10005, .var [.ptr 1 10000 0 0]), (10000, .var [vB e, .lst 4 (encIs C), .lst 1 (v8 N), .ref 4 1 10002 0 B.length, vI en, .map 10003]), (10002, .row 4 1 (encT B)), (10003, .mapr c (mK M)), (10004, .row 3 1 (v8 (natI fr))), (14, .mapr q.2.length (mK (qL q.2))), (16, .row 3 1 (v8 (natI (fr ++ q.2))))]⟩)
    (fun q => Srch (wayR C (paysF C B)) fr q.2 i ∧ (fr ++ q.2)[i]? = some x ∧ (∀ k ∈ q.2, S k) ∧ q.1 ≤ ks.length ∧ ∀ w, w < q.1 → ∀ k : Nat, ks[w]? = some (k : Int) → (paysF C B) x w = true → k ∈ q.2) (fun q => ks.length - q.1) (0, Q) (by simp only [v8_len, natI_len, mK_kill, mK_cut, mK_ren, go_sem, Nat.reduceBEq, Nat.reduceBneDiff, Nat.reduceLT, Nat.reduceLeDiff, Nat.reduceAdd, Nat.reduceMul, Nat.reduceSub, Nat.reduceEqDiff, reduceCtorEq] <;> exact rfl) ⟨hs, hx, hQ, Nat.zero_le _, fun w hw => by omega⟩ ?_
   intro ⟨j, Q'⟩ ⟨hs', hx', hQ', hj, hin⟩
   simp only at hs' hx' hQ' hj hin ⊢
   have hQl' : Q'.length ≤ C.length := nodup_le hs'.nd fun k hk => hS.lt k (hQ' k hk)
   have hll' : (fr ++ Q').length = fr.length + Q'.length := List.length_append
   have gi' := natI_get hx'
   have hi' : i < (fr ++ Q').length := lt_of_get hx'
   have hwj := wrap_i64 (n := (j : Int) + 1) (by omega)
   have zj : ((j : Int)).toNat = j := by omega
   by_cases hjl : j < ks.length
   ·have e2 : ((j : Int) < (ks.length : Int)) = True := eq_true (by omega)
    obtain ⟨m, hm⟩ : ∃ m : Nat, ks[j] = m := ⟨ks[j].toNat, by have := (hxw _ (List.getElem_mem hjl)).1; omega⟩
    have hSm : S m := by have := (hxw _ (List.getElem_mem hjl)).2; rwa [hm, Int.toNat_natCast] at this
    have hkj : ks[j]? = some (m : Int) := by rw [List.getElem?_eq_getElem hjl, hm]
    have gj := v8_get hjl
    rw [hm] at gj
    have hgj := hgo j hjl
    have more : ∀ Q2 : List Nat, (∀ k ∈ Q', k ∈ Q2) → ((paysF C B) x j = true → m ∈ Q2) → ∀ w, w < j + 1 → ∀ k : Nat, ks[w]? = some (k : Int) → (paysF C B) x w = true → k ∈ Q2 := fun Q2 h1 h2 w hw k hk hg => by
     rcases Nat.lt_or_ge w j with h | h
     ·exact h1 k (hin w h k hk hg)
     ·have : w = j := by omega
      subst this
      rw [hkj] at hk
      injection hk with hk
      have : m = k := by omega
      subst this
      exact h2 hg
    by_cases hmq : m ∈ Q'
    ·have hf := mf_qL_some hmq
     (repeat' (first | exact trivial | (with_reducible first | apply awA | apply awB | apply awC | apply awF | apply awI) | ((with_reducible first | apply awn | apply awo | refine awQ ?_); intro r hr; simp only [go_sem, Nat.reduceBEq, Nat.reduceBneDiff, Nat.reduceLT, Nat.reduceLeDiff, Nat.reduceAdd, Nat.reduceMul, Nat.reduceSub, Nat.reduceEqDiff, reduceCtorEq, e2, zj, hwj, gj, zi, gi', v8_len, natI_len, Nat.zero_add, mK_kill, mK_cut, mK_ren] at hr; subst hr; (first | refine awV ?_ ?_ | refine awW ?_ ?_ | (refine condK (fun h => ?_) (fun h => ?_) <;> (try simp only [go_sem, reduceCtorEq] at h) <;> (try (exfalso; omega))))) | (refine al_mlook (tyOf_ok _) (d := 14) (L := qL Q') (f := fun _ => AV.dead) (key := (m : Int)) (z := .int .i64 0) rfl rfl ⟨by decide, by decide⟩ rfl rfl rfl rfl t74 rfl t3 rfl zero_int rfl rfl (by rw [hf]) ?_) | (refine al_skipC (vB true) rfl rfl ⟨by decide, by decide⟩ ?_))) <;> (try omega)
     refine ⟨(j + 1, Q'), ?_, ⟨hs', hx', hQ', hjl, more Q' (fun _ h => h) fun _ => hmq⟩, by show ks.length - (j + 1) < ks.length - j; omega⟩
     simp only [hwj, mK_kill, mK_cut, mK_ren, go_sem, Nat.reduceBEq, Nat.reduceBneDiff, Nat.reduceLT, Nat.reduceLeDiff, Nat.reduceAdd, Nat.reduceMul, Nat.reduceSub, Nat.reduceEqDiff, reduceCtorEq]
     try exact rfl
    ·have hf := mf_qL_none hmq
     cases hg : (paysF C B) x j with
     | false =>
      rw [hg] at hgj
      unfold rtO rtV at hgj
      (repeat' (first | exact trivial | (with_reducible first | apply awA | apply awB | apply awC | apply awF | apply awI) | ((with_reducible first | apply awn | apply awo | refine awQ ?_); intro r hr; simp only [go_sem, Nat.reduceBEq, Nat.reduceBneDiff, Nat.reduceLT, Nat.reduceLeDiff, Nat.reduceAdd, Nat.reduceMul, Nat.reduceSub, Nat.reduceEqDiff, reduceCtorEq, e2, zj, hwj, gj, zi, gi', v8_len, natI_len, Nat.zero_add, mK_kill, mK_cut, mK_ren] at hr; subst hr; (first | refine awV ?_ ?_ | refine awW ?_ ?_ | (refine condK (fun h => ?_) (fun h => ?_) <;> (try simp only [go_sem, reduceCtorEq] at h) <;> (try (exfalso; omega))))) | (refine al_mlook (tyOf_ok _) (d := 14) (L := qL Q') (f := fun _ => AV.dead) (key := (m : Int)) (z := .int .i64 0) rfl rfl ⟨by decide, by decide⟩ rfl rfl rfl rfl t74 rfl t3 rfl zero_int rfl rfl (by rw [hf]) ?_) | (refine go_callI (tyOf_ok _) [(10005, 10005), (10000, 10000), (10002, 10002), (10003, 10003)] [(10005, 10005), (10000, 10000), (10002, 10002), (10003, 10003)] [] [10005, 10000, 10002, 10003] (by simp only [go_sem, Nat.reduceBEq, Nat.reduceBneDiff, Nat.reduceLT, Nat.reduceLeDiff, Nat.reduceAdd, Nat.reduceMul, Nat.reduceSub, Nat.reduceEqDiff, reduceCtorEq, e2, zj, hwj, gj, zi, gi', v8_len, natI_len, Nat.zero_add, mK_kill, mK_cut, mK_ren] <;> exact rfl) ?_ rfl rfl (by first | exact .inl rfl | exact .inr rfl) (by simp only [go_sem, Nat.reduceBEq, Nat.reduceBneDiff, Nat.reduceLT, Nat.reduceLeDiff, Nat.reduceAdd, Nat.reduceMul, Nat.reduceSub, Nat.reduceEqDiff, reduceCtorEq, e2, zj, hwj, gj, zi, gi', v8_len, natI_len, Nat.zero_add, mK_kill, mK_cut, mK_ren] <;> exact rfl) (hgj) (.inl rfl) ?_))) <;> (try omega)
      refine ⟨(j + 1, Q'), ?_, ⟨hs', hx', hQ', hjl, more Q' (fun _ h => h) fun h => by rw [hg] at h; cases h⟩, by show ks.length - (j + 1) < ks.length - j; omega⟩
      simp only [hwj, mK_kill, mK_cut, mK_ren, go_sem, Nat.reduceBEq, Nat.reduceBneDiff, Nat.reduceLT, Nat.reduceLeDiff, Nat.reduceAdd, Nat.reduceMul, Nat.reduceSub, Nat.reduceEqDiff, reduceCtorEq]
      try exact rfl
     | true =>
      rw [hg] at hgj
      unfold rtO rtV at hgj
      have hset := mset_qL hmq
      have hclk := mclk_qL hmq
      have hadd := hs'.add hx' (hR2 m j hkj hg) hmq
      have ht : (v8 (natI (fr ++ Q'))).take (fr ++ Q').length = v8 (natI (fr ++ Q')) := by rw [v8_take, List.take_of_length_le (by rw [natI_len]; omega)]
      have ha := natI_app (fr ++ Q') m
      rw [List.append_assoc] at ha
      have hl2 : (fr ++ (Q' ++ [m])).length = (fr ++ Q').length + 1 := by simp [Nat.add_assoc]
      (repeat' (first | exact trivial | (with_reducible first | apply awA | apply awB | apply awC | apply awF | apply awI) | ((with_reducible first | apply awn | apply awo | refine awQ ?_); intro r hr; simp only [go_sem, Nat.reduceBEq, Nat.reduceBneDiff, Nat.reduceLT, Nat.reduceLeDiff, Nat.reduceAdd, Nat.reduceMul, Nat.reduceSub, Nat.reduceEqDiff, reduceCtorEq, e2, zj, hwj, gj, zi, gi', v8_len, natI_len, Nat.zero_add, ht, ha, hl2, mK_kill, mK_cut, mK_ren] at hr; subst hr; (first | refine awV ?_ ?_ | refine awW ?_ ?_ | (refine condK (fun h => ?_) (fun h => ?_) <;> (try simp only [go_sem, reduceCtorEq] at h) <;> (try (exfalso; omega))))) | (refine al_mlook (tyOf_ok _) (d := 14) (L := qL Q') (f := fun _ => AV.dead) (key := (m : Int)) (z := .int .i64 0) rfl rfl ⟨by decide, by decide⟩ rfl rfl rfl rfl t74 rfl t3 rfl zero_int rfl rfl (by rw [hf]) ?_) | (refine go_callI (tyOf_ok _) [(10005, 10005), (10000, 10000), (10002, 10002), (10003, 10003)] [(10005, 10005), (10000, 10000), (10002, 10002), (10003, 10003)] [] [10005, 10000, 10002, 10003] (by simp only [go_sem, Nat.reduceBEq, Nat.reduceBneDiff, Nat.reduceLT, Nat.reduceLeDiff, Nat.reduceAdd, Nat.reduceMul, Nat.reduceSub, Nat.reduceEqDiff, reduceCtorEq, e2, zj, hwj, gj, zi, gi', v8_len, natI_len, Nat.zero_add, ht, ha, hl2, mK_kill, mK_cut, mK_ren] <;> exact rfl) ?_ rfl rfl (by first | exact .inl rfl | exact .inr rfl) (by simp only [go_sem, Nat.reduceBEq, Nat.reduceBneDiff, Nat.reduceLT, Nat.reduceLeDiff, Nat.reduceAdd, Nat.reduceMul, Nat.reduceSub, Nat.reduceEqDiff, reduceCtorEq, e2, zj, hwj, gj, zi, gi', v8_len, natI_len, Nat.zero_add, ht, ha, hl2, mK_kill, mK_cut, mK_ren] <;> exact rfl) (hgj) (.inl rfl) ?_) | (refine al_mlen (tyOf_ok _) rfl rfl ⟨by decide, by decide⟩ rfl rfl t74 rfl rfl ?_) | (refine al_mput (tyOf_ok _) (d := 14) (L := qL Q') (f := fun _ => AV.dead) (key := (m : Int)) () rfl rfl rfl rfl rfl rfl rfl rfl (.inr rfl) t74 rfl t3 rfl rfl hclk hset ?_))) <;> (try omega)
      refine ⟨(j + 1, Q' ++ [m]), ?_, ⟨hadd, by rw [← List.append_assoc, List.getElem?_append_left hi']; exact hx', fun k hk => ?_, hjl, more _ (fun _ h => List.mem_append_left _ h) fun _ => by simp⟩, by show ks.length - (j + 1) < ks.length - j; omega⟩
      ·simp only [hwj, v8_len, natI_len, ht, ha, hl2, mK_kill, mK_cut, mK_ren, go_sem, Nat.reduceBEq, Nat.reduceBneDiff, Nat.reduceLT, Nat.reduceLeDiff, Nat.reduceAdd, Nat.reduceMul, Nat.reduceSub, Nat.reduceEqDiff, reduceCtorEq]
       try exact rfl
      ·rcases List.mem_append.1 hk with h | h
       ·exact hQ' k h
       ·simp at h; subst h; exact hSm
   ·have e2 : ((j : Int) < (ks.length : Int)) = False := eq_false (by omega)
    (repeat' (first | exact trivial | (with_reducible first | apply awA | apply awE | apply awF | apply awH | apply awI | apply awK) | ((with_reducible first | apply awn | refine awQ ?_); intro r hr; simp only [go_sem, Nat.reduceBEq, Nat.reduceBneDiff, Nat.reduceLT, Nat.reduceLeDiff, Nat.reduceAdd, Nat.reduceMul, Nat.reduceSub, Nat.reduceEqDiff, reduceCtorEq, e2, hwi, mK_kill, mK_cut, mK_ren] at hr; subst hr; (first | refine awV ?_ ?_ | (refine condK (fun h => ?_) (fun h => ?_) <;> (try simp only [go_sem, reduceCtorEq] at h) <;> (try (exfalso; omega))))))) <;> (try omega)
    refine ⟨(i + 1, Q'), ?_, ⟨hs'.next hx' (fun k hk => ?_), hi', hQ'⟩, by show fr.length + C.length - (i + 1) < fr.length + C.length - i; omega⟩
    ·simp only [hwi, mK_kill, mK_cut, mK_ren, go_sem, Nat.reduceBEq, Nat.reduceBneDiff, Nat.reduceLT, Nat.reduceLeDiff, Nat.reduceAdd, Nat.reduceMul, Nat.reduceSub, Nat.reduceEqDiff, reduceCtorEq]
     try exact rfl
    ·obtain ⟨w, h1, h2, h3⟩ := hR k hk
     exact hin w (by omega) k h2 h3
 ·have e1 : ((i : Int) < ((fr ++ Q).length : Int)) = False := eq_false (by omega)
  (repeat' (first | exact trivial | (with_reducible first | apply awA | apply awD | apply awE | apply awF | apply awH | apply awK) | ((with_reducible first | apply awn | refine awQ ?_ | refine aweR ?_); intro r hr; simp only [go_sem, Nat.reduceBEq, Nat.reduceBneDiff, Nat.reduceLT, Nat.reduceLeDiff, Nat.reduceAdd, Nat.reduceMul, Nat.reduceSub, Nat.reduceEqDiff, reduceCtorEq, e1, mK_kill, mK_cut, mK_ren] at hr; subst hr; (first | refine awV ?_ ?_ | refine endEK ?_ ?_ | (refine condK (fun h => ?_) (fun h => ?_) <;> (try simp only [go_sem, reduceCtorEq] at h) <;> (try (exfalso; omega))))))) <;> (try omega)
  all_goals first | (refine ⟨Q, ⟨hs.nd, fun k => hs.done (by omega) k⟩, AV.up_rfl _, ?_⟩; repeat first | exact obUp_nil | refine obUp_cons rfl ?_) | skip
end Go.Proofs.Ytjeplogcfedmeaa
end
section
namespace Go.Proofs.Ytjeplogcfedmeaa
open Go.RowKit
set_option maxRecDepth 100000
set_option maxHeartbeats 8000000
structure FormM where
 name : ByteArray
 has : ByteArray
 known : Bool
def formS (op : Int) : FormM :=
 if op = 9 then ⟨⟨#[97, 114, 109]⟩, ⟨#[103, 116, 32]⟩, true⟩ else
 if op = 19 then ⟨⟨#[106, 117, 109, 112]⟩, ⟨#[32, 116, 32]⟩, true⟩ else
 if op = 20 then ⟨⟨#[114, 101, 116]⟩, ⟨#[32, 32, 32]⟩, true⟩ else
 ⟨ByteArray.empty, ByteArray.empty, false⟩
def formD (op : Int) : FormM :=
 if op = 1 then ⟨⟨#[117, 105, 110, 116]⟩, ⟨#[107, 119, 32]⟩, true⟩ else
 if op = 2 then ⟨⟨#[117, 105, 110, 116, 115]⟩, ⟨#[75, 110, 119]⟩, true⟩ else
 if op = 3 then ⟨⟨#[98, 111, 111, 108]⟩, ⟨#[107, 32, 32]⟩, true⟩ else
 if op = 4 then ⟨⟨#[118, 97, 114, 105, 110, 116]⟩, ⟨#[107, 32, 32]⟩, true⟩ else
 if op = 5 then ⟨⟨#[115, 101, 113]⟩, ⟨#[32, 32, 32]⟩, true⟩ else
 if op = 6 then ⟨⟨#[115, 116, 114, 117, 99, 116]⟩, ⟨#[32, 32, 32]⟩, true⟩ else
 if op = 7 then ⟨⟨#[111, 112, 116, 105, 111, 110]⟩, ⟨#[32, 116, 32]⟩, true⟩ else
 if op = 8 then ⟨⟨#[117, 110, 105, 111, 110]⟩, ⟨#[97, 32, 32]⟩, true⟩ else
 if op = 10 then ⟨⟨#[111, 102, 102, 115, 101, 116]⟩, ⟨#[102, 32, 32]⟩, true⟩ else
 if op = 11 then ⟨⟨#[102, 105, 114, 115, 116]⟩, ⟨#[109, 116, 32]⟩, true⟩ else
 if op = 12 then ⟨⟨#[115, 108, 111, 116, 115]⟩, ⟨#[32, 116, 32]⟩, true⟩ else
 if op = 13 then ⟨⟨#[105, 116, 101, 109]⟩, ⟨#[109, 116, 32]⟩, true⟩ else
 if op = 14 then ⟨⟨#[108, 101, 115, 115]⟩, ⟨#[109, 116, 32]⟩, true⟩ else
 if op = 15 then ⟨⟨#[112, 97, 114, 116, 115]⟩, ⟨#[32, 116, 32]⟩, true⟩ else
 if op = 16 then ⟨⟨#[99, 97, 108, 108]⟩, ⟨#[107, 32, 121]⟩, true⟩ else
 if op = 17 then ⟨⟨#[112, 97, 114, 116]⟩, ⟨#[107, 112, 121]⟩, true⟩ else
 if op = 18 then ⟨⟨#[116, 97, 105, 108]⟩, ⟨#[112, 32, 32]⟩, true⟩ else
 formS op
def formE (op : Int) : FormM :=
 if op = 33 then ⟨⟨#[110, 117, 109, 98, 101, 114]⟩, ⟨#[80, 119, 32]⟩, true⟩ else
 if op = 34 then ⟨⟨#[110, 117, 109, 98, 101, 114, 115]⟩, ⟨#[113, 110, 119]⟩, true⟩ else
 if op = 35 then ⟨⟨#[102, 108, 97, 103]⟩, ⟨#[80, 32, 32]⟩, true⟩ else
 if op = 36 then ⟨⟨#[108, 101, 98]⟩, ⟨#[32, 32, 32]⟩, true⟩ else
 if op = 37 then ⟨⟨#[109, 97, 110, 121]⟩, ⟨#[109, 32, 32]⟩, true⟩ else
 if op = 38 then ⟨⟨#[117, 112, 116, 111]⟩, ⟨#[109, 32, 32]⟩, true⟩ else
 if op = 39 then ⟨⟨#[102, 105, 101, 108, 100, 115]⟩, ⟨#[115, 32, 32]⟩, true⟩ else
 if op = 40 then ⟨⟨#[109, 97, 121, 98, 101]⟩, ⟨#[32, 116, 32]⟩, true⟩ else
 if op = 41 then ⟨⟨#[99, 104, 111, 105, 99, 101]⟩, ⟨#[97, 32, 32]⟩, true⟩ else
 if op = 42 then ⟨⟨#[114, 111, 111, 109]⟩, ⟨#[98, 32, 32]⟩, true⟩ else
 if op = 43 then ⟨⟨#[115, 108, 111, 116]⟩, ⟨#[80, 32, 32]⟩, true⟩ else
 if op = 44 then ⟨⟨#[101, 110, 116, 101, 114]⟩, ⟨#[113, 32, 121]⟩, true⟩ else
 if op = 45 then ⟨⟨#[101, 97, 99, 104]⟩, ⟨#[122, 32, 121]⟩, true⟩ else
 if op = 46 then ⟨⟨#[97, 112, 112, 101, 110, 100]⟩, ⟨#[32, 32, 121]⟩, true⟩ else
 if op = 47 then ⟨⟨#[97, 103, 97, 105, 110]⟩, ⟨#[32, 116, 32]⟩, true⟩ else
 formS op
def formF (e : Bool) (op : Int) : FormM := if e = true then formE op else formD op
abbrev vForm (f : FormM) : AV := .tup [.agg [.v (.string f.name), .v (.string f.has)], vB f.known]
theorem cshared_any (op : Int) : PCall Try.prog 68 [vI op] (fun r => r = vForm (formS op)) := by
 refine go_fn (tyOf_ok _) Try.func68 rfl rfl (by rw [Try.results68]) Try.ntmps68 rfl fun E => ?_
 (repeat' (first | exact trivial | (with_reducible first | apply awA | apply awB | apply awC | apply awD | apply awF | apply awG | apply awI | apply awJ) | ((with_reducible first | apply awn | refine awQ ?_ | refine awR ?_); intro r hr; simp only [go_sem, Nat.reduceBEq, Nat.reduceBneDiff, Nat.reduceLT, Nat.reduceLeDiff, Nat.reduceAdd, Nat.reduceMul, Nat.reduceSub, Nat.reduceEqDiff, reduceCtorEq] at hr; subst hr; (first | refine awV ?_ ?_ | refine endK ?_ ?_ | (refine condK (fun h => ?_) (fun h => ?_) <;> (try simp only [go_sem, reduceCtorEq] at h) <;> (try (exfalso; omega))))))) <;> (try omega)
 all_goals first | (subst_vars; rfl) | (unfold formS vForm; simp only [*, if_false]; rfl) | skip
theorem cdecodes_any (op : Int) : PCall Try.prog 61 [vI op] (fun r => r = vForm (formD op)) := by
 have hs := cshared_any op
 refine go_fn (tyOf_ok _) Try.func61 rfl rfl (by rw [Try.results61]) Try.ntmps61 rfl fun E => ?_
 (repeat' (first | exact trivial | (with_reducible first | apply awA | apply awB | apply awC | apply awD | apply awF | apply awG | apply awI | apply awJ) | ((with_reducible first | apply awn | apply awo | refine awQ ?_ | refine awR ?_); intro r hr; simp only [go_sem, Nat.reduceBEq, Nat.reduceBneDiff, Nat.reduceLT, Nat.reduceLeDiff, Nat.reduceAdd, Nat.reduceMul, Nat.reduceSub, Nat.reduceEqDiff, reduceCtorEq] at hr; subst hr; (first | refine caA (fun _ => hs) rfl ?_ ?_ ?_ | refine awV ?_ ?_ | refine endK ?_ ?_ | (refine condK (fun h => ?_) (fun h => ?_) <;> (try simp only [go_sem, reduceCtorEq] at h) <;> (try (exfalso; omega))))))) <;> (try omega)
 all_goals first | (subst_vars; rfl) | (unfold formD vForm; simp only [*, if_false]; rfl) | skip
theorem cencodes_any (op : Int) : PCall Try.prog 60 [vI op] (fun r => r = vForm (formE op)) := by
 have hs := cshared_any op
 refine go_fn (tyOf_ok _) Try.func60 rfl rfl (by rw [Try.results60]) Try.ntmps60 rfl fun E => ?_
 (repeat' (first | exact trivial | (with_reducible first | apply awA | apply awB | apply awC | apply awD | apply awF | apply awG | apply awI | apply awJ) | ((with_reducible first | apply awn | apply awo | refine awQ ?_ | refine awR ?_); intro r hr; simp only [go_sem, Nat.reduceBEq, Nat.reduceBneDiff, Nat.reduceLT, Nat.reduceLeDiff, Nat.reduceAdd, Nat.reduceMul, Nat.reduceSub, Nat.reduceEqDiff, reduceCtorEq] at hr; subst hr; (first | refine caA (fun _ => hs) rfl ?_ ?_ ?_ | refine awV ?_ ?_ | refine endK ?_ ?_ | (refine condK (fun h => ?_) (fun h => ?_) <;> (try simp only [go_sem, reduceCtorEq] at h) <;> (try (exfalso; omega))))))) <;> (try omega)
 all_goals first | (subst_vars; rfl) | (unfold formE vForm; simp only [*, if_false]; rfl) | skip
theorem cof_any (e : Bool) (C : List InsM) (N : List Int) (op : Int) : PCall Try.prog 43 [pG e C N, vI op] (fun r => r = vForm (formF e op)) := by
 unfold pG formF
 cases e with
 | true =>
  simp only [if_true]
  have hf := cencodes_any op
  generalize formE op = f at hf ⊢
  refine go_fn (tyOf_ok _) Try.func43 rfl rfl (by rw [Try.results43]) Try.ntmps43 rfl fun E => ?_
  (repeat' (first | exact trivial | (with_reducible first | apply awA | apply awD | apply awF | apply awG) | ((with_reducible first | apply awn | apply awo | refine awQ ?_ | refine awR ?_); intro r hr; simp only [go_sem, Nat.reduceBEq, Nat.reduceBneDiff, Nat.reduceLT, Nat.reduceLeDiff, Nat.reduceAdd, Nat.reduceMul, Nat.reduceSub, Nat.reduceEqDiff, reduceCtorEq] at hr; subst hr; (first | refine caA (fun _ => hf) rfl ?_ ?_ ?_ | refine awV ?_ ?_ | refine endK ?_ ?_ | (refine condK (fun h => ?_) (fun h => ?_) <;> (try simp only [go_sem, reduceCtorEq] at h) <;> (try (exfalso; omega))))))) <;> (try omega)
  all_goals rfl
 | false =>
  simp only [reduceCtorEq, if_false]
  have hf := cdecodes_any op
  generalize formD op = f at hf ⊢
  refine go_fn (tyOf_ok _) Try.func43 rfl rfl (by rw [Try.results43]) Try.ntmps43 rfl fun E => ?_
  (repeat' (first | exact trivial | (with_reducible first | apply awA | apply awC | apply awD | apply awF) | ((with_reducible first | apply awn | apply awo | refine awQ ?_ | refine awR ?_); intro r hr; simp only [go_sem, Nat.reduceBEq, Nat.reduceBneDiff, Nat.reduceLT, Nat.reduceLeDiff, Nat.reduceAdd, Nat.reduceMul, Nat.reduceSub, Nat.reduceEqDiff, reduceCtorEq] at hr; subst hr; (first | refine caA (fun _ => hf) rfl ?_ ?_ ?_ | refine awV ?_ ?_ | refine endK ?_ ?_ | (refine condK (fun h => ?_) (fun h => ?_) <;> (try simp only [go_sem, reduceCtorEq] at h) <;> (try (exfalso; omega))))))) <;> (try omega)
  all_goals rfl
end Go.Proofs.Ytjeplogcfedmeaa
end
section
namespace Go.Proofs.Ytjeplogcfedmeaa
open Go.RowKit
set_option maxRecDepth 100000
set_option maxHeartbeats 8000000
theorem same_G (y x : InsM) : GCall Try.prog 46 [.agg (cIns x), .ptr 1 10001 0 0] [(10001, .var (cIns y))] (vB (decide (x.a = y.a))) [(10001, .var (cIns y))] := by
 refine go_fnG (tyOf_ok _) Try.func46 rfl rfl (by rw [Try.results46]) Try.ntmps46 rfl fun E => ?_
 (repeat' (first | exact trivial | (with_reducible first | apply awA | apply awD | apply awF) | ((with_reducible first | apply awn | refine awT ?_); intro r hr; simp only [go_sem, Nat.reduceBEq, Nat.reduceBneDiff, Nat.reduceLT, Nat.reduceLeDiff, Nat.reduceAdd, Nat.reduceMul, Nat.reduceSub, Nat.reduceEqDiff, reduceCtorEq] at hr; subst hr; (first | refine awV ?_ ?_ | refine endGK ?_ ?_ ?_)))) <;> (try omega)
 all_goals first | exact AV.up_rfl _ | (repeat first | exact obUp_nil | refine obUp_cons rfl ?_)
def sameA (y : InsM) (x : InsM) : Bool := decide (x.a = y.a)
theorem cIns_get {l : List InsM} {i : Nat} {x : InsM} (h : l[i]? = some x) : (encIs l)[i]? = some (cIns x) := by simp [encIs, encI, h]
theorem indexA_E (y : InsM) (l : List InsM) (hl : l.length ≤ 1000000000) :
  GCallE Try.prog 62 [.lst 4 (encIs l), .fn 46 [.ptr 1 10001 0 0]] [(10001, .var (cIns y))] (fun r : Int => decide (0 ≤ r) = l.any (sameA y)) (fun r => vI r) (fun _ => [(10001, .var (cIns y))]) := by
 refine go_fnE (tyOf_ok _) Try.func62 rfl rfl (by rw [Try.results62]) Try.ntmps62 rfl fun E => ?_
 (repeat' (first | exact trivial | (with_reducible first | apply awA | apply awB | apply awF) | ((with_reducible apply awn); intro r hr; simp only [go_sem, Nat.reduceBEq, Nat.reduceBneDiff, Nat.reduceLT, Nat.reduceLeDiff, Nat.reduceAdd, Nat.reduceMul, Nat.reduceSub, Nat.reduceEqDiff, reduceCtorEq, encIs_len] at hr; subst hr; (first | refine awV ?_ ?_)))) <;> (try omega)
 refine go_loop [0, 1, 6, 7, 8] [10001] (fun i : Nat => ⟨[(0, true, .lst 4 (encIs l)), (1, true, .fn 46 [.ptr 1 10001 0 0]), (6, true, .lst 4 (encIs l)), (7, true, vI l.length), (8, true, vI i)], [(10001, .var (cIns y))]⟩)
  (fun i => i ≤ l.length ∧ ∀ x ∈ l.take i, sameA y x = false) (fun i => l.length - i) 0 (by simp only [go_sem, Nat.reduceBEq, Nat.reduceBneDiff, Nat.reduceLT, Nat.reduceLeDiff, Nat.reduceAdd, Nat.reduceMul, Nat.reduceSub, Nat.reduceEqDiff, reduceCtorEq] <;> exact rfl) ⟨Nat.zero_le _, fun j hj => by simp at hj⟩ ?_
 intro i ⟨hi, hall⟩
 have hwi := wrap_i64 (n := (i : Int) + 1) (by omega)
 have zi : ((i : Int)).toNat = i := by omega
 by_cases hlt : i < l.length
 ·have e1 : ((i : Int) < (l.length : Int)) = True := eq_true (by omega)
  obtain ⟨x, hx⟩ : ∃ x, l[i]? = some x := ⟨_, List.getElem?_eq_getElem hlt⟩
  have gi := cIns_get hx
  have hb := same_G y x
  by_cases hc : x.a = y.a
  ·rw [decide_eq_true hc] at hb
   (repeat' (first | exact trivial | (with_reducible first | apply awA | apply awB | apply awC | apply awD | apply awF | apply awG | apply awJ) | ((with_reducible first | apply awn | apply awo | refine awQ ?_ | refine aweR ?_); intro r hr; simp only [go_sem, Nat.reduceBEq, Nat.reduceBneDiff, Nat.reduceLT, Nat.reduceLeDiff, Nat.reduceAdd, Nat.reduceMul, Nat.reduceSub, Nat.reduceEqDiff, reduceCtorEq, e1, zi, hwi, gi, encIs_len] at hr; subst hr; (first | refine awV ?_ ?_ | refine awW ?_ ?_ | refine endEK ?_ ?_ | (refine condK (fun h => ?_) (fun h => ?_) <;> (try simp only [go_sem, reduceCtorEq] at h) <;> (try (exfalso; omega))))) | (refine go_callI (tyOf_ok _) [(10001, 10001)] [(10001, 10001)] [] [10001] (by simp only [go_sem, Nat.reduceBEq, Nat.reduceBneDiff, Nat.reduceLT, Nat.reduceLeDiff, Nat.reduceAdd, Nat.reduceMul, Nat.reduceSub, Nat.reduceEqDiff, reduceCtorEq, e1, zi, hwi, gi, encIs_len] <;> exact rfl) ?_ rfl rfl (by first | exact .inl rfl | exact .inr rfl) (by simp only [go_sem, Nat.reduceBEq, Nat.reduceBneDiff, Nat.reduceLT, Nat.reduceLeDiff, Nat.reduceAdd, Nat.reduceMul, Nat.reduceSub, Nat.reduceEqDiff, reduceCtorEq, e1, zi, hwi, gi, encIs_len] <;> exact rfl) (hb) (.inl rfl) ?_))) <;> (try omega)
   all_goals refine ⟨(i : Int), ?_, AV.up_rfl _, ?_⟩
   ·rw [decide_eq_true (show (0 : Int) ≤ (i : Int) by omega)]
    exact (List.any_eq_true.2 ⟨x, List.mem_of_getElem? hx, decide_eq_true hc⟩).symm
   ·repeat first | exact obUp_nil | refine obUp_cons rfl ?_
  ·rw [decide_eq_false hc] at hb
   (repeat' (first | exact trivial | (with_reducible first | apply awA | apply awB | apply awC | apply awF | apply awI) | ((with_reducible first | apply awn | apply awo | refine awQ ?_); intro r hr; simp only [go_sem, Nat.reduceBEq, Nat.reduceBneDiff, Nat.reduceLT, Nat.reduceLeDiff, Nat.reduceAdd, Nat.reduceMul, Nat.reduceSub, Nat.reduceEqDiff, reduceCtorEq, e1, zi, hwi, gi, encIs_len] at hr; subst hr; (first | refine awV ?_ ?_ | refine awW ?_ ?_ | (refine condK (fun h => ?_) (fun h => ?_) <;> (try simp only [go_sem, reduceCtorEq] at h) <;> (try (exfalso; omega))))) | (refine go_callI (tyOf_ok _) [(10001, 10001)] [(10001, 10001)] [] [10001] (by simp only [go_sem, Nat.reduceBEq, Nat.reduceBneDiff, Nat.reduceLT, Nat.reduceLeDiff, Nat.reduceAdd, Nat.reduceMul, Nat.reduceSub, Nat.reduceEqDiff, reduceCtorEq, e1, zi, hwi, gi, encIs_len] <;> exact rfl) ?_ rfl rfl (by first | exact .inl rfl | exact .inr rfl) (by simp only [go_sem, Nat.reduceBEq, Nat.reduceBneDiff, Nat.reduceLT, Nat.reduceLeDiff, Nat.reduceAdd, Nat.reduceMul, Nat.reduceSub, Nat.reduceEqDiff, reduceCtorEq, e1, zi, hwi, gi, encIs_len] <;> exact rfl) (hb) (.inl rfl) ?_))) <;> (try omega)
   refine ⟨i + 1, ?_, ⟨hlt, fun j hj => ?_⟩, by omega⟩
   ·simp only [hwi, go_sem, Nat.reduceBEq, Nat.reduceBneDiff, Nat.reduceLT, Nat.reduceLeDiff, Nat.reduceAdd, Nat.reduceMul, Nat.reduceSub, Nat.reduceEqDiff, reduceCtorEq]
    try exact rfl
   ·rw [List.take_succ_eq_append_getElem hlt] at hj
    rw [List.getElem?_eq_getElem hlt] at hx
    injection hx with hx
    rcases List.mem_append.1 hj with hj | hj
    ·exact hall j hj
    ·simp at hj; rw [hj, hx]; exact decide_eq_false hc
 ·have e1 : ((i : Int) < (l.length : Int)) = False := eq_false (by omega)
  (repeat' (first | exact trivial | (with_reducible first | apply awA | apply awD | apply awE | apply awF | apply awH | apply awK) | ((with_reducible first | apply awn | refine awQ ?_ | refine aweR ?_); intro r hr; simp only [go_sem, Nat.reduceBEq, Nat.reduceBneDiff, Nat.reduceLT, Nat.reduceLeDiff, Nat.reduceAdd, Nat.reduceMul, Nat.reduceSub, Nat.reduceEqDiff, reduceCtorEq, e1] at hr; subst hr; (first | refine awV ?_ ?_ | refine endEK ?_ ?_ | (refine condK (fun h => ?_) (fun h => ?_) <;> (try simp only [go_sem, reduceCtorEq] at h) <;> (try (exfalso; omega))))))) <;> (try omega)
  all_goals refine ⟨-1, ?_, AV.up_rfl _, ?_⟩
  ·rw [List.take_of_length_le (by omega)] at hall
   exact (List.any_eq_false.2 fun x hx => by simp [hall x hx]).symm
  ·repeat first | exact obUp_nil | refine obUp_cons rfl ?_
theorem containsA_G (y : InsM) (l : List InsM) (hl : l.length ≤ 1000000000) :
  GCall Try.prog 45 [.lst 4 (encIs l), .fn 46 [.ptr 1 10001 0 0]] [(10001, .var (cIns y))] (vB (l.any (sameA y))) [(10001, .var (cIns y))] := by
 have hi := indexA_E y l hl
 refine go_fnG (tyOf_ok _) Try.func45 rfl rfl (by rw [Try.results45]) Try.ntmps45 rfl fun E => ?_
 (repeat' (first | exact trivial | (with_reducible first | apply awA | apply awD | apply awF) | ((with_reducible first | apply awn | apply awo | refine awT ?_); intro r hr; simp only [go_sem, Nat.reduceBEq, Nat.reduceBneDiff, Nat.reduceLT, Nat.reduceLeDiff, Nat.reduceAdd, Nat.reduceMul, Nat.reduceSub, Nat.reduceEqDiff, reduceCtorEq] at hr; subst hr; (first | refine awV ?_ ?_ | refine awW ?_ ?_ | refine endGK ?_ ?_ ?_)) | (refine go_callGE [(10001, 10001)] [(10001, 10001)] [] [10001] ?_; intro r hr; simp only [go_sem, Nat.reduceBEq, Nat.reduceBneDiff, Nat.reduceLT, Nat.reduceLeDiff, Nat.reduceAdd, Nat.reduceMul, Nat.reduceSub, Nat.reduceEqDiff, reduceCtorEq] at hr; subst hr; refine callGV (hi) rfl rfl (by first | exact .inl rfl | exact .inr rfl) ?_ (.inl rfl) (fun q hq => ?_)))) <;> (try omega)
 all_goals first | (rw [← hq]; exact AV.up_rfl _) | exact AV.up_rfl _ | (repeat first | exact obUp_nil | refine obUp_cons rfl ?_)
def armsOK : List InsM → List InsM → Bool
 | _, [] => true
 | l, y :: r => decide (y.op = 9) && !(l.any (sameA y)) && armsOK (l ++ [y]) r
def armsL (C : List InsM) (k : Nat) (a : Int) : List InsM := (C.take (k + 1 + a.toNat)).drop (k + 1)
def kindU : ByteArray := ⟨#[117, 105, 110, 116, 115]⟩
def kindN' : ByteArray := ⟨#[110, 117, 109, 98, 101, 114, 115]⟩
def kindP : ByteArray := ⟨#[112, 97, 114, 116]⟩
def kindO : ByteArray := ⟨#[117, 110, 105, 111, 110]⟩
def kindC : ByteArray := ⟨#[99, 104, 111, 105, 99, 101]⟩
def restF (nm : ByteArray) (C : List InsM) (k : Nat) (x : InsM) : Bool :=
 if nm = kindU then decide (IntKind.i64.wrap (x.a + x.b) ≤ 64)
 else if nm = kindN' then decide (IntKind.i64.wrap (x.a + IntKind.i64.wrap (x.b * x.c)) ≤ 16777216)
 else if nm = kindP then decide (x.a = -1) == decide (x.b = -1)
 else if nm = kindO ∨ nm = kindC then (if (C.length : Int) - k ≤ x.a then false else armsOK [] (armsL C k x.a))
 else true
def mayB (nC nN : Nat) (f : FormM) (x : InsM) : Bool := mayF nC nN (bAt f.has 0) x.a && mayF nC nN (bAt f.has 1) x.b && mayF nC nN (bAt f.has 2) x.c
def rightF (e : Bool) (C : List InsM) (N : List Int) (k : Nat) : Bool :=
 let x := insAt C k
 let f := formF e x.op
 f.known && mayB C.length N.length f x && restF f.name C k x
theorem formS_size (op : Int) : (formS op).known = true → (formS op).has.size = 3 := by
 by_cases h9 : op = 9
 ·subst h9; exact fun _ => rfl
 by_cases h19 : op = 19
 ·subst h19; exact fun _ => rfl
 by_cases h20 : op = 20
 ·subst h20; exact fun _ => rfl
 unfold formS
 simp only [h9, h19, h20, if_false]
 exact fun h => (by cases h)
theorem formD_size (op : Int) : (formD op).known = true → (formD op).has.size = 3 := by
 by_cases h1 : op = 1
 ·subst h1; exact fun _ => rfl
 by_cases h2 : op = 2
 ·subst h2; exact fun _ => rfl
 by_cases h3 : op = 3
 ·subst h3; exact fun _ => rfl
 by_cases h4 : op = 4
 ·subst h4; exact fun _ => rfl
 by_cases h5 : op = 5
 ·subst h5; exact fun _ => rfl
 by_cases h6 : op = 6
 ·subst h6; exact fun _ => rfl
 by_cases h7 : op = 7
 ·subst h7; exact fun _ => rfl
 by_cases h8 : op = 8
 ·subst h8; exact fun _ => rfl
 by_cases h10 : op = 10
 ·subst h10; exact fun _ => rfl
 by_cases h11 : op = 11
 ·subst h11; exact fun _ => rfl
 by_cases h12 : op = 12
 ·subst h12; exact fun _ => rfl
 by_cases h13 : op = 13
 ·subst h13; exact fun _ => rfl
 by_cases h14 : op = 14
 ·subst h14; exact fun _ => rfl
 by_cases h15 : op = 15
 ·subst h15; exact fun _ => rfl
 by_cases h16 : op = 16
 ·subst h16; exact fun _ => rfl
 by_cases h17 : op = 17
 ·subst h17; exact fun _ => rfl
 by_cases h18 : op = 18
 ·subst h18; exact fun _ => rfl
 unfold formD
 simp only [h1, h2, h3, h4, h5, h6, h7, h8, h10, h11, h12, h13, h14, h15, h16, h17, h18, if_false]
 exact formS_size op
theorem formE_size (op : Int) : (formE op).known = true → (formE op).has.size = 3 := by
 by_cases h33 : op = 33
 ·subst h33; exact fun _ => rfl
 by_cases h34 : op = 34
 ·subst h34; exact fun _ => rfl
 by_cases h35 : op = 35
 ·subst h35; exact fun _ => rfl
 by_cases h36 : op = 36
 ·subst h36; exact fun _ => rfl
 by_cases h37 : op = 37
 ·subst h37; exact fun _ => rfl
 by_cases h38 : op = 38
 ·subst h38; exact fun _ => rfl
 by_cases h39 : op = 39
 ·subst h39; exact fun _ => rfl
 by_cases h40 : op = 40
 ·subst h40; exact fun _ => rfl
 by_cases h41 : op = 41
 ·subst h41; exact fun _ => rfl
 by_cases h42 : op = 42
 ·subst h42; exact fun _ => rfl
 by_cases h43 : op = 43
 ·subst h43; exact fun _ => rfl
 by_cases h44 : op = 44
 ·subst h44; exact fun _ => rfl
 by_cases h45 : op = 45
 ·subst h45; exact fun _ => rfl
 by_cases h46 : op = 46
 ·subst h46; exact fun _ => rfl
 by_cases h47 : op = 47
 ·subst h47; exact fun _ => rfl
 unfold formE
 simp only [h33, h34, h35, h36, h37, h38, h39, h40, h41, h42, h43, h44, h45, h46, h47, if_false]
 exact formS_size op
theorem formF_size (e : Bool) (op : Int) : (formF e op).known = true → (formF e op).has.size = 3 := by
 unfold formF
 cases e
 ·exact formD_size op
 ·exact formE_size op
theorem formS_arm (op : Int) : (formS op).name = kindO ∨ (formS op).name = kindC → bAt (formS op).has 0 = 97 := by
 by_cases h9 : op = 9
 ·subst h9; exact fun h => h.elim (fun h => absurd h (by decide)) fun h => absurd h (by decide)
 by_cases h19 : op = 19
 ·subst h19; exact fun h => h.elim (fun h => absurd h (by decide)) fun h => absurd h (by decide)
 by_cases h20 : op = 20
 ·subst h20; exact fun h => h.elim (fun h => absurd h (by decide)) fun h => absurd h (by decide)
 unfold formS
 simp only [h9, h19, h20, if_false]
 exact fun h => h.elim (fun h => absurd h (by decide)) fun h => absurd h (by decide)
theorem formD_arm (op : Int) : (formD op).name = kindO ∨ (formD op).name = kindC → bAt (formD op).has 0 = 97 := by
 by_cases h1 : op = 1
 ·subst h1; exact fun h => h.elim (fun h => absurd h (by decide)) fun h => absurd h (by decide)
 by_cases h2 : op = 2
 ·subst h2; exact fun h => h.elim (fun h => absurd h (by decide)) fun h => absurd h (by decide)
 by_cases h3 : op = 3
 ·subst h3; exact fun h => h.elim (fun h => absurd h (by decide)) fun h => absurd h (by decide)
 by_cases h4 : op = 4
 ·subst h4; exact fun h => h.elim (fun h => absurd h (by decide)) fun h => absurd h (by decide)
 by_cases h5 : op = 5
 ·subst h5; exact fun h => h.elim (fun h => absurd h (by decide)) fun h => absurd h (by decide)
 by_cases h6 : op = 6
 ·subst h6; exact fun h => h.elim (fun h => absurd h (by decide)) fun h => absurd h (by decide)
 by_cases h7 : op = 7
 ·subst h7; exact fun h => h.elim (fun h => absurd h (by decide)) fun h => absurd h (by decide)
 by_cases h8 : op = 8
 ·subst h8; exact fun _ => rfl
 by_cases h10 : op = 10
 ·subst h10; exact fun h => h.elim (fun h => absurd h (by decide)) fun h => absurd h (by decide)
 by_cases h11 : op = 11
 ·subst h11; exact fun h => h.elim (fun h => absurd h (by decide)) fun h => absurd h (by decide)
 by_cases h12 : op = 12
 ·subst h12; exact fun h => h.elim (fun h => absurd h (by decide)) fun h => absurd h (by decide)
 by_cases h13 : op = 13
 ·subst h13; exact fun h => h.elim (fun h => absurd h (by decide)) fun h => absurd h (by decide)
 by_cases h14 : op = 14
 ·subst h14; exact fun h => h.elim (fun h => absurd h (by decide)) fun h => absurd h (by decide)
 by_cases h15 : op = 15
 ·subst h15; exact fun h => h.elim (fun h => absurd h (by decide)) fun h => absurd h (by decide)
 by_cases h16 : op = 16
 ·subst h16; exact fun h => h.elim (fun h => absurd h (by decide)) fun h => absurd h (by decide)
 by_cases h17 : op = 17
 ·subst h17; exact fun h => h.elim (fun h => absurd h (by decide)) fun h => absurd h (by decide)
 by_cases h18 : op = 18
 ·subst h18; exact fun h => h.elim (fun h => absurd h (by decide)) fun h => absurd h (by decide)
 unfold formD
 simp only [h1, h2, h3, h4, h5, h6, h7, h8, h10, h11, h12, h13, h14, h15, h16, h17, h18, if_false]
 exact formS_arm op
theorem formE_arm (op : Int) : (formE op).name = kindO ∨ (formE op).name = kindC → bAt (formE op).has 0 = 97 := by
 by_cases h33 : op = 33
 ·subst h33; exact fun h => h.elim (fun h => absurd h (by decide)) fun h => absurd h (by decide)
 by_cases h34 : op = 34
 ·subst h34; exact fun h => h.elim (fun h => absurd h (by decide)) fun h => absurd h (by decide)
 by_cases h35 : op = 35
 ·subst h35; exact fun h => h.elim (fun h => absurd h (by decide)) fun h => absurd h (by decide)
 by_cases h36 : op = 36
 ·subst h36; exact fun h => h.elim (fun h => absurd h (by decide)) fun h => absurd h (by decide)
 by_cases h37 : op = 37
 ·subst h37; exact fun h => h.elim (fun h => absurd h (by decide)) fun h => absurd h (by decide)
 by_cases h38 : op = 38
 ·subst h38; exact fun h => h.elim (fun h => absurd h (by decide)) fun h => absurd h (by decide)
 by_cases h39 : op = 39
 ·subst h39; exact fun h => h.elim (fun h => absurd h (by decide)) fun h => absurd h (by decide)
 by_cases h40 : op = 40
 ·subst h40; exact fun h => h.elim (fun h => absurd h (by decide)) fun h => absurd h (by decide)
 by_cases h41 : op = 41
 ·subst h41; exact fun _ => rfl
 by_cases h42 : op = 42
 ·subst h42; exact fun h => h.elim (fun h => absurd h (by decide)) fun h => absurd h (by decide)
 by_cases h43 : op = 43
 ·subst h43; exact fun h => h.elim (fun h => absurd h (by decide)) fun h => absurd h (by decide)
 by_cases h44 : op = 44
 ·subst h44; exact fun h => h.elim (fun h => absurd h (by decide)) fun h => absurd h (by decide)
 by_cases h45 : op = 45
 ·subst h45; exact fun h => h.elim (fun h => absurd h (by decide)) fun h => absurd h (by decide)
 by_cases h46 : op = 46
 ·subst h46; exact fun h => h.elim (fun h => absurd h (by decide)) fun h => absurd h (by decide)
 by_cases h47 : op = 47
 ·subst h47; exact fun h => h.elim (fun h => absurd h (by decide)) fun h => absurd h (by decide)
 unfold formE
 simp only [h33, h34, h35, h36, h37, h38, h39, h40, h41, h42, h43, h44, h45, h46, h47, if_false]
 exact formS_arm op
theorem formF_arm (e : Bool) (op : Int) : (formF e op).name = kindO ∨ (formF e op).name = kindC → bAt (formF e op).has 0 = 97 := by
 unfold formF
 cases e
 ·exact formD_arm op
 ·exact formE_arm op
theorem restF_O {nm : ByteArray} (h : nm = kindO ∨ nm = kindC) (C : List InsM) (k : Nat) (x : InsM) : restF nm C k x = if (C.length : Int) - k ≤ x.a then false else armsOK [] (armsL C k x.a) := by
 unfold restF
 have h1 : ¬ nm = kindU := by rcases h with rfl | rfl <;> decide
 have h2 : ¬ nm = kindN' := by rcases h with rfl | rfl <;> decide
 have h3 : ¬ nm = kindP := by rcases h with rfl | rfl <;> decide
 rw [if_neg h1, if_neg h2, if_neg h3, if_pos h]
theorem encIs_td (C : List InsM) (n m : Nat) : ((encIs C).take n).drop m = encIs ((C.take n).drop m) := by simp [encIs, List.map_take, List.map_drop]
theorem encIs_take (C : List InsM) (n : Nat) : (encIs C).take n = encIs (C.take n) := by simp [encIs, List.map_take]
theorem right_any (e : Bool) (C : List InsM) (N : List Int) (hC : C.length ≤ 1048576) (hN : N.length ≤ 1048576) (k : Nat) (hk : k < C.length) : PCall Try.prog 32 [pG e C N, vI k] (fun r => r = vB (rightF e C N k)) := by
 have zk : ((k : Int)).toNat = k := by omega
 have gk := insAt_get hk
 unfold rightF mayB
 dsimp only
 have hf := cof_any e C N (insAt C k).op
 have hsz := formF_size e (insAt C k).op
 have harm : (formF e (insAt C k).op).name = kindO ∨ (formF e (insAt C k).op).name = kindC → mayF C.length N.length (bAt (formF e (insAt C k).op).has 0) (insAt C k).a = true → 1 ≤ (insAt C k).a ∧ (insAt C k).a ≤ 64 := fun h hm => by
  rw [formF_arm e _ h] at hm
  simpa [mayF, inF] using hm
 generalize formF e (insAt C k).op = f at hf hsz harm ⊢
 generalize insAt C k = x at *
 have hm0 := may_any e C N (by omega) (by omega) (bAt f.has 0) x.a
 have hm1 := may_any e C N (by omega) (by omega) (bAt f.has 1) x.b
 have hm2 := may_any e C N (by omega) (by omega) (bAt f.has 2) x.c
 generalize mayF C.length N.length (bAt f.has 0) x.a = b0 at hm0 harm ⊢
 generalize mayF C.length N.length (bAt f.has 1) x.b = b1 at hm1 ⊢
 generalize mayF C.length N.length (bAt f.has 2) x.c = b2 at hm2 ⊢
 obtain ⟨nm, hs, kn⟩ := f
 dsimp only at hf hsz hm0 hm1 hm2 harm ⊢
 unfold pG at *
 cases kn with
 | false =>
  refine go_fn (tyOf_ok _) Try.func32 rfl rfl (by rw [Try.results32]) Try.ntmps32 rfl fun E => ?_
  (repeat' (first | exact trivial | (with_reducible first | apply awA | apply awD | apply awF | apply awG) | (refine aw_draw (id := 3) (t := (.node [0, 1, 2, 3, 4, 5, 6, 7, 8, 9, 10, 11, 12, 13, 14, 15, 16, 17, 18, 19, 20, 21, 22, 23, 24, 25, 26, 27, 28, 29, 30, 31] [])) (drR [2, 6, 5] [] []) mixed (by kernel_rfl) (by kernel_rfl) (fun _ _ h => h) ?_) | (refine at_done (by simp only [go_sem]; exact rfl) ?_) | (refine at_alt (by simp only [go_sem]; exact rfl) ?_) | refine qalt_normal ?_ | refine ats_cons ?_ ?_ | exact ats_nil | ((with_reducible first | apply awn | apply awo | apply awp | refine awQ ?_ | refine awR ?_); intro r hr; simp only [go_sem, Nat.reduceBEq, Nat.reduceBneDiff, Nat.reduceLT, Nat.reduceLeDiff, Nat.reduceAdd, Nat.reduceMul, Nat.reduceSub, Nat.reduceEqDiff, reduceCtorEq, zk, gk, encIs_len, Int.cast_ofNat_Int, Int.reduceToNat, Int.reduceEq, Int.reduceLT, Int.reduceLE, Int.reduceNe] at hr; subst hr; (first | refine caA (fun _ => hf) rfl ?_ ?_ ?_ | refine caB 44 (vB true) ?_ ?_ ?_ | refine awV ?_ ?_ | refine endK ?_ ?_ | (refine condK (fun h => ?_) (fun h => ?_) <;> (try simp only [go_sem, reduceCtorEq] at h) <;> (try (exfalso; omega))))))) <;> (try omega)
  all_goals rfl
 | true =>
  have h3 := hsz rfl
  clear hsz
  have g0 : ((hs.size : Nat) : Int) = 3 := by omega
  cases b0 with
  | false =>
   refine go_fn (tyOf_ok _) Try.func32 rfl rfl (by rw [Try.results32]) Try.ntmps32 rfl fun E => ?_
   (repeat' (first | exact trivial | (with_reducible first | apply awA | apply awD | apply awF | apply awG) | (refine aw_draw (id := 3) (t := (.node [0, 1, 2, 3, 4, 5, 6, 7, 8, 9, 10, 11, 12, 13, 14, 15, 16, 17, 18, 19, 20, 21, 22, 23, 24, 25, 26, 27, 28, 29, 30, 31] [])) (drR [2, 6, 5] [] []) mixed (by kernel_rfl) (by kernel_rfl) (fun _ _ h => h) ?_) | (refine at_done (by simp only [go_sem]; exact rfl) ?_) | (refine at_alt (by simp only [go_sem]; exact rfl) ?_) | refine qalt_normal ?_ | refine ats_cons ?_ ?_ | exact ats_nil | ((with_reducible first | apply awn | apply awo | apply awp | refine awQ ?_ | refine awR ?_); intro r hr; simp only [go_sem, Nat.reduceBEq, Nat.reduceBneDiff, Nat.reduceLT, Nat.reduceLeDiff, Nat.reduceAdd, Nat.reduceMul, Nat.reduceSub, Nat.reduceEqDiff, reduceCtorEq, zk, gk, encIs_len, g0, Int.cast_ofNat_Int, Int.reduceToNat, Int.reduceEq, Int.reduceLT, Int.reduceLE, Int.reduceNe] at hr; subst hr; (first | refine caA (fun _ => hf) rfl ?_ ?_ ?_ | refine caA (fun _ => hm0) rfl ?_ ?_ ?_ | refine caB 44 (vB true) ?_ ?_ ?_ | refine awV ?_ ?_ | refine endK ?_ ?_ | (refine condK (fun h => ?_) (fun h => ?_) <;> (try simp only [go_sem, reduceCtorEq] at h) <;> (try (exfalso; omega))))))) <;> (try omega)
   all_goals rfl
  | true =>
   cases b1 with
   | false =>
    refine go_fn (tyOf_ok _) Try.func32 rfl rfl (by rw [Try.results32]) Try.ntmps32 rfl fun E => ?_
    (repeat' (first | exact trivial | (with_reducible first | apply awA | apply awD | apply awF | apply awG) | (refine aw_draw (id := 3) (t := (.node [0, 1, 2, 3, 4, 5, 6, 7, 8, 9, 10, 11, 12, 13, 14, 15, 16, 17, 18, 19, 20, 21, 22, 23, 24, 25, 26, 27, 28, 29, 30, 31] [])) (drR [2, 6, 5] [] []) mixed (by kernel_rfl) (by kernel_rfl) (fun _ _ h => h) ?_) | (refine at_done (by simp only [go_sem]; exact rfl) ?_) | (refine at_alt (by simp only [go_sem]; exact rfl) ?_) | refine qalt_normal ?_ | refine ats_cons ?_ ?_ | exact ats_nil | ((with_reducible first | apply awn | apply awo | apply awp | refine awQ ?_ | refine awR ?_); intro r hr; simp only [go_sem, Nat.reduceBEq, Nat.reduceBneDiff, Nat.reduceLT, Nat.reduceLeDiff, Nat.reduceAdd, Nat.reduceMul, Nat.reduceSub, Nat.reduceEqDiff, reduceCtorEq, zk, gk, encIs_len, g0, Int.cast_ofNat_Int, Int.reduceToNat, Int.reduceEq, Int.reduceLT, Int.reduceLE, Int.reduceNe] at hr; subst hr; (first | refine caA (fun _ => hf) rfl ?_ ?_ ?_ | refine caA (fun _ => hm0) rfl ?_ ?_ ?_ | refine caA (fun _ => hm1) rfl ?_ ?_ ?_ | refine caB 44 (vB true) ?_ ?_ ?_ | refine awV ?_ ?_ | refine endK ?_ ?_ | (refine condK (fun h => ?_) (fun h => ?_) <;> (try simp only [go_sem, reduceCtorEq] at h) <;> (try (exfalso; omega))))))) <;> (try omega)
    all_goals rfl
   | true =>
    cases b2 with
    | false =>
     refine go_fn (tyOf_ok _) Try.func32 rfl rfl (by rw [Try.results32]) Try.ntmps32 rfl fun E => ?_
     (repeat' (first | exact trivial | (with_reducible first | apply awA | apply awD | apply awF | apply awG) | (refine aw_draw (id := 3) (t := (.node [0, 1, 2, 3, 4, 5, 6, 7, 8, 9, 10, 11, 12, 13, 14, 15, 16, 17, 18, 19, 20, 21, 22, 23, 24, 25, 26, 27, 28, 29, 30, 31] [])) (drR [2, 6, 5] [] []) mixed (by kernel_rfl) (by kernel_rfl) (fun _ _ h => h) ?_) | (refine at_done (by simp only [go_sem]; exact rfl) ?_) | (refine at_alt (by simp only [go_sem]; exact rfl) ?_) | refine qalt_normal ?_ | refine ats_cons ?_ ?_ | exact ats_nil | ((with_reducible first | apply awn | apply awo | apply awp | refine awQ ?_ | refine awR ?_); intro r hr; simp only [go_sem, Nat.reduceBEq, Nat.reduceBneDiff, Nat.reduceLT, Nat.reduceLeDiff, Nat.reduceAdd, Nat.reduceMul, Nat.reduceSub, Nat.reduceEqDiff, reduceCtorEq, zk, gk, encIs_len, g0, Int.cast_ofNat_Int, Int.reduceToNat, Int.reduceEq, Int.reduceLT, Int.reduceLE, Int.reduceNe] at hr; subst hr; (first | refine caA (fun _ => hf) rfl ?_ ?_ ?_ | refine caA (fun _ => hm0) rfl ?_ ?_ ?_ | refine caA (fun _ => hm1) rfl ?_ ?_ ?_ | refine caA (fun _ => hm2) rfl ?_ ?_ ?_ | refine awV ?_ ?_ | refine endK ?_ ?_ | (refine condK (fun h => ?_) (fun h => ?_) <;> (try simp only [go_sem, reduceCtorEq] at h) <;> (try (exfalso; omega))))))) <;> (try omega)
     all_goals rfl
    | true =>
     by_cases hO : nm = kindO ∨ nm = kindC
     ·obtain ⟨ha1, ha2⟩ := harm hO rfl
      rw [restF_O hO]
      simp only [Bool.true_and, Bool.and_self]
      obtain ⟨op, a, b, cc⟩ := x
      dsimp only at ha1 ha2 hf hm0 hm1 hm2 ⊢
      obtain ⟨n, rfl⟩ : ∃ n : Nat, a = n := ⟨a.toNat, by omega⟩
      have w0 : IntKind.i64.wrap ((C.length : Int) - k) = (C.length : Int) - k := wrap_i64 (by omega)
      have w1 := wrap_i64 (n := (k : Int) + 1) (by omega)
      have w2 := wrap_i64 (n := (k : Int) + 1 + n) (by omega)
      have z1 : ((k : Int) + 1).toNat = k + 1 := by omega
      have z2 : ((k : Int) + 1 + n).toNat = k + 1 + n := by omega
      have bad : ∀ {s : ByteArray}, nm = s → s ≠ kindO → s ≠ kindC → False := fun h h1 h2 => by
       subst h; exact hO.elim h1 h2
      by_cases hlen : (C.length : Int) - k ≤ n
      ·rw [if_pos hlen]
       have e95 : ((n : Int) ≥ (C.length : Int) - k) = True := eq_true hlen
       refine go_fn (tyOf_ok _) Try.func32 rfl rfl (by rw [Try.results32]) Try.ntmps32 rfl fun E => ?_
       (repeat' (first | exact trivial | (with_reducible first | apply awA | apply awB | apply awC | apply awD | apply awF | apply awG | apply awI | apply awJ) | (refine aw_draw (id := 3) (t := (.node [0, 1, 2, 3, 4, 5, 6, 7, 8, 9, 10, 11, 12, 13, 14, 15, 16, 17, 18, 19, 20, 21, 22, 23, 24, 25, 26, 27, 28, 29, 30, 31] [])) (drR [2, 6, 5] [] []) mixed (by kernel_rfl) (by kernel_rfl) (fun _ _ h => h) ?_) | (refine at_done (by simp only [go_sem]; exact rfl) ?_) | (refine at_alt (by simp only [go_sem]; exact rfl) ?_) | refine qalt_normal ?_ | refine ats_cons ?_ ?_ | exact ats_nil | ((with_reducible first | apply awn | apply awo | apply awp | refine awQ ?_ | refine awR ?_); intro r hr; simp only [go_sem, Nat.reduceBEq, Nat.reduceBneDiff, Nat.reduceLT, Nat.reduceLeDiff, Nat.reduceAdd, Nat.reduceMul, Nat.reduceSub, Nat.reduceEqDiff, reduceCtorEq, zk, gk, encIs_len, g0, w0, e95, Int.cast_ofNat_Int, Int.reduceToNat, Int.reduceEq, Int.reduceLT, Int.reduceLE, Int.reduceNe] at hr; subst hr; (first | refine caA (fun _ => hf) rfl ?_ ?_ ?_ | refine caA (fun _ => hm0) rfl ?_ ?_ ?_ | refine caA (fun _ => hm1) rfl ?_ ?_ ?_ | refine caA (fun _ => hm2) rfl ?_ ?_ ?_ | refine awV ?_ ?_ | refine endK ?_ ?_ | (refine condK (fun h => ?_) (fun h => ?_) <;> (try simp only [go_sem, reduceCtorEq] at h) <;> (try (exfalso; omega))))))) <;> (try omega)
       all_goals first | rfl | exact (bad (by assumption) (by decide) (by decide)).elim | (exfalso; rcases hO with h1 | h1 <;> contradiction) | skip
      ·rw [if_neg hlen]
       have e95 : ((n : Int) ≥ (C.length : Int) - k) = False := eq_false (by omega)
       have hzn : ((n : Int)).toNat = n := by omega
       unfold armsL
       rw [hzn]
       have htd := encIs_td C (k + 1 + n) (k + 1)
       generalize hR : ((C.take (k + 1 + n)).drop (k + 1)) = R at htd ⊢
       have hRl : R.length = n := by rw [← hR, List.length_drop, List.length_take]; omega
       obtain ⟨G, hG⟩ : ∃ G, armsOK [] R = G := ⟨_, rfl⟩
       rw [hG]
       refine go_fn (tyOf_ok _) Try.func32 rfl rfl (by rw [Try.results32]) Try.ntmps32 rfl fun E => ?_
       (repeat' (first | exact trivial | (with_reducible first | apply awA | apply awB | apply awC | apply awD | apply awF | apply awG | apply awI | apply awJ) | (refine aw_draw (id := 3) (t := (.node [0, 1, 2, 3, 4, 5, 6, 7, 8, 9, 10, 11, 12, 13, 14, 15, 16, 17, 18, 19, 20, 21, 22, 23, 24, 25, 26, 27, 28, 29, 30, 31] [])) (drR [2, 6, 5] [] []) mixed (by kernel_rfl) (by kernel_rfl) (fun _ _ h => h) ?_) | (refine at_done (by simp only [go_sem]; exact rfl) ?_) | (refine at_alt (by simp only [go_sem]; exact rfl) ?_) | refine qalt_normal ?_ | refine ats_cons ?_ ?_ | exact ats_nil | ((with_reducible first | apply awn | apply awo | apply awp | refine awQ ?_ | refine awR ?_); intro r hr; simp only [go_sem, Nat.reduceBEq, Nat.reduceBneDiff, Nat.reduceLT, Nat.reduceLeDiff, Nat.reduceAdd, Nat.reduceMul, Nat.reduceSub, Nat.reduceEqDiff, reduceCtorEq, zk, gk, encIs_len, g0, w0, w1, w2, z1, z2, e95, htd, Int.cast_ofNat_Int, Int.reduceToNat, Int.reduceEq, Int.reduceLT, Int.reduceLE, Int.reduceNe] at hr; subst hr; (first | refine caA (fun _ => hf) rfl ?_ ?_ ?_ | refine caA (fun _ => hm0) rfl ?_ ?_ ?_ | refine caA (fun _ => hm1) rfl ?_ ?_ ?_ | refine caA (fun _ => hm2) rfl ?_ ?_ ?_ | refine awV ?_ ?_ | refine endK ?_ ?_ | (refine condK (fun h => ?_) (fun h => ?_) <;> (try simp only [go_sem, reduceCtorEq] at h) <;> (try (exfalso; omega))))))) <;> (try omega)
       all_goals first | exact (bad (by assumption) (by decide) (by decide)).elim | (exfalso; rcases hO with h1 | h1 <;> contradiction) | skip
       all_goals
        refine go_loop [8, 106, 107, 108] [] (fun i : Nat => ⟨[(8, true, .lst 4 (encIs R)), (106, true, .lst 4 (encIs R)), (107, true, vI R.length), (108, true, vI i)], []⟩)
         (fun i => i ≤ R.length ∧ armsOK (R.take i) (R.drop i) = G) (fun i => R.length - i) 0 (by simp only [encIs_len, go_sem, Nat.reduceBEq, Nat.reduceBneDiff, Nat.reduceLT, Nat.reduceLeDiff, Nat.reduceAdd, Nat.reduceMul, Nat.reduceSub, Nat.reduceEqDiff, reduceCtorEq] <;> exact rfl) ⟨Nat.zero_le _, hG⟩ ?_
        intro i ⟨hi, hinv⟩
        have hwi := wrap_i64 (n := (i : Int) + 1) (by omega)
        have zi : ((i : Int)).toNat = i := by omega
        by_cases hlt : i < R.length
        ·have e1 : ((i : Int) < (R.length : Int)) = True := eq_true (by omega)
         obtain ⟨y, hy⟩ : ∃ y, R[i]? = some y := ⟨_, List.getElem?_eq_getElem hlt⟩
         have gi := cIns_get hy
         have htk := encIs_take R i
         have hy' : R[i] = y := by rw [List.getElem?_eq_getElem hlt] at hy; injection hy
         rw [List.drop_eq_getElem_cons hlt, hy'] at hinv
         unfold armsOK at hinv
         by_cases h9 : y.op = 9
         ·have e9 : (y.op = 9) = True := eq_true h9
          have hct := containsA_G y (R.take i) (by rw [List.length_take]; omega)
          rw [decide_eq_true h9, Bool.true_and] at hinv
          cases hany : (R.take i).any (sameA y) with
          | true =>
           rw [hany] at hct hinv
           rw [← hinv]
           simp only [Bool.not_true, Bool.false_and]
           (repeat' (first | exact trivial | (with_reducible first | apply awA | apply awB | apply awC | apply awD | apply awF | apply awG | apply awJ) | ((with_reducible first | apply awn | apply awo | refine awQ ?_ | refine awR ?_); intro r hr; simp only [go_sem, Nat.reduceBEq, Nat.reduceBneDiff, Nat.reduceLT, Nat.reduceLeDiff, Nat.reduceAdd, Nat.reduceMul, Nat.reduceSub, Nat.reduceEqDiff, reduceCtorEq, e1, zi, hwi, gi, e9, htk, encIs_len, Int.toNat_zero, Int.cast_ofNat_Int, Int.reduceToNat, Int.reduceEq, Int.reduceLT, Int.reduceLE, Int.reduceNe] at hr; subst hr; (first | refine awV ?_ ?_ | refine awW ?_ ?_ | refine endK ?_ ?_ | (refine condK (fun h => ?_) (fun h => ?_) <;> (try simp only [go_sem, reduceCtorEq] at h) <;> (try (exfalso; omega))))) | (refine go_callGE [(10, 10001)] [(10001, 10)] [] [10] ?_; intro r hr; simp only [go_sem, Nat.reduceBEq, Nat.reduceBneDiff, Nat.reduceLT, Nat.reduceLeDiff, Nat.reduceAdd, Nat.reduceMul, Nat.reduceSub, Nat.reduceEqDiff, reduceCtorEq, e1, zi, hwi, gi, e9, htk, encIs_len, Int.toNat_zero, Int.cast_ofNat_Int, Int.reduceToNat, Int.reduceEq, Int.reduceLT, Int.reduceLE, Int.reduceNe] at hr; subst hr; refine callGK (hct) rfl rfl (by first | exact .inl rfl | exact .inr rfl) ?_ (.inl rfl) ?_))) <;> (try omega)
           all_goals rfl
          | false =>
           rw [hany] at hct hinv
           rw [Bool.not_false, Bool.true_and] at hinv
           (repeat' (first | exact trivial | (with_reducible first | apply awA | apply awB | apply awC | apply awF | apply awI) | ((with_reducible first | apply awn | apply awo | refine awQ ?_); intro r hr; simp only [go_sem, Nat.reduceBEq, Nat.reduceBneDiff, Nat.reduceLT, Nat.reduceLeDiff, Nat.reduceAdd, Nat.reduceMul, Nat.reduceSub, Nat.reduceEqDiff, reduceCtorEq, e1, zi, hwi, gi, e9, htk, encIs_len, Int.toNat_zero, Int.cast_ofNat_Int, Int.reduceToNat, Int.reduceEq, Int.reduceLT, Int.reduceLE, Int.reduceNe] at hr; subst hr; (first | refine awV ?_ ?_ | refine awW ?_ ?_ | (refine condK (fun h => ?_) (fun h => ?_) <;> (try simp only [go_sem, reduceCtorEq] at h) <;> (try (exfalso; omega))))) | (refine go_callGE [(10, 10001)] [(10001, 10)] [] [10] ?_; intro r hr; simp only [go_sem, Nat.reduceBEq, Nat.reduceBneDiff, Nat.reduceLT, Nat.reduceLeDiff, Nat.reduceAdd, Nat.reduceMul, Nat.reduceSub, Nat.reduceEqDiff, reduceCtorEq, e1, zi, hwi, gi, e9, htk, encIs_len, Int.toNat_zero, Int.cast_ofNat_Int, Int.reduceToNat, Int.reduceEq, Int.reduceLT, Int.reduceLE, Int.reduceNe] at hr; subst hr; refine callGK (hct) rfl rfl (by first | exact .inl rfl | exact .inr rfl) ?_ (.inl rfl) ?_))) <;> (try omega)
           all_goals refine ⟨i + 1, ?_, ⟨hlt, ?_⟩, by omega⟩
           ·simp only [hwi, go_sem, Nat.reduceBEq, Nat.reduceBneDiff, Nat.reduceLT, Nat.reduceLeDiff, Nat.reduceAdd, Nat.reduceMul, Nat.reduceSub, Nat.reduceEqDiff, reduceCtorEq]
            try exact rfl
           ·rw [List.take_succ_eq_append_getElem hlt, hy']; exact hinv
         ·have e9 : (y.op = 9) = False := eq_false h9
          rw [decide_eq_false h9, Bool.false_and, Bool.false_and] at hinv
          rw [← hinv]
          (repeat' (first | exact trivial | (with_reducible first | apply awA | apply awB | apply awC | apply awD | apply awF | apply awG | apply awJ) | ((with_reducible first | apply awn | apply awo | refine awQ ?_ | refine awR ?_); intro r hr; simp only [go_sem, Nat.reduceBEq, Nat.reduceBneDiff, Nat.reduceLT, Nat.reduceLeDiff, Nat.reduceAdd, Nat.reduceMul, Nat.reduceSub, Nat.reduceEqDiff, reduceCtorEq, e1, zi, hwi, gi, e9, htk, encIs_len, Int.toNat_zero, Int.cast_ofNat_Int, Int.reduceToNat, Int.reduceEq, Int.reduceLT, Int.reduceLE, Int.reduceNe] at hr; subst hr; (first | refine awV ?_ ?_ | refine awW ?_ ?_ | refine endK ?_ ?_ | (refine condK (fun h => ?_) (fun h => ?_) <;> (try simp only [go_sem, reduceCtorEq] at h) <;> (try (exfalso; omega))))) | (refine al_skipC (vB true) rfl rfl ⟨by decide, by decide⟩ ?_))) <;> (try omega)
          all_goals rfl
        ·have e1 : ((i : Int) < (R.length : Int)) = False := eq_false (by omega)
         rw [List.drop_of_length_le (by omega)] at hinv
         rw [← hinv]
         unfold armsOK
         (repeat' (first | exact trivial | (with_reducible first | apply awA | apply awD | apply awE | apply awF | apply awH | apply awI | apply awK) | ((with_reducible first | apply awn | refine awQ ?_ | refine awR ?_); intro r hr; simp only [go_sem, Nat.reduceBEq, Nat.reduceBneDiff, Nat.reduceLT, Nat.reduceLeDiff, Nat.reduceAdd, Nat.reduceMul, Nat.reduceSub, Nat.reduceEqDiff, reduceCtorEq, e1] at hr; subst hr; (first | refine awV ?_ ?_ | refine endK ?_ ?_ | (refine condK (fun h => ?_) (fun h => ?_) <;> (try simp only [go_sem, reduceCtorEq] at h) <;> (try (exfalso; omega))))))) <;> (try omega)
         all_goals rfl
     ·refine go_fn (tyOf_ok _) Try.func32 rfl rfl (by rw [Try.results32]) Try.ntmps32 rfl fun E => ?_
      (repeat' (first | exact trivial | (with_reducible first | apply awA | apply awB | apply awC | apply awD | apply awF | apply awG | apply awI | apply awJ) | (refine aw_draw (id := 3) (t := (.node [0, 1, 2, 3, 4, 5, 6, 7, 8, 9, 10, 11, 12, 13, 14, 15, 16, 17, 18, 19, 20, 21, 22, 23, 24, 25, 26, 27, 28, 29, 30, 31] [])) (drR [2, 6, 5] [] []) mixed (by kernel_rfl) (by kernel_rfl) (fun _ _ h => h) ?_) | (refine at_done (by simp only [go_sem]; exact rfl) ?_) | (refine at_alt (by simp only [go_sem]; exact rfl) ?_) | refine qalt_normal ?_ | refine ats_cons ?_ ?_ | exact ats_nil | ((with_reducible first | apply awn | apply awo | apply awp | refine awQ ?_ | refine awR ?_); intro r hr; simp only [go_sem, Nat.reduceBEq, Nat.reduceBneDiff, Nat.reduceLT, Nat.reduceLeDiff, Nat.reduceAdd, Nat.reduceMul, Nat.reduceSub, Nat.reduceEqDiff, reduceCtorEq, zk, gk, encIs_len, g0, Int.cast_ofNat_Int, Int.reduceToNat, Int.reduceEq, Int.reduceLT, Int.reduceLE, Int.reduceNe] at hr; subst hr; (first | refine caA (fun _ => hf) rfl ?_ ?_ ?_ | refine caA (fun _ => hm0) rfl ?_ ?_ ?_ | refine caA (fun _ => hm1) rfl ?_ ?_ ?_ | refine caA (fun _ => hm2) rfl ?_ ?_ ?_ | refine awV ?_ ?_ | refine endK ?_ ?_ | (refine condK (fun h => ?_) (fun h => ?_) <;> (try simp only [go_sem, reduceCtorEq] at h) <;> (try (exfalso; omega))))))) <;> (try omega)
      all_goals first
       | exact (hO (.inl (by assumption))).elim
       | exact (hO (.inr (by assumption))).elim
       | (unfold restF; rw [if_pos (show nm = kindU by assumption)]; rfl)
       | (unfold restF; rw [if_neg (show ¬ nm = kindU by assumption), if_pos (show nm = kindN' by assumption)]; rfl)
       | (unfold restF; rw [if_neg (show ¬ nm = kindU by assumption), if_neg (show ¬ nm = kindN' by assumption), if_pos (show nm = kindP by assumption)]; rfl)
       | (unfold restF; rw [if_neg (show ¬ nm = kindU by assumption), if_neg (show ¬ nm = kindN' by assumption), if_neg (show ¬ nm = kindP by assumption), if_neg hO]; rfl)
       | skip
end Go.Proofs.Ytjeplogcfedmeaa
end
section
namespace Go.Proofs.Ytjeplogcfedmeaa
open Go.RowKit
set_option maxRecDepth 100000
set_option maxHeartbeats 8000000
abbrev vFa (q : Int × Int) : AV := .agg [vI q.1, vI q.2]
def firstBad (p : Nat → Bool) : Nat → Nat → Option Nat
 | _, 0 => none
 | i, n + 1 => if p i = true then firstBad p (i + 1) n else some i
def entryB (n : Nat) (m : Int) : Bool := inF m 0 ((n : Int) - 1)
def chkF (e : Bool) (C : List InsM) (N : List Int) : Int × Int :=
 if 1048576 < C.length ∨ 1048576 < N.length then (4, 0)
 else match firstBad (rightF e C N) 0 C.length with
  | some i => (140, i)
  | none =>
   match firstBad (fun i => entryB C.length (N.getD i 0)) 0 N.length with
   | some i => (3, i)
   | none => (0, 0)
theorem check_any (e : Bool) (C : List InsM) (N : List Int) (hC : C.length ≤ 140737488355328) (hN : N.length ≤ 140737488355328) : PCall Try.prog 28 [pG e C N] (fun r => r = vFa (chkF e C N)) := by
 unfold chkF
 by_cases h1 : 1048576 < C.length
 ·have e1 : ((C.length : Int) > 1048576) = True := eq_true (by omega)
  rw [if_pos (.inl h1)]
  unfold pG
  refine go_fn (tyOf_ok _) Try.func28 rfl rfl (by rw [Try.results28]) Try.ntmps28 rfl fun E => ?_
  (repeat' (first | exact trivial | (with_reducible first | apply awA | apply awD | apply awF | apply awG) | ((with_reducible first | apply awn | refine awQ ?_ | refine awR ?_); intro r hr; simp only [go_sem, Nat.reduceBEq, Nat.reduceBneDiff, Nat.reduceLT, Nat.reduceLeDiff, Nat.reduceAdd, Nat.reduceMul, Nat.reduceSub, Nat.reduceEqDiff, reduceCtorEq, encIs_len, v8_len, e1, Int.cast_ofNat_Int, Int.reduceToNat, Int.reduceEq, Int.reduceLT, Int.reduceLE, Int.reduceNe] at hr; subst hr; (first | refine awV ?_ ?_ | refine endK ?_ ?_ | (refine condK (fun h => ?_) (fun h => ?_) <;> (try simp only [go_sem, reduceCtorEq] at h) <;> (try (exfalso; omega))))))) <;> (try omega)
  all_goals rfl
 have e1 : ((C.length : Int) > 1048576) = False := eq_false (by omega)
 by_cases h2 : 1048576 < N.length
 ·have e2 : ((N.length : Int) > 1048576) = True := eq_true (by omega)
  rw [if_pos (.inr h2)]
  unfold pG
  refine go_fn (tyOf_ok _) Try.func28 rfl rfl (by rw [Try.results28]) Try.ntmps28 rfl fun E => ?_
  (repeat' (first | exact trivial | (with_reducible first | apply awA | apply awD | apply awF | apply awG) | ((with_reducible first | apply awn | refine awQ ?_ | refine awR ?_); intro r hr; simp only [go_sem, Nat.reduceBEq, Nat.reduceBneDiff, Nat.reduceLT, Nat.reduceLeDiff, Nat.reduceAdd, Nat.reduceMul, Nat.reduceSub, Nat.reduceEqDiff, reduceCtorEq, encIs_len, v8_len, e1, e2, Int.cast_ofNat_Int, Int.reduceToNat, Int.reduceEq, Int.reduceLT, Int.reduceLE, Int.reduceNe] at hr; subst hr; (first | refine awV ?_ ?_ | refine endK ?_ ?_ | (refine condK (fun h => ?_) (fun h => ?_) <;> (try simp only [go_sem, reduceCtorEq] at h) <;> (try (exfalso; omega))))))) <;> (try omega)
  all_goals rfl
 have e2 : ((N.length : Int) > 1048576) = False := eq_false (by omega)
 rw [if_neg (by omega)]
 have hr := fun k hk => right_any e C N (by omega) (by omega) k hk
 obtain ⟨G, hG⟩ : ∃ G, (match firstBad (rightF e C N) 0 C.length with
  | some i => ((140 : Int), (i : Int))
  | none =>
   match firstBad (fun i => entryB C.length (N.getD i 0)) 0 N.length with
   | some i => (3, i)
   | none => (0, 0)) = G := ⟨_, rfl⟩
 rw [hG]
 unfold pG at *
 refine go_fn (tyOf_ok _) Try.func28 rfl rfl (by rw [Try.results28]) Try.ntmps28 rfl fun E => ?_
 (repeat' (first | exact trivial | (with_reducible first | apply awA | apply awB | apply awC | apply awF) | ((with_reducible first | apply awn | refine awQ ?_); intro r hr; simp only [go_sem, Nat.reduceBEq, Nat.reduceBneDiff, Nat.reduceLT, Nat.reduceLeDiff, Nat.reduceAdd, Nat.reduceMul, Nat.reduceSub, Nat.reduceEqDiff, reduceCtorEq, encIs_len, v8_len, e1, e2, Int.cast_ofNat_Int, Int.reduceToNat, Int.reduceEq, Int.reduceLT, Int.reduceLE, Int.reduceNe] at hr; subst hr; (first | refine awV ?_ ?_ | (refine condK (fun h => ?_) (fun h => ?_) <;> (try simp only [go_sem, reduceCtorEq] at h) <;> (try (exfalso; omega))))))) <;> (try omega)
 refine go_loop [1, 2, 19, 20] [1, 2] (fun i : Nat => ⟨[(1, true, .ptr 1 1 0 0), (2, true, .ptr 1 2 0 0), (19, true, vI C.length), (20, true, vI i)], [(1, .var [vB e, .lst 4 (encIs C), .lst 1 (v8 N)]), (2, .var [vI 0, vI 0])]⟩)
  (fun i => i ≤ C.length ∧ firstBad (rightF e C N) i (C.length - i) = firstBad (rightF e C N) 0 C.length) (fun i => C.length - i) 0 (by simp only [encIs_len, go_sem, Nat.reduceBEq, Nat.reduceBneDiff, Nat.reduceLT, Nat.reduceLeDiff, Nat.reduceAdd, Nat.reduceMul, Nat.reduceSub, Nat.reduceEqDiff, reduceCtorEq] <;> exact rfl) ⟨Nat.zero_le _, rfl⟩ ?_
 intro i ⟨hi, hinv⟩
 have hwi := wrap_i64 (n := (i : Int) + 1) (by omega)
 by_cases hlt : i < C.length
 ·have e3 : ((i : Int) < (C.length : Int)) = True := eq_true (by omega)
  have hri := hr i hlt
  obtain ⟨m, hm⟩ : ∃ m, C.length - i = m + 1 := ⟨C.length - i - 1, by omega⟩
  rw [hm] at hinv
  unfold firstBad at hinv
  cases hb : rightF e C N i with
  | true =>
   rw [hb] at hri
   rw [if_pos hb] at hinv
   (repeat' (first | exact trivial | (with_reducible first | apply awA | apply awB | apply awC | apply awF | apply awI) | ((with_reducible first | apply awn | apply awo | refine awQ ?_); intro r hr; simp only [go_sem, Nat.reduceBEq, Nat.reduceBneDiff, Nat.reduceLT, Nat.reduceLeDiff, Nat.reduceAdd, Nat.reduceMul, Nat.reduceSub, Nat.reduceEqDiff, reduceCtorEq, e3, hwi] at hr; subst hr; (first | refine caA (fun _ => hri) rfl ?_ ?_ ?_ | refine awV ?_ ?_ | (refine condK (fun h => ?_) (fun h => ?_) <;> (try simp only [go_sem, reduceCtorEq] at h) <;> (try (exfalso; omega))))))) <;> (try omega)
   refine ⟨i + 1, ?_, ⟨hlt, ?_⟩, by omega⟩
   ·simp only [hwi, go_sem, Nat.reduceBEq, Nat.reduceBneDiff, Nat.reduceLT, Nat.reduceLeDiff, Nat.reduceAdd, Nat.reduceMul, Nat.reduceSub, Nat.reduceEqDiff, reduceCtorEq]
    try exact rfl
   ·rw [show C.length - (i + 1) = m by omega, hinv]
    cases hx : C.length with
    | zero => omega
    | succ z => rfl
  | false =>
   rw [hb] at hri
   rw [if_neg (by rw [hb]; decide)] at hinv
   have hG2 : ((140 : Int), (i : Int)) = G := by
    rw [← hG]
    have : firstBad (rightF e C N) 0 C.length = some i := by
     rw [hinv]
     cases hx : C.length with
     | zero => omega
     | succ z => rfl
    rw [this]
   rw [← hG2]
   (repeat' (first | exact trivial | (with_reducible first | apply awA | apply awB | apply awC | apply awD | apply awF | apply awG | apply awJ) | ((with_reducible first | apply awn | apply awo | refine awQ ?_ | refine awR ?_); intro r hr; simp only [go_sem, Nat.reduceBEq, Nat.reduceBneDiff, Nat.reduceLT, Nat.reduceLeDiff, Nat.reduceAdd, Nat.reduceMul, Nat.reduceSub, Nat.reduceEqDiff, reduceCtorEq, e3, hwi] at hr; subst hr; (first | refine caA (fun _ => hri) rfl ?_ ?_ ?_ | refine awV ?_ ?_ | refine endK ?_ ?_ | (refine condK (fun h => ?_) (fun h => ?_) <;> (try simp only [go_sem, reduceCtorEq] at h) <;> (try (exfalso; omega))))))) <;> (try omega)
   all_goals rfl
 ·have e3 : ((i : Int) < (C.length : Int)) = False := eq_false (by omega)
  rw [show C.length - i = 0 by omega] at hinv
  have hn : firstBad (rightF e C N) 0 C.length = none := by rw [← hinv]; rfl
  rw [hn] at hG
  clear hinv hr
  (repeat' (first | exact trivial | (with_reducible first | apply awA | apply awB | apply awE | apply awF | apply awH | apply awK) | ((with_reducible first | apply awn | refine awQ ?_); intro r hr; simp only [go_sem, Nat.reduceBEq, Nat.reduceBneDiff, Nat.reduceLT, Nat.reduceLeDiff, Nat.reduceAdd, Nat.reduceMul, Nat.reduceSub, Nat.reduceEqDiff, reduceCtorEq, e3, v8_len] at hr; subst hr; (first | refine awV ?_ ?_ | (refine condK (fun h => ?_) (fun h => ?_) <;> (try simp only [go_sem, reduceCtorEq] at h) <;> (try (exfalso; omega))))))) <;> (try omega)
  refine go_loop [1, 2, 31, 32, 33] [1, 2] (fun i : Nat => ⟨[(1, true, .ptr 1 1 0 0), (2, true, .ptr 1 2 0 0), (31, true, .lst 1 (v8 N)), (32, true, vI N.length), (33, true, vI i)], [(1, .var [vB e, .lst 4 (encIs C), .lst 1 (v8 N)]), (2, .var [vI 0, vI 0])]⟩)
   (fun i => i ≤ N.length ∧ firstBad (fun i => entryB C.length (N.getD i 0)) i (N.length - i) = firstBad (fun i => entryB C.length (N.getD i 0)) 0 N.length) (fun i => N.length - i) 0 (by simp only [v8_len, go_sem, Nat.reduceBEq, Nat.reduceBneDiff, Nat.reduceLT, Nat.reduceLeDiff, Nat.reduceAdd, Nat.reduceMul, Nat.reduceSub, Nat.reduceEqDiff, reduceCtorEq] <;> exact rfl) ⟨Nat.zero_le _, rfl⟩ ?_
  clear e3 hwi hlt hi i
  intro i ⟨hi, hinv⟩
  have hwi := wrap_i64 (n := (i : Int) + 1) (by omega)
  have zi : ((i : Int)).toNat = i := by omega
  have hwc := wrap_i64 (n := (C.length : Int) - 1) (by omega)
  by_cases hlt : i < N.length
  ·have e3 : ((i : Int) < (N.length : Int)) = True := eq_true (by omega)
   have gi := v8_get hlt
   have hgd : N.getD i 0 = N[i] := by simp [List.getD, hlt]
   have hin := cin_any N[i] 0 ((C.length : Int) - 1)
   obtain ⟨m, hm⟩ : ∃ m, N.length - i = m + 1 := ⟨N.length - i - 1, by omega⟩
   rw [hm] at hinv
   unfold firstBad at hinv
   rw [hgd] at hinv
   cases hb : inF N[i] 0 ((C.length : Int) - 1) with
   | true =>
    rw [hb] at hin
    rw [if_pos (show entryB C.length N[i] = true from hb)] at hinv
    (repeat' (first | exact trivial | (with_reducible first | apply awA | apply awB | apply awC | apply awF | apply awI) | ((with_reducible first | apply awn | apply awo | refine awQ ?_); intro r hr; simp only [go_sem, Nat.reduceBEq, Nat.reduceBneDiff, Nat.reduceLT, Nat.reduceLeDiff, Nat.reduceAdd, Nat.reduceMul, Nat.reduceSub, Nat.reduceEqDiff, reduceCtorEq, e3, zi, hwi, hwc, gi, encIs_len, v8_len] at hr; subst hr; (first | refine caA (fun _ => hin) rfl ?_ ?_ ?_ | refine awV ?_ ?_ | (refine condK (fun h => ?_) (fun h => ?_) <;> (try simp only [go_sem, reduceCtorEq] at h) <;> (try (exfalso; omega))))))) <;> (try omega)
    refine ⟨i + 1, ?_, ⟨hlt, ?_⟩, by omega⟩
    ·simp only [hwi, go_sem, Nat.reduceBEq, Nat.reduceBneDiff, Nat.reduceLT, Nat.reduceLeDiff, Nat.reduceAdd, Nat.reduceMul, Nat.reduceSub, Nat.reduceEqDiff, reduceCtorEq]
     try exact rfl
    ·rw [show N.length - (i + 1) = m by omega, hinv]
     cases hx : N.length with
     | zero => omega
     | succ z => rfl
   | false =>
    rw [hb] at hin
    rw [if_neg (by unfold entryB; rw [hb]; decide)] at hinv
    have hG2 : ((3 : Int), (i : Int)) = G := by
     rw [← hG]
     have : firstBad (fun i => entryB C.length (N.getD i 0)) 0 N.length = some i := by
      rw [hinv]
      cases hx : N.length with
      | zero => omega
      | succ z => rfl
     rw [this]
    rw [← hG2]
    (repeat' (first | exact trivial | (with_reducible first | apply awA | apply awB | apply awC | apply awD | apply awF | apply awG | apply awJ) | ((with_reducible first | apply awn | apply awo | refine awQ ?_ | refine awR ?_); intro r hr; simp only [go_sem, Nat.reduceBEq, Nat.reduceBneDiff, Nat.reduceLT, Nat.reduceLeDiff, Nat.reduceAdd, Nat.reduceMul, Nat.reduceSub, Nat.reduceEqDiff, reduceCtorEq, e3, zi, hwi, hwc, gi, encIs_len, v8_len] at hr; subst hr; (first | refine caA (fun _ => hin) rfl ?_ ?_ ?_ | refine awV ?_ ?_ | refine endK ?_ ?_ | (refine condK (fun h => ?_) (fun h => ?_) <;> (try simp only [go_sem, reduceCtorEq] at h) <;> (try (exfalso; omega))))))) <;> (try omega)
    all_goals rfl
  ·have e3 : ((i : Int) < (N.length : Int)) = False := eq_false (by omega)
   rw [show N.length - i = 0 by omega] at hinv
   have hn : firstBad (fun i => entryB C.length (N.getD i 0)) 0 N.length = none := by rw [← hinv]; rfl
   rw [hn] at hG
   rw [← hG]
   (repeat' (first | exact trivial | (with_reducible first | apply awA | apply awD | apply awE | apply awF | apply awH | apply awK) | ((with_reducible first | apply awn | refine awQ ?_ | refine awR ?_); intro r hr; simp only [go_sem, Nat.reduceBEq, Nat.reduceBneDiff, Nat.reduceLT, Nat.reduceLeDiff, Nat.reduceAdd, Nat.reduceMul, Nat.reduceSub, Nat.reduceEqDiff, reduceCtorEq, e3] at hr; subst hr; (first | refine awV ?_ ?_ | refine endK ?_ ?_ | (refine condK (fun h => ?_) (fun h => ?_) <;> (try simp only [go_sem, reduceCtorEq] at h) <;> (try (exfalso; omega))))))) <;> (try omega)
   all_goals rfl
end Go.Proofs.Ytjeplogcfedmeaa
end
section
namespace Go.Proofs.Ytjeplogcfedmeaa
open Go.RowKit
set_option maxRecDepth 100000
set_option maxHeartbeats 8000000
section
variable {α : Type}
theorem mf_mset (c : Nat) (k : Int) (a : α) : ∀ (L : List (Nat × Int × α)) (k' : Int), mf k' (mset c k a L) = if k' = k then some a else mf k' L
 | [], k' => by
  by_cases h : k' = k
  ·subst h; simp [mset, mf]
  ·simp [mset, mf, h, Ne.symm h]
 | (b, k0, a0) :: L, k' => by
  by_cases h0 : k0 = k
  ·subst h0
   by_cases h : k' = k0
   ·subst h; simp [mset, mf]
   ·simp [mset, mf, h, Ne.symm h]
  ·have ih := mf_mset c k a L k'
   simp only [mset, if_neg h0, mf, ih]
   by_cases h : k' = k
   ·subst h; simp [h0]
   ·by_cases h1 : k0 = k'
    ·simp [h1, h]
    ·simp [h1, h]
theorem mdel_sub (k : Int) : ∀ (L : List (Nat × Int × α)), (mdel k L).Sublist L
 | [] => .slnil
 | e :: L => by
  unfold mdel
  split
  ·exact List.sublist_cons_self _ _
  ·exact (mdel_sub k L).cons_cons _
theorem mf_mdel (k : Int) : ∀ (L : List (Nat × Int × α)), (L.map (·.2.1)).Nodup → ∀ k', mf k' (mdel k L) = if k' = k then none else mf k' L
 | [], _, k' => by simp [mdel, mf]
 | (b, k0, a0) :: L, hn, k' => by
  rw [List.map_cons, List.nodup_cons] at hn
  unfold mdel
  by_cases h0 : k0 = k
  ·subst h0
   rw [if_pos rfl]
   by_cases h : k' = k0
   ·subst h; rw [if_pos rfl, mf_keys]; exact hn.1
   ·rw [if_neg h]; simp [mf, Ne.symm h]
  ·rw [if_neg h0]
   simp only [mf, mf_mdel k L hn.2 k']
   by_cases h : k' = k
   ·subst h; simp [h0]
   ·simp [h]
theorem mf_some_mem {k : Int} {a : α} : ∀ {L : List (Nat × Int × α)}, mf k L = some a → ∃ b, (b, k, a) ∈ L
 | [], h => by cases h
 | (b, k0, a0) :: L, h => by
  unfold mf at h
  split at h
  ·rename_i h0
   subst h0
   injection h with h
   subst h
   exact ⟨b, .head _⟩
  ·obtain ⟨b', hb⟩ := mf_some_mem h
   exact ⟨b', .tail _ hb⟩
end
def keyN (M : List (Nat × Int × Unit)) : List Nat := M.map fun e => e.2.1.toNat
def lsF (l : List Nat) : AV := .lst 1 (v8 (natI l))
abbrev mL (L : List (Nat × Int × List Nat)) : List (Nat × AV × AV) := mI lsF L
def atL (L : List (Nat × Int × List Nat)) (k : Nat) : List Nat := (mf (k : Int) L).getD []
abbrev mW (W : List (Nat × Int × Int)) : List (Nat × AV × AV) := mI (fun z => vI z) W
def cntW (W : List (Nat × Int × Int)) (k : Nat) : Int := (mf (k : Int) W).getD 0
theorem mL_kill (d : Nat) (L : List (Nat × Int × List Nat)) : mapM (AV.kill d) (mL L) = mL L := mapM_mI (f := lsF) (fun _ => rfl) L
theorem mL_cut (K V : List Nat) (L : List (Nat × Int × List Nat)) : mapM (AV.cut K V) (mL L) = mL L := mapM_mI (f := lsF) (fun _ => rfl) L
theorem mL_ren (r : List (Nat × Nat)) (L : List (Nat × Int × List Nat)) : mapM (AV.ren r) (mL L) = mL L := mapM_mI (f := lsF) (fun _ => rfl) L
theorem mW_kill (d : Nat) (L : List (Nat × Int × Int)) : mapM (AV.kill d) (mW L) = mW L := mapM_mI (f := fun z => vI z) (fun _ => rfl) L
theorem mW_cut (K V : List Nat) (L : List (Nat × Int × Int)) : mapM (AV.cut K V) (mW L) = mW L := mapM_mI (f := fun z => vI z) (fun _ => rfl) L
theorem mW_ren (r : List (Nat × Nat)) (L : List (Nat × Int × Int)) : mapM (AV.ren r) (mW L) = mW L := mapM_mI (f := fun z => vI z) (fun _ => rfl) L
theorem look_ls (x : Option (List Nat)) : (lookR false x lsF (.slice none 0 0)).up (lsF (x.getD [])) := by
 cases x with
 | none => exact AV.up_nil 1
 | some l => exact AV.up_rfl _
theorem look_w (x : Option Int) : lookR false x (fun z => vI z) (.int .i64 0) = vI (x.getD 0) := by cases x <;> rfl
theorem mclone_G (c : Nat) (M : List (Nat × Int × Unit)) : GCall Try.prog 67 [.map 10003] [(10003, .mapr c (mK M))] (.map 7) [(7, .mapr c (mK M)), (10003, .mapr c (mK M))] := by
 refine go_fnG (tyOf_ok _) Try.func67 rfl rfl (by rw [Try.results67]) Try.ntmps67 rfl fun E => ?_
 (repeat' (first | exact trivial | (with_reducible first | apply awA | apply awC | apply awD | apply awF) | ((with_reducible first | apply awn | apply awo | refine awQ ?_ | refine awT ?_); intro r hr; simp only [go_sem, Nat.reduceBEq, Nat.reduceBneDiff, Nat.reduceLT, Nat.reduceLeDiff, Nat.reduceAdd, Nat.reduceMul, Nat.reduceSub, Nat.reduceEqDiff, reduceCtorEq, mK_kill, mK_cut, mK_ren] at hr; subst hr; (first | refine awV ?_ ?_ | refine awW ?_ ?_ | refine endGK ?_ ?_ ?_ | (refine condK (fun h => ?_) (fun h => ?_) <;> (try simp only [go_sem, reduceCtorEq] at h) <;> (try (exfalso; omega))))) | (refine al_mnil (tyOf_ok _) rfl rfl ⟨by decide, by decide⟩ rfl rfl rfl rfl t74 rfl ?_) | (refine al_mclone (d := 10003) (L := M) (f := fun _ => AV.dead) rfl rfl rfl ⟨by decide, by decide⟩ rfl rfl rfl (fun _ => rfl) Try.func80 (by kernel_rfl) (by kernel_rfl) (by kernel_rfl) (by kernel_rfl) ?_))) <;> (try omega)
 all_goals first | exact AV.up_rfl _ | (repeat first | exact obUp_nil | refine obUp_cons rfl ?_)
structure PeeledI (M : List (Nat × Int × Unit)) (on : Nat → List Nat) (M' : List (Nat × Int × Unit)) : Prop where
 sub : M'.Sublist M
 cy : ∀ C, Cyc (keyN M) on C → ∀ x, C x → (x : Int) ∈ M'.map (·.2.1)
structure MapOK (c : Nat) (M : List (Nat × Int × Unit)) : Prop where
 nd : (M.map (·.1)).Nodup
 lt : ∀ e ∈ M, e.1 < c
 kd : (M.map (·.2.1)).Nodup
 pos : ∀ e ∈ M, 0 ≤ e.2.1
 len : M.length ≤ 1048576
theorem MapOK.sub {c : Nat} {M M' : List (Nat × Int × Unit)} (h : MapOK c M) (hs : M'.Sublist M) : MapOK c M' :=
 ⟨h.nd.sublist (hs.map _), fun e he => h.lt e (hs.mem he), h.kd.sublist (hs.map _), fun e he => h.pos e (hs.mem he), Nat.le_trans hs.length_le h.len⟩
theorem MapOK.mem {c : Nat} {M : List (Nat × Int × Unit)} (h : MapOK c M) (k : Nat) : k ∈ keyN M ↔ mf (k : Int) M = some () := by
 constructor
 ·intro hk
  obtain ⟨e, he, h1⟩ := List.mem_map.1 hk
  have h2 := h.pos e he
  have h3 : e.2.1 = (k : Int) := by omega
  cases hq : mf (k : Int) M with
  | some a => rfl
  | none =>
   rw [mf_keys] at hq
   exact absurd (by rw [← h3]; exact List.mem_map.2 ⟨e, he, rfl⟩) hq
 ·intro hk
  obtain ⟨b, hb⟩ := mf_some_mem hk
  exact List.mem_map.2 ⟨_, hb, by simp⟩
end Go.Proofs.Ytjeplogcfedmeaa
end

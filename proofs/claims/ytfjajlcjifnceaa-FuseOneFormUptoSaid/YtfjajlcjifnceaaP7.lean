import Derived.Lib.SliceRun
import Derived.Test.YtfjajlcjifnceaaP6
set_option linter.all false
set_option maxRecDepth 100000
set_option maxHeartbeats 8000000
namespace Go.Proofs.Ytfjajlcjifnceaa
section
open Go.RowKit
section
variable {P : Program} {T : Nat → Option TyD} {E : Env} {s : AState} {n : Nat} {ops : Array Oper} {Q : Exit → AState → Prop} {rest : List Oper} {o : Oper} {D : Dr}
theorem Q8 (hT : TOK P T) {x y : Operand} {t t2 e d off m k : Nat} {te : Nat} {dt : TyD} (hG : z6 ops s o.guard = some true) (ho : o.op = .binOp .eql t x y t2) (hdst : yQ n o.dst) (hgx : s.gd x = true) (hgy : s.gd y = true)
  (hx : s.ev x = .ref te k d off m) (hy : s.ev y = .v (.slice none 0 0)) (hTt : T t = some dt) (hsh : dt.sh = .slice e) (hm : 0 < m) (hr : zL P E n ops D rest Q (s.put o.dst true (.v (.bool false)))) : yp P E n ops D (o :: rest) Q s := by
 intro a w β hn hd hs
 have hw := yn (ops := ops) hs hG
 have vx := hs.ev x hgx (a := a) rfl
 have vy := hs.ev y hgy (a := a) rfl
 rw [hx] at vx
 rw [hy] at vy
 generalize hux : a.eval x = ux at vx
 generalize huy : a.eval y = uy at vy
 cases vy with | s vy => cases vy with | v _ =>
 obtain ⟨d1, d2, d3, d4⟩ := dt
 dsimp only at hsh
 subst hsh
 have hu := yR hT hTt rfl
 cases vx with
 | s h => cases h
 | nil => omega
 | empty => omega
 | @ref _ _ _ _ _ c b A h1 h2 h3 h4 h5 =>
  subst h4
  obtain ⟨g1, g2, g3⟩ := yN hn hd hs hdst true (.v (.bool false)) (v := .bool false) (fun _ => .s (.v rfl)) (fun h => by cases h)
  exact vT (v := .bool false) (by rw [ho]; rfl) hw (fun _ w' _ => by simp [execOp, ho, hux, huy, eqGuard, Lib.run_eql_slice_nil w' t e (some ⟨b, off * k, none⟩) m c 0 0 hu]) (fun h => by cases h) (hr _ _ _ g1 g2 g3)
end
theorem Q9 {P : Program} {t : Nat} {z : Value} (h : (P.info? t).bind (·.zero) = some z) (w : World) : (zeroValue t).run P w = .ok z w := by
 cases hi : P.info? t with
 | none => rw [hi] at h; cases h
 | some i =>
  rw [hi] at h
  have h2 : i.zero = some z := h
  simp [zeroValue, typeInfo, hi, h2]
theorem z8 (w : World) : (zeroValue 3).run Try.prog w = .ok (.int .i64 0) w := Q9 (by kernel_rfl) w
theorem uY (w : World) : (zeroValue 23).run Try.prog w = .ok (.slice none 0 0) w := Q9 (by kernel_rfl) w
theorem zbL (l : List Int) (h0 : 0 < l.length) (hl : l.length ≤ 1000000000) :
  yq Try.prog 60 [.ref 3 1 10004 0 l.length] [(10004, .row 3 1 (v8 l))] (.ref 3 1 5 0 l.length) [(5, .row 3 1 (v8 l)), (10004, .row 3 1 (v8 l))] := by
 have ht : (v8 l).take l.length = v8 l := by rw [yT, List.take_length]
 refine zW (za _) Try.func60 rfl rfl (by rw [Try.results60]) Try.ntmps60 rfl fun E => ?_
 (repeat' (first | exact trivial | (with_reducible first | apply awA | apply awC | apply awD | apply awF) | ((with_reducible first | refine awN (za _) [5] ?_ | refine awO (za _) [5] ?_ | refine awQ ?_ | refine awT ?_); intro r hr; simp only [go_sem, Nat.reduceBEq, Nat.reduceLT, Nat.reduceLeDiff, Nat.reduceAdd, Nat.reduceMul, zq, ht, List.take_nil] at hr; subst hr; (first | refine awV ?_ ?_ | refine awW ?_ ?_ | refine yl ?_ ?_ ?_ | (refine zf (fun h => ?_) (fun h => ?_) <;> (try simp only [go_sem, reduceCtorEq] at h) <;> (try (exfalso; omega))))) | (refine Q8 (za _) rfl rfl ⟨by decide, by decide⟩ rfl rfl rfl rfl t23 rfl h0 ?_))) <;> (try omega)
 all_goals first | exact AV.up_rfl _ | (repeat first | exact zo | refine zh rfl ?_)
def yC (l : List Nat) : List Int := l.map fun k : Nat => ((k : Nat) : Int)
theorem zY (l : List Nat) : (yC l).length = l.length := by simp [yC]
theorem xE {l : List Nat} {i k : Nat} (h : l[i]? = some k) : (v8 (yC l))[i]? = some [vI k] := by simp [v8, yC, h]
theorem wT (l : List Nat) (k : Nat) : v8 (yC l) ++ [[vI k]] = v8 (yC (l ++ [k])) := by simp [v8, yC]
def qL (Q : List Nat) : List (Nat × Int × Unit) := Q.zipIdx.map fun p => (p.2, (p.1 : Int), ())
theorem zcZ (Q : List Nat) (k : Nat) : qL (Q ++ [k]) = qL Q ++ [(Q.length, (k : Int), ())] := by simp [qL, List.zipIdx_append]
theorem WS {α : Type} (c : Nat) (k : Int) (a : α) : ∀ (L : List (Nat × Int × α)), mf k L = none → wj c k a L = L ++ [(c, k, a)]
 | [], _ => rfl
 | (b, k', a') :: L, h => by
  unfold mf at h
  by_cases hk : k' = k
  ·rw [if_pos hk] at h; cases h
  ·rw [if_neg hk] at h
   simp [wj, hk, WS c k a L h]
theorem ZO {α : Type} (k : Int) (L : List (Nat × Int × α)) : mf k L = none ↔ k ∉ L.map (·.2.1) := by
 induction L with
 | nil => simp [mf]
 | cons e L ih =>
  obtain ⟨b, k', a⟩ := e
  simp only [mf, List.map_cons, List.mem_cons, not_or]
  by_cases h : k' = k
  ·simp [h]
  ·rw [if_neg h, ih]
   exact ⟨fun g => ⟨fun e => h e.symm, g⟩, fun g => g.2⟩
theorem jd (Q : List Nat) : (qL Q).map (·.2.1) = yC Q := by
 apply List.ext_getElem?
 intro i
 simp [qL, yC]
 cases Q[i]? <;> rfl
theorem WT {Q : List Nat} {k : Nat} : (k : Int) ∈ yC Q ↔ k ∈ Q := by
  simp only [yC, List.mem_map]
  exact ⟨fun ⟨x, h1, h2⟩ => by have : x = k := by omega
                               rw [← this]; exact h1, fun h => ⟨k, h, rfl⟩⟩
theorem xw {Q : List Nat} {k : Nat} (h : k ∉ Q) : mf (k : Int) (qL Q) = none := by rw [ZO, jd, WT]; exact h
theorem xx {Q : List Nat} {k : Nat} (h : k ∈ Q) : mf (k : Int) (qL Q) = some () := by
 cases hq : mf (k : Int) (qL Q) with
 | some a => rfl
 | none => rw [ZO, jd, WT] at hq; exact absurd h hq
theorem Ka {Q : List Nat} {k : Nat} (h : k ∉ Q) : wj Q.length (k : Int) () (qL Q) = qL (Q ++ [k]) := by rw [WS _ _ _ _ (xw h), zcZ]
theorem Kb {Q : List Nat} {k : Nat} (h : k ∉ Q) : vY Q.length (k : Int) (qL Q) = (Q ++ [k]).length := by simp [vY, xw h]
def yV (_ : Nat) (_ : Int) : Bool := true
def xp (C : List InsM) (B : List Bool) (k : Nat) (w : Int) : Bool := !(wG C B k w)
def xF (C : List InsM) (g : Nat → Int → Bool) (a b : Nat) : Prop := ∃ w : Nat, (yz C a (zb C a))[w]? = some (b : Int) ∧ g a w = true
structure ReachI (C : List InsM) (g : Nat → Int → Bool) (fr Q : List Nat) : Prop where
 nd : Q.Nodup
 iff : ∀ k, k ∈ Q ↔ zdl (xF C g) fr k
structure ClosedS (C : List InsM) (B : List Bool) (S : Nat → Prop) : Prop where
 lt : ∀ k, S k → k < C.length
 ways : ∀ k, S k → ∀ j ∈ yz C k (zb C k), 0 ≤ j ∧ S j.toNat
 calls : ∀ k, S k → (zb C k).op = 16 → 0 ≤ (zb C k).c ∧ (zb C k).c < B.length
def zdB (e : Bool) (C : List InsM) (N : List Int) (B : List Bool) (en : Int) (c : Nat) (M : List (Nat × Int × Unit)) (g : Nat → Int → Bool) (fv : AV) (ob : List (Nat × AObj)) (obn : List Nat) : Prop :=
 (fv = .v (.func (.func 45) #[] #[]) ∧ ob = [(10000, .var [vB e, .lst 4 (zz C), .lst 1 (v8 N), .ref 4 1 10002 0 B.length, vI en, .v (.map none)]), (10002, .row 4 1 (wJ B))] ∧ obn = [10000, 10002] ∧ ∀ x, x < C.length → ((zb C x).op = 16 → 0 ≤ (zb C x).c ∧ (zb C x).c < B.length) → ∀ j : Nat, yq Try.prog 45 [vI x, vI j] [] (vB (g x j)) []) ∨
 (fv = .fn (61 + 1000000) [.ptr 1 10000 0 0] ∧ ob = [(10000, .var [vB e, .lst 4 (zz C), .lst 1 (v8 N), .ref 4 1 10002 0 B.length, vI en, .map 10003]), (10002, .row 4 1 (wJ B)), (10003, .mapr c (mK M))] ∧ obn = [10000, 10002, 10003] ∧ ∀ x, x < C.length → ((zb C x).op = 16 → 0 ≤ (zb C x).c ∧ (zb C x).c < B.length) → ∀ j : Nat, yq Try.prog 61 [.ptr 1 10000 0 0, vI x, vI j] [(10000, .var [vB e, .lst 4 (zz C), .lst 1 (v8 N), .ref 4 1 10002 0 B.length, vI en, .map 10003]), (10002, .row 4 1 (wJ B)), (10003, .mapr c (mK M))] (vB (g x j)) [(10000, .var [vB e, .lst 4 (zz C), .lst 1 (v8 N), .ref 4 1 10002 0 B.length, vI en, .map 10003]), (10002, .row 4 1 (wJ B)), (10003, .mapr c (mK M))]) ∨
 (fv = .fn 65 [.ptr 1 10005 0 0] ∧ ob = [(10005, .var [.ptr 1 10000 0 0]), (10000, .var [vB e, .lst 4 (zz C), .lst 1 (v8 N), .ref 4 1 10002 0 B.length, vI en, .map 10003]), (10002, .row 4 1 (wJ B)), (10003, .mapr c (mK M))] ∧ obn = [10005, 10000, 10002, 10003] ∧ ∀ x, x < C.length → ((zb C x).op = 16 → 0 ≤ (zb C x).c ∧ (zb C x).c < B.length) → ∀ j : Nat, yq Try.prog 65 [vI x, vI j, .ptr 1 10005 0 0] [(10005, .var [.ptr 1 10000 0 0]), (10000, .var [vB e, .lst 4 (zz C), .lst 1 (v8 N), .ref 4 1 10002 0 B.length, vI en, .map 10003]), (10002, .row 4 1 (wJ B)), (10003, .mapr c (mK M))] (vB (g x j)) [(10005, .var [.ptr 1 10000 0 0]), (10000, .var [vB e, .lst 4 (zz C), .lst 1 (v8 N), .ref 4 1 10002 0 B.length, vI en, .map 10003]), (10002, .row 4 1 (wJ B)), (10003, .mapr c (mK M))])
theorem Kc (e : Bool) (C : List InsM) (N : List Int) (B : List Bool) (en : Int) (c : Nat) (M : List (Nat × Int × Unit)) (hok : CodeOK C N) (S : Nat → Prop) (hS : ClosedS C B S) (fr : List Nat) (hne : fr ≠ []) (hfr : ∀ k ∈ fr, S k) (hlf : fr.length ≤ 1048576) (g : Nat → Int → Bool) (fv : AV) (ob : List (Nat × AObj)) (obn : List Nat) (hm : zdB e C N B en c M g fv ob obn) :
  yL Try.prog 44 [.ptr 1 10000 0 0, .ref 3 1 10004 0 fr.length, fv] (ob ++ [(10004, .row 3 1 (v8 (yC fr)))]) (fun Q : List Nat => ReachI C g fr Q) (fun _ => .map 14) (fun Q => (ob ++ [(10004, .row 3 1 (v8 (yC fr)))]) ++ [(14, .mapr Q.length (mK (qL Q)))]) := by
 have hC := hok.len
 have h0 : 0 < fr.length := List.length_pos_iff.2 hne
 have hcl := zbL (yC fr) (by rw [zY]; exact h0) (by rw [zY]; omega)
 rw [zY] at hcl
 rcases hm with ⟨hfv, hob, hon, hgo0⟩ | ⟨hfv, hob, hon, hgo0⟩ | ⟨hfv, hob, hon, hgo0⟩
 all_goals
  rw [hfv, hob]
  refine xT (za _) Try.func44 rfl rfl (by rw [Try.results44]) Try.ntmps44 rfl fun E => ?_
  (repeat' (first | exact trivial | (with_reducible first | apply awA | apply awB | apply awF) | ((with_reducible first | refine awN (za _) [4000014] ?_ | refine awO (za _) [4000014] ?_); intro r hr; simp only [go_sem, Nat.reduceBEq, Nat.reduceLT, Nat.reduceAdd, List.cons_append, List.nil_append, yk, uX] at hr; subst hr; (first | refine awV ?_ ?_ | refine awW ?_ ?_)) | (refine zp [(10004, 10004)] [(5, 16), (10004, 10004)] [16] [10004] ?_; intro r hr; simp only [go_sem, Nat.reduceBEq, Nat.reduceLT, List.cons_append, List.nil_append] at hr; subst hr; refine yo (hcl) rfl rfl (by first | exact .inl rfl | exact .inr rfl) ?_ (.inl rfl) ?_))) <;> (try omega)
  refine zC [0, 2, 7, 8, 9] (obn ++ [10004, 14, 16]) (fun q : Nat × List Nat => ⟨[(0, true, .ptr 1 10000 0 0), (2, true, fv), (7, true, .map 14), (8, true, .ref 3 1 16 0 (fr ++ q.2).length), (9, true, vI q.1)],
   (ob ++ [(10004, .row 3 1 (v8 (yC fr))), (14, .mapr q.2.length (mK (qL q.2))), (16, .row 3 1 (v8 (yC (fr ++ q.2))))])⟩)
   (fun q => Srch (xF C g) fr q.2 q.1 ∧ q.1 ≤ (fr ++ q.2).length ∧ ∀ k ∈ q.2, S k) (fun q => fr.length + C.length - q.1) (0, []) (by simp only [hfv, hob, hon, List.cons_append, List.nil_append, go_sem, Nat.reduceBEq, Nat.reduceAdd] <;> exact rfl) ⟨Srch.nil _ _, Nat.zero_le _, fun k hk => by cases hk⟩ ?_
  intro ⟨i, Q⟩ ⟨hs, hi, hQ⟩
  simp only at hs hi hQ ⊢
  have hQl : Q.length ≤ C.length := xX hs.nd fun k hk => hS.lt k (hQ k hk)
  have hll : (fr ++ Q).length = fr.length + Q.length := List.length_append
  have hwi := zg (n := (i : Int) + 1) (by omega)
  have zi : ((i : Int)).toNat = i := by omega
  by_cases hlt : i < (fr ++ Q).length
  ·have e1 : ((i : Int) < ((fr ++ Q).length : Int)) = True := eq_true (by omega)
   obtain ⟨x, hx⟩ : ∃ x, (fr ++ Q)[i]? = some x := ⟨_, List.getElem?_eq_getElem hlt⟩
   have hSx : S x := by
    rcases List.mem_append.1 (List.mem_of_getElem? hx) with h | h
    ·exact hfr x h
    ·exact hQ x h
   have hxC := hS.lt x hSx
   have hxw := hS.ways x hSx
   have gi := xE hx
   have hw := ZK e C N (by omega) x hxC (hok.arms x hxC)
   have hgo := fun j : Nat => hgo0 x hxC (hS.calls x hSx) j
   have hR : ∀ k, xF C g x k → ∃ w : Nat, w < (yz C x (zb C x)).length ∧ (yz C x (zb C x))[w]? = some (k : Int) ∧ g x w = true := fun k ⟨w, h1, h2⟩ => ⟨w, zE h1, h1, h2⟩
   have hR2 : ∀ (k w : Nat), (yz C x (zb C x))[w]? = some (k : Int) → g x w = true → xF C g x k := fun k w h1 h2 => ⟨w, h1, h2⟩
   have hkl : (yz C x (zb C x)).length ≤ 10000000 := by
    unfold yz
    split
    ·simp
    ·split
     ·simp
     ·split
      ·rename_i h8
       have := hok.arms x hxC h8
       simp
       omega
      ·split <;> simp
   generalize yz C x (zb C x) = ks at hw hxw hR hR2 hkl
   unfold pG at hw
   (repeat' (first | exact trivial | (with_reducible first | apply awA | apply awB | apply awC | apply awF) | (refine zn (id := 6) (t := (.node [0, 1, 2, 3, 4, 5, 6, 7, 10, 8, 9] [])) (drR [10000] [30] []) zD (by kernel_rfl) (by kernel_rfl) (fun _ _ h => h) ?_) | (refine zx (by simp only [go_sem]; exact rfl) ?_) | (refine zA (by simp only [go_sem]; exact rfl) ?_) | refine ze ?_ | refine zl ?_ ?_ | exact zy | ((with_reducible first | apply awn | apply awp | refine awQ ?_); intro r hr; simp only [go_sem, Nat.reduceBEq, Nat.reduceLT, Nat.reduceLeDiff, Nat.reduceAdd, Nat.reduceMul, reduceCtorEq, e1, zi, gi, zq, Nat.zero_add, hfv, hob, List.cons_append, List.nil_append] at hr; subst hr; (first | refine caC (hw) rfl ?_ ?_ ?_ | refine awV ?_ ?_ | (refine zf (fun h => ?_) (fun h => ?_) <;> (try simp only [go_sem, reduceCtorEq] at h) <;> (try (exfalso; omega))))))) <;> (try omega)
   all_goals
    refine zC [0, 2, 7, 8, 9, 31, 32, 33] (obn ++ [10004, 14, 16]) (fun q : Nat × List Nat => ⟨[(0, true, .ptr 1 10000 0 0), (2, true, fv), (7, true, .map 14), (8, true, .ref 3 1 16 0 (fr ++ q.2).length), (9, true, vI i), (31, true, .lst 1 (v8 ks)), (32, true, vI ks.length), (33, true, vI q.1)],
     (ob ++ [(10004, .row 3 1 (v8 (yC fr))), (14, .mapr q.2.length (mK (qL q.2))), (16, .row 3 1 (v8 (yC (fr ++ q.2))))])⟩)
     (fun q => Srch (xF C g) fr q.2 i ∧ (fr ++ q.2)[i]? = some x ∧ (∀ k ∈ q.2, S k) ∧ q.1 ≤ ks.length ∧ ∀ w, w < q.1 → ∀ k : Nat, ks[w]? = some (k : Int) → g x w = true → k ∈ q.2) (fun q => ks.length - q.1) (0, Q) (by simp only [hfv, hob, hon, List.cons_append, List.nil_append, go_sem, Nat.reduceBEq, Nat.reduceAdd] <;> exact rfl) ⟨hs, hx, hQ, Nat.zero_le _, fun w hw => by omega⟩ ?_
    intro ⟨j, Q'⟩ ⟨hs', hx', hQ', hj, hin⟩
    simp only at hs' hx' hQ' hj hin ⊢
    have hQl' : Q'.length ≤ C.length := xX hs'.nd fun k hk => hS.lt k (hQ' k hk)
    have hll' : (fr ++ Q').length = fr.length + Q'.length := List.length_append
    have gi' := xE hx'
    have hi' : i < (fr ++ Q').length := zE hx'
    have hwj := zg (n := (j : Int) + 1) (by omega)
    have zj : ((j : Int)).toNat = j := by omega
    by_cases hjl : j < ks.length
    ·have e2 : ((j : Int) < (ks.length : Int)) = True := eq_true (by omega)
     obtain ⟨m, hm⟩ : ∃ m : Nat, ks[j] = m := ⟨ks[j].toNat, by have := (hxw _ (List.getElem_mem hjl)).1; omega⟩
     have hSm : S m := by have := (hxw _ (List.getElem_mem hjl)).2; rwa [hm, Int.toNat_natCast] at this
     have hkj : ks[j]? = some (m : Int) := by rw [List.getElem?_eq_getElem hjl, hm]
     have gj := xm hjl
     rw [hm] at gj
     have hgj := hgo j
     have more : ∀ Q2 : List Nat, (∀ k ∈ Q', k ∈ Q2) → (g x j = true → m ∈ Q2) → ∀ w, w < j + 1 → ∀ k : Nat, ks[w]? = some (k : Int) → g x w = true → k ∈ Q2 := fun Q2 h1 h2 w hw k hk hg => by
      rcases Nat.lt_or_ge w j with h | h
      ·exact h1 k (hin w h k hk hg)
      ·have : w = j := by omega
       subst this
       rw [hkj] at hk
       injection hk with hk
       have : m = k := by omega
       subst this
       exact h2 hg
     by_cases hmq : m ∈ Q'
     ·have hf := xx hmq
      (repeat' (first | exact trivial | (with_reducible first | apply awA | apply awB | apply awC | apply awF | apply awI) | ((with_reducible first | apply awn | apply awo | refine awQ ?_); intro r hr; simp only [go_sem, Nat.reduceBEq, Nat.reduceLT, Nat.reduceLeDiff, Nat.reduceAdd, reduceCtorEq, e2, zj, hwj, gj, zi, gi', zq, Nat.zero_add, hfv, hob, List.cons_append, List.nil_append] at hr; subst hr; (first | refine awV ?_ ?_ | refine awW ?_ ?_ | (refine zf (fun h => ?_) (fun h => ?_) <;> (try simp only [go_sem, reduceCtorEq] at h) <;> (try (exfalso; omega))))) | (refine z7 (za _) (d := 14) (L := qL Q') (f := fun _ => AV.dead) (key := (m : Int)) (z := .int .i64 0) rfl rfl ⟨by decide, by decide⟩ rfl rfl rfl rfl t83 rfl t3 rfl z8 rfl rfl (by rw [hf]) ?_) | (refine yW (vB true) rfl rfl ⟨by decide, by decide⟩ ?_))) <;> (try omega)
      refine ⟨(j + 1, Q'), ?_, ⟨hs', hx', hQ', hjl, more Q' (fun _ h => h) fun _ => hmq⟩, by show ks.length - (j + 1) < ks.length - j; omega⟩
      simp only [hfv, hob, hon, List.cons_append, List.nil_append, go_sem, Nat.reduceBEq, Nat.reduceAdd]
      try exact rfl
     ·have hf := xw hmq
      cases hg : g x j with
      | false =>
       rw [hg] at hgj
       (repeat' (first | exact trivial | (with_reducible first | apply awA | apply awB | apply awC | apply awF | apply awI) | ((with_reducible first | apply awn | apply awo | refine awQ ?_); intro r hr; simp only [go_sem, Nat.reduceBEq, Nat.reduceLT, Nat.reduceLeDiff, Nat.reduceAdd, reduceCtorEq, e2, zj, hwj, gj, zi, gi', zq, Nat.zero_add, hfv, hob, List.cons_append, List.nil_append, uX, zT] at hr; subst hr; (first | refine awV ?_ ?_ | refine awW ?_ ?_ | (refine zf (fun h => ?_) (fun h => ?_) <;> (try simp only [go_sem, reduceCtorEq] at h) <;> (try (exfalso; omega))))) | (refine z7 (za _) (d := 14) (L := qL Q') (f := fun _ => AV.dead) (key := (m : Int)) (z := .int .i64 0) rfl rfl ⟨by decide, by decide⟩ rfl rfl rfl rfl t83 rfl t3 rfl z8 rfl rfl (by rw [hf]) ?_) | (refine yH 53 rfl (za _) [] [] [] [] (by simp only [go_sem, Nat.reduceBEq, Nat.reduceLT, Nat.reduceSub, List.cons_append, List.nil_append] <;> exact rfl) ?_ rfl rfl (by first | exact .inl rfl | exact .inr rfl) (by simp only [go_sem, reduceCtorEq] <;> exact rfl) (hgj) (.inl rfl) ?_) | (refine yH 53 rfl (za _) [(10000, 10000), (10002, 10002), (10003, 10003)] [(10000, 10000), (10002, 10002), (10003, 10003)] [] [10000, 10002, 10003] (by simp only [go_sem, Nat.reduceBEq, Nat.reduceLT, Nat.reduceSub, List.cons_append, List.nil_append] <;> exact rfl) ?_ rfl rfl (by first | exact .inl rfl | exact .inr rfl) (by simp only [go_sem, Nat.reduceBEq, zT] <;> exact rfl) (hgj) (.inl rfl) ?_) | (refine yH 53 rfl (za _) [(10005, 10005), (10000, 10000), (10002, 10002), (10003, 10003)] [(10005, 10005), (10000, 10000), (10002, 10002), (10003, 10003)] [] [10005, 10000, 10002, 10003] (by simp only [go_sem, Nat.reduceBEq, Nat.reduceLT, Nat.reduceSub, List.cons_append, List.nil_append] <;> exact rfl) ?_ rfl rfl (by first | exact .inl rfl | exact .inr rfl) (by simp only [go_sem, Nat.reduceBEq, zT] <;> exact rfl) (hgj) (.inl rfl) ?_))) <;> (try omega)
       refine ⟨(j + 1, Q'), ?_, ⟨hs', hx', hQ', hjl, more Q' (fun _ h => h) fun h => by rw [hg] at h; cases h⟩, by show ks.length - (j + 1) < ks.length - j; omega⟩
       simp only [hfv, hob, hon, List.cons_append, List.nil_append, go_sem, Nat.reduceBEq, Nat.reduceAdd]
       try exact rfl
      | true =>
       rw [hg] at hgj
       have hset := Ka hmq
       have hclk := Kb hmq
       have hadd := hs'.add hx' (hR2 m j hkj hg) hmq
       have ht : (v8 (yC (fr ++ Q'))).take (fr ++ Q').length = v8 (yC (fr ++ Q')) := by rw [yT, List.take_of_length_le (by rw [zY]; omega)]
       have ha := wT (fr ++ Q') m
       rw [List.append_assoc] at ha
       have hl2 : (fr ++ (Q' ++ [m])).length = (fr ++ Q').length + 1 := by simp [Nat.add_assoc]
       (repeat' (first | exact trivial | (with_reducible first | apply awA | apply awB | apply awC | apply awF | apply awI) | ((with_reducible first | apply awn | apply awo | refine awQ ?_); intro r hr; simp only [go_sem, Nat.reduceBEq, Nat.reduceLT, Nat.reduceLeDiff, Nat.reduceAdd, Nat.reduceMul, Nat.reduceEqDiff, reduceCtorEq, e2, zj, hwj, gj, zi, gi', zq, zY, Nat.zero_add, ht, ha, hl2, hfv, hob, List.cons_append, List.nil_append, yk, uX, zT] at hr; subst hr; (first | refine awV ?_ ?_ | refine awW ?_ ?_ | (refine zf (fun h => ?_) (fun h => ?_) <;> (try simp only [go_sem, reduceCtorEq] at h) <;> (try (exfalso; omega))))) | (refine z7 (za _) (d := 14) (L := qL Q') (f := fun _ => AV.dead) (key := (m : Int)) (z := .int .i64 0) rfl rfl ⟨by decide, by decide⟩ rfl rfl rfl rfl t83 rfl t3 rfl z8 rfl rfl (by rw [hf]) ?_) | (refine yH 53 rfl (za _) [] [] [] [] (by simp only [go_sem, Nat.reduceBEq, Nat.reduceLT, Nat.reduceSub, reduceCtorEq, List.cons_append, List.nil_append] <;> exact rfl) ?_ rfl rfl (by first | exact .inl rfl | exact .inr rfl) (by simp only [go_sem, reduceCtorEq] <;> exact rfl) (hgj) (.inl rfl) ?_) | (refine yH 53 rfl (za _) [(10000, 10000), (10002, 10002), (10003, 10003)] [(10000, 10000), (10002, 10002), (10003, 10003)] [] [10000, 10002, 10003] (by simp only [go_sem, Nat.reduceBEq, Nat.reduceLT, Nat.reduceSub, reduceCtorEq, List.cons_append, List.nil_append] <;> exact rfl) ?_ rfl rfl (by first | exact .inl rfl | exact .inr rfl) (by simp only [go_sem, Nat.reduceBEq, reduceCtorEq, zT] <;> exact rfl) (hgj) (.inl rfl) ?_) | (refine yH 53 rfl (za _) [(10005, 10005), (10000, 10000), (10002, 10002), (10003, 10003)] [(10005, 10005), (10000, 10000), (10002, 10002), (10003, 10003)] [] [10005, 10000, 10002, 10003] (by simp only [go_sem, Nat.reduceBEq, Nat.reduceLT, Nat.reduceSub, reduceCtorEq, List.cons_append, List.nil_append] <;> exact rfl) ?_ rfl rfl (by first | exact .inl rfl | exact .inr rfl) (by simp only [go_sem, Nat.reduceBEq, reduceCtorEq, zT] <;> exact rfl) (hgj) (.inl rfl) ?_) | (refine zbD (za _) rfl rfl ⟨by decide, by decide⟩ rfl rfl t83 rfl rfl ?_) | (refine qi (za _) (d := 14) (L := qL Q') (f := fun _ => AV.dead) (key := (m : Int)) () rfl rfl rfl rfl rfl rfl rfl rfl (.inr rfl) t83 rfl t3 rfl rfl hclk hset ?_))) <;> (try omega)
       refine ⟨(j + 1, Q' ++ [m]), ?_, ⟨hadd, by rw [← List.append_assoc, List.getElem?_append_left hi']; exact hx', fun k hk => ?_, hjl, more _ (fun _ h => List.mem_append_left _ h) fun _ => by simp⟩, by show ks.length - (j + 1) < ks.length - j; omega⟩
       ·simp only [hl2, hfv, hob, hon, List.cons_append, List.nil_append, go_sem, Nat.reduceBEq, Nat.reduceAdd]
        try exact rfl
       ·rcases List.mem_append.1 hk with h | h
        ·exact hQ' k h
        ·simp at h; subst h; exact hSm
    ·have e2 : ((j : Int) < (ks.length : Int)) = False := eq_false (by omega)
     (repeat' (first | exact trivial | (with_reducible first | apply awA | apply awE | apply awF | apply awH | apply awI | apply awK) | ((with_reducible first | apply awn | refine awQ ?_); intro r hr; simp only [go_sem, Nat.reduceBEq, Nat.reduceLT, Nat.reduceAdd, e2, hwi, hfv, hob, List.cons_append, List.nil_append] at hr; subst hr; (first | refine awV ?_ ?_ | (refine zf (fun h => ?_) (fun h => ?_) <;> (try simp only [go_sem, reduceCtorEq] at h) <;> (try (exfalso; omega))))))) <;> (try omega)
     refine ⟨(i + 1, Q'), ?_, ⟨hs'.next hx' (fun k hk => ?_), hi', hQ'⟩, by show fr.length + C.length - (i + 1) < fr.length + C.length - i; omega⟩
     ·simp only [hfv, hob, hon, List.cons_append, List.nil_append, go_sem, Nat.reduceBEq, Nat.reduceAdd]
      try exact rfl
     ·obtain ⟨w, h1, h2, h3⟩ := hR k hk
      exact hin w (by omega) k h2 h3
  ·have e1 : ((i : Int) < ((fr ++ Q).length : Int)) = False := eq_false (by omega)
   (repeat' (first | exact trivial | (with_reducible first | apply awA | apply awD | apply awE | apply awF | apply awH | apply awK) | ((with_reducible first | apply awn | refine awQ ?_ | refine uh ?_); intro r hr; simp only [go_sem, Nat.reduceBEq, Nat.reduceLT, Nat.reduceAdd, e1, hfv, hob, List.cons_append, List.nil_append] at hr; subst hr; (first | refine awV ?_ ?_ | refine xi ?_ ?_ | (refine zf (fun h => ?_) (fun h => ?_) <;> (try simp only [go_sem, reduceCtorEq] at h) <;> (try (exfalso; omega))))))) <;> (try omega)
   all_goals first | (refine ⟨Q, ⟨hs.nd, fun k => hs.done (by omega) k⟩, AV.up_rfl _, ?_⟩; repeat first | exact zo | refine zh rfl ?_) | skip
theorem zc0 (e : Bool) (C : List InsM) (N : List Int) (B : List Bool) (en : Int) (hok : CodeOK C N) (S : Nat → Prop) (hS : ClosedS C B S) (fr : List Nat) (hne : fr ≠ []) (hfr : ∀ k ∈ fr, S k) (hlf : fr.length ≤ 1048576) :
  yL Try.prog 44 [.ptr 1 10000 0 0, .ref 3 1 10004 0 fr.length, .v (.func (.func 45) #[] #[])] ([(10000, rtV e C N B en (.v (.map none))), (10002, .row 4 1 (wJ B))] ++ [(10004, .row 3 1 (v8 (yC fr)))]) (fun Q : List Nat => ReachI C yV fr Q) (fun _ => .map 14) (fun Q => ([(10000, rtV e C N B en (.v (.map none))), (10002, .row 4 1 (wJ B))] ++ [(10004, .row 3 1 (v8 (yC fr)))]) ++ [(14, .mapr Q.length (mK (qL Q)))]) :=
 Kc e C N B en 0 [] hok S hS fr hne hfr hlf yV _ _ _ (.inl ⟨rfl, rfl, rfl, fun x _ _ j => JU x j⟩)
theorem Kd (e : Bool) (C : List InsM) (N : List Int) (B : List Bool) (en : Int) (c : Nat) (M : List (Nat × Int × Unit)) (hok : CodeOK C N) (S : Nat → Prop) (hS : ClosedS C B S) (fr : List Nat) (hne : fr ≠ []) (hfr : ∀ k ∈ fr, S k) (hlf : fr.length ≤ 1048576) :
  yL Try.prog 44 [.ptr 1 10000 0 0, .ref 3 1 10004 0 fr.length, .fn (61 + 1000000) [.ptr 1 10000 0 0]] (rtO e C N B en c M ++ [(10004, .row 3 1 (v8 (yC fr)))]) (fun Q : List Nat => ReachI C (xp C B) fr Q) (fun _ => .map 14) (fun Q => (rtO e C N B en c M ++ [(10004, .row 3 1 (v8 (yC fr)))]) ++ [(14, .mapr Q.length (mK (qL Q)))]) :=
 Kc e C N B en c M hok S hS fr hne hfr hlf (xp C B) _ _ _ (.inr (.inl ⟨rfl, rfl, rfl, fun x h1 h2 j => zaz e C N B en c M x h1 j h2⟩))
theorem zc1 (e : Bool) (C : List InsM) (N : List Int) (B : List Bool) (en : Int) (c : Nat) (M : List (Nat × Int × Unit)) (hok : CodeOK C N) (S : Nat → Prop) (hS : ClosedS C B S) (fr : List Nat) (hne : fr ≠ []) (hfr : ∀ k ∈ fr, S k) (hlf : fr.length ≤ 1048576) :
  yL Try.prog 44 [.ptr 1 10000 0 0, .ref 3 1 10004 0 fr.length, .fn 65 [.ptr 1 10005 0 0]] (((10005, AObj.var [.ptr 1 10000 0 0]) :: rtO e C N B en c M) ++ [(10004, .row 3 1 (v8 (yC fr)))]) (fun Q : List Nat => ReachI C (qP C B) fr Q) (fun _ => .map 14) (fun Q => (((10005, AObj.var [.ptr 1 10000 0 0]) :: rtO e C N B en c M) ++ [(10004, .row 3 1 (v8 (yC fr)))]) ++ [(14, .mapr Q.length (mK (qL Q)))]) :=
 Kc e C N B en c M hok S hS fr hne hfr hlf (qP C B) _ _ _ (.inr (.inr ⟨rfl, rfl, rfl, fun x h1 h2 j => zcY e C N B en c M x h1 j h2⟩))
end
section
open Go.RowKit
structure FormM where
 name : ByteArray
 has : ByteArray
 known : Bool
def VN (op : Int) : FormM :=
 if op = 9 then ⟨⟨#[97, 114, 109]⟩, ⟨#[103, 116, 32]⟩, true⟩ else
 if op = 19 then ⟨⟨#[106, 117, 109, 112]⟩, ⟨#[32, 116, 32]⟩, true⟩ else
 if op = 20 then ⟨⟨#[114, 101, 116]⟩, ⟨#[32, 32, 32]⟩, true⟩ else
 ⟨ByteArray.empty, ByteArray.empty, false⟩
def VO (op : Int) : FormM :=
 if op = 1 then ⟨⟨#[117, 105, 110, 116]⟩, ⟨#[107, 119, 32]⟩, true⟩ else
 if op = 2 then ⟨⟨#[117, 105, 110, 116, 115]⟩, ⟨#[75, 110, 119]⟩, true⟩ else
 if op = 3 then ⟨⟨#[98, 111, 111, 108]⟩, ⟨#[107, 32, 32]⟩, true⟩ else
 if op = 4 then ⟨⟨#[118, 97, 114, 105, 110, 116]⟩, ⟨#[107, 32, 32]⟩, true⟩ else
 if op = 5 then ⟨⟨#[115, 101, 113]⟩, ⟨#[32, 32, 32]⟩, true⟩ else
 if op = 6 then ⟨⟨#[115, 116, 114, 117, 99, 116]⟩, ⟨#[32, 32, 32]⟩, true⟩ else
 if op = 7 then ⟨⟨#[111, 112, 116, 105, 111, 110]⟩, ⟨#[32, 116, 32]⟩, true⟩ else
 if op = 8 then ⟨⟨#[117, 110, 105, 111, 110]⟩, ⟨#[97, 32, 32]⟩, true⟩ else
 if op = 10 then ⟨⟨#[111, 102, 102, 115, 101, 116]⟩, ⟨#[102, 32, 32]⟩, true⟩ else
 if op = 11 then ⟨⟨#[102, 105, 114, 115, 116]⟩, ⟨#[109, 116, 32]⟩, true⟩ else
 if op = 12 then ⟨⟨#[115, 108, 111, 116, 115]⟩, ⟨#[32, 116, 32]⟩, true⟩ else
 if op = 13 then ⟨⟨#[105, 116, 101, 109]⟩, ⟨#[109, 116, 32]⟩, true⟩ else
 if op = 14 then ⟨⟨#[108, 101, 115, 115]⟩, ⟨#[109, 116, 32]⟩, true⟩ else
 if op = 15 then ⟨⟨#[112, 97, 114, 116, 115]⟩, ⟨#[32, 116, 32]⟩, true⟩ else
 if op = 16 then ⟨⟨#[99, 97, 108, 108]⟩, ⟨#[107, 32, 121]⟩, true⟩ else
 if op = 17 then ⟨⟨#[112, 97, 114, 116]⟩, ⟨#[107, 112, 121]⟩, true⟩ else
 if op = 18 then ⟨⟨#[116, 97, 105, 108]⟩, ⟨#[112, 32, 32]⟩, true⟩ else
 VN op
def VP (op : Int) : FormM :=
 if op = 33 then ⟨⟨#[110, 117, 109, 98, 101, 114]⟩, ⟨#[80, 119, 32]⟩, true⟩ else
 if op = 34 then ⟨⟨#[110, 117, 109, 98, 101, 114, 115]⟩, ⟨#[113, 110, 119]⟩, true⟩ else
 if op = 35 then ⟨⟨#[102, 108, 97, 103]⟩, ⟨#[80, 32, 32]⟩, true⟩ else
 if op = 36 then ⟨⟨#[108, 101, 98]⟩, ⟨#[32, 32, 32]⟩, true⟩ else
 if op = 37 then ⟨⟨#[109, 97, 110, 121]⟩, ⟨#[109, 32, 32]⟩, true⟩ else
 if op = 38 then ⟨⟨#[117, 112, 116, 111]⟩, ⟨#[109, 32, 32]⟩, true⟩ else
 if op = 39 then ⟨⟨#[102, 105, 101, 108, 100, 115]⟩, ⟨#[115, 32, 32]⟩, true⟩ else
 if op = 40 then ⟨⟨#[109, 97, 121, 98, 101]⟩, ⟨#[32, 116, 32]⟩, true⟩ else
 if op = 41 then ⟨⟨#[99, 104, 111, 105, 99, 101]⟩, ⟨#[97, 32, 32]⟩, true⟩ else
 if op = 42 then ⟨⟨#[114, 111, 111, 109]⟩, ⟨#[98, 32, 32]⟩, true⟩ else
 if op = 43 then ⟨⟨#[115, 108, 111, 116]⟩, ⟨#[80, 32, 32]⟩, true⟩ else
 if op = 44 then ⟨⟨#[101, 110, 116, 101, 114]⟩, ⟨#[113, 32, 121]⟩, true⟩ else
 if op = 45 then ⟨⟨#[101, 97, 99, 104]⟩, ⟨#[122, 32, 121]⟩, true⟩ else
 if op = 46 then ⟨⟨#[97, 112, 112, 101, 110, 100]⟩, ⟨#[32, 32, 121]⟩, true⟩ else
 if op = 47 then ⟨⟨#[97, 103, 97, 105, 110]⟩, ⟨#[32, 116, 32]⟩, true⟩ else
 VN op
def yB (e : Bool) (op : Int) : FormM := if e = true then VP op else VO op
abbrev YF (f : FormM) : AV := .tup [.agg [.v (.string f.name), .v (.string f.has)], vB f.known]
theorem k8 (op : Int) : zN Try.prog 75 [vI op] (fun r => r = YF (VN op)) := by
 refine zB (za _) Try.func75 rfl rfl (by rw [Try.results75]) Try.ntmps75 rfl fun E => ?_
 (repeat' (first | exact trivial | (with_reducible first | apply awA | apply awB | apply awC | apply awD | apply awF | apply awG | apply awI | apply awJ) | ((with_reducible first | apply awn | refine awQ ?_ | refine awR ?_); intro r hr; simp only [go_sem, Nat.reduceBEq, Nat.reduceLT, Nat.reduceLeDiff, Nat.reduceAdd, Nat.reduceMul] at hr; subst hr; (first | refine awV ?_ ?_ | refine zR ?_ ?_ | (refine zf (fun h => ?_) (fun h => ?_) <;> (try simp only [go_sem] at h) <;> (try (exfalso; omega))))))) <;> (try omega)
 all_goals first | (subst_vars; rfl) | (unfold VN YF; simp only [*, if_false]; rfl) | skip
theorem YG (op : Int) : zN Try.prog 68 [vI op] (fun r => r = YF (VO op)) := by
 have hs := k8 op
 refine zB (za _) Try.func68 rfl rfl (by rw [Try.results68]) Try.ntmps68 rfl fun E => ?_
 (repeat' (first | exact trivial | (with_reducible first | apply awA | apply awB | apply awC | apply awD | apply awF | apply awG | apply awI | apply awJ) | ((with_reducible first | apply awn | apply awo | refine awQ ?_ | refine awR ?_); intro r hr; simp only [go_sem, Nat.reduceBEq, Nat.reduceLT, Nat.reduceLeDiff, Nat.reduceAdd, Nat.reduceMul] at hr; subst hr; (first | refine caA (fun _ => hs) rfl ?_ ?_ ?_ | refine awV ?_ ?_ | refine zR ?_ ?_ | (refine zf (fun h => ?_) (fun h => ?_) <;> (try simp only [go_sem] at h) <;> (try (exfalso; omega))))))) <;> (try omega)
 all_goals first | (subst_vars; rfl) | (unfold VO YF; simp only [*, if_false]; rfl) | skip
theorem YH (op : Int) : zN Try.prog 67 [vI op] (fun r => r = YF (VP op)) := by
 have hs := k8 op
 refine zB (za _) Try.func67 rfl rfl (by rw [Try.results67]) Try.ntmps67 rfl fun E => ?_
 (repeat' (first | exact trivial | (with_reducible first | apply awA | apply awB | apply awC | apply awD | apply awF | apply awG | apply awI | apply awJ) | ((with_reducible first | apply awn | apply awo | refine awQ ?_ | refine awR ?_); intro r hr; simp only [go_sem, Nat.reduceBEq, Nat.reduceLT, Nat.reduceLeDiff, Nat.reduceAdd, Nat.reduceMul] at hr; subst hr; (first | refine caA (fun _ => hs) rfl ?_ ?_ ?_ | refine awV ?_ ?_ | refine zR ?_ ?_ | (refine zf (fun h => ?_) (fun h => ?_) <;> (try simp only [go_sem] at h) <;> (try (exfalso; omega))))))) <;> (try omega)
 all_goals first | (subst_vars; rfl) | (unfold VP YF; simp only [*, if_false]; rfl) | skip
theorem zbH (e : Bool) (C : List InsM) (N : List Int) (op : Int) : zN Try.prog 50 [pG e C N, vI op] (fun r => r = YF (yB e op)) := by
 unfold pG yB
 cases e with
 | true =>
  simp only [if_true]
  have hf := YH op
  generalize VP op = f at hf ⊢
  refine zB (za _) Try.func50 rfl rfl (by rw [Try.results50]) Try.ntmps50 rfl fun E => ?_
  (repeat' (first | exact trivial | (with_reducible first | apply awA | apply awD | apply awF | apply awG) | ((with_reducible first | apply awn | apply awo | refine awQ ?_ | refine awR ?_); intro r hr; simp only [go_sem, Nat.reduceBEq, Nat.reduceLT, Nat.reduceLeDiff, Nat.reduceAdd, Nat.reduceMul] at hr; subst hr; (first | refine caA (fun _ => hf) rfl ?_ ?_ ?_ | refine awV ?_ ?_ | refine zR ?_ ?_ | (refine zf (fun h => ?_) (fun h => ?_) <;> (try simp only [go_sem, reduceCtorEq] at h) <;> (try (exfalso; omega))))))) <;> (try omega)
  all_goals rfl
 | false =>
  simp only [reduceCtorEq, if_false]
  have hf := YG op
  generalize VO op = f at hf ⊢
  refine zB (za _) Try.func50 rfl rfl (by rw [Try.results50]) Try.ntmps50 rfl fun E => ?_
  (repeat' (first | exact trivial | (with_reducible first | apply awA | apply awC | apply awD | apply awF) | ((with_reducible first | apply awn | apply awo | refine awQ ?_ | refine awR ?_); intro r hr; simp only [go_sem, Nat.reduceBEq, Nat.reduceLT, Nat.reduceLeDiff, Nat.reduceAdd, Nat.reduceMul] at hr; subst hr; (first | refine caA (fun _ => hf) rfl ?_ ?_ ?_ | refine awV ?_ ?_ | refine zR ?_ ?_ | (refine zf (fun h => ?_) (fun h => ?_) <;> (try simp only [go_sem, reduceCtorEq] at h) <;> (try (exfalso; omega))))))) <;> (try omega)
  all_goals rfl
end
section
open Go.RowKit
theorem zcX (y x : InsM) : yq Try.prog 53 [.agg (qF x), .ptr 1 10001 0 0] [(10001, .var (qF y))] (vB (decide (x.a = y.a))) [(10001, .var (qF y))] := by
 refine zW (za _) Try.func53 rfl rfl (by rw [Try.results53]) Try.ntmps53 rfl fun E => ?_
 (repeat' (first | exact trivial | (with_reducible first | apply awA | apply awD | apply awF) | ((with_reducible first | apply awn | refine awT ?_); intro r hr; simp only [go_sem, Nat.reduceBEq, Nat.reduceLT, Nat.reduceLeDiff, Nat.reduceAdd, Nat.reduceMul] at hr; subst hr; (first | refine awV ?_ ?_ | refine yl ?_ ?_ ?_)))) <;> (try omega)
 all_goals first | exact AV.up_rfl _ | (repeat first | exact zo | refine zh rfl ?_)
def qM (y : InsM) (x : InsM) : Bool := decide (x.a = y.a)
theorem WO {l : List InsM} {i : Nat} {x : InsM} (h : l[i]? = some x) : (zz l)[i]? = some (qF x) := by simp [zz, zau, h]
theorem JO (y : InsM) (l : List InsM) (hl : l.length ≤ 1000000000) :
  yL Try.prog 69 [.lst 4 (zz l), .fn 53 [.ptr 1 10001 0 0]] [(10001, .var (qF y))] (fun r : Int => decide (0 ≤ r) = l.any (qM y)) (fun r => vI r) (fun _ => [(10001, .var (qF y))]) := by
 refine xT (za _) Try.func69 rfl rfl (by rw [Try.results69]) Try.ntmps69 rfl fun E => ?_
 (repeat' (first | exact trivial | (with_reducible first | apply awA | apply awB | apply awF) | ((with_reducible apply awn); intro r hr; simp only [go_sem, Nat.reduceBEq, Nat.reduceLT, zd] at hr; subst hr; (first | refine awV ?_ ?_)))) <;> (try omega)
 refine zC [0, 1, 6, 7, 8] [10001] (fun i : Nat => ⟨[(0, true, .lst 4 (zz l)), (1, true, .fn 53 [.ptr 1 10001 0 0]), (6, true, .lst 4 (zz l)), (7, true, vI l.length), (8, true, vI i)], [(10001, .var (qF y))]⟩)
  (fun i => i ≤ l.length ∧ ∀ x ∈ l.take i, qM y x = false) (fun i => l.length - i) 0 (by simp only [go_sem, Nat.reduceBEq] <;> exact rfl) ⟨Nat.zero_le _, fun j hj => by simp at hj⟩ ?_
 intro i ⟨hi, hall⟩
 have hwi := zg (n := (i : Int) + 1) (by omega)
 have zi : ((i : Int)).toNat = i := by omega
 by_cases hlt : i < l.length
 ·have e1 : ((i : Int) < (l.length : Int)) = True := eq_true (by omega)
  obtain ⟨x, hx⟩ : ∃ x, l[i]? = some x := ⟨_, List.getElem?_eq_getElem hlt⟩
  have gi := WO hx
  have hb := zcX y x
  by_cases hc : x.a = y.a
  ·rw [decide_eq_true hc] at hb
   (repeat' (first | exact trivial | (with_reducible first | apply awA | apply awB | apply awC | apply awD | apply awF | apply awG | apply awJ) | ((with_reducible first | apply awn | apply awo | refine awQ ?_ | refine uh ?_); intro r hr; simp only [go_sem, Nat.reduceBEq, Nat.reduceLT, Nat.reduceLeDiff, e1, zi, gi, zd] at hr; subst hr; (first | refine awV ?_ ?_ | refine awW ?_ ?_ | refine xi ?_ ?_ | (refine zf (fun h => ?_) (fun h => ?_) <;> (try simp only [go_sem, reduceCtorEq] at h) <;> (try (exfalso; omega))))) | (refine yf (za _) [(10001, 10001)] [(10001, 10001)] [] [10001] (by simp only [go_sem, Nat.reduceBEq, Nat.reduceLT, Nat.reduceSub] <;> exact rfl) ?_ rfl rfl (by first | exact .inl rfl | exact .inr rfl) (by simp only [go_sem] <;> exact rfl) (hb) (.inl rfl) ?_))) <;> (try omega)
   all_goals refine ⟨(i : Int), ?_, AV.up_rfl _, ?_⟩
   ·rw [decide_eq_true (show (0 : Int) ≤ (i : Int) by omega)]
    exact (List.any_eq_true.2 ⟨x, List.mem_of_getElem? hx, decide_eq_true hc⟩).symm
   ·repeat first | exact zo | refine zh rfl ?_
  ·rw [decide_eq_false hc] at hb
   (repeat' (first | exact trivial | (with_reducible first | apply awA | apply awB | apply awC | apply awF | apply awI) | ((with_reducible first | apply awn | apply awo | refine awQ ?_); intro r hr; simp only [go_sem, Nat.reduceBEq, Nat.reduceLT, Nat.reduceLeDiff, e1, zi, hwi, gi, zd] at hr; subst hr; (first | refine awV ?_ ?_ | refine awW ?_ ?_ | (refine zf (fun h => ?_) (fun h => ?_) <;> (try simp only [go_sem, reduceCtorEq] at h) <;> (try (exfalso; omega))))) | (refine yf (za _) [(10001, 10001)] [(10001, 10001)] [] [10001] (by simp only [go_sem, Nat.reduceBEq, Nat.reduceLT, Nat.reduceSub] <;> exact rfl) ?_ rfl rfl (by first | exact .inl rfl | exact .inr rfl) (by simp only [go_sem] <;> exact rfl) (hb) (.inl rfl) ?_))) <;> (try omega)
   refine ⟨i + 1, ?_, ⟨hlt, fun j hj => ?_⟩, by omega⟩
   ·simp only [go_sem, Nat.reduceBEq]
    try exact rfl
   ·rw [List.take_succ_eq_append_getElem hlt] at hj
    rw [List.getElem?_eq_getElem hlt] at hx
    injection hx with hx
    rcases List.mem_append.1 hj with hj | hj
    ·exact hall j hj
    ·simp at hj; rw [hj, hx]; exact decide_eq_false hc
 ·have e1 : ((i : Int) < (l.length : Int)) = False := eq_false (by omega)
  (repeat' (first | exact trivial | (with_reducible first | apply awA | apply awD | apply awE | apply awF | apply awH | apply awK) | ((with_reducible first | apply awn | refine awQ ?_ | refine uh ?_); intro r hr; simp only [go_sem, Nat.reduceBEq, Nat.reduceLT, e1] at hr; subst hr; (first | refine awV ?_ ?_ | refine xi ?_ ?_ | (refine zf (fun h => ?_) (fun h => ?_) <;> (try simp only [go_sem, reduceCtorEq] at h) <;> (try (exfalso; omega))))))) <;> (try omega)
  all_goals refine ⟨-1, ?_, AV.up_rfl _, ?_⟩
  ·rw [List.take_of_length_le (by omega)] at hall
   exact (List.any_eq_false.2 fun x hx => by simp [hall x hx]).symm
  ·repeat first | exact zo | refine zh rfl ?_
theorem XM (y : InsM) (l : List InsM) (hl : l.length ≤ 1000000000) :
  yq Try.prog 52 [.lst 4 (zz l), .fn 53 [.ptr 1 10001 0 0]] [(10001, .var (qF y))] (vB (l.any (qM y))) [(10001, .var (qF y))] := by
 have hi := JO y l hl
 refine zW (za _) Try.func52 rfl rfl (by rw [Try.results52]) Try.ntmps52 rfl fun E => ?_
 (repeat' (first | exact trivial | (with_reducible first | apply awA | apply awD | apply awF) | ((with_reducible first | apply awn | apply awo | refine awT ?_); intro r hr; simp only [go_sem, Nat.reduceBEq, Nat.reduceLT] at hr; subst hr; (first | refine awV ?_ ?_ | refine awW ?_ ?_ | refine yl ?_ ?_ ?_)) | (refine zp [(10001, 10001)] [(10001, 10001)] [] [10001] ?_; intro r hr; simp only [go_sem, Nat.reduceBEq, Nat.reduceLT] at hr; subst hr; refine y4 (hi) rfl rfl (by first | exact .inl rfl | exact .inr rfl) ?_ (.inl rfl) (fun q hq => ?_)))) <;> (try omega)
 all_goals first | (rw [← hq]; exact AV.up_rfl _) | exact AV.up_rfl _ | (repeat first | exact zo | refine zh rfl ?_)
def yI : List InsM → List InsM → Bool
 | _, [] => true
 | l, y :: r => decide (y.op = 9) && !(l.any (qM y)) && yI (l ++ [y]) r
def y8 (C : List InsM) (k : Nat) (a : Int) : List InsM := (C.take (k + 1 + a.toNat)).drop (k + 1)
def vA : ByteArray := ⟨#[117, 105, 110, 116, 115]⟩
def wd : ByteArray := ⟨#[110, 117, 109, 98, 101, 114, 115]⟩
def vS : ByteArray := ⟨#[112, 97, 114, 116]⟩
def we : ByteArray := ⟨#[117, 110, 105, 111, 110]⟩
def wg : ByteArray := ⟨#[99, 104, 111, 105, 99, 101]⟩
def qN (nm : ByteArray) (C : List InsM) (k : Nat) (x : InsM) : Bool :=
 if nm = vA then decide (IntKind.i64.wrap (x.a + x.b) ≤ 64)
 else if nm = wd then decide (IntKind.i64.wrap (x.a + IntKind.i64.wrap (x.b * x.c)) ≤ 16777216)
 else if nm = vS then decide (x.a = -1) == decide (x.b = -1)
 else if nm = we ∨ nm = wg then (if (C.length : Int) - k ≤ x.a then false else yI [] (y8 C k x.a))
 else true
def zbI (nC nN : Nat) (f : FormM) (x : InsM) : Bool := wW nC nN (bAt f.has 0) x.a && wW nC nN (bAt f.has 1) x.b && wW nC nN (bAt f.has 2) x.c
def yr (e : Bool) (C : List InsM) (N : List Int) (k : Nat) : Bool :=
 let x := zb C k
 let f := yB e x.op
 f.known && zbI C.length N.length f x && qN f.name C k x
theorem QZ (e : Bool) {op : Int} (h : op < 0 ∨ 48 ≤ op) : yB e op = yB e 0 := by
 unfold yB VP VO VN
 cases e
 ·rw [if_neg Bool.false_ne_true, if_neg Bool.false_ne_true]
  repeat rw [if_neg (by omega : ¬ op = _)]
  rfl
 ·rw [if_pos rfl, if_pos rfl]
  repeat rw [if_neg (by omega : ¬ op = _)]
  rfl
theorem YI (e : Bool) {op : Int} (h : op < 0 ∨ 48 ≤ op) : (yB e op).known = false := by
 unfold yB VP VO VN
 cases e
 ·rw [if_neg (by decide)]
  repeat rw [if_neg (by omega)]
 ·rw [if_pos rfl]
  repeat rw [if_neg (by omega)]
def zb1 (f : FormM) : Bool := (!f.known || decide (f.has.size = 3)) && (!decide (f.name = we ∨ f.name = wg) || decide (bAt f.has 0 = 97))
theorem zbJ : (List.range 48).all (fun n => zb1 (yB true n) && zb1 (yB false n)) = true := by decide +kernel
theorem YJ (e : Bool) (op : Int) : zb1 (yB e op) = true := by
 have key : ∀ n : Nat, n < 48 → zb1 (yB e n) = true := fun n hn => by
  have := List.all_eq_true.1 zbJ n (List.mem_range.2 hn)
  rw [Bool.and_eq_true] at this
  cases e
  ·exact this.2
  ·exact this.1
 by_cases h : op < 0 ∨ 48 ≤ op
 ·rw [QZ e h]; exact key 0 (by decide)
 ·obtain ⟨n, rfl⟩ : ∃ n : Nat, op = n := ⟨op.toNat, by omega⟩
  exact key n (by omega)
theorem VQ (e : Bool) (op : Int) (h : (yB e op).known = true) : (yB e op).has.size = 3 := by
 have := YJ e op
 unfold zb1 at this
 simp only [h, Bool.not_true, Bool.false_or, Bool.and_eq_true, decide_eq_true_eq] at this
 exact this.1
theorem YK (e : Bool) (op : Int) (h : (yB e op).name = we ∨ (yB e op).name = wg) : bAt (yB e op).has 0 = 97 := by
 have := YJ e op
 unfold zb1 at this
 simp only [h, decide_true, Bool.not_true, Bool.false_or, Bool.and_eq_true, decide_eq_true_eq] at this
 exact this.2
theorem XN {nm : ByteArray} (h : nm = we ∨ nm = wg) (C : List InsM) (k : Nat) (x : InsM) : qN nm C k x = if (C.length : Int) - k ≤ x.a then false else yI [] (y8 C k x.a) := by
 unfold qN
 have h1 : ¬ nm = vA := by rcases h with rfl | rfl <;> decide
 have h2 : ¬ nm = wd := by rcases h with rfl | rfl <;> decide
 have h3 : ¬ nm = vS := by rcases h with rfl | rfl <;> decide
 rw [if_neg h1, if_neg h2, if_neg h3, if_pos h]
theorem JP (C : List InsM) (n m : Nat) : ((zz C).take n).drop m = zz ((C.take n).drop m) := by simp [zz, List.map_take, List.map_drop]
theorem VR (C : List InsM) (n : Nat) : (zz C).take n = zz (C.take n) := by simp [zz, List.map_take]
theorem Q3 (e : Bool) (C : List InsM) (N : List Int) (hC : C.length ≤ 1048576) (hN : N.length ≤ 1048576) (k : Nat) (hk : k < C.length) : zN Try.prog 39 [pG e C N, vI k] (fun r => r = vB (yr e C N k)) := by
 have zk : ((k : Int)).toNat = k := by omega
 have gk := yy hk
 unfold yr zbI
 dsimp only
 have hf := zbH e C N (zb C k).op
 have hsz := VQ e (zb C k).op
 have harm : (yB e (zb C k).op).name = we ∨ (yB e (zb C k).op).name = wg → wW C.length N.length (bAt (yB e (zb C k).op).has 0) (zb C k).a = true → 1 ≤ (zb C k).a ∧ (zb C k).a ≤ 64 := fun h hm => by
  rw [YK e _ h] at hm
  simpa [wW, inF] using hm
 generalize yB e (zb C k).op = f at hf hsz harm ⊢
 generalize zb C k = x at *
 have hm0 := XL e C N (by omega) (by omega) (bAt f.has 0) x.a
 have hm1 := XL e C N (by omega) (by omega) (bAt f.has 1) x.b
 have hm2 := XL e C N (by omega) (by omega) (bAt f.has 2) x.c
 generalize wW C.length N.length (bAt f.has 0) x.a = b0 at hm0 harm ⊢
 generalize wW C.length N.length (bAt f.has 1) x.b = b1 at hm1 ⊢
 generalize wW C.length N.length (bAt f.has 2) x.c = b2 at hm2 ⊢
 obtain ⟨nm, hs, kn⟩ := f
 dsimp only at hf hsz hm0 hm1 hm2 harm ⊢
 unfold pG at *
 cases kn with
 | false =>
  refine zB (za _) Try.func39 rfl rfl (by rw [Try.results39]) Try.ntmps39 rfl fun E => ?_
  (repeat' (first | exact trivial | (with_reducible first | apply awA | apply awD | apply awF | apply awG) | (refine zn (id := 3) (t := (.node [0, 1, 2, 3, 4, 5, 6, 7, 8, 9, 10, 11, 12, 13, 14, 15, 16, 17, 18, 19, 20, 21, 22, 23, 24, 25, 26, 27, 28, 29, 30, 31] [])) (drR [2, 6, 5] [] []) zD (by kernel_rfl) (by kernel_rfl) (fun _ _ h => h) ?_) | (refine zx (by simp only [go_sem]; exact rfl) ?_) | (refine zA (by simp only [go_sem]; exact rfl) ?_) | refine ze ?_ | refine zl ?_ ?_ | exact zy | ((with_reducible first | apply awn | apply awo | apply awp | refine awQ ?_ | refine awR ?_); intro r hr; simp only [go_sem, Nat.reduceBEq, Nat.reduceLT, Nat.reduceLeDiff, Nat.reduceAdd, Nat.reduceMul, reduceCtorEq, zk, gk, zd, Int.reduceToNat, Int.reduceLE] at hr; subst hr; (first | refine caA (fun _ => hf) rfl ?_ ?_ ?_ | refine caB 51 (vB true) ?_ ?_ ?_ | refine awV ?_ ?_ | refine zR ?_ ?_ | (refine zf (fun h => ?_) (fun h => ?_) <;> (try simp only [go_sem, reduceCtorEq] at h) <;> (try (exfalso; omega))))))) <;> (try omega)
  all_goals rfl
 | true =>
  have h3 := hsz rfl
  clear hsz
  have g0 : ((hs.size : Nat) : Int) = 3 := by omega
  cases b0 with
  | false =>
   refine zB (za _) Try.func39 rfl rfl (by rw [Try.results39]) Try.ntmps39 rfl fun E => ?_
   (repeat' (first | exact trivial | (with_reducible first | apply awA | apply awD | apply awF | apply awG) | (refine zn (id := 3) (t := (.node [0, 1, 2, 3, 4, 5, 6, 7, 8, 9, 10, 11, 12, 13, 14, 15, 16, 17, 18, 19, 20, 21, 22, 23, 24, 25, 26, 27, 28, 29, 30, 31] [])) (drR [2, 6, 5] [] []) zD (by kernel_rfl) (by kernel_rfl) (fun _ _ h => h) ?_) | (refine zx (by simp only [go_sem]; exact rfl) ?_) | (refine zA (by simp only [go_sem]; exact rfl) ?_) | refine ze ?_ | refine zl ?_ ?_ | exact zy | ((with_reducible first | apply awn | apply awo | apply awp | refine awQ ?_ | refine awR ?_); intro r hr; simp only [go_sem, Nat.reduceBEq, Nat.reduceLT, Nat.reduceLeDiff, Nat.reduceAdd, Nat.reduceMul, reduceCtorEq, zk, gk, zd, g0, Int.reduceToNat, Int.reduceLT, Int.reduceLE] at hr; subst hr; (first | refine caA (fun _ => hf) rfl ?_ ?_ ?_ | refine caA (fun _ => hm0) rfl ?_ ?_ ?_ | refine caB 51 (vB true) ?_ ?_ ?_ | refine awV ?_ ?_ | refine zR ?_ ?_ | (refine zf (fun h => ?_) (fun h => ?_) <;> (try simp only [go_sem, reduceCtorEq] at h) <;> (try (exfalso; omega))))))) <;> (try omega)
   all_goals rfl
  | true =>
   cases b1 with
   | false =>
    refine zB (za _) Try.func39 rfl rfl (by rw [Try.results39]) Try.ntmps39 rfl fun E => ?_
    (repeat' (first | exact trivial | (with_reducible first | apply awA | apply awD | apply awF | apply awG) | (refine zn (id := 3) (t := (.node [0, 1, 2, 3, 4, 5, 6, 7, 8, 9, 10, 11, 12, 13, 14, 15, 16, 17, 18, 19, 20, 21, 22, 23, 24, 25, 26, 27, 28, 29, 30, 31] [])) (drR [2, 6, 5] [] []) zD (by kernel_rfl) (by kernel_rfl) (fun _ _ h => h) ?_) | (refine zx (by simp only [go_sem]; exact rfl) ?_) | (refine zA (by simp only [go_sem]; exact rfl) ?_) | refine ze ?_ | refine zl ?_ ?_ | exact zy | ((with_reducible first | apply awn | apply awo | apply awp | refine awQ ?_ | refine awR ?_); intro r hr; simp only [go_sem, Nat.reduceBEq, Nat.reduceLT, Nat.reduceLeDiff, Nat.reduceAdd, Nat.reduceMul, reduceCtorEq, zk, gk, zd, g0, Int.reduceToNat, Int.reduceLT, Int.reduceLE] at hr; subst hr; (first | refine caA (fun _ => hf) rfl ?_ ?_ ?_ | refine caA (fun _ => hm0) rfl ?_ ?_ ?_ | refine caA (fun _ => hm1) rfl ?_ ?_ ?_ | refine caB 51 (vB true) ?_ ?_ ?_ | refine awV ?_ ?_ | refine zR ?_ ?_ | (refine zf (fun h => ?_) (fun h => ?_) <;> (try simp only [go_sem, reduceCtorEq] at h) <;> (try (exfalso; omega))))))) <;> (try omega)
    all_goals rfl
   | true =>
    cases b2 with
    | false =>
     refine zB (za _) Try.func39 rfl rfl (by rw [Try.results39]) Try.ntmps39 rfl fun E => ?_
     (repeat' (first | exact trivial | (with_reducible first | apply awA | apply awD | apply awF | apply awG) | (refine zn (id := 3) (t := (.node [0, 1, 2, 3, 4, 5, 6, 7, 8, 9, 10, 11, 12, 13, 14, 15, 16, 17, 18, 19, 20, 21, 22, 23, 24, 25, 26, 27, 28, 29, 30, 31] [])) (drR [2, 6, 5] [] []) zD (by kernel_rfl) (by kernel_rfl) (fun _ _ h => h) ?_) | (refine zx (by simp only [go_sem]; exact rfl) ?_) | (refine zA (by simp only [go_sem]; exact rfl) ?_) | refine ze ?_ | refine zl ?_ ?_ | exact zy | ((with_reducible first | apply awn | apply awo | apply awp | refine awQ ?_ | refine awR ?_); intro r hr; simp only [go_sem, Nat.reduceBEq, Nat.reduceLT, Nat.reduceLeDiff, Nat.reduceAdd, Nat.reduceMul, reduceCtorEq, zk, gk, zd, g0, Int.reduceToNat, Int.reduceLT, Int.reduceLE] at hr; subst hr; (first | refine caA (fun _ => hf) rfl ?_ ?_ ?_ | refine caA (fun _ => hm0) rfl ?_ ?_ ?_ | refine caA (fun _ => hm1) rfl ?_ ?_ ?_ | refine caA (fun _ => hm2) rfl ?_ ?_ ?_ | refine awV ?_ ?_ | refine zR ?_ ?_ | (refine zf (fun h => ?_) (fun h => ?_) <;> (try simp only [go_sem, reduceCtorEq] at h) <;> (try (exfalso; omega))))))) <;> (try omega)
     all_goals rfl
    | true =>
     by_cases hO : nm = we ∨ nm = wg
     ·obtain ⟨ha1, ha2⟩ := harm hO rfl
      rw [XN hO]
      simp only [Bool.true_and, Bool.and_self]
      obtain ⟨op, a, b, cc⟩ := x
      dsimp only at ha1 ha2 hf hm0 hm1 hm2 ⊢
      obtain ⟨n, rfl⟩ : ∃ n : Nat, a = n := ⟨a.toNat, by omega⟩
      have w0 : IntKind.i64.wrap ((C.length : Int) - k) = (C.length : Int) - k := zg (by omega)
      have w1 := zg (n := (k : Int) + 1) (by omega)
      have w2 := zg (n := (k : Int) + 1 + n) (by omega)
      have z1 : ((k : Int) + 1).toNat = k + 1 := by omega
      have z2 : ((k : Int) + 1 + n).toNat = k + 1 + n := by omega
      have bad : ∀ {s : ByteArray}, nm = s → s ≠ we → s ≠ wg → False := fun h h1 h2 => by
       subst h; exact hO.elim h1 h2
      by_cases hlen : (C.length : Int) - k ≤ n
      ·rw [if_pos hlen]
       have e95 : ((n : Int) ≥ (C.length : Int) - k) = True := eq_true hlen
       refine zB (za _) Try.func39 rfl rfl (by rw [Try.results39]) Try.ntmps39 rfl fun E => ?_
       (repeat' (first | exact trivial | (with_reducible first | apply awA | apply awB | apply awC | apply awD | apply awF | apply awG | apply awI | apply awJ) | (refine zn (id := 3) (t := (.node [0, 1, 2, 3, 4, 5, 6, 7, 8, 9, 10, 11, 12, 13, 14, 15, 16, 17, 18, 19, 20, 21, 22, 23, 24, 25, 26, 27, 28, 29, 30, 31] [])) (drR [2, 6, 5] [] []) zD (by kernel_rfl) (by kernel_rfl) (fun _ _ h => h) ?_) | (refine zx (by simp only [go_sem]; exact rfl) ?_) | (refine zA (by simp only [go_sem]; exact rfl) ?_) | refine ze ?_ | refine zl ?_ ?_ | exact zy | ((with_reducible first | apply awn | apply awo | apply awp | refine awQ ?_ | refine awR ?_); intro r hr; simp only [go_sem, Nat.reduceBEq, Nat.reduceLT, Nat.reduceLeDiff, Nat.reduceAdd, Nat.reduceMul, reduceCtorEq, zk, gk, zd, g0, w0, e95, Int.reduceToNat, Int.reduceLT, Int.reduceLE] at hr; subst hr; (first | refine caA (fun _ => hf) rfl ?_ ?_ ?_ | refine caA (fun _ => hm0) rfl ?_ ?_ ?_ | refine caA (fun _ => hm1) rfl ?_ ?_ ?_ | refine caA (fun _ => hm2) rfl ?_ ?_ ?_ | refine awV ?_ ?_ | refine zR ?_ ?_ | (refine zf (fun h => ?_) (fun h => ?_) <;> (try simp only [go_sem, reduceCtorEq] at h) <;> (try (exfalso; omega))))))) <;> (try omega)
       all_goals first | rfl | exact (bad (by assumption) (by decide) (by decide)).elim | (exfalso; rcases hO with h1 | h1 <;> contradiction) | skip
      ·rw [if_neg hlen]
       have e95 : ((n : Int) ≥ (C.length : Int) - k) = False := eq_false (by omega)
       have hzn : ((n : Int)).toNat = n := by omega
       unfold y8
       rw [hzn]
       have htd := JP C (k + 1 + n) (k + 1)
       generalize hR : ((C.take (k + 1 + n)).drop (k + 1)) = R at htd ⊢
       have hRl : R.length = n := by rw [← hR, List.length_drop, List.length_take]; omega
       obtain ⟨G, hG⟩ : ∃ G, yI [] R = G := ⟨_, rfl⟩
       rw [hG]
       refine zB (za _) Try.func39 rfl rfl (by rw [Try.results39]) Try.ntmps39 rfl fun E => ?_
       (repeat' (first | exact trivial | (with_reducible first | apply awA | apply awB | apply awC | apply awD | apply awF | apply awG | apply awI | apply awJ) | (refine zn (id := 3) (t := (.node [0, 1, 2, 3, 4, 5, 6, 7, 8, 9, 10, 11, 12, 13, 14, 15, 16, 17, 18, 19, 20, 21, 22, 23, 24, 25, 26, 27, 28, 29, 30, 31] [])) (drR [2, 6, 5] [] []) zD (by kernel_rfl) (by kernel_rfl) (fun _ _ h => h) ?_) | (refine zx (by simp only [go_sem]; exact rfl) ?_) | (refine zA (by simp only [go_sem]; exact rfl) ?_) | refine ze ?_ | refine zl ?_ ?_ | exact zy | ((with_reducible first | apply awn | apply awo | apply awp | refine awQ ?_ | refine awR ?_); intro r hr; simp only [go_sem, Nat.reduceBEq, Nat.reduceLT, Nat.reduceLeDiff, Nat.reduceAdd, Nat.reduceMul, reduceCtorEq, zk, gk, zd, g0, w0, w1, w2, z1, z2, e95, htd, Int.reduceToNat, Int.reduceLT, Int.reduceLE] at hr; subst hr; (first | refine caA (fun _ => hf) rfl ?_ ?_ ?_ | refine caA (fun _ => hm0) rfl ?_ ?_ ?_ | refine caA (fun _ => hm1) rfl ?_ ?_ ?_ | refine caA (fun _ => hm2) rfl ?_ ?_ ?_ | refine awV ?_ ?_ | refine zR ?_ ?_ | (refine zf (fun h => ?_) (fun h => ?_) <;> (try simp only [go_sem, reduceCtorEq] at h) <;> (try (exfalso; omega))))))) <;> (try omega)
       all_goals first | exact (bad (by assumption) (by decide) (by decide)).elim | (exfalso; rcases hO with h1 | h1 <;> contradiction) | skip
       all_goals
        refine zC [8, 106, 107, 108] [] (fun i : Nat => ⟨[(8, true, .lst 4 (zz R)), (106, true, .lst 4 (zz R)), (107, true, vI R.length), (108, true, vI i)], []⟩)
         (fun i => i ≤ R.length ∧ yI (R.take i) (R.drop i) = G) (fun i => R.length - i) 0 (by simp only [go_sem, Nat.reduceBEq] <;> exact rfl) ⟨Nat.zero_le _, hG⟩ ?_
        intro i ⟨hi, hinv⟩
        have hwi := zg (n := (i : Int) + 1) (by omega)
        have zi : ((i : Int)).toNat = i := by omega
        by_cases hlt : i < R.length
        ·have e1 : ((i : Int) < (R.length : Int)) = True := eq_true (by omega)
         obtain ⟨y, hy⟩ : ∃ y, R[i]? = some y := ⟨_, List.getElem?_eq_getElem hlt⟩
         have gi := WO hy
         have htk := VR R i
         have hy' : R[i] = y := by rw [List.getElem?_eq_getElem hlt] at hy; injection hy
         rw [List.drop_eq_getElem_cons hlt, hy'] at hinv
         unfold yI at hinv
         by_cases h9 : y.op = 9
         ·have e9 : (y.op = 9) = True := eq_true h9
          have hct := XM y (R.take i) (by rw [List.length_take]; omega)
          rw [decide_eq_true h9, Bool.true_and] at hinv
          cases hany : (R.take i).any (qM y) with
          | true =>
           rw [hany] at hct hinv
           rw [← hinv]
           simp only [Bool.not_true, Bool.false_and]
           (repeat' (first | exact trivial | (with_reducible first | apply awA | apply awB | apply awC | apply awD | apply awF | apply awG | apply awJ) | ((with_reducible first | apply awn | apply awo | refine awQ ?_ | refine awR ?_); intro r hr; simp only [go_sem, Nat.reduceBEq, Nat.reduceLT, Nat.reduceLeDiff, Nat.reduceAdd, Nat.reduceMul, reduceCtorEq, e1, zi, gi, e9, htk, zd, Int.toNat_zero, Int.reduceLE] at hr; subst hr; (first | refine awV ?_ ?_ | refine awW ?_ ?_ | refine zR ?_ ?_ | (refine zf (fun h => ?_) (fun h => ?_) <;> (try simp only [go_sem, reduceCtorEq] at h) <;> (try (exfalso; omega))))) | (refine zp [(10, 10001)] [(10001, 10)] [] [10] ?_; intro r hr; simp only [go_sem, Nat.reduceBEq, Nat.reduceLT] at hr; subst hr; refine yo (hct) rfl rfl (by first | exact .inl rfl | exact .inr rfl) ?_ (.inl rfl) ?_))) <;> (try omega)
           all_goals rfl
          | false =>
           rw [hany] at hct hinv
           rw [Bool.not_false, Bool.true_and] at hinv
           (repeat' (first | exact trivial | (with_reducible first | apply awA | apply awB | apply awC | apply awF | apply awI) | ((with_reducible first | apply awn | apply awo | refine awQ ?_); intro r hr; simp only [go_sem, Nat.reduceBEq, Nat.reduceLT, Nat.reduceLeDiff, Nat.reduceAdd, Nat.reduceMul, reduceCtorEq, e1, zi, hwi, gi, e9, htk, zd, Int.toNat_zero, Int.reduceLE] at hr; subst hr; (first | refine awV ?_ ?_ | refine awW ?_ ?_ | (refine zf (fun h => ?_) (fun h => ?_) <;> (try simp only [go_sem, reduceCtorEq] at h) <;> (try (exfalso; omega))))) | (refine zp [(10, 10001)] [(10001, 10)] [] [10] ?_; intro r hr; simp only [go_sem, Nat.reduceBEq, Nat.reduceLT] at hr; subst hr; refine yo (hct) rfl rfl (by first | exact .inl rfl | exact .inr rfl) ?_ (.inl rfl) ?_))) <;> (try omega)
           all_goals refine ⟨i + 1, ?_, ⟨hlt, ?_⟩, by omega⟩
           ·simp only [go_sem, Nat.reduceBEq]
            try exact rfl
           ·rw [List.take_succ_eq_append_getElem hlt, hy']; exact hinv
         ·have e9 : (y.op = 9) = False := eq_false h9
          rw [decide_eq_false h9, Bool.false_and, Bool.false_and] at hinv
          rw [← hinv]
          (repeat' (first | exact trivial | (with_reducible first | apply awA | apply awB | apply awC | apply awD | apply awF | apply awG | apply awJ) | ((with_reducible first | apply awn | apply awo | refine awQ ?_ | refine awR ?_); intro r hr; simp only [go_sem, Nat.reduceBEq, Nat.reduceLT, Nat.reduceLeDiff, Nat.reduceAdd, Nat.reduceMul, reduceCtorEq, e1, zi, gi, e9, htk, zd, Int.toNat_zero, Int.reduceLE] at hr; subst hr; (first | refine awV ?_ ?_ | refine awW ?_ ?_ | refine zR ?_ ?_ | (refine zf (fun h => ?_) (fun h => ?_) <;> (try simp only [go_sem, reduceCtorEq] at h) <;> (try (exfalso; omega))))) | (refine yW (vB true) rfl rfl ⟨by decide, by decide⟩ ?_))) <;> (try omega)
          all_goals rfl
        ·have e1 : ((i : Int) < (R.length : Int)) = False := eq_false (by omega)
         rw [List.drop_of_length_le (by omega)] at hinv
         rw [← hinv]
         unfold yI
         (repeat' (first | exact trivial | (with_reducible first | apply awA | apply awD | apply awE | apply awF | apply awH | apply awI | apply awK) | ((with_reducible first | apply awn | refine awQ ?_ | refine awR ?_); intro r hr; simp only [go_sem, Nat.reduceBEq, Nat.reduceLT, e1] at hr; subst hr; (first | refine awV ?_ ?_ | refine zR ?_ ?_ | (refine zf (fun h => ?_) (fun h => ?_) <;> (try simp only [go_sem, reduceCtorEq] at h) <;> (try (exfalso; omega))))))) <;> (try omega)
         all_goals rfl
     ·refine zB (za _) Try.func39 rfl rfl (by rw [Try.results39]) Try.ntmps39 rfl fun E => ?_
      (repeat' (first | exact trivial | (with_reducible first | apply awA | apply awB | apply awC | apply awD | apply awF | apply awG | apply awI | apply awJ) | (refine zn (id := 3) (t := (.node [0, 1, 2, 3, 4, 5, 6, 7, 8, 9, 10, 11, 12, 13, 14, 15, 16, 17, 18, 19, 20, 21, 22, 23, 24, 25, 26, 27, 28, 29, 30, 31] [])) (drR [2, 6, 5] [] []) zD (by kernel_rfl) (by kernel_rfl) (fun _ _ h => h) ?_) | (refine zx (by simp only [go_sem]; exact rfl) ?_) | (refine zA (by simp only [go_sem]; exact rfl) ?_) | refine ze ?_ | refine zl ?_ ?_ | exact zy | ((with_reducible first | apply awn | apply awo | apply awp | refine awQ ?_ | refine awR ?_); intro r hr; simp only [go_sem, Nat.reduceBEq, Nat.reduceLT, Nat.reduceLeDiff, Nat.reduceAdd, Nat.reduceMul, reduceCtorEq, zk, gk, zd, g0, Int.reduceToNat, Int.reduceLT, Int.reduceLE] at hr; subst hr; (first | refine caA (fun _ => hf) rfl ?_ ?_ ?_ | refine caA (fun _ => hm0) rfl ?_ ?_ ?_ | refine caA (fun _ => hm1) rfl ?_ ?_ ?_ | refine caA (fun _ => hm2) rfl ?_ ?_ ?_ | refine awV ?_ ?_ | refine zR ?_ ?_ | (refine zf (fun h => ?_) (fun h => ?_) <;> (try simp only [go_sem, reduceCtorEq] at h) <;> (try (exfalso; omega))))))) <;> (try omega)
      all_goals first
       | exact (hO (.inl (by assumption))).elim
       | exact (hO (.inr (by assumption))).elim
       | (unfold qN; rw [if_pos (show nm = vA by assumption)]; rfl)
       | (unfold qN; rw [if_neg (show ¬ nm = vA by assumption), if_pos (show nm = wd by assumption)]; rfl)
       | (unfold qN; rw [if_neg (show ¬ nm = vA by assumption), if_neg (show ¬ nm = wd by assumption), if_pos (show nm = vS by assumption)]; rfl)
       | (unfold qN; rw [if_neg (show ¬ nm = vA by assumption), if_neg (show ¬ nm = wd by assumption), if_neg (show ¬ nm = vS by assumption), if_neg hO]; rfl)
       | skip
end
section
open Go.RowKit
abbrev vFa (q : Int × Int) : AV := .agg [vI q.1, vI q.2]
def zX (p : Nat → Bool) : Nat → Nat → Option Nat
 | _, 0 => none
 | i, n + 1 => if p i = true then zX p (i + 1) n else some i
def xJ (n : Nat) (m : Int) : Bool := inF m 0 ((n : Int) - 1)
def yK (e : Bool) (C : List InsM) (N : List Int) : Int × Int :=
 if 1048576 < C.length ∨ 1048576 < N.length then (4, 0)
 else match zX (yr e C N) 0 C.length with
  | some i => (140, i)
  | none =>
   match zX (fun i => xJ C.length (N.getD i 0)) 0 N.length with
   | some i => (3, i)
   | none => (0, 0)
theorem YL (e : Bool) (C : List InsM) (N : List Int) (hC : C.length ≤ 140737488355328) (hN : N.length ≤ 140737488355328) : zN Try.prog 34 [pG e C N] (fun r => r = vFa (yK e C N)) := by
 unfold yK
 by_cases h1 : 1048576 < C.length
 ·have e1 : ((C.length : Int) > 1048576) = True := eq_true (by omega)
  rw [if_pos (.inl h1)]
  unfold pG
  refine zB (za _) Try.func34 rfl rfl (by rw [Try.results34]) Try.ntmps34 rfl fun E => ?_
  (repeat' (first | exact trivial | (with_reducible first | apply awA | apply awD | apply awF | apply awG) | ((with_reducible first | apply awn | refine awQ ?_ | refine awR ?_); intro r hr; simp only [go_sem, Nat.reduceBEq, Nat.reduceLT, Nat.reduceLeDiff, Nat.reduceAdd, Nat.reduceMul, reduceCtorEq, zd, zq, e1] at hr; subst hr; (first | refine awV ?_ ?_ | refine zR ?_ ?_ | (refine zf (fun h => ?_) (fun h => ?_) <;> (try simp only [go_sem, reduceCtorEq] at h) <;> (try (exfalso; omega))))))) <;> (try omega)
  all_goals rfl
 have e1 : ((C.length : Int) > 1048576) = False := eq_false (by omega)
 by_cases h2 : 1048576 < N.length
 ·have e2 : ((N.length : Int) > 1048576) = True := eq_true (by omega)
  rw [if_pos (.inr h2)]
  unfold pG
  refine zB (za _) Try.func34 rfl rfl (by rw [Try.results34]) Try.ntmps34 rfl fun E => ?_
  (repeat' (first | exact trivial | (with_reducible first | apply awA | apply awD | apply awF | apply awG) | ((with_reducible first | apply awn | refine awQ ?_ | refine awR ?_); intro r hr; simp only [go_sem, Nat.reduceBEq, Nat.reduceLT, Nat.reduceLeDiff, Nat.reduceAdd, Nat.reduceMul, reduceCtorEq, zd, zq, e1, e2] at hr; subst hr; (first | refine awV ?_ ?_ | refine zR ?_ ?_ | (refine zf (fun h => ?_) (fun h => ?_) <;> (try simp only [go_sem, reduceCtorEq] at h) <;> (try (exfalso; omega))))))) <;> (try omega)
  all_goals rfl
 have e2 : ((N.length : Int) > 1048576) = False := eq_false (by omega)
 rw [if_neg (by omega)]
 have hr := fun k hk => Q3 e C N (by omega) (by omega) k hk
 obtain ⟨G, hG⟩ : ∃ G, (match zX (yr e C N) 0 C.length with
  | some i => ((140 : Int), (i : Int))
  | none =>
   match zX (fun i => xJ C.length (N.getD i 0)) 0 N.length with
   | some i => (3, i)
   | none => (0, 0)) = G := ⟨_, rfl⟩
 rw [hG]
 unfold pG at *
 refine zB (za _) Try.func34 rfl rfl (by rw [Try.results34]) Try.ntmps34 rfl fun E => ?_
 (repeat' (first | exact trivial | (with_reducible first | apply awA | apply awB | apply awC | apply awF) | ((with_reducible first | apply awn | refine awQ ?_); intro r hr; simp only [go_sem, Nat.reduceBEq, Nat.reduceLT, Nat.reduceLeDiff, Nat.reduceAdd, Nat.reduceMul, reduceCtorEq, zd, zq, e1, e2] at hr; subst hr; (first | refine awV ?_ ?_ | (refine zf (fun h => ?_) (fun h => ?_) <;> (try simp only [go_sem, reduceCtorEq] at h) <;> (try (exfalso; omega))))))) <;> (try omega)
 refine zC [1, 2, 19, 20] [1, 2] (fun i : Nat => ⟨[(1, true, .ptr 1 1 0 0), (2, true, .ptr 1 2 0 0), (19, true, vI C.length), (20, true, vI i)], [(1, .var [vB e, .lst 4 (zz C), .lst 1 (v8 N)]), (2, .var [vI 0, vI 0])]⟩)
  (fun i => i ≤ C.length ∧ zX (yr e C N) i (C.length - i) = zX (yr e C N) 0 C.length) (fun i => C.length - i) 0 (by simp only [go_sem, Nat.reduceBEq] <;> exact rfl) ⟨Nat.zero_le _, rfl⟩ ?_
 intro i ⟨hi, hinv⟩
 have hwi := zg (n := (i : Int) + 1) (by omega)
 by_cases hlt : i < C.length
 ·have e3 : ((i : Int) < (C.length : Int)) = True := eq_true (by omega)
  have hri := hr i hlt
  obtain ⟨m, hm⟩ : ∃ m, C.length - i = m + 1 := ⟨C.length - i - 1, by omega⟩
  rw [hm] at hinv
  unfold zX at hinv
  cases hb : yr e C N i with
  | true =>
   rw [hb] at hri
   rw [if_pos hb] at hinv
   (repeat' (first | exact trivial | (with_reducible first | apply awA | apply awB | apply awC | apply awF | apply awI) | ((with_reducible first | apply awn | apply awo | refine awQ ?_); intro r hr; simp only [go_sem, Nat.reduceBEq, Nat.reduceLT, Nat.reduceLeDiff, Nat.reduceAdd, Nat.reduceMul, e3, hwi] at hr; subst hr; (first | refine caA (fun _ => hri) rfl ?_ ?_ ?_ | refine awV ?_ ?_ | (refine zf (fun h => ?_) (fun h => ?_) <;> (try simp only [go_sem, reduceCtorEq] at h) <;> (try (exfalso; omega))))))) <;> (try omega)
   refine ⟨i + 1, ?_, ⟨hlt, ?_⟩, by omega⟩
   ·simp only [go_sem, Nat.reduceBEq]
    try exact rfl
   ·rw [show C.length - (i + 1) = m by omega, hinv]
    cases hx : C.length with
    | zero => omega
    | succ z => rfl
  | false =>
   rw [hb] at hri
   rw [if_neg (by rw [hb]; decide)] at hinv
   have hG2 : ((140 : Int), (i : Int)) = G := by
    rw [← hG]
    have : zX (yr e C N) 0 C.length = some i := by
     rw [hinv]
     cases hx : C.length with
     | zero => omega
     | succ z => rfl
    rw [this]
   rw [← hG2]
   (repeat' (first | exact trivial | (with_reducible first | apply awA | apply awB | apply awC | apply awD | apply awF | apply awG | apply awJ) | ((with_reducible first | apply awn | apply awo | refine awQ ?_ | refine awR ?_); intro r hr; simp only [go_sem, Nat.reduceBEq, Nat.reduceLT, Nat.reduceLeDiff, Nat.reduceAdd, Nat.reduceMul, e3] at hr; subst hr; (first | refine caA (fun _ => hri) rfl ?_ ?_ ?_ | refine awV ?_ ?_ | refine zR ?_ ?_ | (refine zf (fun h => ?_) (fun h => ?_) <;> (try simp only [go_sem, reduceCtorEq] at h) <;> (try (exfalso; omega))))))) <;> (try omega)
   all_goals rfl
 ·have e3 : ((i : Int) < (C.length : Int)) = False := eq_false (by omega)
  rw [show C.length - i = 0 by omega] at hinv
  have hn : zX (yr e C N) 0 C.length = none := by rw [← hinv]; rfl
  rw [hn] at hG
  clear hinv hr
  (repeat' (first | exact trivial | (with_reducible first | apply awA | apply awB | apply awE | apply awF | apply awH | apply awK) | ((with_reducible first | apply awn | refine awQ ?_); intro r hr; simp only [go_sem, Nat.reduceBEq, Nat.reduceLT, Nat.reduceLeDiff, Nat.reduceAdd, Nat.reduceMul, e3, zq] at hr; subst hr; (first | refine awV ?_ ?_ | (refine zf (fun h => ?_) (fun h => ?_) <;> (try simp only [go_sem, reduceCtorEq] at h) <;> (try (exfalso; omega))))))) <;> (try omega)
  refine zC [1, 2, 31, 32, 33] [1, 2] (fun i : Nat => ⟨[(1, true, .ptr 1 1 0 0), (2, true, .ptr 1 2 0 0), (31, true, .lst 1 (v8 N)), (32, true, vI N.length), (33, true, vI i)], [(1, .var [vB e, .lst 4 (zz C), .lst 1 (v8 N)]), (2, .var [vI 0, vI 0])]⟩)
   (fun i => i ≤ N.length ∧ zX (fun i => xJ C.length (N.getD i 0)) i (N.length - i) = zX (fun i => xJ C.length (N.getD i 0)) 0 N.length) (fun i => N.length - i) 0 (by simp only [go_sem, Nat.reduceBEq] <;> exact rfl) ⟨Nat.zero_le _, rfl⟩ ?_
  clear e3 hwi hlt hi i
  intro i ⟨hi, hinv⟩
  have hwi := zg (n := (i : Int) + 1) (by omega)
  have zi : ((i : Int)).toNat = i := by omega
  have hwc := zg (n := (C.length : Int) - 1) (by omega)
  by_cases hlt : i < N.length
  ·have e3 : ((i : Int) < (N.length : Int)) = True := eq_true (by omega)
   have gi := xm hlt
   have hgd : N.getD i 0 = N[i] := by simp [List.getD, hlt]
   have hin := yU N[i] 0 ((C.length : Int) - 1)
   obtain ⟨m, hm⟩ : ∃ m, N.length - i = m + 1 := ⟨N.length - i - 1, by omega⟩
   rw [hm] at hinv
   unfold zX at hinv
   rw [hgd] at hinv
   cases hb : inF N[i] 0 ((C.length : Int) - 1) with
   | true =>
    rw [hb] at hin
    rw [if_pos (show xJ C.length N[i] = true from hb)] at hinv
    (repeat' (first | exact trivial | (with_reducible first | apply awA | apply awB | apply awC | apply awF | apply awI) | ((with_reducible first | apply awn | apply awo | refine awQ ?_); intro r hr; simp only [go_sem, Nat.reduceBEq, Nat.reduceLT, Nat.reduceLeDiff, Nat.reduceAdd, Nat.reduceMul, e3, zi, hwi, hwc, gi, zd, zq] at hr; subst hr; (first | refine caA (fun _ => hin) rfl ?_ ?_ ?_ | refine awV ?_ ?_ | (refine zf (fun h => ?_) (fun h => ?_) <;> (try simp only [go_sem, reduceCtorEq] at h) <;> (try (exfalso; omega))))))) <;> (try omega)
    refine ⟨i + 1, ?_, ⟨hlt, ?_⟩, by omega⟩
    ·simp only [go_sem, Nat.reduceBEq]
     try exact rfl
    ·rw [show N.length - (i + 1) = m by omega, hinv]
     cases hx : N.length with
     | zero => omega
     | succ z => rfl
   | false =>
    rw [hb] at hin
    rw [if_neg (by unfold xJ; rw [hb]; decide)] at hinv
    have hG2 : ((3 : Int), (i : Int)) = G := by
     rw [← hG]
     have : zX (fun i => xJ C.length (N.getD i 0)) 0 N.length = some i := by
      rw [hinv]
      cases hx : N.length with
      | zero => omega
      | succ z => rfl
     rw [this]
    rw [← hG2]
    (repeat' (first | exact trivial | (with_reducible first | apply awA | apply awB | apply awC | apply awD | apply awF | apply awG | apply awJ) | ((with_reducible first | apply awn | apply awo | refine awQ ?_ | refine awR ?_); intro r hr; simp only [go_sem, Nat.reduceBEq, Nat.reduceLT, Nat.reduceLeDiff, Nat.reduceAdd, Nat.reduceMul, e3, zi, hwc, gi, zd, zq] at hr; subst hr; (first | refine caA (fun _ => hin) rfl ?_ ?_ ?_ | refine awV ?_ ?_ | refine zR ?_ ?_ | (refine zf (fun h => ?_) (fun h => ?_) <;> (try simp only [go_sem, reduceCtorEq] at h) <;> (try (exfalso; omega))))))) <;> (try omega)
    all_goals rfl
  ·have e3 : ((i : Int) < (N.length : Int)) = False := eq_false (by omega)
   rw [show N.length - i = 0 by omega] at hinv
   have hn : zX (fun i => xJ C.length (N.getD i 0)) 0 N.length = none := by rw [← hinv]; rfl
   rw [hn] at hG
   rw [← hG]
   (repeat' (first | exact trivial | (with_reducible first | apply awA | apply awD | apply awE | apply awF | apply awH | apply awK) | ((with_reducible first | apply awn | refine awQ ?_ | refine awR ?_); intro r hr; simp only [go_sem, Nat.reduceBEq, Nat.reduceLT, Nat.reduceLeDiff, Nat.reduceAdd, Nat.reduceMul, e3] at hr; subst hr; (first | refine awV ?_ ?_ | refine zR ?_ ?_ | (refine zf (fun h => ?_) (fun h => ?_) <;> (try simp only [go_sem, reduceCtorEq] at h) <;> (try (exfalso; omega))))))) <;> (try omega)
   all_goals rfl
end
section
open Go.RowKit
section
variable {α : Type}
theorem XP (c : Nat) (k : Int) (a : α) : ∀ (L : List (Nat × Int × α)) (k' : Int), mf k' (wj c k a L) = if k' = k then some a else mf k' L
 | [], k' => by
  by_cases h : k' = k
  ·subst h; simp [wj, mf]
  ·simp [wj, mf, h, Ne.symm h]
 | (b, k0, a0) :: L, k' => by
  by_cases h0 : k0 = k
  ·subst h0
   by_cases h : k' = k0
   ·subst h; simp [wj, mf]
   ·simp [wj, mf, h, Ne.symm h]
  ·have ih := XP c k a L k'
   simp only [wj, if_neg h0, mf, ih]
   by_cases h : k' = k
   ·subst h; simp [h0]
   ·by_cases h1 : k0 = k'
    ·simp [h1, h]
    ·simp [h1, h]
theorem WU (k : Int) : ∀ (L : List (Nat × Int × α)), (XF k L).Sublist L
 | [] => .slnil
 | e :: L => by
  unfold XF
  split
  ·exact List.sublist_cons_self _ _
  ·exact (WU k L).cons_cons _
theorem Ke (k : Int) : ∀ (L : List (Nat × Int × α)), (L.map (·.2.1)).Nodup → ∀ k', mf k' (XF k L) = if k' = k then none else mf k' L
 | [], _, k' => by simp [XF, mf]
 | (b, k0, a0) :: L, hn, k' => by
  rw [List.map_cons, List.nodup_cons] at hn
  unfold XF
  by_cases h0 : k0 = k
  ·subst h0
   rw [if_pos rfl]
   by_cases h : k' = k0
   ·subst h; rw [if_pos rfl, ZO]; exact hn.1
   ·rw [if_neg h]; simp [mf, Ne.symm h]
  ·rw [if_neg h0]
   simp only [mf, Ke k L hn.2 k']
   by_cases h : k' = k
   ·subst h; simp [h0]
   ·simp [h]
theorem ui {k : Int} {a : α} : ∀ {L : List (Nat × Int × α)}, mf k L = some a → ∃ b, (b, k, a) ∈ L
 | [], h => by cases h
 | (b, k0, a0) :: L, h => by
  unfold mf at h
  split at h
  ·rename_i h0
   subst h0
   injection h with h
   subst h
   exact ⟨b, .head _⟩
  ·obtain ⟨b', hb⟩ := ui h
   exact ⟨b', .tail _ hb⟩
end
def yM (M : List (Nat × Int × Unit)) : List Nat := M.map fun e => e.2.1.toNat
def lsF (l : List Nat) : AV := .lst 1 (v8 (yC l))
abbrev mL (L : List (Nat × Int × List Nat)) : List (Nat × AV × AV) := mI lsF L
def atL (L : List (Nat × Int × List Nat)) (k : Nat) : List Nat := (mf (k : Int) L).getD []
abbrev mW (W : List (Nat × Int × Int)) : List (Nat × AV × AV) := mI (fun z => vI z) W
def wH (W : List (Nat × Int × Int)) (k : Nat) : Int := (mf (k : Int) W).getD 0
theorem qn (d : Nat) (L : List (Nat × Int × List Nat)) : mapM (AV.kill d) (mL L) = mL L := wR (f := lsF) (fun _ => rfl) L
theorem zc2 (K V : List Nat) (L : List (Nat × Int × List Nat)) : mapM (AV.cut K V) (mL L) = mL L := wR (f := lsF) (fun _ => rfl) L
theorem WV (r : List (Nat × Nat)) (L : List (Nat × Int × List Nat)) : mapM (AV.ren r) (mL L) = mL L := wR (f := lsF) (fun _ => rfl) L
theorem Kf (d : Nat) (L : List (Nat × Int × Int)) : mapM (AV.kill d) (mW L) = mW L := wR (f := fun z => vI z) (fun _ => rfl) L
theorem zdx (K V : List Nat) (L : List (Nat × Int × Int)) : mapM (AV.cut K V) (mW L) = mW L := wR (f := fun z => vI z) (fun _ => rfl) L
theorem zdy (r : List (Nat × Nat)) (L : List (Nat × Int × Int)) : mapM (AV.ren r) (mW L) = mW L := wR (f := fun z => vI z) (fun _ => rfl) L
theorem Kg (x : Option (List Nat)) : (VB false x lsF (.slice none 0 0)).up (lsF (x.getD [])) := by
 cases x with
 | none => exact AV.up_nil 1
 | some l => exact AV.up_rfl _
theorem je (x : Option Int) : VB false x (fun z => vI z) (.int .i64 0) = vI (x.getD 0) := by cases x <;> rfl
theorem JV (c : Nat) (M : List (Nat × Int × Unit)) : yq Try.prog 74 [.map 10003] [(10003, .mapr c (mK M))] (.map 7) [(7, .mapr c (mK M)), (10003, .mapr c (mK M))] := by
 refine zW (za _) Try.func74 rfl rfl (by rw [Try.results74]) Try.ntmps74 rfl fun E => ?_
 (repeat' (first | exact trivial | (with_reducible first | apply awA | apply awC | apply awD | apply awF) | ((with_reducible first | apply awn | apply awo | refine awQ ?_ | refine awT ?_); intro r hr; simp only [go_sem, Nat.reduceBEq, Nat.reduceLT, yk] at hr; subst hr; (first | refine awV ?_ ?_ | refine awW ?_ ?_ | refine yl ?_ ?_ ?_ | (refine zf (fun h => ?_) (fun h => ?_) <;> (try simp only [go_sem, reduceCtorEq] at h) <;> (try (exfalso; omega))))) | (refine zbE (za _) rfl rfl ⟨by decide, by decide⟩ rfl rfl rfl rfl t83 rfl ?_) | (refine QS (d := 10003) (L := M) (f := fun _ => AV.dead) rfl rfl rfl ⟨by decide, by decide⟩ rfl rfl rfl (fun _ => rfl) Try.func87 (by kernel_rfl) (by kernel_rfl) (by kernel_rfl) (by kernel_rfl) ?_))) <;> (try omega)
 all_goals first | exact AV.up_rfl _ | (repeat first | exact zo | refine zh rfl ?_)
structure PeeledI (M : List (Nat × Int × Unit)) (on : Nat → List Nat) (M' : List (Nat × Int × Unit)) : Prop where
 sub : M'.Sublist M
 cy : ∀ C, Cyc (yM M) on C → ∀ x, C x → (x : Int) ∈ M'.map (·.2.1)
structure MapOK (c : Nat) (M : List (Nat × Int × Unit)) : Prop where
 nd : (M.map (·.1)).Nodup
 lt : ∀ e ∈ M, e.1 < c
 kd : (M.map (·.2.1)).Nodup
 pos : ∀ e ∈ M, 0 ≤ e.2.1
 len : M.length ≤ 1048576
theorem MapOK.sub {c : Nat} {M M' : List (Nat × Int × Unit)} (h : MapOK c M) (hs : M'.Sublist M) : MapOK c M' :=
 ⟨h.nd.sublist (hs.map _), fun e he => h.lt e (hs.mem he), h.kd.sublist (hs.map _), fun e he => h.pos e (hs.mem he), Nat.le_trans hs.length_le h.len⟩
theorem MapOK.mem {c : Nat} {M : List (Nat × Int × Unit)} (h : MapOK c M) (k : Nat) : k ∈ yM M ↔ mf (k : Int) M = some () := by
 constructor
 ·intro hk
  obtain ⟨e, he, h1⟩ := List.mem_map.1 hk
  have h2 := h.pos e he
  have h3 : e.2.1 = (k : Int) := by omega
  cases hq : mf (k : Int) M with
  | some a => rfl
  | none =>
   rw [ZO] at hq
   exact absurd (by rw [← h3]; exact List.mem_map.2 ⟨e, he, rfl⟩) hq
 ·intro hk
  obtain ⟨b, hb⟩ := ui hk
  exact List.mem_map.2 ⟨_, hb, by simp⟩
end
section
open Go.RowKit
theorem Kh {K l : List Nat} {j m : Nat} (h : l[j]? = some m) : qB K [] (l.take (j + 1)) = qB K [] (l.take j) + if m ∈ K then 1 else 0 := by
 have hlt := zE h
 have hm : l[j] = m := by rw [List.getElem?_eq_getElem hlt] at h; injection h
 unfold qB
 rw [List.take_succ_eq_append_getElem hlt, List.filter_append, List.length_append, hm]
 by_cases hk : m ∈ K <;> simp [hk]
theorem Ki (K g l : List Nat) : qB K g l ≤ l.length := List.length_filter_le _ _
theorem jf (c : Nat) (k : Nat) (a : Int) (W : List (Nat × Int × Int)) (y : Nat) : wH (wj c (k : Int) a W) y = if y = k then a else wH W y := by
 unfold wH
 rw [XP]
 by_cases h : y = k
 ·subst h; simp
 ·rw [if_neg (by omega), if_neg h]
theorem yv {α : Type} [DecidableEq α] : ∀ {V M : List α}, V.Nodup → (∀ e ∈ V, e ∈ M) → V.length ≤ M.length
 | [], M, _, _ => Nat.zero_le _
 | a :: V, M, hn, h => by
  rw [List.nodup_cons] at hn
  have ha := h a (.head _)
  have h1 := yv (V := V) (M := M.erase a) hn.2 fun e he => (List.mem_erase_of_ne (by rintro rfl; exact hn.1 he)).2 (h e (.tail _ he))
  have h2 := List.length_erase_of_mem ha
  have h3 := List.length_pos_of_mem ha
  rw [List.length_cons]
  omega
theorem yD {α β : Type} {f : α → β} {l : List α} (h : (l.map f).Nodup) {a b : α} (ha : a ∈ l) (hb : b ∈ l) (he : f a = f b) : a = b := by
 induction l with
 | nil => cases ha
 | cons x l ih =>
  rw [List.map_cons, List.nodup_cons] at h
  rcases List.mem_cons.1 ha with e1 | h1
  ·rcases List.mem_cons.1 hb with e2 | h2
   ·rw [e1, e2]
   ·exact absurd (by rw [← e1, he]; exact List.mem_map.2 ⟨b, h2, rfl⟩) h.1
  ·rcases List.mem_cons.1 hb with e2 | h2
   ·exact absurd (by rw [← e2, ← he]; exact List.mem_map.2 ⟨a, h1, rfl⟩) h.1
   ·exact ih h.2 h1 h2
theorem WW (c c1 c2 nn : Nat) (M : List (Nat × Int × Unit)) (hM : MapOK c M) (LO LB : List (Nat × Int × List Nat)) (hnn : nn ≤ 1048576) (hlt : ∀ k ∈ yM M, k < nn) (hLO : ∀ k, (atL LO k).length ≤ 17000000000000) (hLB : ∀ k, (atL LB k).length ≤ 17000000000000)
  (hc : ∀ x y, (atL LO x).count y = (atL LB y).count x) :
  yL Try.prog 62 [.map 10003, .map 10006, .map 10007] [(10003, .mapr c (mK M)), (10006, .mapr c1 (mL LO)), (10007, .mapr c2 (mL LB))] (PeeledI M (atL LO)) (fun _ => .map 21)
   (fun M' => [(10003, .mapr c (mK M)), (10006, .mapr c1 (mL LO)), (10007, .mapr c2 (mL LB)), (21, .mapr c (mK M'))]) := by
 have hcl := JV c M
 generalize hK : yM M = K at hlt
 have hlen := hM.len
 refine xT (za _) Try.func62 rfl rfl (by rw [Try.results62]) Try.ntmps62 rfl fun E => ?_
 (repeat' (first | exact trivial | (with_reducible first | apply awA | apply awB | apply awF) | ((with_reducible first | refine awN (za _) [4000022] ?_ | refine awO (za _) [4000022] ?_); intro r hr; simp only [go_sem, Nat.reduceBEq, Nat.reduceLT, Nat.reduceAdd, yk, zT, qn, zc2] at hr; subst hr; (first | refine awV ?_ ?_ | refine awW ?_ ?_)) | (refine zp [(10003, 10003)] [(7, 21), (10003, 10003)] [21] [10003] ?_; intro r hr; simp only [go_sem, Nat.reduceBEq, Nat.reduceLT, zT] at hr; subst hr; refine yo (hcl) rfl rfl (by first | exact .inl rfl | exact .inr rfl) ?_ (.inl rfl) ?_) | (refine vv (za _) (u := 24) rfl rfl rfl ⟨by decide, by decide⟩ rfl rfl t83 rfl rfl (by decide) ?_))) <;> (try omega)
 refine x4 9 3 1 56 (.inl (by decide)) (by simp only [go_sem, Nat.reduceBEq]) ?_
 refine zC [1, 2, 7, 8, 9, 24] [10003, 10006, 10007, 21, 22, 24, 56] (fun q : List (Nat × Int × Unit) × Nat × List (Nat × Int × Int) × List Nat => ⟨[(1, true, .map 10006), (2, true, .map 10007), (7, true, .map 21), (8, true, .map 22), (9, true, .ref 3 1 56 0 q.2.2.2.length), (24, true, .ptr 1 24 0 0)],
  [(10003, .mapr c (mK M)), (10006, .mapr c1 (mL LO)), (10007, .mapr c2 (mL LB)), (21, .mapr c (mK M)), (22, .mapr q.2.1 (mW q.2.2.1)), (24, .iter 21 true c (q.1.map (·.1))), (56, .row 3 1 (v8 (yC q.2.2.2)))]⟩)
  (fun q => (∀ e ∈ q.1, e ∈ M) ∧ (q.1.map (·.1)).Nodup ∧ (∀ k, wH q.2.2.1 k = if k ∈ yM q.1 then (qB K [] (atL LO k) : Int) else 0) ∧ q.2.2.2.Nodup ∧ ∀ k, k ∈ q.2.2.2 ↔ k ∈ yM q.1 ∧ qB K [] (atL LO k) = 0) (fun q => M.length - q.1.length) ([], 0, [], [])
  (by simp only [yk, qn, AState.nilrow, go_sem, Nat.reduceBEq, Nat.reduceLT] <;> exact rfl) ⟨fun e he => (by cases he), List.nodup_nil, fun k => rfl, List.nodup_nil, fun k => by simp [yM]⟩ ?_
 intro ⟨V, cw, W, b⟩ ⟨hV, hVn, hW, hbn, hb⟩
 simp only at hV hVn hW hbn hb ⊢
 have hVl : V.length ≤ M.length := by
  refine yv ?_ hV
  rw [List.Nodup, List.pairwise_map] at hVn
  exact hVn.imp fun h e => h (by rw [e])
 have hbK : ∀ k ∈ b, k ∈ K := fun k hk => by
  obtain ⟨e, he, rfl⟩ := List.mem_map.1 ((hb k).1 hk).1
  rw [← hK]
  exact List.mem_map.2 ⟨e, hV e he, rfl⟩
 have hbl : b.length ≤ nn := xX hbn fun k hk => hlt k (hbK k hk)
 (repeat' (first | exact trivial | (with_reducible apply awA) | ((with_reducible apply awn); intro r hr; simp only [go_sem, Nat.reduceBEq] at hr; subst hr; (first | refine awW ?_ ?_)) | (refine uR (d := 21) (u := 24) (L := M) (f := fun _ => AV.dead) rfl rfl ⟨by decide, by decide⟩ rfl rfl rfl rfl hM.lt rfl (fun h0 => wl ?_) (fun x hx hxn => wl ?_)))) <;> (try omega)
 ·refine ⟨?_⟩
  have hVK : ∀ k, k ∈ yM V ↔ k ∈ K := fun k => by
   rw [← hK]
   constructor
   ·intro h
    obtain ⟨e, he, rfl⟩ := List.mem_map.1 h
    exact List.mem_map.2 ⟨e, hV e he, rfl⟩
   ·intro h
    obtain ⟨e, he, rfl⟩ := List.mem_map.1 h
    obtain ⟨e', he', h2⟩ := List.mem_map.1 (h0 e he)
    have : e' = e := yD hM.nd (hV e' he') he h2
    subst this
    exact List.mem_map.2 ⟨e', he', rfl⟩
  have hp : Peel K (atL LO) b 0 (wH W) := Peel.init hbn (fun x => by rw [hb, hVK]) fun x hx => by rw [hW, if_pos ((hVK x).2 hx)]
  have hL0 : ∀ k : Nat, mf (k : Int) M = if k ∈ K ∧ k ∉ b.take 0 then some () else none := fun k => by
   rw [List.take_zero]
   by_cases hk : k ∈ K
   ·rw [if_pos ⟨hk, by simp⟩]; exact (hM.mem k).1 (by rw [hK]; exact hk)
   ·rw [if_neg (fun h => hk h.1)]
    cases hq : mf (k : Int) M with
    | none => rfl
    | some a => exact absurd (by rw [← hK]; exact (hM.mem k).2 hq) hk
  clear hW hb hV hVn h0 hVK hVl hbK hbl hbn
  (repeat' (first | exact trivial | (with_reducible first | apply awA | apply awB | apply awE | apply awF | apply awH | apply awK) | ((with_reducible first | apply awn | apply awo | refine awQ ?_); intro r hr; simp only [go_sem, Nat.reduceBEq, Nat.reduceLT] at hr; subst hr; (first | refine awV ?_ ?_ | (refine zf (fun h => ?_) (fun h => ?_) <;> (try simp only [go_sem, reduceCtorEq] at h) <;> (try (exfalso; omega))))))) <;> (try omega)
  refine zC [2, 7, 8, 9, 15] [10003, 10006, 10007, 21, 22, 56] (fun q : Nat × List (Nat × Int × Unit) × Nat × List (Nat × Int × Int) × List Nat => ⟨[(2, true, .map 10007), (7, true, .map 21), (8, true, .map 22), (9, true, .ref 3 1 56 0 q.2.2.2.2.length), (15, true, vI q.1)],
   [(10003, .mapr c (mK M)), (10006, .mapr c1 (mL LO)), (10007, .mapr c2 (mL LB)), (21, .mapr c (mK q.2.1)), (22, .mapr q.2.2.1 (mW q.2.2.2.1)), (56, .row 3 1 (v8 (yC q.2.2.2.2)))]⟩)
   (fun q => Peel K (atL LO) q.2.2.2.2 q.1 (wH q.2.2.2.1) ∧ q.1 ≤ q.2.2.2.2.length ∧ q.2.1.Sublist M ∧ ∀ k : Nat, mf (k : Int) q.2.1 = if k ∈ K ∧ k ∉ q.2.2.2.2.take q.1 then some () else none) (fun q => nn - q.1) (0, M, cw, W, b)
   (by simp only [go_sem, Nat.reduceBEq] <;> exact rfl) ⟨hp, Nat.zero_le _, List.Sublist.refl _, hL0⟩ ?_
  clear hp hL0 W cw b V
  intro ⟨i, L, cw, W, b⟩ ⟨hp, hi, hLs, hL⟩
  simp only at hp hi hLs hL ⊢
  have hbl : b.length ≤ nn := xX hp.nd fun k hk => hlt k (hp.sub k hk)
  have hwi := zg (n := (i : Int) + 1) (by omega)
  have zi : ((i : Int)).toNat = i := by omega
  have hLd := (hM.sub hLs).kd
  by_cases hib : i < b.length
  ·have e1 : ((i : Int) < (b.length : Int)) = True := eq_true (by omega)
   obtain ⟨x, hx⟩ : ∃ x, b[i]? = some x := ⟨_, List.getElem?_eq_getElem hib⟩
   have gi := xE hx
   have hin := hp.enter (back := atL LB) hx
   have hLd2 : ∀ k : Nat, mf (k : Int) (XF (x : Int) L) = if k ∈ K ∧ k ∉ b.take (i + 1) then some () else none := fun k => by
    rw [Ke _ _ hLd, hL]
    have ht : b.take (i + 1) = b.take i ++ [x] := by
     rw [List.take_succ_eq_append_getElem hib]
     rw [List.getElem?_eq_getElem hib] at hx
     injection hx with hx
     rw [hx]
    rw [ht]
    by_cases hkx : k = x
    ·subst hkx; simp
    ·rw [if_neg (by omega)]; simp [hkx]
   have hLs2 := (WU (x : Int) L).trans hLs
   generalize hL2 : XF (x : Int) L = L2 at hLd2 hLs2
   have hbx := hLB x
   (repeat' (first | exact trivial | (with_reducible first | apply awA | apply awB | apply awC | apply awF) | ((with_reducible first | apply awn | apply awo | refine awQ ?_); intro r hr; simp only [go_sem, Nat.reduceBEq, Nat.reduceLT, Nat.reduceLeDiff, e1, zi, gi, zq, zY, Nat.zero_add, hL2] at hr; subst hr; (first | refine awV ?_ ?_ | refine awW ?_ ?_ | (refine zf (fun h => ?_) (fun h => ?_) <;> (try simp only [go_sem, reduceCtorEq] at h) <;> (try (exfalso; omega))))) | (refine zbC (za _) (d := 21) (L := L) (f := fun _ => AV.dead) (key := (x : Int)) rfl rfl rfl rfl rfl rfl rfl t83 rfl t3 rfl rfl ?_) | (refine kY (za _) (d := 10007) (L := LB) (f := lsF) (key := (x : Int)) (z := .slice none 0 0) (r := .lst 1 (v8 (yC (atL LB x)))) rfl rfl ⟨by decide, by decide⟩ rfl rfl rfl rfl zbV rfl t3 rfl uY rfl rfl (Kg _) ?_))) <;> (try omega)
   refine zC [2, 7, 8, 9, 15, 73, 74, 75] [10003, 10006, 10007, 21, 22, 56] (fun q : Nat × Nat × List (Nat × Int × Int) × List Nat => ⟨[(2, true, .map 10007), (7, true, .map 21), (8, true, .map 22), (9, true, .ref 3 1 56 0 q.2.2.2.length), (15, true, vI i), (73, true, .lst 1 (v8 (yC (atL LB x)))), (74, true, vI (atL LB x).length), (75, true, vI q.1)],
    [(10003, .mapr c (mK M)), (10006, .mapr c1 (mL LO)), (10007, .mapr c2 (mL LB)), (21, .mapr c (mK L2)), (22, .mapr q.2.1 (mW q.2.2.1)), (56, .row 3 1 (v8 (yC q.2.2.2)))]⟩)
    (fun q => PeelIn K (atL LO) (atL LB) b q.2.2.2 i q.1 x (wH q.2.2.1) ∧ q.1 ≤ (atL LB x).length) (fun q => (atL LB x).length - q.1) (0, cw, W, b)
    (by simp only [go_sem, Nat.reduceBEq] <;> exact rfl) ⟨hin, Nat.zero_le _⟩ ?_
   clear hin hp cw hL W
   intro ⟨j, cw, W, b'⟩ ⟨hin, hj⟩
   simp only at hin hj ⊢
   have hbl' : b'.length ≤ nn := xX hin.nd fun k hk => hlt k (hin.sub k hk)
   have hwj := zg (n := (j : Int) + 1) (by omega)
   have zj : ((j : Int)).toNat = j := by omega
   by_cases hjl : j < (atL LB x).length
   ·have e2 : ((j : Int) < ((atL LB x).length : Int)) = True := eq_true (by omega)
    obtain ⟨y, hy⟩ : ∃ y, (atL LB x)[j]? = some y := ⟨_, List.getElem?_eq_getElem hjl⟩
    have gj := xE hy
    by_cases hyK : y ∈ K
    ·have hf : mf (y : Int) L2 = some () := by rw [hLd2, if_pos ⟨hyK, hin.left hc hy hyK⟩]
     have hcy := hin.cn y hyK
     have h1 := Ki K (b.take i) (atL LO y)
     have h2 := hLO y
     have h3 : ((atL LB x).take j).count y ≤ (atL LB x).length := Nat.le_trans (List.count_le_length) (by rw [List.length_take]; omega)
     have hwy : IntKind.i64.wrap (wH W y - 1) = wH W y - 1 := zg (by omega)
     have hst := hin.step hc hy hyK (cnt' := wH (wj cw (y : Int) (wH W y - 1) W)) fun z => by rw [jf]
     have hcy2 : wH (wj cw (y : Int) (wH W y - 1) W) y = wH W y - 1 := by rw [jf, if_pos rfl]
     generalize hW2 : wj cw (y : Int) (wH W y - 1) W = W2 at hst hcy2
     by_cases hz : wH W y - 1 = 0
     ·rw [if_pos hz] at hst
      have ez : (wH W y - 1 = 0) = True := eq_true hz
      have ht : (v8 (yC b')).take b'.length = v8 (yC b') := by rw [yT, List.take_of_length_le (by rw [zY]; omega)]
      have ha := wT b' y
      have hl2 : (b' ++ [y]).length = b'.length + 1 := by simp
      (repeat' (first | exact trivial | (with_reducible first | apply awA | apply awB | apply awC | apply awF | apply awI) | ((with_reducible first | apply awn | apply awo | refine awQ ?_); intro r hr; simp only [go_sem, Nat.reduceBEq, Nat.reduceLT, Nat.reduceLeDiff, Nat.reduceAdd, Nat.reduceMul, e2, zj, gj, hwj, hwy, ez, hcy2, zq, zY, Nat.zero_add, ht, ha, hl2, yk, qn, Kf] at hr; subst hr; (first | refine awV ?_ ?_ | refine awW ?_ ?_ | (refine zf (fun h => ?_) (fun h => ?_) <;> (try simp only [go_sem, reduceCtorEq] at h) <;> (try (exfalso; omega))))) | (refine z7 (za _) (d := 21) (L := L2) (f := fun _ => AV.dead) (key := (y : Int)) (z := .int .i64 0) rfl rfl ⟨by decide, by decide⟩ rfl rfl rfl rfl t83 rfl t3 rfl z8 rfl rfl (by rw [hf]) ?_) | (refine z7 (za _) (d := 22) (L := W) (f := fun z => vI z) (key := (y : Int)) (z := .int .i64 0) (r := vI (wH W y)) rfl rfl ⟨by decide, by decide⟩ rfl rfl rfl rfl t83 rfl t3 rfl z8 rfl rfl (je _) ?_) | (refine z7 (za _) (d := 22) (L := W2) (f := fun z => vI z) (key := (y : Int)) (z := .int .i64 0) (r := vI (wH W2 y)) rfl rfl ⟨by decide, by decide⟩ rfl rfl rfl rfl t83 rfl t3 rfl z8 rfl rfl (je _) ?_) | (refine qi (za _) (d := 22) (L := W) (f := fun z => vI z) (key := (y : Int)) (wH W y - 1) rfl rfl rfl rfl rfl rfl rfl rfl (.inl rfl) t83 rfl t3 rfl rfl rfl hW2 ?_))) <;> (try omega)
      refine ⟨(j + 1, vY cw (y : Int) W, W2, b' ++ [y]), ?_, ⟨hst, hjl⟩, by show (atL LB x).length - (j + 1) < (atL LB x).length - j; omega⟩
      simp only [hl2, go_sem, Nat.reduceBEq]
      try exact rfl
     ·rw [if_neg hz] at hst
      have ez : (wH W y - 1 = 0) = False := eq_false hz
      (repeat' (first | exact trivial | (with_reducible first | apply awA | apply awB | apply awC | apply awF | apply awI) | ((with_reducible first | apply awn | apply awo | refine awQ ?_); intro r hr; simp only [go_sem, Nat.reduceBEq, Nat.reduceLT, Nat.reduceLeDiff, e2, zj, gj, hwj, hwy, ez, hcy2, zq, zY, Nat.zero_add] at hr; subst hr; (first | refine awV ?_ ?_ | refine awW ?_ ?_ | (refine zf (fun h => ?_) (fun h => ?_) <;> (try simp only [go_sem, reduceCtorEq] at h) <;> (try (exfalso; omega))))) | (refine z7 (za _) (d := 21) (L := L2) (f := fun _ => AV.dead) (key := (y : Int)) (z := .int .i64 0) rfl rfl ⟨by decide, by decide⟩ rfl rfl rfl rfl t83 rfl t3 rfl z8 rfl rfl (by rw [hf]) ?_) | (refine z7 (za _) (d := 22) (L := W) (f := fun z => vI z) (key := (y : Int)) (z := .int .i64 0) (r := vI (wH W y)) rfl rfl ⟨by decide, by decide⟩ rfl rfl rfl rfl t83 rfl t3 rfl z8 rfl rfl (je _) ?_) | (refine z7 (za _) (d := 22) (L := W2) (f := fun z => vI z) (key := (y : Int)) (z := .int .i64 0) (r := vI (wH W2 y)) rfl rfl ⟨by decide, by decide⟩ rfl rfl rfl rfl t83 rfl t3 rfl z8 rfl rfl (je _) ?_) | (refine qi (za _) (d := 22) (L := W) (f := fun z => vI z) (key := (y : Int)) (wH W y - 1) rfl rfl rfl rfl rfl rfl rfl rfl (.inl rfl) t83 rfl t3 rfl rfl rfl hW2 ?_))) <;> (try omega)
      refine ⟨(j + 1, vY cw (y : Int) W, W2, b'), ?_, ⟨hst, hjl⟩, by show (atL LB x).length - (j + 1) < (atL LB x).length - j; omega⟩
      simp only [go_sem, Nat.reduceBEq]
      try exact rfl
    ·have hf : mf (y : Int) L2 = none := by rw [hLd2, if_neg (fun h => hyK h.1)]
     (repeat' (first | exact trivial | (with_reducible first | apply awA | apply awB | apply awC | apply awE | apply awF | apply awH | apply awK) | ((with_reducible first | apply awn | apply awo | refine awQ ?_); intro r hr; simp only [go_sem, Nat.reduceBEq, Nat.reduceLT, Nat.reduceLeDiff, e2, zj, gj, hwj, zq, zY, Nat.zero_add] at hr; subst hr; (first | refine awV ?_ ?_ | refine awW ?_ ?_ | (refine zf (fun h => ?_) (fun h => ?_) <;> (try simp only [go_sem, reduceCtorEq] at h) <;> (try (exfalso; omega))))) | (refine z7 (za _) (d := 21) (L := L2) (f := fun _ => AV.dead) (key := (y : Int)) (z := .int .i64 0) rfl rfl ⟨by decide, by decide⟩ rfl rfl rfl rfl t83 rfl t3 rfl z8 rfl rfl (by rw [hf]) ?_))) <;> (try omega)
     refine ⟨(j + 1, cw, W, b'), ?_, ⟨hin.skip hy hyK, hjl⟩, by show (atL LB x).length - (j + 1) < (atL LB x).length - j; omega⟩
     simp only [go_sem, Nat.reduceBEq]
     try exact rfl
   ·have e2 : ((j : Int) < ((atL LB x).length : Int)) = False := eq_false (by omega)
    (repeat' (first | exact trivial | (with_reducible first | apply awA | apply awE | apply awF | apply awH | apply awI | apply awK) | ((with_reducible first | apply awn | refine awQ ?_); intro r hr; simp only [go_sem, Nat.reduceBEq, Nat.reduceLT, e2, hwi] at hr; subst hr; (first | refine awV ?_ ?_ | (refine zf (fun h => ?_) (fun h => ?_) <;> (try simp only [go_sem, reduceCtorEq] at h) <;> (try (exfalso; omega))))))) <;> (try omega)
    have hlv := hin.leave hc (by omega)
    obtain ⟨m, hm⟩ := hin.pre
    refine ⟨(i + 1, L2, cw, W, b'), ?_, ⟨hlv, by rw [hm, List.length_append]; show i + 1 ≤ _; omega, hLs2, fun k => by show mf (k : Int) L2 = if k ∈ K ∧ k ∉ b'.take (i + 1) then some () else none; rw [hLd2, hm, List.take_append_of_le_length (by omega)]⟩, by show nn - (i + 1) < nn - i; omega⟩
    simp only [go_sem, Nat.reduceBEq]
    try exact rfl
  ·have e1 : ((i : Int) < (b.length : Int)) = False := eq_false (by omega)
   (repeat' (first | exact trivial | (with_reducible first | apply awA | apply awD | apply awE | apply awF | apply awH | apply awK) | ((with_reducible first | apply awn | refine awQ ?_ | refine uh ?_); intro r hr; simp only [go_sem, Nat.reduceBEq, Nat.reduceLT, e1] at hr; subst hr; (first | refine awV ?_ ?_ | refine xi ?_ ?_ | (refine zf (fun h => ?_) (fun h => ?_) <;> (try simp only [go_sem, reduceCtorEq] at h) <;> (try (exfalso; omega))))))) <;> (try omega)
   all_goals first | (refine ⟨L, ⟨hLs, fun C hC x hx => ?_⟩, AV.up_rfl _, ?_⟩) | skip
   ·have h1 := hp.cy C (by rw [← hK]; exact hC) x hx
    have h2 := (hC x hx).1
    rw [hK] at h2
    have h3 := hL x
    rw [if_pos ⟨h2, fun hm => h1 (List.mem_of_mem_take hm)⟩] at h3
    obtain ⟨bb, hbb⟩ := ui h3
    exact List.mem_map.2 ⟨_, hbb, rfl⟩
   ·repeat first | exact zo | refine zh rfl ?_
 ·refine ⟨?_⟩
  obtain ⟨bx, kx, ux⟩ := x
  have hpos := hM.pos _ hx
  obtain ⟨k, rfl⟩ : ∃ k : Nat, kx = k := ⟨kx.toNat, by simp only at hpos; omega⟩
  have hkK : k ∈ K := by rw [← hK]; exact List.mem_map.2 ⟨_, hx, by simp⟩
  have hkV : k ∉ yM V := fun h => by
   obtain ⟨e', he', h2⟩ := List.mem_map.1 h
   have hp' := hM.pos e' (hV e' he')
   have : e' = (bx, (k : Int), ux) := yD hM.kd (hV e' he') hx (by show e'.2.1 = (k : Int); omega)
   subst this
   exact hxn (List.mem_map.2 ⟨_, he', rfl⟩)
  have hV2 : ∀ e ∈ V ++ [(bx, (k : Int), ux)], e ∈ M := fun e he => by
   rcases List.mem_append.1 he with h | h
   ·exact hV e h
   ·simp at h; subst h; exact hx
  have hVn2 : ((V ++ [(bx, (k : Int), ux)]).map (·.1)).Nodup := by
   rw [List.map_append, List.nodup_append]
   exact ⟨hVn, by simp, fun a ha b hb hab => by simp at hb; subst hb; subst hab; exact hxn ha⟩
  have hVl2 : (V ++ [(bx, (k : Int), ux)]).length ≤ M.length := by
   refine yv ?_ hV2
   rw [List.Nodup, List.pairwise_map] at hVn2
   exact hVn2.imp fun h e => h (by rw [e])
  have hkV2 : ∀ y, y ∈ yM (V ++ [(bx, (k : Int), ux)]) ↔ y ∈ yM V ∨ y = k := fun y => by simp [yM]
  have hVm : (V.map (·.1)) ++ [bx] = (V ++ [(bx, (k : Int), ux)]).map (·.1) := by simp
  have hcl0 := hLO k
  have hW0 := hW k
  rw [if_neg hkV] at hW0
  (repeat' (first | exact trivial | (with_reducible first | apply awA | apply awB | apply awC | apply awF) | ((with_reducible first | apply awn | apply awo | refine awQ ?_); intro r hr; simp only [go_sem, Nat.reduceBEq, Nat.reduceLT] at hr; subst hr; (first | refine awV ?_ ?_ | refine awW ?_ ?_ | (refine zf (fun h => ?_) (fun h => ?_) <;> (try simp only [go_sem, reduceCtorEq] at h) <;> (try (exfalso; omega))))) | (refine xn (d := 21) (u := 24) (L := M) (f := fun _ => AV.dead) (e := (bx, (k : Int), ux)) rfl rfl ⟨by decide, by decide⟩ rfl rfl rfl rfl hx hM.nd ?_) | (refine kY (za _) (d := 10006) (L := LO) (f := lsF) (key := (k : Int)) (z := .slice none 0 0) (r := .lst 1 (v8 (yC (atL LO k)))) rfl rfl ⟨by decide, by decide⟩ rfl rfl rfl rfl zbV rfl t3 rfl uY rfl rfl (Kg _) ?_))) <;> (try omega)
  refine zC [1, 2, 7, 8, 9, 24, 10, 31, 32, 33] [10003, 10006, 10007, 21, 22, 24, 56] (fun q : Nat × Nat × List (Nat × Int × Int) => ⟨[(1, true, .map 10006), (2, true, .map 10007), (7, true, .map 21), (8, true, .map 22), (9, true, .ref 3 1 56 0 b.length), (24, true, .ptr 1 24 0 0), (10, true, vI k), (31, true, .lst 1 (v8 (yC (atL LO k)))), (32, true, vI (atL LO k).length), (33, true, vI q.1)],
   [(10003, .mapr c (mK M)), (10006, .mapr c1 (mL LO)), (10007, .mapr c2 (mL LB)), (21, .mapr c (mK M)), (22, .mapr q.2.1 (mW q.2.2)), (24, .iter 21 true c (V.map (·.1) ++ [bx])), (56, .row 3 1 (v8 (yC b)))]⟩)
   (fun q => q.1 ≤ (atL LO k).length ∧ ∀ y, wH q.2.2 y = if y = k then (qB K [] ((atL LO k).take q.1) : Int) else wH W y) (fun q => (atL LO k).length - q.1) (0, cw, W)
   (by simp only [zq, zY, go_sem, Nat.reduceBEq] <;> exact rfl) ⟨Nat.zero_le _, fun y => by
    by_cases hy : y = k
    ·subst hy; rw [if_pos rfl, hW0]; simp [qB]
    ·rw [if_neg hy]⟩ ?_
  intro ⟨j, cw', W'⟩ ⟨hj, hW'⟩
  simp only at hj hW' ⊢
  have hwj := zg (n := (j : Int) + 1) (by omega)
  have zj : ((j : Int)).toNat = j := by omega
  have hck := hW' k
  rw [if_pos rfl] at hck
  have hdl := Ki K [] ((atL LO k).take j)
  rw [List.length_take] at hdl
  have hwk : IntKind.i64.wrap (wH W' k + 1) = wH W' k + 1 := zg (by omega)
  by_cases hjl : j < (atL LO k).length
  ·have e2 : ((j : Int) < ((atL LO k).length : Int)) = True := eq_true (by omega)
   obtain ⟨y, hy⟩ : ∃ y, (atL LO k)[j]? = some y := ⟨_, List.getElem?_eq_getElem hjl⟩
   have gj := xE hy
   have hdt := Kh (K := K) hy
   by_cases hyK : y ∈ K
   ·have hf : mf (y : Int) M = some () := (hM.mem y).1 (by rw [hK]; exact hyK)
    rw [if_pos hyK] at hdt
    (repeat' (first | exact trivial | (with_reducible first | apply awA | apply awB | apply awC | apply awF | apply awI) | ((with_reducible first | apply awn | apply awo | refine awQ ?_); intro r hr; simp only [go_sem, Nat.reduceBEq, Nat.reduceLT, Nat.reduceLeDiff, e2, zj, gj, hwj, hwk, zq, zY, Nat.zero_add] at hr; subst hr; (first | refine awV ?_ ?_ | refine awW ?_ ?_ | (refine zf (fun h => ?_) (fun h => ?_) <;> (try simp only [go_sem, reduceCtorEq] at h) <;> (try (exfalso; omega))))) | (refine z7 (za _) (d := 21) (L := M) (f := fun _ => AV.dead) (key := (y : Int)) (z := .int .i64 0) rfl rfl ⟨by decide, by decide⟩ rfl rfl rfl rfl t83 rfl t3 rfl z8 rfl rfl (by rw [hf]) ?_) | (refine z7 (za _) (d := 22) (L := W') (f := fun z => vI z) (key := (k : Int)) (z := .int .i64 0) (r := vI (wH W' k)) rfl rfl ⟨by decide, by decide⟩ rfl rfl rfl rfl t83 rfl t3 rfl z8 rfl rfl (je _) ?_) | (refine qi (za _) (d := 22) (L := W') (f := fun z => vI z) (key := (k : Int)) (wH W' k + 1) rfl rfl rfl rfl rfl rfl rfl rfl (.inl rfl) t83 rfl t3 rfl rfl rfl rfl ?_))) <;> (try omega)
    refine ⟨(j + 1, vY cw' (k : Int) W', wj cw' (k : Int) (wH W' k + 1) W'), ?_, ⟨hjl, fun z => ?_⟩, by show (atL LO k).length - (j + 1) < (atL LO k).length - j; omega⟩
    ·simp only [go_sem, Nat.reduceBEq]
     try exact rfl
    ·show wH (wj cw' (k : Int) (wH W' k + 1) W') z = if z = k then (qB K [] ((atL LO k).take (j + 1)) : Int) else wH W z
     rw [jf, hdt, hck]
     by_cases hz : z = k
     ·rw [if_pos hz, if_pos hz]; omega
     ·rw [if_neg hz, if_neg hz, hW', if_neg hz]
   ·have hf : mf (y : Int) M = none := by
     cases hq : mf (y : Int) M with
     | none => rfl
     | some a => exact absurd (by rw [← hK]; exact (hM.mem y).2 hq) hyK
    rw [if_neg hyK] at hdt
    (repeat' (first | exact trivial | (with_reducible first | apply awA | apply awB | apply awC | apply awF | apply awI) | ((with_reducible first | apply awn | apply awo | refine awQ ?_); intro r hr; simp only [go_sem, Nat.reduceBEq, Nat.reduceLT, Nat.reduceLeDiff, e2, zj, gj, hwj, zq, zY, Nat.zero_add] at hr; subst hr; (first | refine awV ?_ ?_ | refine awW ?_ ?_ | (refine zf (fun h => ?_) (fun h => ?_) <;> (try simp only [go_sem, reduceCtorEq] at h) <;> (try (exfalso; omega))))) | (refine z7 (za _) (d := 21) (L := M) (f := fun _ => AV.dead) (key := (y : Int)) (z := .int .i64 0) rfl rfl ⟨by decide, by decide⟩ rfl rfl rfl rfl t83 rfl t3 rfl z8 rfl rfl (by rw [hf]) ?_))) <;> (try omega)
    refine ⟨(j + 1, cw', W'), ?_, ⟨hjl, fun z => ?_⟩, by show (atL LO k).length - (j + 1) < (atL LO k).length - j; omega⟩
    ·simp only [go_sem, Nat.reduceBEq]
     try exact rfl
    ·show wH W' z = if z = k then (qB K [] ((atL LO k).take (j + 1)) : Int) else wH W z
     rw [hdt, hW', Nat.add_zero]
  ·have e2 : ((j : Int) < ((atL LO k).length : Int)) = False := eq_false (by omega)
   have hjt : (atL LO k).take j = atL LO k := List.take_of_length_le (by omega)
   rw [hjt] at hck hW'
   have hW3 : ∀ y, wH W' y = if y ∈ yM (V ++ [(bx, (k : Int), ux)]) then (qB K [] (atL LO y) : Int) else 0 := fun y => by
    rw [hW']
    by_cases hy : y = k
    ·subst hy; rw [if_pos rfl, if_pos ((hkV2 y).2 (.inr rfl))]
    ·rw [if_neg hy, hW]
     by_cases hyV : y ∈ yM V
     ·rw [if_pos hyV, if_pos ((hkV2 y).2 (.inl hyV))]
     ·rw [if_neg hyV, if_neg (fun h => by rcases (hkV2 y).1 h with h | h; (· exact hyV h); exact hy h)]
   by_cases hz : qB K [] (atL LO k) = 0
   ·have ez : (wH W' k = 0) = True := eq_true (by rw [hck, hz]; rfl)
    have ht : (v8 (yC b)).take b.length = v8 (yC b) := by rw [yT, List.take_of_length_le (by rw [zY]; omega)]
    have ha := wT b k
    have hl2 : (b ++ [k]).length = b.length + 1 := by simp
    (repeat' (first | exact trivial | (with_reducible first | apply awA | apply awE | apply awF | apply awH | apply awI | apply awK) | ((with_reducible first | apply awn | apply awo | refine awQ ?_); intro r hr; simp only [go_sem, Nat.reduceBEq, Nat.reduceLT, Nat.reduceLeDiff, Nat.reduceAdd, Nat.reduceMul, e2, ez, zq, zY, ht, ha, hl2, yk, qn, Kf] at hr; subst hr; (first | refine awV ?_ ?_ | refine awW ?_ ?_ | (refine zf (fun h => ?_) (fun h => ?_) <;> (try simp only [go_sem, reduceCtorEq] at h) <;> (try (exfalso; omega))))) | (refine z7 (za _) (d := 22) (L := W') (f := fun z => vI z) (key := (k : Int)) (z := .int .i64 0) (r := vI (wH W' k)) rfl rfl ⟨by decide, by decide⟩ rfl rfl rfl rfl t83 rfl t3 rfl z8 rfl rfl (je _) ?_))) <;> (try omega)
    refine ⟨(V ++ [(bx, (k : Int), ux)], cw', W', b ++ [k]), ?_, ⟨hV2, hVn2, hW3, ?_, fun y => ?_⟩, by show M.length - (V ++ [(bx, (k : Int), ux)]).length < M.length - V.length; rw [List.length_append] at hVl2 ⊢; simp only [List.length_singleton] at hVl2 ⊢; omega⟩
    ·simp only [hVm, hl2, go_sem, Nat.reduceBEq]
     try exact rfl
    ·show (b ++ [k]).Nodup
     rw [List.nodup_append]
     exact ⟨hbn, by simp, fun z hz' b' hb' hab => by rw [List.mem_singleton] at hb'; rw [hab, hb'] at hz'; exact hkV ((hb k).1 hz').1⟩
    ·show y ∈ b ++ [k] ↔ y ∈ yM (V ++ [(bx, (k : Int), ux)]) ∧ qB K [] (atL LO y) = 0
     rw [List.mem_append, hb, hkV2, List.mem_singleton]
     constructor
     ·rintro (⟨h1, h2⟩ | rfl)
      ·exact ⟨.inl h1, h2⟩
      ·exact ⟨.inr rfl, hz⟩
     ·rintro ⟨h1 | h1, h2⟩
      ·exact .inl ⟨h1, h2⟩
      ·exact .inr h1
   ·have ez : (wH W' k = 0) = False := eq_false (by rw [hck]; omega)
    (repeat' (first | exact trivial | (with_reducible first | apply awA | apply awC | apply awE | apply awF | apply awH | apply awI | apply awK) | ((with_reducible first | apply awn | apply awo | refine awQ ?_); intro r hr; simp only [go_sem, Nat.reduceBEq, Nat.reduceLT, e2, ez] at hr; subst hr; (first | refine awV ?_ ?_ | refine awW ?_ ?_ | (refine zf (fun h => ?_) (fun h => ?_) <;> (try simp only [go_sem, reduceCtorEq] at h) <;> (try (exfalso; omega))))) | (refine z7 (za _) (d := 22) (L := W') (f := fun z => vI z) (key := (k : Int)) (z := .int .i64 0) (r := vI (wH W' k)) rfl rfl ⟨by decide, by decide⟩ rfl rfl rfl rfl t83 rfl t3 rfl z8 rfl rfl (je _) ?_))) <;> (try omega)
    refine ⟨(V ++ [(bx, (k : Int), ux)], cw', W', b), ?_, ⟨hV2, hVn2, hW3, hbn, fun y => ?_⟩, by show M.length - (V ++ [(bx, (k : Int), ux)]).length < M.length - V.length; rw [List.length_append] at hVl2 ⊢; simp only [List.length_singleton] at hVl2 ⊢; omega⟩
    ·simp only [hVm, go_sem, Nat.reduceBEq]
     try exact rfl
    ·show y ∈ b ↔ y ∈ yM (V ++ [(bx, (k : Int), ux)]) ∧ qB K [] (atL LO y) = 0
     rw [hb, hkV2]
     exact ⟨fun h => ⟨.inl h.1, h.2⟩, fun h => ⟨h.1.resolve_right fun e => by subst e; exact hz h.2, h.2⟩⟩
end
section
open Go.RowKit Go.MapKept
open Go.ChangeMaps (setBlock)
def AV.lo : AV → Bool
 | .agg cs => loL cs
 | .tup cs => loL cs
 | .ref _ _ e _ _ => decide (e < 20000)
 | .rfx _ _ e _ _ _ => decide (e < 20000)
 | .ptr _ e _ _ => decide (e < 20000)
 | .map e => decide (e < 20000)
 | .v _ => true
 | .lst .. => true
 | .lsx .. => true
 | .elt .. => true
 | .slen _ => true
 | .fn _ cs => loL cs
 | .ifc _ a => a.lo
 | .dead => true
where
 loL : List AV → Bool
 | [] => true
 | c :: cs => c.lo && loL cs
theorem AV.loL_mem {cs : List AV} (h : AV.lo.loL cs = true) : ∀ c ∈ cs, c.lo = true := by
 induction cs with
 | nil => intro c hc; cases hc
 | cons c cs ih =>
  simp only [AV.lo.loL, Bool.and_eq_true] at h
  intro x hx
  rcases List.mem_cons.1 hx with rfl | hx
  ·exact h.1
  ·exact ih h.2 x hx
def AObj.lo : AObj → Prop
 | .row .. => True
 | .var cs => AV.lo.loL cs = true
 | .mapo _ => True
 | .mapr _ es => ∀ e ∈ es, e.2.2.lo = true
 | .mapl .. => True
 | .iter e .. => e < 20000
def loO : List (Nat × AObj) → Prop
 | [] => True
 | p :: l => (p.1 < 20000 ∧ p.2.lo) ∧ loO l
def loF : List (Nat × Bool × AV) → Prop
 | [] => True
 | p :: l => p.2.2.lo = true ∧ loF l
theorem zas {l : List (Nat × AObj)} (h : loO l) {d : Nat} {o : AObj} (hd : lk l d = some o) : d < 20000 ∧ o.lo := by
 induction l with
 | nil => cases hd
 | cons p l ih =>
  obtain ⟨k, a⟩ := p
  rw [yg] at hd
  by_cases hk : k = d
  ·rw [zO hk] at hd; injection hd with hd; subst hd; subst hk; exact h.1
  ·rw [zK hk] at hd; exact ih h.2 hd
theorem zat {l : List (Nat × Bool × AV)} (h : loF l) {t : Nat} {p : Bool × AV} (hd : lk l t = some p) : p.2.lo = true := by
 induction l with
 | nil => cases hd
 | cons q l ih =>
  obtain ⟨k, a⟩ := q
  rw [yg] at hd
  by_cases hk : k = t
  ·rw [zO hk] at hd; injection hd with hd; subst hd; exact h.1
  ·rw [zK hk] at hd; exact ih h.2 hd
section
variable {F F' : Nat → Prop} {β β' : Nat → Option Nat} {w w' : World}
theorem AVR.klo {a : AV} {x : Value} (u : Nat) (h : AVR F β w a x) (hlo : a.lo = true) (hF : ∀ b, F b → F' b) (hβ : ∀ e b, e < 20000 → e ≠ u → β e = some b → β' e = some b) : AVR F' β' w (a.kill u) x := by
 induction h with
 | s h =>
  cases h with
  | v h => exact .s (.v h)
  | lst g h1 h2 h3 h4 h5 h6 h7 => exact .s ((SVR.lst g h1 h2 h3 h4 h5 h6 h7).mono hF fun _ _ => rfl)
  | lsx h => exact .s ((SVR.lsx h).mono hF fun _ _ => rfl)
 | agg h1 h2 _ ih =>
  simp only [AV.kill, AV.killL_eq]
  refine .agg (by simpa using h1) h2 fun i c u' hc hu => ?_
  rw [List.getElem?_map] at hc
  rename_i cs vs _
  cases hci : cs[i]? with
  | none => rw [hci] at hc; cases hc
  | some c' => rw [hci] at hc; injection hc with hc; subst hc; exact ih i c' u' hci hu (AV.loL_mem (by simpa only [AV.lo] using hlo) c' (List.mem_of_getElem? hci))
 | tup h1 _ ih =>
  simp only [AV.kill, AV.killL_eq]
  refine .tup (by simpa using h1) fun i c u' hc hu => ?_
  rw [List.getElem?_map] at hc
  rename_i cs vs _
  cases hci : cs[i]? with
  | none => rw [hci] at hc; cases hc
  | some c' => rw [hci] at hc; injection hc with hc; subst hc; exact ih i c' u' hci hu (AV.loL_mem (by simpa only [AV.lo] using hlo) c' (List.mem_of_getElem? hci))
 | @nil t k e off =>
  by_cases he : e = u
  ·simp only [AV.kill, zO he]; exact .slen
  ·simp only [AV.kill, zK he]; exact .nil
 | @ref t k e off len c b A h1 h2 h3 h5 h6 =>
  by_cases he : e = u
  ·simp only [AV.kill, zO he]; exact .slen
  ·simp only [AV.kill, zK he]
   exact .ref (hβ e b (by simpa [AV.lo] using hlo) he h1) h2 h3 h5 h6
 | @empty t k e off A h1 =>
  by_cases he : e = u
  ·simp only [AV.kill, zO he]; exact .slen
  ·simp only [AV.kill, zK he]; exact .empty h1
 | @rfx t k e off len ext c A h ih =>
  by_cases he : e = u
  ·simp only [AV.kill, zO he]; exact .slen
  ·simp only [AV.kill, zK he] at ih ⊢; exact .rfx (ih (by simpa only [AV.lo] using hlo))
 | @ptr k e i j b h1 =>
  by_cases he : e = u
  ·simp only [AV.kill, zO he]; exact .dead
  ·simp only [AV.kill, zK he]; exact .ptr (hβ e b (by simpa [AV.lo] using hlo) he h1)
 | elt g h1 h2 h3 h4 h5 =>
  simp only [AV.kill]
  exact .elt g (hF _ h1) h2 h3 h4 (fun i j cs u hc hu => (h5 i j cs u hc hu).mono hF fun _ _ => rfl)
 | @map e b h1 =>
  by_cases he : e = u
  ·simp only [AV.kill, zO he]; exact .dead
  ·simp only [AV.kill, zK he]; exact .map (hβ e b (by simpa [AV.lo] using hlo) he h1)
 | slen => exact .slen
 | fn h0 h1 _ ih =>
  simp only [AV.kill, AV.killL_eq]
  refine .fn h0 (by simpa using h1) fun i c u' hc hu => ?_
  rw [List.getElem?_map] at hc
  rename_i f g cs vs _ _ _
  cases hci : cs[i]? with
  | none => rw [hci] at hc; cases hc
  | some c' => rw [hci] at hc; injection hc with hc; subst hc; exact ih i c' u' hci hu (AV.loL_mem (by simpa only [AV.lo] using hlo) c' (List.mem_of_getElem? hci))
 | ifc _ ih => exact .ifc (ih (by simpa only [AV.lo] using hlo))
 | dead => exact .dead
theorem xW.klo {d u : Nat} {o : AObj} (h : xW F β w d o) (hlo : o.lo) (hu : u < 20000) (hd : d < 20000) (hdu : d ≠ u) (hF : ∀ b, F b → F' b) (hβ : ∀ e b, e < 20000 → e ≠ u → β e = some b → β' e = some b) (hkid : ∀ i b, (∃ t clk es q, o = .mapl t clk es q) → β (kn d i) = some b → β' (kn d i) = some b) : xW F' β' w d (o.kill u) := by
 cases o with
 | row t k xs =>
  obtain ⟨hk, h⟩ := h
  refine ⟨hk, ?_⟩
  rcases h with h | ⟨b, arr, h1, h2, h3, h4⟩
  ·exact .inl h
  ·exact .inr ⟨b, arr, hβ d b hd hdu h1, h2, h3, fun i j cs u hc hu => by
    obtain ⟨x, hx, hr⟩ := h4 i j cs u hc hu
    exact ⟨x, hx, hr.mono hF fun _ _ => rfl⟩⟩
 | var cs =>
  obtain ⟨b, arr, t, h1, h2, h3, h4⟩ := h
  refine ⟨b, arr, t, hβ d b hd hdu h1, h2, by simpa [AV.killL_eq] using h3, fun j u hu => ?_⟩
  rw [AV.killL_eq, List.getElem?_map] at hu
  cases hc : cs[j]? with
  | none => rw [hc] at hu; cases hu
  | some u' =>
   rw [hc] at hu
   injection hu with hu
   subst hu
   obtain ⟨x, hx, hr, ho⟩ := h4 j u' hc
   exact ⟨x, hx, hr.klo _ (AV.loL_mem hlo u' (List.mem_of_getElem? hc)) hF hβ, ho⟩
 | mapo es =>
  obtain ⟨b, arr, clk, h1, h2, h3, h4⟩ := h
  exact ⟨b, arr, clk, hβ d b hd hdu h1, h2, h3, fun i e m he hm => ⟨(h4 i e m he hm).1.mono hF fun _ _ => rfl, (h4 i e m he hm).2.mono hF fun _ _ => rfl⟩⟩
 | mapr clk es =>
  obtain ⟨b, arr, h1, h2, h3, h4⟩ := h
  refine ⟨b, arr, hβ d b hd hdu h1, h2, by rw [ul]; exact h3, fun i e' m he hm => ?_⟩
  obtain ⟨e0, he0, rfl⟩ := um he
  obtain ⟨g1, g2, g3⟩ := h4 i e0 m he0 hm
  exact ⟨g1, g2.mono hF fun _ _ => rfl, g3.klo _ (hlo e0 (List.mem_of_getElem? he0)) hF hβ⟩
 | mapl t clk es q =>
  obtain ⟨b, arr, h1, h2, h3, h4⟩ := h
  simp only [AObj.kill]
  rw [decide_eq_true hu]
  exact ⟨b, arr, hβ d b hd hdu h1, h2, h3, fun i x m hx hm => ⟨(h4 i x m hx hm).1, (h4 i x m hx hm).2.1, fun hq => ((h4 i x m hx hm).2.2 hq).step (fun c hc => hkid i c ⟨_, _, _, _, rfl⟩ hc) fun _ _ => rfl⟩⟩
 | iter e' ok since seen =>
  obtain ⟨r, b, last, h1, h2, h3⟩ := h
  refine ⟨r, b, last, hβ d r hd hdu h1, h2, fun hok => ?_⟩
  simp only [Bool.and_eq_true, Bool.not_eq_true', beq_eq_false_iff_ne] at hok
  exact hβ e' b hlo hok.2 (h3 hok.1)
end
section
variable {P : Program} {T : Nat → Option TyD} {E : Env} {s : AState} {tm : Array Value} {w w' : World} {β β' : Nat → Option Nat} {n : Nat} {ops : Array Oper} {Q : Exit → AState → Prop} {rest : List Oper} {o : Oper} {F : Nat → Prop}
theorem SRel.owners (hs : SRel E s tm w β) (d u : Nat) (hu : u < 10000) (hlF : loF s.fr) (hlO : loO s.ob) (hinj : ∀ e f b, β' e = some b → β' f = some b → e = f) (hsub : ∀ e b, β' e = some b → ∃ e', β e' = some b ∧ (e' = e ∨ e < 15000 ∨ 20000 ≤ e) ∧ (e = e' ∨ e' < 10000 ∨ 20000 ≤ e'))
  (hkeep : ∀ e b, e < 20000 → e ≠ u → β e = some b → β' e = some b) (hkid : ∀ e i b, e ≠ d → e < 20000 → β (kn e i) = some b → β' (kn e i) = some b) :
  SRel E { fr := (s.drop u).fr, ob := rm d (s.drop u).ob } tm w β' := by
 have hF : ∀ b, FF E β w b → FF E β' w b := fun b ⟨h1, h2, h3⟩ => ⟨h1, h2, fun e he => by obtain ⟨e', h, _⟩ := hsub e b he; exact h3 e' h⟩
 have hE : ∀ e b, E.β0 e = some b → 10000 ≤ e ∧ e < 20000 := E.hβ
 refine ⟨hinj, fun e b h => ?_, hs.old, fun e o ho => ?_, fun t g a ht hg => ?_, fun t a ht => ?_, fun e b hlt he => hkeep e b (by omega) (by have := hE e b he; omega) (hs.fx e b hlt he), hs.fs⟩
 ·obtain ⟨e', h1, h2, h3⟩ := hsub e b h
  have h4 := hs.rng e' b h1
  refine ⟨?_, h4.2⟩
  rcases h4.1 with h5 | h5
  ·exact .inl h5
  ·have h6 := hE e' b h5
   have : e = e' := by omega
   rw [this]
   exact .inr h5
 ·have ho' : lk (rm d (s.drop u).ob) e = some o := ho
  rw [ZV] at ho'
  by_cases hed : e = d
  ·rw [zO hed] at ho'; cases ho'
  ·rw [zK hed, qa] at ho'
   by_cases heu : e = u
   ·rw [zO heu] at ho'; cases ho'
   ·rw [zK heu] at ho'
    cases hl : lk s.ob e with
    | none => rw [hl] at ho'; cases ho'
    | some o' =>
     rw [hl] at ho'
     injection ho' with ho'
     subst ho'
     obtain ⟨g1, g2⟩ := zas hlO hl
     exact (hs.ob e o' hl).klo g2 (by omega) g1 heu hF hkeep fun i b _ h => hkid e i b hed g1 h
 ·have ht' : lk (s.drop u).fr t = some (g, a) := ht
  rw [vH] at ht'
  cases hl : lk s.fr t with
  | none => rw [hl] at ht'; cases ht'
  | some p =>
   obtain ⟨g', a'⟩ := p
   rw [hl] at ht'
   injection ht' with ht'
   injection ht' with h1 h2
   subst h1
   subst h2
   exact (hs.fr t g' a' hl hg).klo u (zat hlF hl) hF hkeep
 ·have ht' : lk (s.drop u).fr t = some (false, a) := ht
  rw [vH] at ht'
  cases hl : lk s.fr t with
  | none => rw [hl] at ht'; cases ht'
  | some p =>
   obtain ⟨g', a'⟩ := p
   rw [hl] at ht'
   injection ht' with ht'
   injection ht' with h1 h2
   subst h1
   exact hs.un t a' hl
def mfi {α : Type} (k : Int) : List (Nat × Int × α) → Option Nat
 | [] => none
 | (_, k', _) :: L => if k' = k then some 0 else (mfi k L).map (· + 1)
theorem zcS {key : Int} : ∀ (es : List (Nat × Int × List Int)) (ms : List MapEntry) (i : Nat), ms.length = es.length → (∀ (i : Nat) (e : Nat × Int × List Int) (m : MapEntry), es[i]? = some e → ms[i]? = some m → m.born = e.1 ∧ m.key = .int .i64 e.2.1) →
  (∃ q e m, es[q]? = some e ∧ ms[q]? = some m ∧ e.2.1 = key ∧ mf key es = some e.2.2 ∧ mfi key es = some q ∧ (∀ c v, wj c key v es = es.set q (e.1, key, v)) ∧ Instr.findNow (.int .i64) (.int .i64 key) ms i = some (some (i + q, m.val))) ∨
  (mf key es = none ∧ mfi key es = none ∧ (∀ c v, wj c key v es = es ++ [(c, key, v)]) ∧ Instr.findNow (.int .i64) (.int .i64 key) ms i = some none) := by
 intro es
 induction es with
 | nil =>
  intro ms i hl _
  have : ms = [] := List.eq_nil_of_length_eq_zero (by simpa using hl)
  subst this
  exact .inr ⟨rfl, rfl, fun _ _ => rfl, rfl⟩
 | cons e es ih =>
  intro ms i hl h
  obtain ⟨b, k, a⟩ := e
  cases ms with
  | nil => simp at hl
  | cons m ms =>
   have h0 := h 0 (b, k, a) m rfl rfl
   have hn : Instr.sameNow (.int .i64) (.int .i64 key) m.key = some (decide (key = k)) := by rw [h0.2]; simp [Instr.sameNow, ko]
   by_cases hkk : k = key
   ·subst hkk
    refine .inl ⟨0, _, m, rfl, rfl, rfl, by simp [mf], by simp [mfi], fun c v => by simp [wj], ?_⟩
    rw [decide_eq_true rfl] at hn
    simp [Instr.findNow, hn]
   ·rw [decide_eq_false (Ne.symm hkk)] at hn
    rcases ih ms (i + 1) (by simpa using hl) (fun i e m h1 h2 => h (i + 1) e m (by simpa using h1) (by simpa using h2)) with ⟨q, e, m', g1, g2, g3, g4, g5, g6, g7⟩ | ⟨g4, g5, g6, g7⟩
    ·exact .inl ⟨q + 1, e, m', by simpa using g1, by simpa using g2, g3, by simp [mf, hkk, g4], by simp [mfi, hkk, g5], fun c v => by simp [wj, hkk, g6 c v], by simp [Instr.findNow, hn, g7]; omega⟩
    ·exact .inr ⟨by simp [mf, hkk, g4], by simp [mfi, hkk, g5], fun c v => by simp [wj, hkk, g6 c v], by simp [Instr.findNow, hn, g7]⟩
theorem ZG {d e i j : Nat} (hd : d < 20000) (he : e < 20000) (h : kn d i = kn e j) : d = e ∧ i = j := by unfold kn at h; omega
end
end
end Go.Proofs.Ytfjajlcjifnceaa

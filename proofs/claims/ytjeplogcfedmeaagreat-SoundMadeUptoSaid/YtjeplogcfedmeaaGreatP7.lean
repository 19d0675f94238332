import Derived.Maps.RangeRun
import Derived.Laws.Externs
import Derived.Laws.CopyRow
import Derived.Lib.SliceRun
import Derived.Test.YtjeplogcfedmeaaGreatP6
set_option linter.all false
set_option maxRecDepth 100000
set_option maxHeartbeats 8000000
namespace Go.Proofs.YtjeplogcfedmeaaGreat
section
open Go.RowKit
section
variable {P : Program} {T : Nat → Option TyD} {tm : Array Value} {w w' : World} {β β' : Nat → Option Nat} {F : Nat → Prop} {X : Nat → Prop}
theorem Qp (dp : Nat) (hT : TOK P T) {xs ys : List AV} {vs us : Array Value} (hv : ∀ (i : Nat) (c : AV) (u : Value), xs[i]? = some c → vs[i]? = some u → AVR F β w c u) (hu : ∀ (i : Nat) (c : AV) (u : Value), ys[i]? = some c → us[i]? = some u → AVR F β w c u)
  (lv : vs.size = xs.length) (lu : us.size = ys.length) : ∀ (l : List Field) (fs : List (Nat × Nat)) (i : Nat) (as' bs : List AV) (e : Bool), l.map (fun f => (f.offset, f.type)) = fs → (∀ f ∈ l, f.name ≠ "_") → eqL T i fs as' bs = some e →
  as' = xs.drop i → bs = ys.drop i → ∀ w', (Op.eqFields (dp + 1) vs us l).run P w' = .ok e w' := by
 intro l
 induction l with
 | nil =>
  intro fs i as' bs e hfs _ he _ _ w'
  subst hfs
  cases as' <;> cases bs <;> simp only [List.map_nil, eqL, Option.some.injEq, reduceCtorEq] at he
  subst he
  rfl
 | cons f l ih =>
  intro fs i as' bs e hfs hn he ha hb w'
  subst hfs
  rw [List.map_cons] at he
  cases as' with
  | nil => simp [eqL] at he
  | cons a as' =>
   cases bs with
   | nil => cases a <;> simp [eqL] at he
   | cons b bs =>
    cases a <;> cases b <;> simp only [eqL, reduceCtorEq] at he
    rename_i x y
    cases hoi : f.offset == i with
    | false => rw [hoi] at he; cases he
    | true =>
     rw [hoi] at he
     have hoi' : f.offset = i := by simpa using hoi
     simp only [cond_true] at he
     split at he
     case h_2 => cases he
     rename_i d hd
     split at he
     case h_2 => cases he
     rename_i e1 e2 h1 h2
     injection he with he
     subst he
     have hxi : xs[i]? = some (.v x) := by
      have := congrArg (fun l => l[0]?) ha
      simp only [List.getElem?_cons_zero, List.getElem?_drop, Nat.add_zero] at this
      exact this.symm
     have hyi : ys[i]? = some (.v y) := by
      have := congrArg (fun l => l[0]?) hb
      simp only [List.getElem?_cons_zero, List.getElem?_drop, Nat.add_zero] at this
      exact this.symm
     have hvi : vs[i]? = some x := by
      have hlt : i < vs.size := by rw [lv]; exact zG hxi
      have := hv i _ vs[i] hxi (Array.getElem?_eq_getElem hlt)
      cases this with | s h => cases h; rw [Array.getElem?_eq_getElem hlt]
     have hui : us[i]? = some y := by
      have hlt : i < us.size := by rw [lu]; exact zG hyi
      have := hu i _ us[i] hyi (Array.getElem?_eq_getElem hlt)
      cases this with | s h => cases h; rw [Array.getElem?_eq_getElem hlt]
     have hpart : ∀ (zs : Array Value) (z : Value), zs[i]? = some z → (part f.type zs f.offset).run P w' = .ok z w' := fun zs z hz => by
      rw [hoi']
      simp [part, kD hT hd h1 w', hz]
     have hrest := ih _ (i + 1) as' bs e2 rfl (fun g hg => hn g (by simp [hg])) h2 (by
      have := congrArg List.tail ha
      simpa [List.tail_drop] using this) (by
      have := congrArg List.tail hb
      simpa [List.tail_drop] using this) w'
     rw [Op.eqFields, if_pos (hn f (by simp))]
     simp only [Sem.run_bind, hpart vs x hvi, hpart us y hui, Result.andThen_ok, WI hT hd h1 dp w']
     cases e1 with
     | true => simpa using hrest
     | false => rfl
variable {E : Env} {s : AState} {n : Nat} {ops : Array Oper} {Q : Exit → AState → Prop} {D : Dr} {rest : List Oper} {o : Oper}
theorem Y6 {xs : List AV} {vs : Array Value} (k : Nat) (hv : ∀ (i : Nat) (c : AV) (u : Value), xs[i]? = some c → vs[i]? = some u → AVR F β w c u) (m : Nat) : ∀ (i : Nat) (c : AV) (u : Value), ((xs.drop k).take m)[i]? = some c → (vs.extract k (k + m))[i]? = some u → AVR F β w c u := fun i c u hc hu => by
 rcases Nat.lt_or_ge i m with hi | hi
 ·rw [List.getElem?_take_of_lt hi, List.getElem?_drop] at hc
  rw [Array.getElem?_extract] at hu
  split at hu
  ·exact hv (k + i) c u hc hu
  ·cases hu
 ·rw [List.getElem?_eq_none (by rw [List.length_take]; omega)] at hc; cases hc
theorem ud (ra : AV) (hg : ya ops s o.guard = some false) (hkd : wL o.op = true) (hdst : yY n o.dst) (hr : zT P E n ops D rest Q (s.put o.dst false ra)) : yu P E n ops D (o :: rest) Q s := by
 intro a w β hn hd hs
 have hw := yq (ops := ops) hs hg
 obtain ⟨g1, g2, g3⟩ := yW hn hd hs hdst false ra (v := undef) (fun h => by cases h) (fun _ => rfl)
 exact vG hkd hw (fun h => by cases h) (fun _ => rfl) (hr _ _ _ g1 g2 g3)
theorem Kw (hT : TOK P T) {x y : Operand} {t t' ft k : Nat} {fs : List (Nat × Nat)} {d df : TyD} {xs ys : List AV} {e1 e2 : Bool} (hG : ya ops s o.guard = some true) (ho : o.op = .binOp .eql t x y t') (hdst : yY n o.dst) (hgx : s.gd x = true) (hgy : s.gd y = true)
  (hx : s.ev x = .agg xs) (hy : s.ev y = .agg ys) (hTt : T t = some d) (hsh : d.sh = .strct [(0, ft), (k, ft)] true) (hTf : T ft = some df) (hshf : df.sh = .strct fs true) (hk : df.size = k) (hlx : xs.length = k + k) (hly : ys.length = k + k)
  (h1 : eqL T 0 fs (xs.take k) (ys.take k) = some e1) (h2 : eqL T 0 fs (xs.drop k) (ys.drop k) = some e2) (hr : zT P E n ops D rest Q (s.put o.dst true (.v (.bool (e1 && e2))))) : yu P E n ops D (o :: rest) Q s := by
 intro a w β hn hd hs
 have hw := yq (ops := ops) hs hG
 have vx := hs.ev x hgx (a := a) rfl
 have vy := hs.ev y hgy (a := a) rfl
 rw [hx] at vx
 rw [hy] at vy
 generalize hux : a.eval x = ux at vx
 generalize huy : a.eval y = uy at vy
 obtain ⟨vs, rfl, lv, _, hv⟩ := xQ vx
 obtain ⟨us, rfl, lu, _, hu⟩ := xQ vy
 have hcmp := (hT t _ hTt).2.2.2
 rw [hsh] at hcmp
 obtain ⟨fields, hun, hfl, hcmp⟩ := hcmp
 obtain ⟨c1, c2, c3⟩ := hcmp rfl
 have hcf := (hT ft _ hTf).2.2.2
 rw [hshf] at hcf
 obtain ⟨ffields, hunf, hff, hcf⟩ := hcf
 obtain ⟨f1, f2, f3⟩ := hcf rfl
 have hfo : P.fieldsOf t = fields := by simp [Program.fieldsOf, hun]
 have hfof : P.fieldsOf ft = ffields := by simp [Program.fieldsOf, hunf]
 obtain ⟨g1, g2, hgl⟩ : ∃ g1 g2, fields.toList = [g1, g2] := by
  have := congrArg List.length hfl
  simp only [List.length_map, List.length_cons, List.length_nil] at this
  match fields.toList, this with
  | [g1, g2], _ => exact ⟨g1, g2, rfl⟩
 rw [hgl] at hfl c3
 simp only [List.map_cons, List.map_nil, List.cons.injEq, Prod.mk.injEq, and_true] at hfl
 obtain ⟨⟨o1, t1⟩, o2, t2⟩ := hfl
 have inner : ∀ (off : Nat) (e : Bool), eqL T 0 fs ((xs.drop off).take k) ((ys.drop off).take k) = some e → off + k ≤ vs.size → off + k ≤ us.size → ∀ w', (Op.equalIn 9999 ft (.agg (vs.extract off (off + k))) (.agg (us.extract off (off + k)))).run P w' = .ok e w' := fun off e he hl1 hl2 w' => by
  rw [run_equalIn_struct w' 9998 ft _ _ (by rw [hfof]; exact hunf) f1, hfof]
  exact Qp 9997 hT (Y6 off hv k) (Y6 off hu k) (by simp; omega) (by simp; omega) ffields.toList fs 0 _ _ e hff f3 he rfl rfl w'
 have hpart : ∀ (zs : Array Value) (off : Nat) (w' : World), off + k ≤ zs.size → (part ft zs off).run P w' = .ok (.agg (zs.extract off (off + k))) w' := fun zs off w' hz => by
  have hag : (isAgg ft).run P w' = .ok true w' := by rw [XL hT hTf w', hshf]; rfl
  simp [part, hag, xp hT hTf w', hk]
 have hb : ∀ w', (do eqGuard .eql t x y (.agg vs) (.agg us); binOp .eql t (.agg vs) (.agg us) : Sem Value).run P w' = .ok (.bool (e1 && e2)) w' := fun w' => by
  rw [Sem.run_bind, run_eqGuard_agg w' .eql t x y vs us c2, Result.andThen_ok, run_eql_struct, run_equalIn_struct w' 9999 t vs us (by rw [hfo]; exact hun) c1, hfo, hgl]
  have i1 := inner 0 e1 (by simpa using h1) (by omega) (by omega) w'
  have i2 := inner k e2 (by rw [List.take_of_length_le (by rw [List.length_drop]; omega), List.take_of_length_le (by rw [List.length_drop]; omega)]; exact h2) (by omega) (by omega) w'
  rw [Op.eqFields, if_pos (c3 g1 (by simp))]
  simp only [Sem.run_bind, o1, t1, hpart vs 0 w' (by omega), hpart us 0 w' (by omega), Result.andThen_ok, i1]
  cases e1 with
  | false => rfl
  | true =>
   simp only [Bool.not_true, Bool.false_eq_true, if_false]
   rw [Op.eqFields, if_pos (c3 g2 (by simp))]
   simp only [Sem.run_bind, o2, t2, hpart vs k w' (by omega), hpart us k w' (by omega), Result.andThen_ok, i2]
   cases e2 <;> rfl
 obtain ⟨p1, p2, p3⟩ := yW hn hd hs hdst true (.v (.bool (e1 && e2))) (v := .bool (e1 && e2)) (fun _ => .s (.v rfl)) (fun h => by cases h)
 refine vG (v := .bool (e1 && e2)) (by rw [ho]; rfl) hw (fun _ w' _ => ?_) (fun h => by cases h) (hr _ _ _ p1 p2 p3)
 simp only [execOp, ho, hux, huy]
 rw [Sem.run_bind, hb w']
 rfl
end
end
section
open Go.RowKit
structure CodeOK (C : List InsM) (N : List Int) : Prop where
 len : C.length ≤ 1048576
 lenN : N.length ≤ 1048576
 runs : ∀ k, k < C.length → (zg C k).op = 2 → (0 ≤ (zg C k).a ∧ (zg C k).a ≤ 64) ∧ 0 ≤ (zg C k).b ∧ (zg C k).b ≤ 64
 arms : ∀ k, k < C.length → (zg C k).op = 8 ∨ (zg C k).op = 41 → 0 ≤ (zg C k).a ∧ k + (zg C k).a < C.length
 ways : ∀ k, k < C.length → ∀ j ∈ zO C k (zg C k), 0 ≤ j
 calls : ∀ k, k < C.length → (zg C k).op = 16 → 0 ≤ (zg C k).c ∧ (zg C k).c < N.length
 entry : ∀ n ∈ N, 0 ≤ n ∧ n < C.length
theorem kW (L : LkM) : (yk L).length = L.length := by simp [yk]
theorem kX (L : LkM) : (yl L).length = L.length := by simp [yl]
theorem xh {L : LkM} {k : Nat} (h : k < L.length) : (yk L)[k]? = some (cSt (wK L k)) := by simp [yk, Zu, wK, List.getD, h]
theorem xr {L : LkM} {k : Nat} (h : k < L.length) : (yl L)[k]? = some [vB (L.getD k none).isSome] := by simp [yl, List.getD, h]
theorem kY (L : LkM) (k : Nat) (s : StM) : (yk L).set k (cSt s) = yk (L.set k (some s)) := by simp [yk, Zu, List.map_set]
theorem kZ (L : LkM) (k : Nat) (s : StM) : (yl L).set k [vB true] = yl (L.set k (some s)) := by simp [yl, List.map_set]
theorem uR {a b : StM} (h : ¬a = b) : (decide (a.place = b.place) && (decide (a.kids = b.kids) && (decide (a.table = b.table) && (decide (a.parts = b.parts) && (decide (a.free = b.free) && decide (a.left = b.left)))))) = false := by
 cases hc : (decide (a.place = b.place) && (decide (a.kids = b.kids) && (decide (a.table = b.table) && (decide (a.parts = b.parts) && (decide (a.free = b.free) && decide (a.left = b.left)))))) with
 | false => rfl
 | true =>
  exfalso
  apply h
  obtain ⟨a1, a2, a3, a4, a5, a6⟩ := a
  obtain ⟨b1, b2, b3, b4, b5, b6⟩ := b
  simp only [Bool.and_eq_true, decide_eq_true_eq] at hc
  obtain ⟨rfl, rfl, rfl, rfl, rfl, rfl⟩ := hc
  rfl
theorem Wl {a b : EfM} (h : ¬a = b) : ((decide (a.next.place = b.next.place) && (decide (a.next.kids = b.next.kids) && (decide (a.next.table = b.next.table) && (decide (a.next.parts = b.next.parts) && (decide (a.next.free = b.next.free) && decide (a.next.left = b.next.left)))))) && (decide (a.target.place = b.target.place) && (decide (a.target.kids = b.target.kids) && (decide (a.target.table = b.target.table) && (decide (a.target.parts = b.target.parts) && (decide (a.target.free = b.target.free) && decide (a.target.left = b.target.left))))))) = false := by
 cases hc : ((decide (a.next.place = b.next.place) && (decide (a.next.kids = b.next.kids) && (decide (a.next.table = b.next.table) && (decide (a.next.parts = b.next.parts) && (decide (a.next.free = b.next.free) && decide (a.next.left = b.next.left)))))) && (decide (a.target.place = b.target.place) && (decide (a.target.kids = b.target.kids) && (decide (a.target.table = b.target.table) && (decide (a.target.parts = b.target.parts) && (decide (a.target.free = b.target.free) && decide (a.target.left = b.target.left))))))) with
 | false => rfl
 | true =>
  exfalso
  apply h
  obtain ⟨⟨a1, a2, a3, a4, a5, a6⟩, ⟨c1, c2, c3, c4, c5, c6⟩⟩ := a
  obtain ⟨⟨b1, b2, b3, b4, b5, b6⟩, ⟨d1, d2, d3, d4, d5, d6⟩⟩ := b
  simp only [Bool.and_eq_true, decide_eq_true_eq] at hc
  obtain ⟨⟨rfl, rfl, rfl, rfl, rfl, rfl⟩, rfl, rfl, rfl, rfl, rfl, rfl⟩ := hc
  rfl
theorem YP (e : Bool) (C : List InsM) (N : List Int) (h : CodeOK C N) (L : LkM) (W : List Int) (k : Nat) (hk : k < C.length) (s : StM) (t : Int) :
  yb Tryz.prog 58 [.ptr 1 10000 0 0, vI k, vSt s, vI t] (lkO e C N L W) (.tup [vEf (z9 e (zg C k) s t).1, vB (z9 e (zg C k) s t).2]) (lkO e C N L W) := by
 have hC := h.len
 have zk : ((k : Int)).toNat = k := by omega
 have gk := yC hk
 unfold z9
 cases e with
 | true =>
  have he := YO s (zg C k) t
  simp only [if_true]
  unfold lkO lkV
  refine zJ (zb _) Tryz.func58 rfl rfl (by rw [Tryz.results58]) Tryz.ntmps58 rfl fun E => ?_
  (repeat' (first | exact trivial | (with_reducible first | apply awA | apply awD | apply awF | apply awG) | (refine zA (id := 2) (t := (.node [0, 1, 2, 3, 4, 5, 6, 7, 8, 9, 10, 11, 12, 13, 14] [])) (drR [6, 10000] [23] []) zH (by kernel_rfl) (by kernel_rfl) (fun _ _ h => h) ?_) | (refine zB (by simp only [go_sem]; exact rfl) ?_) | (refine zD (by simp only [go_sem]; exact rfl) ?_) | refine zl ?_ | refine zq ?_ ?_ | exact zC | ((with_reducible first | apply awn | apply awp | refine awQ ?_ | refine awT ?_); intro r hr; simp only [go_sem, Nat.reduceBEq, Nat.reduceLT, Nat.reduceLeDiff, Nat.reduceAdd, Nat.reduceMul, reduceCtorEq, zk, gk, zd] at hr; subst hr; (first | refine caC (he) rfl ?_ ?_ ?_ | refine awV ?_ ?_ | refine zP ?_ ?_ ?_ | (refine zh (fun h => ?_) (fun h => ?_) <;> (try simp only [go_sem, reduceCtorEq] at h) <;> (try (exfalso; omega))))))) <;> (try omega)
  all_goals first | exact AV.up_rfl _ | exact AV.up_dead _ | (repeat first | exact zo | refine zn rfl ?_)
 | false =>
  have he := YN s (zg C k) t (h.runs k hk)
  simp only [Bool.false_eq_true, if_false]
  unfold lkO lkV
  refine zJ (zb _) Tryz.func58 rfl rfl (by rw [Tryz.results58]) Tryz.ntmps58 rfl fun E => ?_
  (repeat' (first | exact trivial | (with_reducible first | apply awA | apply awC | apply awD | apply awF) | (refine zA (id := 3) (t := (.node [0, 1, 2, 3, 4, 5, 6, 7, 8, 9, 10, 11, 12, 13, 14] [])) (drR [6, 10000] [36] []) zH (by kernel_rfl) (by kernel_rfl) (fun _ _ h => h) ?_) | (refine zB (by simp only [go_sem]; exact rfl) ?_) | (refine zD (by simp only [go_sem]; exact rfl) ?_) | refine zl ?_ | refine zq ?_ ?_ | exact zC | ((with_reducible first | apply awn | apply awp | refine awQ ?_ | refine awT ?_); intro r hr; simp only [go_sem, Nat.reduceBEq, Nat.reduceLT, Nat.reduceLeDiff, Nat.reduceAdd, Nat.reduceMul, reduceCtorEq, zk, gk, zd] at hr; subst hr; (first | refine caC (he) rfl ?_ ?_ ?_ | refine awV ?_ ?_ | refine zP ?_ ?_ ?_ | (refine zh (fun h => ?_) (fun h => ?_) <;> (try simp only [go_sem, reduceCtorEq] at h) <;> (try (exfalso; omega))))))) <;> (try omega)
  all_goals first | exact AV.up_rfl _ | exact AV.up_dead _ | (repeat first | exact zo | refine zn rfl ?_)
theorem qw (e : Bool) (C : List InsM) (N : List Int) (h : CodeOK C N) (L : LkM) (hL : L.length = C.length) (W : List Int) (hW : W.length ≤ 10000000) (k : Nat) (hk : k < C.length) (s : StM) (t : Int) (hn : L.getD k none = none) :
  yb Tryz.prog 35 [.ptr 1 10000 0 0, vI k, vSt s, vI t] (lkO e C N L W) (vB true) (lkO e C N (L.set k (some s)) (upF (W.length + 1) (W ++ [(k : Int)]) W.length)) := by
 have hC := h.len
 have zk : ((k : Int)).toNat = k := by omega
 have gh := xr (L := L) (k := k) (by omega)
 have gs := xh (L := L) (k := k) (by omega)
 have s1 := kY L k s
 have s2 := kZ L k s
 have hp := Ju e C N (L.set k (some s)) W (by omega) k
 rw [hn] at gh
 simp only [Option.isSome_none] at gh
 have hls : (L.set k (some s)).length = L.length := by simp
 have hlu : (upF (W.length + 1) (W ++ [(k : Int)]) W.length).length = W.length + 1 := by rw [(qm _ _ _ (by simp)).length_eq]; simp
 unfold lkO lkV at hp ⊢
 rw [hls, hlu] at hp ⊢
 refine zJ (zb _) Tryz.func35 rfl rfl (by rw [Tryz.results35]) Tryz.ntmps35 rfl fun E => ?_
 (repeat' (first | exact trivial | (with_reducible first | apply awA | apply awD | apply awF | apply awG) | (refine zA (id := 2) (t := (.node [0, 1, 2, 3, 4, 5, 6, 7, 8, 9, 10, 11, 12, 13, 14] [])) (drR [10000, 6] [] []) zH (by kernel_rfl) (by kernel_rfl) (fun _ _ h => h) ?_) | (refine zB (by simp only [go_sem]; exact rfl) ?_) | (refine zD (by simp only [go_sem]; exact rfl) ?_) | refine zl ?_ | refine zq ?_ ?_ | exact zC | ((with_reducible first | apply awn | apply awo | apply awp | refine awQ ?_ | refine awT ?_); intro r hr; simp only [go_sem, Nat.reduceBEq, Nat.reduceLT, Nat.reduceLeDiff, Nat.reduceAdd, Nat.reduceMul, reduceCtorEq, zk, gh, gs, s1, s2, vw, kW, kX, Nat.zero_add] at hr; subst hr; (first | refine awV ?_ ?_ | refine awW ?_ ?_ | refine zP ?_ ?_ ?_ | (refine zh (fun h => ?_) (fun h => ?_) <;> (try simp only [go_sem, reduceCtorEq] at h) <;> (try (exfalso; omega))))) | (refine zz [(10000, 10000), (15000, 15000), (15001, 15001), (15002, 15002)] [(10000, 10000), (15000, 15000), (15001, 15001), (15002, 15002)] [15000, 15001, 15002] [10000] ?_; intro r hr; simp only [go_sem, Nat.reduceBEq, Nat.reduceLT] at hr; subst hr; refine zR (hp) rfl rfl (by first | exact .inl rfl | exact .inr rfl) ?_ (.inl rfl) ?_))) <;> (try omega)
 all_goals first | exact AV.up_rfl _ | exact AV.up_dead _ | (repeat first | exact zo | refine zn rfl ?_)
theorem qx (e : Bool) (C : List InsM) (N : List Int) (h : CodeOK C N) (L : LkM) (hL : L.length = C.length) (W : List Int) (k : Nat) (hk : k < C.length) (s s0 : StM) (t : Int) (hn : L.getD k none = some s0) :
  yb Tryz.prog 35 [.ptr 1 10000 0 0, vI k, vSt s, vI t] (lkO e C N L W) (vB (xF e C L k s t).isSome) (lkO e C N L W) := by
 have hC := h.len
 have zk : ((k : Int)).toNat = k := by omega
 have gh := xr (L := L) (k := k) (by omega)
 have gs := xh (L := L) (k := k) (by omega)
 rw [hn] at gh
 simp only [Option.isSome_some] at gh
 have hst : wK L k = s0 := by unfold wK; rw [hn]; rfl
 rw [hst] at gs
 unfold xF
 rw [hn]
 simp only
 have st0 := YP e C N h L W k hk s0 t
 have st1 := YP e C N h L W k hk s t
 by_cases hs : s0 = s
 ·subst hs
  rw [if_pos rfl]
  unfold lkO lkV at *
  refine zJ (zb _) Tryz.func35 rfl rfl (by rw [Tryz.results35]) Tryz.ntmps35 rfl fun E => ?_
  (repeat' (first | exact trivial | (with_reducible first | apply awA | apply awC | apply awD | apply awF | apply awG) | (refine zA (id := 5) (t := (.node [0, 1, 2, 3, 4, 5, 6, 7, 8] [])) (drR [10000, 6] [47] []) zH (by kernel_rfl) (by kernel_rfl) (fun _ _ h => h) ?_) | (refine zB (by simp only [go_sem]; exact rfl) ?_) | (refine zD (by simp only [go_sem]; exact rfl) ?_) | refine zl ?_ | refine zq ?_ ?_ | exact zC | ((with_reducible first | apply awn | apply awp | refine awQ ?_ | refine awT ?_); intro r hr; simp only [go_sem, Nat.reduceBEq, Nat.reduceLT, Nat.reduceLeDiff, Nat.reduceAdd, Nat.reduceMul, reduceCtorEq, zk, gh, gs, Nat.zero_add] at hr; subst hr; (first | refine awV ?_ ?_ | refine zP ?_ ?_ ?_ | (refine zh (fun h => ?_) (fun h => ?_) <;> (try simp only [go_sem, reduceCtorEq] at h) <;> (try (exfalso; omega))))))) <;> (try omega)
  all_goals first | exact AV.up_rfl _ | exact AV.up_dead _ | (repeat first | exact zo | refine zn rfl ?_)
 ·rw [if_neg hs]
  generalize hr0 : z9 e (zg C k) s0 t = r0 at st0 ⊢
  generalize hr1 : z9 e (zg C k) s t = r1 at st1 ⊢
  obtain ⟨E0, o0⟩ := r0
  obtain ⟨E1, o1⟩ := r1
  clear hr0 hr1
  have hse := uR hs
  simp only
  unfold lkO lkV at *
  cases o1 with
  | false =>
   simp only [Bool.false_eq_true, false_and, if_false, Option.isSome_none]
   refine zJ (zb _) Tryz.func35 rfl rfl (by rw [Tryz.results35]) Tryz.ntmps35 rfl fun E => ?_
   (repeat' (first | exact trivial | (with_reducible first | apply awA | apply awC | apply awD | apply awF) | (refine zA (id := 5) (t := (.node [0, 1, 2, 3, 4, 5, 6, 7, 8] [])) (drR [10000, 6] [47] []) zH (by kernel_rfl) (by kernel_rfl) (fun _ _ h => h) ?_) | (refine zB (by simp only [go_sem]; exact rfl) ?_) | (refine zD (by simp only [go_sem]; exact rfl) ?_) | refine zl ?_ | refine zq ?_ ?_ | exact zC | ((with_reducible first | apply awn | apply awo | apply awp | refine awQ ?_ | refine awT ?_); intro r hr; simp only [go_sem, Nat.reduceBEq, Nat.reduceLT, Nat.reduceLeDiff, Nat.reduceAdd, Nat.reduceMul, reduceCtorEq, zk, gh, gs, hse, Nat.zero_add] at hr; subst hr; (first | refine awV ?_ ?_ | refine awW ?_ ?_ | refine zP ?_ ?_ ?_ | (refine zh (fun h => ?_) (fun h => ?_) <;> (try simp only [go_sem, reduceCtorEq] at h) <;> (try (exfalso; omega))))) | (refine ud (vB false) rfl rfl ⟨by decide, by decide⟩ ?_) | (refine wt 61 rfl [(10000, 10000), (15000, 15000), (15001, 15001), (15002, 15002)] [(10000, 10000), (15000, 15000), (15001, 15001), (15002, 15002)] [15000, 15001, 15002] [10000] (by simp only [go_sem, Nat.reduceBEq, Nat.reduceLT]; exact rfl) ?_ rfl rfl (by first | exact .inl rfl | exact .inr rfl) (by simp only [go_sem, Nat.reduceBEq] <;> exact rfl) (st0) (.inl rfl) ?_) | (refine wt 69 rfl [(10000, 10000), (15000, 15000), (15001, 15001), (15002, 15002)] [(10000, 10000), (15000, 15000), (15001, 15001), (15002, 15002)] [15000, 15001, 15002] [10000] (by simp only [go_sem, Nat.reduceBEq, Nat.reduceLT]; exact rfl) ?_ rfl rfl (by first | exact .inl rfl | exact .inr rfl) (by simp only [go_sem, Nat.reduceBEq] <;> exact rfl) (st1) (.inl rfl) ?_))) <;> (try omega)
   all_goals first | exact AV.up_rfl _ | exact AV.up_dead _ | (repeat first | exact zo | refine zn rfl ?_)
  | true =>
   by_cases hE : E0 = E1
   ·subst hE
    simp only [true_and, if_true, Option.isSome_some]
    refine zJ (zb _) Tryz.func35 rfl rfl (by rw [Tryz.results35]) Tryz.ntmps35 rfl fun E => ?_
    (repeat' (first | exact trivial | (with_reducible first | apply awA | apply awC | apply awD | apply awF) | (refine zA (id := 5) (t := (.node [0, 1, 2, 3, 4, 5, 6, 7, 8] [])) (drR [10000, 6] [47] []) zH (by kernel_rfl) (by kernel_rfl) (fun _ _ h => h) ?_) | (refine zB (by simp only [go_sem]; exact rfl) ?_) | (refine zD (by simp only [go_sem]; exact rfl) ?_) | refine zl ?_ | refine zq ?_ ?_ | exact zC | ((with_reducible first | apply awn | apply awo | apply awp | refine awQ ?_ | refine awT ?_); intro r hr; simp only [go_sem, Nat.reduceBEq, Nat.reduceLT, Nat.reduceLeDiff, Nat.reduceAdd, Nat.reduceMul, reduceCtorEq, zk, gh, gs, hse, Nat.zero_add] at hr; subst hr; (first | refine awV ?_ ?_ | refine awW ?_ ?_ | refine zP ?_ ?_ ?_ | (refine zh (fun h => ?_) (fun h => ?_) <;> (try simp only [go_sem, reduceCtorEq] at h) <;> (try (exfalso; omega))))) | (refine Kw (zb _) (ft := 52) (k := 6) rfl rfl ⟨by decide, by decide⟩ rfl rfl rfl rfl zbk rfl t52 rfl rfl rfl rfl (by simp only [go_sem, Nat.reduceAdd]; exact rfl) (by simp only [go_sem, Nat.reduceAdd]; exact rfl) ?_) | (refine wt 61 rfl [(10000, 10000), (15000, 15000), (15001, 15001), (15002, 15002)] [(10000, 10000), (15000, 15000), (15001, 15001), (15002, 15002)] [15000, 15001, 15002] [10000] (by simp only [go_sem, Nat.reduceBEq, Nat.reduceLT]; exact rfl) ?_ rfl rfl (by first | exact .inl rfl | exact .inr rfl) (by simp only [go_sem, Nat.reduceBEq] <;> exact rfl) (st0) (.inl rfl) ?_) | (refine wt 69 rfl [(10000, 10000), (15000, 15000), (15001, 15001), (15002, 15002)] [(10000, 10000), (15000, 15000), (15001, 15001), (15002, 15002)] [15000, 15001, 15002] [10000] (by simp only [go_sem, Nat.reduceBEq, Nat.reduceLT]; exact rfl) ?_ rfl rfl (by first | exact .inl rfl | exact .inr rfl) (by simp only [go_sem, Nat.reduceBEq] <;> exact rfl) (st1) (.inl rfl) ?_))) <;> (try omega)
    all_goals first | exact AV.up_rfl _ | exact AV.up_dead _ | (repeat first | exact zo | refine zn rfl ?_)
   ·have hee := Wl hE
    simp only [hE, and_false, if_false, Option.isSome_none]
    refine zJ (zb _) Tryz.func35 rfl rfl (by rw [Tryz.results35]) Tryz.ntmps35 rfl fun E => ?_
    (repeat' (first | exact trivial | (with_reducible first | apply awA | apply awC | apply awD | apply awF) | (refine zA (id := 5) (t := (.node [0, 1, 2, 3, 4, 5, 6, 7, 8] [])) (drR [10000, 6] [47] []) zH (by kernel_rfl) (by kernel_rfl) (fun _ _ h => h) ?_) | (refine zB (by simp only [go_sem]; exact rfl) ?_) | (refine zD (by simp only [go_sem]; exact rfl) ?_) | refine zl ?_ | refine zq ?_ ?_ | exact zC | ((with_reducible first | apply awn | apply awo | apply awp | refine awQ ?_ | refine awT ?_); intro r hr; simp only [go_sem, Nat.reduceBEq, Nat.reduceLT, Nat.reduceLeDiff, Nat.reduceAdd, Nat.reduceMul, reduceCtorEq, zk, gh, gs, hse, hee, Nat.zero_add] at hr; subst hr; (first | refine awV ?_ ?_ | refine awW ?_ ?_ | refine zP ?_ ?_ ?_ | (refine zh (fun h => ?_) (fun h => ?_) <;> (try simp only [go_sem, reduceCtorEq] at h) <;> (try (exfalso; omega))))) | (refine Kw (zb _) (ft := 52) (k := 6) rfl rfl ⟨by decide, by decide⟩ rfl rfl rfl rfl zbk rfl t52 rfl rfl rfl rfl (by simp only [go_sem, Nat.reduceAdd]; exact rfl) (by simp only [go_sem, Nat.reduceAdd]; exact rfl) ?_) | (refine wt 61 rfl [(10000, 10000), (15000, 15000), (15001, 15001), (15002, 15002)] [(10000, 10000), (15000, 15000), (15001, 15001), (15002, 15002)] [15000, 15001, 15002] [10000] (by simp only [go_sem, Nat.reduceBEq, Nat.reduceLT]; exact rfl) ?_ rfl rfl (by first | exact .inl rfl | exact .inr rfl) (by simp only [go_sem, Nat.reduceBEq] <;> exact rfl) (st0) (.inl rfl) ?_) | (refine wt 69 rfl [(10000, 10000), (15000, 15000), (15001, 15001), (15002, 15002)] [(10000, 10000), (15000, 15000), (15001, 15001), (15002, 15002)] [15000, 15001, 15002] [10000] (by simp only [go_sem, Nat.reduceBEq, Nat.reduceLT]; exact rfl) ?_ rfl rfl (by first | exact .inl rfl | exact .inr rfl) (by simp only [go_sem, Nat.reduceBEq] <;> exact rfl) (st1) (.inl rfl) ?_))) <;> (try omega)
    all_goals first | exact AV.up_rfl _ | exact AV.up_dead _ | (repeat first | exact zo | refine zn rfl ?_)
end
section
open Go.RowKit Go.MapKept
open Go.ChangeMaps (setBlock)
section
variable {α : Type}
def mf (k : Int) : List (Nat × Int × α) → Option α
 | [] => none
 | (_, k', a) :: L => if k' = k then some a else mf k L
def xX (c : Nat) (k : Int) (a : α) : List (Nat × Int × α) → List (Nat × Int × α)
 | [] => [(c, k, a)]
 | (b, k', a') :: L => if k' = k then (b, k, a) :: L else (b, k', a') :: xX c k a L
def vL (c : Nat) (k : Int) (L : List (Nat × Int × α)) : Nat := bif (mf k L).isSome then c else c + 1
def YE (k : Int) : List (Nat × Int × α) → List (Nat × Int × α)
 | [] => []
 | e :: L => if e.2.1 = k then L else e :: YE k L
def mI (f : α → AV) (L : List (Nat × Int × α)) : List (Nat × AV × AV) := L.map fun e => (e.1, vI e.2.1, f e.2.2)
theorem Zy (f : α → AV) (L : List (Nat × Int × α)) : (mI f L).length = L.length := by simp [mI]
theorem VN {f : α → AV} {L : List (Nat × Int × α)} {i : Nat} {e : Nat × AV × AV} (h : (mI f L)[i]? = some e) : ∃ x, L[i]? = some x ∧ e = (x.1, vI x.2.1, f x.2.2) := by
 rw [mI, List.getElem?_map] at h
 cases hc : L[i]? with
 | none => rw [hc] at h; cases h
 | some x => rw [hc] at h; injection h with h; exact ⟨x, rfl, h.symm⟩
def X8 (ok : Bool) (x : Option α) (f : α → AV) (z : Value) : AV :=
 match ok, x with
 | true, some a => .tup [f a, vB true]
 | true, none => .tup [.v z, vB false]
 | false, some a => f a
 | false, none => .v z
theorem wC {g : AV → AV} {f : α → AV} (h : ∀ a, g (f a) = f a) (L : List (Nat × Int × α)) : mapM g (mI f L) = mI f L := by
 rw [Yf, mI, List.map_map]
 exact List.map_congr_left fun e _ => by simp [h]
end
section
variable {P : Program} {T : Nat → Option TyD} {E : Env} {s : AState} {tm : Array Value} {w w' : World} {β : Nat → Option Nat} {n : Nat} {ops : Array Oper} {Q : Exit → AState → Prop} {rest : List Oper} {o : Oper} {α : Type} {F : Nat → Prop}
def j3 (F : Nat → Prop) (β : Nat → Option Nat) (w : World) (es : List (Nat × AV × AV)) (ms : List MapEntry) : Prop := ms.length = es.length ∧ ∀ (i : Nat) (e : Nat × AV × AV) (m : MapEntry), es[i]? = some e → ms[i]? = some m → m.born = e.1 ∧ SVR F w e.2.1 m.key ∧ AVR F β w e.2.2 m.val
theorem j3.cons {e : Nat × AV × AV} {es : List (Nat × AV × AV)} {ms : List MapEntry} (h : j3 F β w (e :: es) ms) : ∃ m ms', ms = m :: ms' ∧ (m.born = e.1 ∧ SVR F w e.2.1 m.key ∧ AVR F β w e.2.2 m.val) ∧ j3 F β w es ms' := by
 obtain ⟨h1, h2⟩ := h
 cases ms with
 | nil => simp at h1
 | cons m ms => exact ⟨m, ms, rfl, h2 0 e m rfl rfl, by simpa using h1, fun i e m g1 g2 => h2 (i + 1) e m (by simpa using g1) (by simpa using g2)⟩
theorem YF {k : Int} {x : Value} (h : SVR F w (vI k) x) : x = .int .i64 k := by cases h; rfl
theorem JC {f : α → AV} (key : Int) : ∀ (L : List (Nat × Int × α)) (ms : List MapEntry) (i : Nat), j3 F β w (mI f L) ms →
  (∃ q e m, L[q]? = some e ∧ ms[q]? = some m ∧ m.key = .int .i64 key ∧ mf key L = some e.2.2 ∧ (∀ c v, xX c key v L = L.set q (e.1, key, v)) ∧ YE key L = L.eraseIdx q ∧ Instr.findNow (.int .i64) (.int .i64 key) ms i = some (some (i + q, m.val))) ∨
  (mf key L = none ∧ (∀ c v, xX c key v L = L ++ [(c, key, v)]) ∧ YE key L = L ∧ Instr.findNow (.int .i64) (.int .i64 key) ms i = some none) := by
 intro L
 induction L with
 | nil =>
  intro ms i h
  have : ms = [] := List.eq_nil_of_length_eq_zero (by simpa [mI] using h.1)
  subst this
  exact .inr ⟨rfl, fun _ _ => rfl, rfl, rfl⟩
 | cons e L ih =>
  intro ms i h
  obtain ⟨b, k, a⟩ := e
  obtain ⟨m, ms', rfl, ⟨h1, h2, h3⟩, h4⟩ := j3.cons (e := (b, vI k, f a)) (es := mI f L) h
  have hk := YF h2
  have hn : Instr.sameNow (.int .i64) (.int .i64 key) m.key = some (decide (key = k)) := by rw [hk]; simp [Instr.sameNow, qF]
  by_cases hkk : k = key
  ·subst hkk
   refine .inl ⟨0, _, m, rfl, rfl, hk, by simp [mf], fun c v => by simp [xX], by simp [YE], ?_⟩
   rw [decide_eq_true rfl] at hn
   simp [Instr.findNow, hn]
  ·rw [decide_eq_false (Ne.symm hkk)] at hn
   rcases ih ms' (i + 1) h4 with ⟨q, e, m', g1, g2, g3, g4, g5, g6, g7⟩ | ⟨g4, g5, g6, g7⟩
   ·exact .inl ⟨q + 1, e, m', by simpa using g1, by simpa using g2, g3, by simp [mf, hkk, g4], fun c v => by simp [xX, hkk, g5 c v], by simp [YE, hkk, g6], by simp [Instr.findNow, hn, g7]; omega⟩
   ·exact .inr ⟨by simp [mf, hkk, g4], fun c v => by simp [xX, hkk, g5 c v], by simp [YE, hkk, g6], by simp [Instr.findNow, hn, g7]⟩
theorem j3.snoc {es : List (Nat × AV × AV)} {ms : List MapEntry} (h : j3 F β w es ms) {e : Nat × AV × AV} {m : MapEntry} (hm : m.born = e.1 ∧ SVR F w e.2.1 m.key ∧ AVR F β w e.2.2 m.val) : j3 F β w (es ++ [e]) (ms ++ [m]) := by
 refine ⟨by simp [h.1], fun i x y hx hy => ?_⟩
 by_cases hi : i < es.length
 ·rw [List.getElem?_append_left hi] at hx
  rw [List.getElem?_append_left (by rw [h.1]; exact hi)] at hy
  exact h.2 i x y hx hy
 ·rw [List.getElem?_append_right (by omega)] at hx
  rw [List.getElem?_append_right (by rw [h.1]; omega), h.1] at hy
  have hie : i - es.length = 0 := by have := zG hx; simp at this; omega
  rw [hie] at hx hy
  simp only [List.getElem?_cons_zero, Option.some.injEq] at hx hy
  subst hx
  subst hy
  exact hm
theorem j3.set {es : List (Nat × AV × AV)} {ms : List MapEntry} (h : j3 F β w es ms) (q : Nat) {e : Nat × AV × AV} {m : MapEntry} (hm : m.born = e.1 ∧ SVR F w e.2.1 m.key ∧ AVR F β w e.2.2 m.val) : j3 F β w (es.set q e) (ms.set q m) := by
 refine ⟨by simp [h.1], fun i x y hx hy => ?_⟩
 rw [List.getElem?_set] at hx hy
 by_cases hi : q = i
 ·subst hi
  rw [if_pos rfl] at hx hy
  split at hx
  ·split at hy
   ·injection hx with hx
    injection hy with hy
    subst hx
    subst hy
    exact hm
   ·cases hy
  ·cases hx
 ·rw [if_neg hi] at hx hy
  exact h.2 i x y hx hy
theorem j3.erase {es : List (Nat × AV × AV)} {ms : List MapEntry} (h : j3 F β w es ms) (q : Nat) : j3 F β w (es.eraseIdx q) (ms.eraseIdx q) := by
 refine ⟨by rw [List.length_eraseIdx, List.length_eraseIdx, h.1], fun i x y hx hy => ?_⟩
 rw [List.getElem?_eraseIdx] at hx hy
 by_cases hi : i < q
 ·rw [if_pos hi] at hx hy; exact h.2 i x y hx hy
 ·rw [if_neg hi] at hx hy; exact h.2 _ x y hx hy
theorem x6 {clk d : Nat} {es : List (Nat × AV × AV)} (h : xH F β w d (.mapr clk es)) : ∃ b arr, β d = some b ∧ w.heap[b]? = some (.map arr clk) ∧ j3 F β w es arr.toList := by
 obtain ⟨b, arr, h1, h2, h3, h4⟩ := h
 exact ⟨b, arr, h1, h2, by simpa using h3, fun i e m he hm => h4 i e m he (by simpa using hm)⟩
theorem we {b : Nat} {ob : Obj} {X : Nat → Prop} (hX : X b) : Keeps X w (setBlock w b ob) := ⟨rfl, rfl, rfl, by simp [setBlock], fun c _ hc => by
 have : c ≠ b := fun h => hc (h ▸ hX)
 exact Array.getElem?_setIfInBounds_ne (Ne.symm this)⟩
theorem SRel.mapr (hs : SRel E s tm w β) {d b clk clk' : Nat} {arr arr' : Array MapEntry} {es' : List (Nat × AV × AV)} (hb : β d = some b) (xI : w.heap[b]? = some (.map arr clk)) (hrel : j3 (FF E β w) β w es' arr'.toList) :
  SRel E { fr := s.fr, ob := (d, .mapr clk' es') :: rmo d s.ob } tm (setBlock w b (.map arr' clk')) β ∧ xx (fun b => β d = some b) w (setBlock w b (.map arr' clk')) := by
 have hlt : b < w.heap.size := (hs.rng d b hb).2
 have hK : Keeps (fun c => β d = some c) w (setBlock w b (.map arr' clk')) := we hb
 have hnew : (setBlock w b (.map arr' clk')).heap[b]? = some (.map arr' clk') := by simp [setBlock, hlt]
 have nosh : ∀ c te n, β d = some c → Shp w c te n → False := fun c te n hc' ⟨a', e1, _⟩ => by
  rw [hb] at hc'; injection hc' with hc'; subst hc'; rw [xI] at e1; cases e1
 have hS := hs.content d hK fun c te n hc' h => (nosh c te n hc' h).elim
 have hF : ∀ c, FF E β w c → FF E β (setBlock w b (.map arr' clk')) c := fun c ⟨h1, h2, h3⟩ => ⟨Nat.lt_of_lt_of_le h1 hK.size, h2, h3⟩
 have hFw : ∀ c, FF E β w c → (setBlock w b (.map arr' clk')).heap[c]? = w.heap[c]? := fun c hc => hK.block c hc.1 (hc.2.2 d)
 have hSh : ∀ e c t n, β e = some c → Shp w c t n → Shp (setBlock w b (.map arr' clk')) c t n := fun e c t n hc h => by
  by_cases he : e = d
  ·subst he; exact (nosh c t n hc h).elim
  ·exact h.of_heap (hK.block c (hs.rng e c hc).2 fun g => he (hs.inj e d c hc g))
 refine ⟨hS.add d _ ⟨b, arr', hb, hnew, by simpa using hrel.1, fun i e m he hm => ?_⟩, ⟨hK.size, fun c hc hn => hK.block c hc hn⟩⟩
 obtain ⟨g1, g2, g3⟩ := hrel.2 i e m he (by simpa using hm)
 exact ⟨g1, g2.mono hF hFw, g3.mono hF hFw (fun _ _ h => h) hSh⟩
theorem ui {β : Nat → Option Nat} {d : Nat} (h : xx (fun b => β d = some b) w w') (hd : y7.dst o = true) : yG (y7.dst o) (XW y7 β) w (XW y7 β) w' := ⟨fun h => (by rw [hd] at h; cases h), ⟨h.1, fun b hb hn => h.2 b hb fun hd' => hn ⟨d, rfl, hd'⟩⟩, fun _ _ h => h⟩
theorem qo {β : Nat → Option Nat} : yG (y7.dst o) (XW y7 β) w (XW y7 β) w := ⟨fun _ => ⟨Nat.le_refl _, fun _ _ _ => rfl⟩, ⟨Nat.le_refl _, fun _ _ _ => rfl⟩, fun _ _ h => h⟩
theorem wD {d : Nat} {v : Value} (h : AVR F β w (.map d) v) : ∃ b, v = .map (some b) ∧ β d = some b := by
 cases h with
 | s h => cases h
 | map h => exact ⟨_, rfl, h⟩
theorem qS {k : Int} {v : Value} (h : AVR F β w (vI k) v) : v = .int .i64 k := by
 cases h with
 | s h => exact YF h
theorem qT (hT : TOK P T) {m k : Operand} {t d kt vt clk : Nat} {ok : Bool} {L : List (Nat × Int × α)} {f : α → AV} {key : Int} {dt dk : TyD} {z : Value} {r : AV} (hG : ya ops s o.guard = some true) (ho : o.op = .lookup t m k ok) (hdst : yY n o.dst) (hgm : s.gd m = true) (hgk : s.gd k = true)
  (hm : s.ev m = .map d) (hk : s.ev k = vI key) (hTt : T t = some dt) (hsh : dt.sh = .map kt vt) (hTk : T kt = some dk) (hsk : dk.sh = .int .i64) (hz : ∀ w, (zeroValue vt).run P w = .ok z w) (hfz : ug z = true)
  (hob : lk s.ob d = some (.mapr clk (mI f L))) (hr0 : (X8 ok (mf key L) f z).up r) (hr : zT P E n ops y7 rest Q (s.put o.dst true r)) : yu P E n ops y7 (o :: rest) Q s := by
 intro a w β hn hd hs
 have hw := yq (ops := ops) hs hG
 have vm := hs.ev m hgm (a := a) rfl
 have vk := hs.ev k hgk (a := a) rfl
 rw [hm] at vm
 rw [hk] at vk
 obtain ⟨b, hmb, hb⟩ := wD vm
 have hkv := qS vk
 obtain ⟨b', arr, hb', harr, hent⟩ := x6 (hs.ob d _ hob)
 rw [hb] at hb'
 injection hb' with hb'
 subst hb'
 have hu := qE hT hTt hsh
 have hku := kj hT hTk hsk
 have hget := yv (P := P) harr (fun _ _ _ h => by cases h)
 have hcheck : ∀ em, (Instr.checkKey em 10000 kt (.int .i64 key)).run P w = .ok () w := fun em => run_checkKey (P := P) (w := w) hku (show IsKey (.int .i64) (.int .i64 key) from rfl) em 9999
 have hrun : ∃ v, (Instr.lookup t (.map (some b)) (.int .i64 key) ok).run P w = .ok v w ∧ AVR (FF E β w) β w r v := by
  suffices hsuf : ∃ v, (Instr.lookup t (.map (some b)) (.int .i64 key) ok).run P w = .ok v w ∧ AVR (FF E β w) β w (X8 ok (mf key L) f z) v by
   obtain ⟨v, h1, h2⟩ := hsuf
   exact ⟨v, h1, hr0 _ _ _ _ h2⟩
  have tup2 : ∀ (x : AV) (v : Value) (c : Bool), AVR (FF E β w) β w x v → AVR (FF E β w) β w (.tup [x, vB c]) (.tuple #[v, .bool c]) := fun x v c hx => .tup rfl fun i y u hy hu => by
   rcases i with _ | _ | i
   ·simp only [List.getElem?_cons_zero, Option.some.injEq, List.getElem?_toArray] at hy hu; subst hy; subst hu; exact hx
   ·simp only [List.getElem?_cons_zero, List.getElem?_cons_succ, Option.some.injEq, List.getElem?_toArray] at hy hu; subst hy; subst hu; exact .s (.v rfl)
   ·simp at hy
  rcases JC (f := f) key L arr.toList 0 hent with ⟨q, e, me, g1, g2, g3, g4, g5, g6, g7⟩ | ⟨g4, g5, g6, g7⟩
  ·have hr1 : AVR (FF E β w) β w (f e.2.2) me.val := (hent.2 q (e.1, vI e.2.1, f e.2.2) me (by rw [mI, List.getElem?_map, g1]; rfl) g2).2.2
   rw [g4]
   refine ⟨if ok then .tuple #[me.val, .bool true] else me.val, ?_, ?_⟩
   ·simp only [Instr.lookup, Sem.run_bind, run_underlying hu, Result.andThen_ok, hget, Sem.run_pure, hcheck, run_findKey hku g7]
   ·cases ok
    ·exact hr1
    ·exact tup2 _ _ _ hr1
  ·rw [g4]
   refine ⟨if ok then .tuple #[z, .bool false] else z, ?_, ?_⟩
   ·simp only [Instr.lookup, Sem.run_bind, run_underlying hu, Result.andThen_ok, hget, Sem.run_pure, hcheck, run_findKey hku g7, hz]
   ·cases ok
    ·exact .s (.v hfz)
    ·exact tup2 _ _ _ (.s (.v hfz))
 obtain ⟨v, h1, h2⟩ := hrun
 refine ym (by rw [ho]; rfl) hw (fun _ => ?_) (fun hGf => by cases hGf)
 obtain ⟨g1, g2, g3⟩ := yW hn hd hs hdst true r (v := v) (fun _ => h2) (fun h => by cases h)
 exact xd (w' := w) (by simp [execOp, ho, hmb, hkv, h1]) ⟨XW y7 β, qo, hr _ _ _ g1 g2 g3⟩
theorem yc (hT : TOK P T) {m k : Operand} {t d kt vt clk : Nat} {ok : Bool} {L : List (Nat × Int × α)} {f : α → AV} {key : Int} {dt dk : TyD} {z : Value} {r : AV} (hG : ya ops s o.guard = some true) (ho : o.op = .lookup t m k ok) (hdst : yY n o.dst) (hgm : s.gd m = true) (hgk : s.gd k = true)
  (hm : s.ev m = .map d) (hk : s.ev k = vI key) (hTt : T t = some dt) (hsh : dt.sh = .map kt vt) (hTk : T kt = some dk) (hsk : dk.sh = .int .i64) (hz : ∀ w, (zeroValue vt).run P w = .ok z w) (hfz : ug z = true)
  (hob : lk s.ob d = some (.mapr clk (mI f L))) (hr0 : X8 ok (mf key L) f z = r) (hr : zT P E n ops y7 rest Q (s.put o.dst true r)) : yu P E n ops y7 (o :: rest) Q s :=
 qT hT hG ho hdst hgm hgk hm hk hTt hsh hTk hsk hz hfz hob (hr0 ▸ AV.up_rfl _) hr
theorem uP (hT : TOK P T) {m k x : Operand} {t d kt vt clk : Nat} {L : List (Nat × Int × α)} {f : α → AV} {key : Int} {dt dk : TyD} (v : α) (hG : ya ops s o.guard = some true) (ho : o.op = .mapUpdate t m k x) (hdst : o.dst = none) (hgm : s.gd m = true) (hgk : s.gd k = true) (hgx : s.gd x = true)
  (hm : s.ev m = .map d) (hk : s.ev k = vI key) (hx : s.ev x = f v ∨ f v = .dead) (hTt : T t = some dt) (hsh : dt.sh = .map kt vt) (hTk : T kt = some dk) (hsk : dk.sh = .int .i64)
  (hob : lk s.ob d = some (.mapr clk (mI f L))) {c' : Nat} {L' : List (Nat × Int × α)} (hc' : vL clk key L = c') (hL' : xX clk key v L = L') (hr : zT P E n ops y7 rest Q { fr := s.fr, ob := (d, .mapr c' (mI f L')) :: rmo d s.ob }) : yu P E n ops y7 (o :: rest) Q s := by
 subst hc'
 subst hL'
 intro a w β hn hd hs
 have hw := yq (ops := ops) hs hG
 have vm := hs.ev m hgm (a := a) rfl
 have vk := hs.ev k hgk (a := a) rfl
 have vx := hs.ev x hgx (a := a) rfl
 rw [hm] at vm
 rw [hk] at vk
 obtain ⟨b, hmb, hb⟩ := wD vm
 have hkv := qS vk
 have hxv : AVR (FF E β w) β w (f v) (a.eval x) := by
  rcases hx with hx | hx
  ·rw [← hx]; exact vx
  ·rw [hx]; exact .dead
 obtain ⟨b', arr, hb', harr, hent⟩ := x6 (hs.ob d _ hob)
 rw [hb] at hb'
 injection hb' with hb'
 subst hb'
 have hu := qE hT hTt hsh
 have hku := kj hT hTk hsk
 have hget := yv (P := P) harr (fun _ _ _ h => by cases h)
 have hik : IsKey (.int .i64) (.int .i64 key) := rfl
 have hcheck : ∀ em, (Instr.checkKey em 10000 kt (.int .i64 key)).run P w = .ok () w := fun em => run_checkKey (P := P) (w := w) hku hik em 9999
 have hset : ∀ o' : Obj, (setObj b o').run P w = .ok () (setBlock w b o') := fun o' => by simp [setObj, Sem.run, harr, setBlock]
 have hrun : ∃ arr', (Instr.mapUpdate t (.map (some b)) (.int .i64 key) (a.eval x)).run P w = .ok () (setBlock w b (.map arr' (vL clk key L))) ∧ j3 (FF E β w) β w (mI f (xX clk key v L)) arr'.toList := by
  rcases JC (f := f) key L arr.toList 0 hent with ⟨q, e, me, g1, g2, g3, g4, g5, g6, g7⟩ | ⟨g4, g5, g6, g7⟩
  ·have hq2 : arr[q]? = some me := by simpa using g2
   refine ⟨arr.modify q fun e => { e with key := .int .i64 key, val := a.eval x }, ?_, ?_⟩
   ·simp only [Instr.mapUpdate, Sem.run_bind, run_underlying hu, Result.andThen_ok, hget, hcheck, run_findKey hku g7, Nat.zero_add, hq2, Option.map_some, Option.getD_some, g3, run_keyThatStays hik, hset, vL, g4, Option.isSome_some, cond_true]
   ·rw [g5, mI, List.map_set]
    have he : (arr.modify q fun e => { e with key := .int .i64 key, val := a.eval x }).toList = arr.toList.set q { me with key := .int .i64 key, val := a.eval x } := by
     apply List.ext_getElem?
     intro i
     rw [Array.getElem?_toList, Array.getElem?_modify, List.getElem?_set, Array.getElem?_toList]
     by_cases hi : q = i
     ·subst hi
      have hlt : q < arr.size := (Array.getElem?_eq_some_iff.1 hq2).1
      rw [if_pos rfl, if_pos rfl, hq2, if_pos (by simpa using hlt)]
      rfl
     ·rw [if_neg hi, if_neg hi]
    rw [he]
    have hborn := (hent.2 q (e.1, vI e.2.1, f e.2.2) me (by rw [mI, List.getElem?_map, g1]; rfl) g2).1
    exact hent.set q ⟨hborn, .v rfl, hxv⟩
  ·refine ⟨arr.push { key := .int .i64 key, val := a.eval x, born := clk }, ?_, ?_⟩
   ·simp only [Instr.mapUpdate, Sem.run_bind, run_underlying hu, Result.andThen_ok, hget, hcheck, run_findKey hku g7, hset, vL, g4, Option.isSome_none, cond_false]
   ·rw [g5, mI, List.map_append, Array.toList_push]
    exact hent.snoc ⟨rfl, .v rfl, hxv⟩
 obtain ⟨arr', h1, h2⟩ := hrun
 obtain ⟨h3, h4⟩ := hs.mapr (clk' := vL clk key L) hb harr h2
 refine ym (by rw [ho]; rfl) hw (fun _ => ?_) (fun hGf => by cases hGf)
 refine qh (w' := setBlock w b (.map arr' (vL clk key L))) (by simp [execOp, ho, hmb, hkv, h1]) ⟨XW y7 β, ui (d := d) h4 (by rw [Dr.dst, ho]; rfl), hr _ _ _ ?_ ?_ ?_⟩
 ·rw [hdst]; exact hn
 ·rw [hdst]; exact hd
 ·rw [hdst]; exact h3
end
attribute [go_sem] X8
end
section
open Go.RowKit Go.MapKept
open Go.ChangeMaps (setBlock)
section
variable {P : Program} {T : Nat → Option TyD} {E : Env} {s : AState} {tm : Array Value} {w w' : World} {β : Nat → Option Nat} {n : Nat} {ops : Array Oper} {Q : Exit → AState → Prop} {rest : List Oper} {o : Oper} {α : Type} {F : Nat → Prop}
theorem X9 (w : World) : Below w.heap.size w w.drew := ⟨rfl, rfl, rfl, Nat.le_refl _, fun _ _ => rfl⟩
theorem JD (hT : TOK P T) {m k : Operand} {t t2 d kt vt clk : Nat} {L : List (Nat × Int × α)} {f : α → AV} {key : Int} {dt dk : TyD} (hG : ya ops s o.guard = some true) (ho : o.op = .call ⟨.builtin .delete, #[m, k], #[t, t2]⟩) (hdst : o.dst = none) (hgm : s.gd m = true) (hgk : s.gd k = true)
  (hm : s.ev m = .map d) (hk : s.ev k = vI key) (hTt : T t = some dt) (hsh : dt.sh = .map kt vt) (hTk : T kt = some dk) (hsk : dk.sh = .int .i64)
  (hob : lk s.ob d = some (.mapr clk (mI f L))) (hr : zT P E n ops y7 rest Q { fr := s.fr, ob := (d, .mapr clk (mI f (YE key L))) :: rmo d s.ob }) : yu P E n ops y7 (o :: rest) Q s := by
 intro a w β hn hd hs
 have hw := yq (ops := ops) hs hG
 have vm := hs.ev m hgm (a := a) rfl
 have vk := hs.ev k hgk (a := a) rfl
 rw [hm] at vm
 rw [hk] at vk
 obtain ⟨b, hmb, hb⟩ := wD vm
 have hkv := qS vk
 obtain ⟨b', arr, hb', harr, hent⟩ := x6 (hs.ob d _ hob)
 rw [hb] at hb'
 injection hb' with hb'
 subst hb'
 have hu := qE hT hTt hsh
 have hku := kj hT hTk hsk
 have hget := yv (P := P) harr (fun _ _ _ h => by cases h)
 have hik : IsKey (.int .i64) (.int .i64 key) := rfl
 have hcheck : ∀ em, (Instr.checkKey em 10000 kt (.int .i64 key)).run P w = .ok () w := fun em => run_checkKey (P := P) (w := w) hku hik em 9999
 have hset : ∀ o' : Obj, (setObj b o').run P w = .ok () (setBlock w b o') := fun o' => by simp [setObj, Sem.run, harr, setBlock]
 have hrun : ∃ arr', (Builtin.delete_ #[t, t2] o.type #[.map (some b), .int .i64 key]).run P w = .ok (.tuple #[]) (setBlock w b (.map arr' clk)) ∧ j3 (FF E β w) β w (mI f (YE key L)) arr'.toList := by
  rcases JC (f := f) key L arr.toList 0 hent with ⟨q, e, me, g1, g2, g3, g4, g5, g6, g7⟩ | ⟨g4, g5, g6, g7⟩
  ·refine ⟨arr.eraseIdxIfInBounds q, ?_, ?_⟩
   ·simp [Builtin.delete_, run_underlying hu, hget, hcheck, run_findKey hku g7, hset]
   ·have he : (arr.eraseIdxIfInBounds q).toList = arr.toList.eraseIdx q := by simp
    rw [he, g6, mI, Go.ChangeMaps.map_eraseIdx]
    exact hent.erase q
  ·refine ⟨arr, ?_, ?_⟩
   ·simp [Builtin.delete_, run_underlying hu, hget, hcheck, run_findKey hku g7, hset]
   ·rw [g6]; exact hent
 obtain ⟨arr', h1, h2⟩ := hrun
 obtain ⟨h3, h4⟩ := hs.mapr (clk' := clk) hb harr h2
 refine ym (by rw [ho]; rfl) hw (fun _ => ?_) (fun hGf => by cases hGf)
 refine xd (w' := setBlock w b (.map arr' clk)) (v := .tuple #[]) (by simp [execOp, ho, resolve, invoke, builtin, hmb, hkv, h1]) ⟨XW y7 β, ui (d := d) h4 (by rw [Dr.dst, ho]; rfl), hr _ _ _ ?_ ?_ ?_⟩
 ·rw [hdst]; exact hn
 ·rw [hdst]; exact hd
 ·rw [hdst]; exact h3
theorem JE (hT : TOK P T) {m : Operand} {t d kt vt clk : Nat} {es : List (Nat × AV × AV)} {dt : TyD} (hG : ya ops s o.guard = some true) (ho : o.op = .call ⟨.builtin .len, #[m], #[t]⟩) (hdst : yY n o.dst) (hgm : s.gd m = true)
  (hm : s.ev m = .map d) (hTt : T t = some dt) (hsh : dt.sh = .map kt vt) (hob : lk s.ob d = some (.mapr clk es)) (hr : zT P E n ops y7 rest Q (s.put o.dst true (vI es.length))) : yu P E n ops y7 (o :: rest) Q s := by
 intro a w β hn hd hs
 have hw := yq (ops := ops) hs hG
 have vm := hs.ev m hgm (a := a) rfl
 rw [hm] at vm
 obtain ⟨b, hmb, hb⟩ := wD vm
 obtain ⟨b', arr, hb', harr, hent⟩ := x6 (hs.ob d _ hob)
 rw [hb] at hb'
 injection hb' with hb'
 subst hb'
 have hu := qE hT hTt hsh
 have hget : ∀ w', w'.heap[b]? = some (.map arr clk) → (getObj b).run P w' = .ok (.map arr clk) w' := fun w' h => yv (P := P) h (fun _ _ _ h => by cases h)
 obtain ⟨g1, g2, g3⟩ := yW hn hd hs hdst true (vI es.length) (v := .int .i64 es.length) (fun _ => .s (.v rfl)) (fun h => by cases h)
 refine vG (v := .int .i64 es.length) (by rw [ho]; rfl) hw (fun _ w' hw' => ?_) (fun h => by cases h) (hr _ _ _ g1 g2 g3)
 have hh : w'.heap[b]? = some (.map arr clk) := by
  have h1 : xx noX w w' := by simpa [y7] using hw'
  exact (h1.2 b (hs.rng d b hb).2 (wv b)).trans harr
 have hsz : arr.size = es.length := by simpa using hent.1
 simp [execOp, ho, resolve, invoke, builtin, hmb, Builtin.len_, run_underlying hu, hget w' hh, hsz, goInt]
theorem VO {t k e d b : Nat} (h : P.underlying t = some (.map k e)) : (Op.equalIn (d + 1) t (.map (some b)) (.map none)).run P w = .ok false w := by
 simp [Op.equalIn, run_underlying h]
theorem JF (hT : TOK P T) {x y : Operand} {t t2 d kt vt : Nat} {dt : TyD} (hG : ya ops s o.guard = some true) (ho : o.op = .binOp .eql t x y t2) (hdst : yY n o.dst) (hgx : s.gd x = true) (hgy : s.gd y = true)
  (hx : s.ev x = .map d) (hy : s.ev y = .v (.map none)) (hTt : T t = some dt) (hsh : dt.sh = .map kt vt) (hr : zT P E n ops y7 rest Q (s.put o.dst true (vB false))) : yu P E n ops y7 (o :: rest) Q s := by
 intro a w β hn hd hs
 have hw := yq (ops := ops) hs hG
 have vx := hs.ev x hgx (a := a) rfl
 have vy := hs.ev y hgy (a := a) rfl
 rw [hx] at vx
 rw [hy] at vy
 obtain ⟨b, hmb, hb⟩ := wD vx
 have hyv : a.eval y = .map none := by
  generalize a.eval y = u at vy
  cases vy with | s vy => cases vy; rfl
 have hu := qE hT hTt hsh
 obtain ⟨g1, g2, g3⟩ := yW hn hd hs hdst true (vB false) (v := .bool false) (fun _ => .s (.v rfl)) (fun h => by cases h)
 refine vG (v := .bool false) (by rw [ho]; rfl) hw (fun _ w' _ => ?_) (fun h => by cases h) (hr _ _ _ g1 g2 g3)
 have he : (binOp .eql t (.map (some b)) (.map none)).run P w' = .ok (.bool false) w' := by
  simp only [binOp]
  simp [show Op.equal t (.map (some b)) (.map none) = Op.equalIn (9999 + 1) t (.map (some b)) (.map none) from rfl, VO hu]
 simp [execOp, ho, hmb, hyv, eqGuard, he]
theorem wV (hT : TOK P T) {x : Operand} {t d u kt vt clk : Nat} {es : List (Nat × AV × AV)} {dt : TyD} (hG : ya ops s o.guard = some true) (ho : o.op = .range t x) (hdst : o.dst = some u) (hdo : yY n (some u)) (hgx : s.gd x = true)
  (hx : s.ev x = .map d) (hTt : T t = some dt) (hsh : dt.sh = .map kt vt) (hob : lk s.ob d = some (.mapr clk es)) (hdu : d ≠ u) (hr : zT P E n ops y7 rest Q ({ fr := (u, true, .ptr 1 u 0 0) :: (s.drop u).fr, ob := (u, .iter d true clk []) :: (s.drop u).ob })) : yu P E n ops y7 (o :: rest) Q s := by
 intro a w β hn hd hs
 have hw := yq (ops := ops) hs hG
 have vx := hs.ev x hgx (a := a) rfl
 rw [hx] at vx
 obtain ⟨b, hmb, hb⟩ := wD vx
 obtain ⟨b', arr, hb', harr, hent⟩ := x6 (hs.ob d _ hob)
 rw [hb] at hb'
 injection hb' with hb'
 subst hb'
 have hu := qE hT hTt hsh
 have hget := yv (P := P) harr (fun _ _ _ h => by cases h)
 have hS := (hs.new u (vM (dst := some u) hdo) (.mapIter (some b) clk #[] clk)).add u (.iter d true clk []) ⟨_, b, 0, yf _ _ _, heap_alloc_new w _, fun _ => by rw [zZ β _ hdu]; exact hb⟩
 obtain ⟨g1, g2, g3⟩ := yW (dst := some u) hn hd hS hdo true (.ptr 1 u 0 0) (v := .pointer (some ⟨w.heap.size, 0, none⟩)) (fun _ => .ptr (k := 1) (i := 0) (j := 0) (yf _ _ _)) (fun h => by cases h)
 refine ym (by rw [ho]; rfl) hw (fun _ => ?_) (fun hGf => by cases hGf)
 refine xd (w' := w.alloc (.mapIter (some b) clk #[] clk)) (v := .pointer (some ⟨w.heap.size, 0, none⟩)) (by simp [execOp, ho, hmb, Instr.range, run_underlying hu, hget]) ⟨XW y7 (upd β u (some w.heap.size)), yG.below ((Below.refl _ _).alloc (Nat.le_refl _) _) (fun e b hb he => vR he hb), hr _ _ _ ?_ ?_ ?_⟩
 ·rw [hdst]; exact g1
 ·rw [hdst]; exact g2
 ·rw [hdst]; exact g3
theorem uj {x : Operand} {ty d u c : Nat} {seen : List Nat} {L : List (Nat × Int × α)} {f : α → AV} (hG : ya ops s o.guard = some true) (ho : o.op = .next x false) (hdst : yY n o.dst) (hgx : s.gd x = true) (hx : s.ev x = .ptr 1 u 0 0)
  (hit : lk s.ob u = some (.iter d true c seen)) (hob : lk s.ob d = some (.mapr c (mI f L))) (hall : ∀ e ∈ L, e.1 < c) (hty : o.type = ty)
  (h0 : (∀ e ∈ L, e.1 ∈ seen) → zT P E n ops y7 rest Q (s.put o.dst true (.tup [vB false])))
  (h1 : ∀ e ∈ L, e.1 ∉ seen → zT P E n ops y7 rest Q (({ fr := s.fr, ob := (u, .iter d true c (seen ++ [e.1])) :: rmo u s.ob } : AState).put o.dst true (.tup [vB true, .dead, .dead]))) : yu P E n ops y7 (o :: rest) Q s := by
 intro a w β hn hd hs
 have hw := yq (ops := ops) hs hG
 have vx := hs.ev x hgx (a := a) rfl
 rw [hx] at vx
 obtain ⟨r, hxr, hr⟩ : ∃ r, a.eval x = .pointer (some ⟨r, 0, none⟩) ∧ β u = some r := by
  generalize a.eval x = v at vx
  cases vx with
  | s h => cases h
  | ptr h => exact ⟨_, rfl, h⟩
 obtain ⟨r', b, _, hr', hit1, hit2⟩ := hs.ob u _ hit
 rw [hr] at hr'
 injection hr' with hr'
 subst hr'
 have hb := hit2 rfl
 obtain ⟨b', arr, hb', harr, hent⟩ := x6 (hs.ob d _ hob)
 rw [hb] at hb'
 injection hb' with hb'
 subst hb'
 have hmem : ∀ m ∈ arr.toList, ∃ e ∈ L, m.born = e.1 := fun m hm => by
  obtain ⟨i, hi⟩ := List.mem_iff_getElem?.1 hm
  have hlt : i < (mI f L).length := by rw [← hent.1]; exact zG hi
  obtain ⟨e, he1, he2⟩ := VN (List.getElem?_eq_getElem hlt)
  exact ⟨e, List.mem_of_getElem? he1, by have := (hent.2 i _ m (List.getElem?_eq_getElem hlt) hi).1; rw [he2] at this; exact this⟩
 have hmem2 : ∀ e ∈ L, ∃ m ∈ arr.toList, m.born = e.1 := fun e he => by
  obtain ⟨i, hi⟩ := List.mem_iff_getElem?.1 he
  have hlt : i < arr.toList.length := by rw [hent.1, Zy]; exact zG hi
  exact ⟨arr.toList[i], List.getElem_mem hlt, (hent.2 i (e.1, vI e.2.1, f e.2.2) _ (by rw [mI, List.getElem?_map, hi]; rfl) (List.getElem?_eq_getElem hlt)).1⟩
 refine ym (by rw [ho]; rfl) hw (fun _ => ?_) (fun hGf => by cases hGf)
 rcases run_next_at (P := P) w ty r b c c seen.toArray arr c hit1 harr (fun m hm => by obtain ⟨e, he, h⟩ := hmem m hm; rw [h]; exact hall e he) (Nat.le_refl _) with ⟨hz, hrun⟩ | ⟨m, hm, w1, hw1, hrun⟩
 ·obtain ⟨g1, g2, g3⟩ := yW hn hd hs hdst true (.tup [vB false]) (v := .tuple #[.bool false]) (fun _ => .tup rfl fun i y u hy hu => by
   rcases i with _ | i
   ·simp only [List.getElem?_cons_zero, Option.some.injEq, List.getElem?_toArray] at hy hu; subst hy; subst hu; exact .s (.v rfl)
   ·simp at hy) (fun h => by cases h)
  refine xd (w' := w) (v := .tuple #[.bool false]) (by simp [execOp, ho, hxr, hty, hrun]) ⟨XW y7 β, qo, h0 (fun e he => ?_) _ _ _ g1 g2 g3⟩
  obtain ⟨m, hm, hme⟩ := hmem2 e he
  refine Classical.byContradiction fun hne => ?_
  have hin : m ∈ (leftOf arr seen.toArray).toList := by
   unfold leftOf
   simp only [Array.toList_filter, List.mem_filter]
   refine ⟨hm, ?_⟩
   simp only [Bool.not_eq_true', ← Bool.not_eq_true, Array.contains_iff, List.mem_toArray, hme]
   exact hne
  have : (leftOf arr seen.toArray).toList = [] := List.eq_nil_of_length_eq_zero (by simpa using hz)
  rw [this] at hin
  cases hin
 ·unfold leftOf at hm
  simp only [Array.toList_filter, List.mem_filter, Bool.not_eq_true', ← Bool.not_eq_true, Array.contains_iff, List.mem_toArray] at hm
  obtain ⟨e, he, hme⟩ := hmem m hm.1
  have hB : Below w.heap.size w w1 := by
   rcases hw1 with rfl | rfl
   ·exact Below.refl _ _
   ·exact X9 w
  have hs1 := hs.ext hB
  have hh1 : w1.heap = w.heap := by rcases hw1 with rfl | rfl <;> rfl
  have hK : Keeps (fun q => β u = some q) w1 (setBlock w1 r (.mapIter (some b) c (seen.toArray.push m.born) c)) := we hr
  have hS := hs1.content u hK (fun q t' n' hq ⟨arr', e1, _⟩ => by
   rw [hr] at hq
   injection hq with hq
   subst hq
   rw [hh1, hit1] at e1
   cases e1)
  have hlt : r < w1.heap.size := (hs1.rng u r hr).2
  have hS2 := hS.add u (.iter d true c (seen ++ [e.1])) ⟨r, b, 0, hr, by rw [← hme]; simp [setBlock, hlt], fun _ => hb⟩
  obtain ⟨g1, g2, g3⟩ := yW hn hd hS2 hdst true (.tup [vB true, .dead, .dead]) (v := .tuple #[.bool true, m.key, m.val]) (fun _ => .tup rfl fun i y u hy hu => by
   rcases i with _ | _ | _ | i
   ·simp only [List.getElem?_cons_zero, Option.some.injEq, List.getElem?_toArray] at hy hu; subst hy; subst hu; exact .s (.v rfl)
   ·simp only [List.getElem?_cons_zero, List.getElem?_cons_succ, Option.some.injEq] at hy; subst hy; exact .dead
   ·simp only [List.getElem?_cons_zero, List.getElem?_cons_succ, Option.some.injEq] at hy; subst hy; exact .dead
   ·simp at hy) (fun h => by cases h)
  have hX : xx (fun q => β u = some q) w (setBlock w1 r (.mapIter (some b) c (seen.toArray.push m.born) c)) := ⟨Nat.le_trans hB.size hK.size, fun q hq hne => (hK.block q (Nat.lt_of_lt_of_le hq hB.size) hne).trans (hB.block q hq)⟩
  exact xd (w' := setBlock w1 r (.mapIter (some b) c (seen.toArray.push m.born) c)) (v := .tuple #[.bool true, m.key, m.val]) (by simp [execOp, ho, hxr, hty, hrun]) ⟨XW y7 β, ui (d := u) hX (by rw [Dr.dst, ho]; rfl), h1 e he (by rw [← hme]; exact hm.2) _ _ _ g1 g2 g3⟩
theorem xl {x : Operand} {d u c : Nat} {seen : List Nat} {L : List (Nat × Int × α)} {f : α → AV} {e : Nat × Int × α} (hG : ya ops s o.guard = some true) (ho : o.op = .entry x) (hdst : yY n o.dst) (hgx : s.gd x = true) (hx : s.ev x = .ptr 1 u 0 0)
  (hit : lk s.ob u = some (.iter d true c (seen ++ [e.1]))) (hob : lk s.ob d = some (.mapr c (mI f L))) (he : e ∈ L) (hnd : (L.map (·.1)).Nodup)
  (hr : zT P E n ops y7 rest Q (s.put o.dst true (.tup [vI e.2.1, f e.2.2]))) : yu P E n ops y7 (o :: rest) Q s := by
 intro a w β hn hd hs
 have hw := yq (ops := ops) hs hG
 have vx := hs.ev x hgx (a := a) rfl
 rw [hx] at vx
 obtain ⟨r, hxr, hr0⟩ : ∃ r, a.eval x = .pointer (some ⟨r, 0, none⟩) ∧ β u = some r := by
  generalize a.eval x = v at vx
  cases vx with
  | s h => cases h
  | ptr h => exact ⟨_, rfl, h⟩
 obtain ⟨r', b, _, hr', hit1, hit2⟩ := hs.ob u _ hit
 rw [hr0] at hr'
 injection hr' with hr'
 subst hr'
 have hb := hit2 rfl
 obtain ⟨b', arr, hb', harr, hent⟩ := x6 (hs.ob d _ hob)
 rw [hb] at hb'
 injection hb' with hb'
 subst hb'
 obtain ⟨i, hi⟩ := List.mem_iff_getElem?.1 he
 have hlt : i < arr.toList.length := by rw [hent.1, Zy]; exact zG hi
 have hm := hent.2 i (e.1, vI e.2.1, f e.2.2) _ (by rw [mI, List.getElem?_map, hi]; rfl) (List.getElem?_eq_getElem hlt)
 generalize hmm : arr.toList[i] = m at hm
 have hmi : m ∈ arr.toList := by rw [← hmm]; exact List.getElem_mem hlt
 have hborn : arr.toList.map (·.born) = L.map (·.1) := by
  apply List.ext_getElem?
  intro j
  rw [List.getElem?_map, List.getElem?_map]
  rcases Nat.lt_or_ge j L.length with hj | hj
  ·have hj2 : j < arr.toList.length := by rw [hent.1, Zy]; exact hj
   rw [List.getElem?_eq_getElem hj, List.getElem?_eq_getElem hj2]
   have := (hent.2 j (L[j].1, vI L[j].2.1, f L[j].2.2) _ (by rw [mI, List.getElem?_map, List.getElem?_eq_getElem hj]; rfl) (List.getElem?_eq_getElem hj2)).1
   simpa using this
  ·rw [List.getElem?_eq_none hj, List.getElem?_eq_none (by rw [hent.1, Zy]; exact hj)]
   rfl
 have hrun := run_entry_at (P := P) w r b c seen.toArray arr c m (by rw [hm.1]; simpa using hit1) harr hmi (by rw [hborn]; exact hnd)
 obtain ⟨g1, g2, g3⟩ := yW hn hd hs hdst true (.tup [vI e.2.1, f e.2.2]) (v := .tuple #[m.key, m.val]) (fun _ => .tup rfl fun i y u hy hu => by
   rcases i with _ | _ | i
   ·simp only [List.getElem?_cons_zero, Option.some.injEq, List.getElem?_toArray] at hy hu; subst hy; subst hu; exact .s hm.2.1
   ·simp only [List.getElem?_cons_zero, List.getElem?_cons_succ, Option.some.injEq, List.getElem?_toArray] at hy hu; subst hy; subst hu; exact hm.2.2
   ·simp at hy) (fun h => by cases h)
 refine ym (by rw [ho]; rfl) hw (fun _ => ?_) (fun hGf => by cases hGf)
 exact xd (w' := w) (v := .tuple #[m.key, m.val]) (by simp [execOp, ho, hxr, hrun]) ⟨XW y7 β, qo, hr _ _ _ g1 g2 g3⟩
end
end
section
open Go.RowKit Go.MapKept
section
variable {P : Program} {T : Nat → Option TyD} {E : Env} {s : AState} {tm : Array Value} {w w' : World} {β : Nat → Option Nat} {n : Nat} {ops : Array Oper} {Q : Exit → AState → Prop} {rest : List Oper} {o : Oper} {α : Type} {F : Nat → Prop}
theorem VP {x : Operand} {ats : Array TypeId} {g t d u clk : Nat} {L : List (Nat × Int × α)} {f : α → AV} {fn : Func} (hG : ya ops s o.guard = some true) (ho : o.op = .call ⟨.value (.func g), #[x], ats⟩) (hdst : o.dst = some u) (hdo : yY n (some u)) (hgx : s.gd x = true) (hx : s.ev x = .ifc t (.map d))
  (hob : lk s.ob d = some (.mapr clk (mI f L))) (hfk : ∀ a, (f a).kill u = f a) (hf : P.funcs[g]? = some fn) (h1 : (fn.name == "runtime.NumGoroutine") = false) (h2 : fn.body.isNone = true) (h3 : Extern.findNext fn = none) (h4 : Extern.find fn = some Extern.MapsClone.clone)
  (hr : zT P E n ops y7 rest Q { fr := (u, true, .ifc t (.map u)) :: (s.drop u).fr, ob := (u, .mapr clk (mI f L)) :: (s.drop u).ob }) : yu P E n ops y7 (o :: rest) Q s := by
 intro a w β hn hd hs
 have hw := yq (ops := ops) hs hG
 obtain ⟨v, hxv, vx⟩ := YC (hs.ev x hgx (a := a) rfl) hx
 obtain ⟨b, rfl, hb⟩ := wD vx
 obtain ⟨b', arr, hb', harr, hent⟩ := x6 (hs.ob d _ hob)
 rw [hb] at hb'
 injection hb' with hb'
 subst hb'
 have hget := yv (P := P) harr (fun _ _ _ h => by cases h)
 have hcl : (Extern.MapsClone.clone #[.iface t (.map (some b))]).run P w = .ok (.iface t (.map (some w.heap.size))) (w.alloc (.map arr clk)) := by
  have e : Extern.MapsClone.clone #[.iface t (.map (some b))] = (getObj b >>= fun o => match o with
    | .map entries clock => (newObj (.map entries clock) >>= fun n => pure (.iface t (.map (some n))))
    | _ => stuck "maps.clone: a map expected") := rfl
  rw [e]
  simp [hget]
 have hS := (hs.new u (vM (dst := some u) hdo) (.map arr clk)).add u (.mapr clk (mI f L)) ⟨_, arr, yf _ _ _, heap_alloc_new w _, by simpa [mI] using hent.1, fun i e m he hm => by
  obtain ⟨g1, g2, g3⟩ := hent.2 i e m he (by simpa using hm)
  have hnb : ∀ c, c < w.heap.size → (w.alloc (.map arr clk)).heap[c]? = w.heap[c]? := fun c hc => Below.heap_alloc w _ c hc
  have hk := g3.kill (F' := FF E (upd β u (some w.heap.size)) (w.alloc (.map arr clk))) (β' := upd β u (some w.heap.size)) (w' := w.alloc (.map arr clk)) u (fun _ h => Zi h) (fun c hc => hnb c hc.1) (fun e he => zZ β _ he) (fun e c t n _ hc h => h.of_heap (hnb c (hs.rng e c hc).2))
  obtain ⟨y, _, rfl⟩ := VN he
  refine ⟨g1, g2.mono (fun _ h => Zi h) (fun c hc => hnb c hc.1), ?_⟩
  rw [hfk] at hk
  exact hk⟩
 obtain ⟨g1, g2, g3⟩ := yW (dst := some u) hn hd hS hdo true (.ifc t (.map u)) (v := .iface t (.map (some w.heap.size))) (fun _ => .ifc (.map (yf _ _ _))) (fun h => by cases h)
 refine ym (by rw [ho]; rfl) hw (fun _ => ?_) (fun hGf => by cases hGf)
 refine xd (w' := w.alloc (.map arr clk)) (v := .iface t (.map (some w.heap.size))) ?_ ⟨XW y7 (upd β u (some w.heap.size)), yG.below ((Below.refl _ _).alloc (Nat.le_refl _) _) (fun e b hb he => vR he hb), hr _ _ _ ?_ ?_ ?_⟩
 ·have hc := run_callFunc_extern hf h1 h2 h3 h4 #[.iface t (.map (some b))] w
  rw [hcl] at hc
  have hc2 : (callFunc g #[.iface t (.map (some b))]).run P w = .ok (.value (.iface t (.map (some w.heap.size)))) (w.alloc (.map arr clk)) := hc
  have he : a.eval (.func g) = .func (.func g) #[] #[] := rfl
  simp [execOp, ho, resolve, invoke, he, Deferred.ofValue, hxv, hc2]
 ·rw [hdst]; exact g1
 ·rw [hdst]; exact g2
 ·rw [hdst]; exact g3
theorem QN (hT : TOK P T) {x : Operand} {t e d off m : Nat} {xs : List (List AV)} {dt de : TyD} (hG : ya ops s o.guard = some true) (ho : o.op = .call ⟨.builtin .clear, #[x], #[t]⟩) (hdst : o.dst = none) (hgx : s.gd x = true) (hx : s.ev x = .ref e 1 d off m)
  (hTt : T t = some dt) (hsh : dt.sh = .slice e) (hTe : T e = some de) (hk : de.size = 1) (hob : lk s.ob d = some (.row e 1 xs)) (hr : zT P E n ops y7 rest Q { fr := s.fr, ob := (d, .row e 1 (xs.take off)) :: rmo d s.ob }) : yu P E n ops y7 (o :: rest) Q s := by
 intro a w β hn hd hs
 have hw := yq (ops := ops) hs hG
 have vx := hs.ev x hgx (a := a) rfl
 rw [hx] at vx
 have hu := yZ hT hTt hsh
 have hlt : ∀ {c : Nat} {y : List AV}, (xs.take off)[c]? = some y → c < off ∧ xs[c]? = some y := fun {c y} h => by
  have := zG h
  rw [List.length_take] at this
  exact ⟨by omega, by rwa [List.getElem?_take_of_lt (by omega)] at h⟩
 have same : SRel E { fr := s.fr, ob := (d, .row e 1 (xs.take off)) :: rmo d s.ob } a.tmps w β := by
  have h0 := (hs.content d (Keeps.refl _ w) (fun _ _ _ _ h => h)).add d (.row e 1 (xs.take off)) (by
   obtain ⟨hk1, h⟩ := hs.ob d _ hob
   refine ⟨fun cs hcs => hk1 cs (List.mem_of_mem_take hcs), ?_⟩
   rcases h with rfl | ⟨b, arr, h1, h2, h3, h4⟩
   ·exact .inl (by simp)
   ·refine .inr ⟨b, arr, h1, h2, ?_, fun i j cs u hc hu' => h4 i j cs u (hlt hc).2 hu'⟩
    rw [List.length_take]
    exact Nat.le_trans (Nat.mul_le_mul_right _ (Nat.min_le_right _ _)) h3)
  exact h0
 have none0 : ∀ (A : Option Addr) (c : Nat), a.eval x = .slice A 0 c → (o.wp P a w (fun a' w' => ∃ X', yG (y7.dst o) (XW y7 β) w X' w' ∧ z7 P ops y7 (ki E n Q) (nrm E n y7 (Q .normal)) rest X' a' w') (ki E n Q)) := fun A c hxv => by
  refine xd (w' := w) (v := .tuple #[]) (by cases A <;> simp [execOp, ho, resolve, invoke, builtin, hxv, Builtin.clear_, run_underlying hu]) ⟨XW y7 β, qo, hr _ _ _ ?_ ?_ ?_⟩
  ·rw [hdst]; exact hn
  ·rw [hdst]; exact hd
  ·rw [hdst]; exact same
 refine ym (by rw [ho]; rfl) hw (fun _ => ?_) (fun hGf => by cases hGf)
 generalize hxv : a.eval x = v at vx
 cases vx with
 | s h => cases h
 | nil => exact none0 _ _ hxv
 | empty h => exact none0 _ _ hxv
 | @ref _ _ _ _ _ c b A g1 g2 g3 g4 g5 =>
  subst g4
  rcases Nat.eq_zero_or_pos m with h0 | h0
  ·subst h0; exact none0 _ _ hxv
  obtain ⟨arr, harr, hasz⟩ := g5
  rw [Nat.mul_one] at hasz
  obtain ⟨⟨i, z, hi, hsz, hby, hz, hzc⟩, hzl, hzf, _⟩ := hT e de hTe
  have hz1 : z.cells.size = 1 := by rw [hzc]; simp [hzl, hk]
  have hlen : (Builtin.zeroCells z.cells m).toList.length = m := by rw [Array.length_toList, size_zeroCells, hz1, Nat.mul_one]
  have hone : ∀ v ∈ (Builtin.zeroCells z.cells m).toList, v.oneCell' = true := fun v hv => by
   simp only [Builtin.zeroCells, Array.toList_map, List.mem_map] at hv
   obtain ⟨q, _, rfl⟩ := hv
   have hq : q % z.cells.size < z.cells.size := Nat.mod_lt _ (by omega)
   rw [getElem!_pos z.cells _ hq]
   refine wN (hzf _ ?_)
   have key : ∀ zc : Array Value, zc = de.zero.toArray → ∀ (i : Nat) (h : i < zc.size), zc[i] ∈ de.zero := fun zc e i h => by
    subst e
    have := Array.getElem_mem h
    simpa using this
   exact key _ hzc _ hq
  have hst := run_storeCells_at P b off e (Builtin.zeroCells z.cells m).toList 0 arr w harr (by rw [hlen]; omega) hone
  have hK : Keeps (fun c => β d = some c) w (w.setRow b (arr.toList.take (off + 0) ++ (Builtin.zeroCells z.cells m).toList ++ arr.toList.drop (off + 0 + (Builtin.zeroCells z.cells m).toList.length)).toArray) := ⟨rfl, rfl, rfl, by simp, fun q _ hq => setRow_other w b q _ fun h => hq (by rw [h]; exact g1)⟩
  have hnew := setRow_heap w b arr (arr.toList.take (off + 0) ++ (Builtin.zeroCells z.cells m).toList ++ arr.toList.drop (off + 0 + (Builtin.zeroCells z.cells m).toList.length)).toArray e (0, 0) harr
  have hsz2 : (arr.toList.take (off + 0) ++ (Builtin.zeroCells z.cells m).toList ++ arr.toList.drop (off + 0 + (Builtin.zeroCells z.cells m).toList.length)).toArray.size = arr.size := by
   simp only [List.size_toArray, List.length_append, List.length_take, List.length_drop, hlen, Array.length_toList]
   omega
  generalize hww : w.setRow b (arr.toList.take (off + 0) ++ (Builtin.zeroCells z.cells m).toList ++ arr.toList.drop (off + 0 + (Builtin.zeroCells z.cells m).toList.length)).toArray = w2 at hst hK hnew
  have hS := (hs.content d hK (fun q t' n' hq ⟨arr', e1, e2⟩ => by
   rw [g1] at hq
   injection hq with hq
   subst hq
   rw [harr] at e1
   injection e1 with e1
   injection e1 with e1 e3
   subst e1
   subst e3
   exact ⟨_, hnew, hsz2.trans e2⟩)).add d (.row e 1 (xs.take off)) (by
   obtain ⟨hk1, h⟩ := hs.ob d _ hob
   refine ⟨fun cs hcs => hk1 cs (List.mem_of_mem_take hcs), ?_⟩
   rcases h with rfl | ⟨b', arr', h1, h2, h3, h4⟩
   ·exact .inl (by simp)
   ·rw [g1] at h1
    injection h1 with h1
    subst h1
    rw [harr] at h2
    injection h2 with h2
    injection h2 with h2 _
    subst h2
    refine .inr ⟨b, _, g1, hnew, ?_, fun i j cs u hc hu' => ?_⟩
    ·rw [hsz2, List.length_take]
     exact Nat.le_trans (Nat.mul_le_mul_right _ (Nat.min_le_right _ _)) h3
    ·obtain ⟨hi, hc'⟩ := hlt hc
     obtain ⟨x0, q1, q2⟩ := h4 i j cs u hc' hu'
     have hj : j = 0 := by have h5 := zG hu'; rw [hk1 cs (List.mem_of_getElem? hc')] at h5; omega
     subst hj
     rw [Nat.mul_one, Nat.add_zero] at q1 ⊢
     refine ⟨x0, ?_, q2.mono (fun c ⟨h1, h2, h3⟩ => ⟨Nat.lt_of_lt_of_le h1 hK.size, h2, h3⟩) (fun c hc => hK.block c hc.1 (hc.2.2 d))⟩
     rw [List.getElem?_toArray, List.append_assoc, List.getElem?_append_left (by rw [List.length_take, Array.length_toList]; omega), List.getElem?_take_of_lt (by omega), Array.getElem?_toList]
     exact q1)
  have hz0 : (zeroValue e).run P w = .ok z w := by simp [zeroValue, typeInfo, hi, hz]
  obtain ⟨m', rfl⟩ : ∃ m', m = m' + 1 := ⟨m - 1, by omega⟩
  rw [Nat.mul_one] at hxv
  refine xd (w' := w2) (v := .tuple #[]) (by simp [execOp, ho, resolve, invoke, builtin, hxv, Builtin.clear_, run_underlying hu, hz0, hst]) ⟨XW y7 β, ui (d := d) ⟨hK.size, fun q hq hne => hK.block q hq hne⟩ (by rw [Dr.dst, ho]; rfl), hr _ _ _ ?_ ?_ ?_⟩
  ·rw [hdst]; exact hn
  ·rw [hdst]; exact hd
  ·rw [hdst]; exact hS
end
end
section
open Go.RowKit
def Ur (x : InsM) (p : Bool) (w : Int) : Bool :=
 if x.op = 1 ∨ x.op = 2 ∨ x.op = 3 ∨ x.op = 4 ∨ x.op = 7 ∨ x.op = 8 ∨ x.op = 10 then true
 else if x.op = 33 ∨ x.op = 34 ∨ x.op = 35 ∨ x.op = 36 ∨ x.op = 37 ∨ x.op = 38 ∨ x.op = 39 ∨ x.op = 40 ∨ x.op = 41 ∨ x.op = 44 ∨ x.op = 45 ∨ x.op = 46 then true
 else if x.op = 11 then decide (w = 0) else if x.op = 16 then p else if x.op = 17 then decide (x.a = -1) else false
def wa (C : List InsM) (B : List Bool) (k : Nat) (w : Int) : Bool := Ur (zg C k) (B.getD (zg C k).c.toNat false) w
def xG (B : List Bool) : List (List AV) := B.map fun b => [vB b]
theorem wF (B : List Bool) : (xG B).length = B.length := by simp [xG]
theorem vv {B : List Bool} {k : Nat} (h : k < B.length) : (xG B)[k]? = some [vB (B.getD k false)] := by simp [xG, List.getD, h]
theorem Xt (B : List Bool) (b : Bool) : xG B ++ [[vB b]] = xG (B ++ [b]) := by simp [xG]
abbrev mK (L : List (Nat × Int × Unit)) : List (Nat × AV × AV) := mI (fun _ => AV.dead) L
theorem yn (d : Nat) (L : List (Nat × Int × Unit)) : mapM (AV.kill d) (mK L) = mK L := wC (f := fun _ => AV.dead) (fun _ => rfl) L
theorem uw (K V : List Nat) (L : List (Nat × Int × Unit)) : mapM (AV.cut K V) (mK L) = mK L := wC (f := fun _ => AV.dead) (fun _ => rfl) L
theorem z6 (r : List (Nat × Nat)) (L : List (Nat × Int × Unit)) : mapM (AV.ren r) (mK L) = mK L := wC (f := fun _ => AV.dead) (fun _ => rfl) L
def rtV (e : Bool) (C : List InsM) (N : List Int) (B : List Bool) (en : Int) (cm : AV) : AObj := .var [vB e, .lst 4 (zF C), .lst 1 (v8 N), .ref 4 1 10002 0 B.length, vI en, cm]
def rtO (e : Bool) (C : List InsM) (N : List Int) (B : List Bool) (en : Int) (c : Nat) (M : List (Nat × Int × Unit)) : List (Nat × AObj) :=
 [(10000, rtV e C N B en (.map 10003)), (10002, .row 4 1 (xG B)), (10003, .mapr c (mK M))]
theorem Us (e : Bool) (C : List InsM) (N : List Int) (B : List Bool) (en : Int) (c : Nat) (M : List (Nat × Int × Unit)) (k : Nat) (hk : k < C.length) (w : Int) (hc : (zg C k).op = 16 → 0 ≤ (zg C k).c ∧ (zg C k).c < B.length) :
  yb Tryz.prog 69 [.ptr 1 10000 0 0, vI k, vI w] (rtO e C N B en c M) (vB (wa C B k w)) (rtO e C N B en c M) := by
 have zk : ((k : Int)).toNat = k := by omega
 have gk := yC hk
 unfold wa
 generalize zg C k = x at *
 obtain ⟨op, a, b, c'⟩ := x
 dsimp only at hc ⊢
 unfold rtO rtV
 have fin' : ∀ (u v : Bool), u = v → (xC [vB u]).up (vB v) := fun u v h => by subst h; exact AV.up_rfl _
 by_cases h16 : op = 16
 ·subst h16
  obtain ⟨h1, h2⟩ := hc rfl
  obtain ⟨m, rfl⟩ : ∃ m : Nat, c' = m := ⟨c'.toNat, by omega⟩
  have zm : ((m : Int)).toNat = m := by omega
  have gb := vv (B := B) (k := m) (by omega)
  rw [zm]
  generalize B.getD m false = p at gb
  refine zJ (zb _) Tryz.func69 rfl rfl (by rw [Tryz.results69]) Tryz.ntmps69 rfl fun E => ?_
  (repeat' (first | exact trivial | (with_reducible first | apply awA | apply awB | apply awD | apply awF | apply awG | apply awJ) | (refine zA (id := 27) (t := (.node [0, 1, 2, 3, 4, 5, 6, 7, 8] [])) (drR [10000, 7] [52] []) zH (by kernel_rfl) (by kernel_rfl) (fun _ _ h => h) ?_) | (refine zB (by simp only [go_sem]; exact rfl) ?_) | (refine zD (by simp only [go_sem]; exact rfl) ?_) | refine zl ?_ | refine zq ?_ ?_ | exact zC | ((with_reducible first | apply awn | apply awp | refine awQ ?_ | refine awT ?_); intro r hr; simp only [go_sem, Nat.reduceBEq, Nat.reduceLT, Nat.reduceLeDiff, Nat.reduceAdd, Nat.reduceMul, reduceCtorEq, zk, gk, zd, zm, gb, yn, Int.reduceEq] at hr; subst hr; (first | refine awV ?_ ?_ | refine zP ?_ ?_ ?_ | (refine zh (fun h => ?_) (fun h => ?_) <;> (try simp only [go_sem, reduceCtorEq] at h) <;> (try (exfalso; omega))))))) <;> (try omega)
  all_goals first | exact AV.up_rfl _ | (repeat first | exact zo | refine zn rfl ?_) | skip
 ·have e16 : (op = 16) = False := eq_false h16
  refine zJ (zb _) Tryz.func69 rfl rfl (by rw [Tryz.results69]) Tryz.ntmps69 rfl fun E => ?_
  (repeat' (first | exact trivial | (with_reducible first | apply awA | apply awB | apply awC | apply awD | apply awF | apply awG | apply awI | apply awJ) | ((with_reducible first | apply awn | refine awQ ?_ | refine awT ?_); intro r hr; simp only [go_sem, Nat.reduceBEq, Nat.reduceLT, Nat.reduceLeDiff, Nat.reduceAdd, Nat.reduceMul, zk, gk, zd, e16, yn] at hr; subst hr; (first | refine awV ?_ ?_ | refine zP ?_ ?_ ?_ | (refine zh (fun h => ?_) (fun h => ?_) <;> (try simp only [go_sem, reduceCtorEq] at h) <;> (try (exfalso; omega))))))) <;> (try omega)
  all_goals first | (refine fin' _ _ ?_; simp_all [Ur]) | (repeat first | exact zo | refine zn rfl ?_) | skip
theorem KJ (e : Bool) (C : List InsM) (N : List Int) (B : List Bool) (en : Int) (c : Nat) (M : List (Nat × Int × Unit)) (k : Nat) (hk : k < C.length) (w : Int) (hc : (zg C k).op = 16 → 0 ≤ (zg C k).c ∧ (zg C k).c < B.length) :
  yb Tryz.prog 64 [.ptr 1 10000 0 0, vI k, vI w] (rtO e C N B en c M) (vB !(wa C B k w)) (rtO e C N B en c M) := by
 have ht := Us e C N B en c M k hk w hc
 generalize wa C B k w = p at ht ⊢
 unfold rtO rtV at *
 refine zJ (zb _) Tryz.func64 rfl rfl (by rw [Tryz.results64]) Tryz.ntmps64 rfl fun E => ?_
 (repeat' (first | exact trivial | (with_reducible first | apply awA | apply awD | apply awF) | ((with_reducible first | apply awn | apply awo | refine awT ?_); intro r hr; simp only [go_sem, Nat.reduceBEq, Nat.reduceLT, Nat.reduceAdd, z6] at hr; subst hr; (first | refine awV ?_ ?_ | refine awW ?_ ?_ | refine zP ?_ ?_ ?_)) | (refine zz [(10000, 10000), (10002, 10002), (10003, 10003)] [(10000, 10000), (10002, 10002), (10003, 10003)] [] [10000, 10002, 10003] ?_; intro r hr; simp only [go_sem, Nat.reduceBEq, Nat.reduceLT, z6] at hr; subst hr; refine zR (ht) rfl rfl (by first | exact .inl rfl | exact .inr rfl) ?_ (.inl rfl) ?_))) <;> (try omega)
 all_goals first | exact AV.up_rfl _ | (repeat first | exact zo | refine zn rfl ?_)
theorem Kc (k w : Int) : yb Tryz.prog 39 [vI k, vI w] [] (vB true) [] := by
 refine zJ (zb _) Tryz.func39 rfl rfl (by rw [Tryz.results39]) Tryz.ntmps39 rfl fun E => ?_
 (repeat' (first | exact trivial | (with_reducible first | apply awA | apply awD | apply awF) | ((with_reducible first | apply awn | refine awT ?_); intro r hr; simp only [go_sem, Nat.reduceBEq, Nat.reduceLT] at hr; subst hr; (first | refine awV ?_ ?_ | refine zP ?_ ?_ ?_)))) <;> (try omega)
 all_goals first | exact AV.up_rfl _ | (repeat first | exact zo | refine zn rfl ?_)
def xU (C : List InsM) (B : List Bool) (k : Nat) (w : Int) : Bool := decide ((zg C k).op = 17) || !(wa C B k w)
theorem zaN (e : Bool) (C : List InsM) (N : List Int) (B : List Bool) (en : Int) (c : Nat) (M : List (Nat × Int × Unit)) (k : Nat) (hk : k < C.length) (w : Int) (hc : (zg C k).op = 16 → 0 ≤ (zg C k).c ∧ (zg C k).c < B.length) :
  yb Tryz.prog 68 [vI k, vI w, .ptr 1 10005 0 0] ((10005, .var [.ptr 1 10000 0 0]) :: rtO e C N B en c M) (vB (xU C B k w)) ((10005, .var [.ptr 1 10000 0 0]) :: rtO e C N B en c M) := by
 have ht := Us e C N B en c M k hk w hc
 have zk : ((k : Int)).toNat = k := by omega
 have gk := yC hk
 unfold xU
 generalize wa C B k w = p at ht ⊢
 generalize zg C k = x at *
 unfold rtO rtV at *
 by_cases h17 : x.op = 17
 ·have e17 : (x.op = 17) = True := eq_true h17
  simp only [e17, decide_true, Bool.true_or]
  refine zJ (zb _) Tryz.func68 rfl rfl (by rw [Tryz.results68]) Tryz.ntmps68 rfl fun E => ?_
  (repeat' (first | exact trivial | (with_reducible first | apply awA | apply awD | apply awF) | ((with_reducible first | apply awn | apply awo | refine awT ?_); intro r hr; simp only [go_sem, Nat.reduceBEq, Nat.reduceLT, Nat.reduceLeDiff, Nat.reduceAdd, Nat.reduceMul, reduceCtorEq, zk, gk, zd, e17] at hr; subst hr; (first | refine awV ?_ ?_ | refine awW ?_ ?_ | refine zP ?_ ?_ ?_)) | (refine yD (vB true) rfl rfl ⟨by decide, by decide⟩ ?_))) <;> (try omega)
  all_goals first | exact AV.up_rfl _ | (repeat first | exact zo | refine zn rfl ?_)
 ·have e17 : (x.op = 17) = False := eq_false h17
  simp only [e17, decide_false, Bool.false_or]
  refine zJ (zb _) Tryz.func68 rfl rfl (by rw [Tryz.results68]) Tryz.ntmps68 rfl fun E => ?_
  (repeat' (first | exact trivial | (with_reducible first | apply awA | apply awD | apply awF) | ((with_reducible first | apply awn | apply awo | refine awT ?_); intro r hr; simp only [go_sem, Nat.reduceBEq, Nat.reduceLT, Nat.reduceLeDiff, Nat.reduceAdd, Nat.reduceMul, reduceCtorEq, zk, gk, zd, e17, z6] at hr; subst hr; (first | refine awV ?_ ?_ | refine awW ?_ ?_ | refine zP ?_ ?_ ?_)) | (refine zz [(10000, 10000), (10002, 10002), (10003, 10003)] [(10000, 10000), (10002, 10002), (10003, 10003)] [] [10000, 10002, 10003] ?_; intro r hr; simp only [go_sem, Nat.reduceBEq, Nat.reduceLT, z6] at hr; subst hr; refine zR (ht) rfl rfl (by first | exact .inl rfl | exact .inr rfl) ?_ (.inl rfl) ?_))) <;> (try omega)
  all_goals first | exact AV.up_rfl _ | (repeat first | exact zo | refine zn rfl ?_)
end
section
open Go.RowKit
section
variable {P : Program} {T : Nat → Option TyD} {E : Env} {s : AState} {n : Nat} {ops : Array Oper} {Q : Exit → AState → Prop} {rest : List Oper} {o : Oper} {D : Dr}
theorem Ut (hT : TOK P T) {x y : Operand} {t t2 e d off m k : Nat} {te : Nat} {dt : TyD} (hG : ya ops s o.guard = some true) (ho : o.op = .binOp .eql t x y t2) (hdst : yY n o.dst) (hgx : s.gd x = true) (hgy : s.gd y = true)
  (hx : s.ev x = .ref te k d off m) (hy : s.ev y = .v (.slice none 0 0)) (hTt : T t = some dt) (hsh : dt.sh = .slice e) (hm : 0 < m) (hr : zT P E n ops D rest Q (s.put o.dst true (.v (.bool false)))) : yu P E n ops D (o :: rest) Q s := by
 intro a w β hn hd hs
 have hw := yq (ops := ops) hs hG
 have vx := hs.ev x hgx (a := a) rfl
 have vy := hs.ev y hgy (a := a) rfl
 rw [hx] at vx
 rw [hy] at vy
 generalize hux : a.eval x = ux at vx
 generalize huy : a.eval y = uy at vy
 cases vy with | s vy => cases vy with | v _ =>
 obtain ⟨d1, d2, d3, d4⟩ := dt
 dsimp only at hsh
 subst hsh
 have hu := yZ hT hTt rfl
 cases vx with
 | s h => cases h
 | nil => omega
 | empty => omega
 | @ref _ _ _ _ _ c b A h1 h2 h3 h4 h5 =>
  subst h4
  obtain ⟨g1, g2, g3⟩ := yW hn hd hs hdst true (.v (.bool false)) (v := .bool false) (fun _ => .s (.v rfl)) (fun h => by cases h)
  exact vG (v := .bool false) (by rw [ho]; rfl) hw (fun _ w' _ => by simp [execOp, ho, hux, huy, eqGuard, Lib.run_eql_slice_nil w' t e (some ⟨b, off * k, none⟩) m c 0 0 hu]) (fun h => by cases h) (hr _ _ _ g1 g2 g3)
end
theorem Uu {P : Program} {t : Nat} {z : Value} (h : (P.info? t).bind (·.zero) = some z) (w : World) : (zeroValue t).run P w = .ok z w := by
 cases hi : P.info? t with
 | none => rw [hi] at h; cases h
 | some i =>
  rw [hi] at h
  have h2 : i.zero = some z := h
  simp [zeroValue, typeInfo, hi, h2]
theorem yd (w : World) : (zeroValue 3).run Tryz.prog w = .ok (.int .i64 0) w := Uu (by kernel_rfl) w
theorem uA (w : World) : (zeroValue 23).run Tryz.prog w = .ok (.slice none 0 0) w := Uu (by kernel_rfl) w
theorem JV (l : List Int) (h0 : 0 < l.length) (hl : l.length ≤ 1000000000) :
  yb Tryz.prog 63 [.ref 3 1 10004 0 l.length] [(10004, .row 3 1 (v8 l))] (.ref 3 1 5 0 l.length) [(5, .row 3 1 (v8 l)), (10004, .row 3 1 (v8 l))] := by
 have ht : (v8 l).take l.length = v8 l := by rw [yR, List.take_length]
 refine zJ (zb _) Tryz.func63 rfl rfl (by rw [Tryz.results63]) Tryz.ntmps63 rfl fun E => ?_
 (repeat' (first | exact trivial | (with_reducible first | apply awA | apply awC | apply awD | apply awF) | ((with_reducible first | refine awN (zb _) [5] ?_ | refine awO (zb _) [5] ?_ | refine awQ ?_ | refine awT ?_); intro r hr; simp only [go_sem, Nat.reduceBEq, Nat.reduceLT, Nat.reduceLeDiff, Nat.reduceAdd, Nat.reduceMul, zp, ht, List.take_nil] at hr; subst hr; (first | refine awV ?_ ?_ | refine awW ?_ ?_ | refine zP ?_ ?_ ?_ | (refine zh (fun h => ?_) (fun h => ?_) <;> (try simp only [go_sem, reduceCtorEq] at h) <;> (try (exfalso; omega))))) | (refine Ut (zb _) rfl rfl ⟨by decide, by decide⟩ rfl rfl rfl rfl t23 rfl h0 ?_))) <;> (try omega)
 all_goals first | exact AV.up_rfl _ | (repeat first | exact zo | refine zn rfl ?_)
def yo (l : List Nat) : List Int := l.map fun k : Nat => ((k : Nat) : Int)
theorem zS (l : List Nat) : (yo l).length = l.length := by simp [yo]
theorem yO {l : List Nat} {i k : Nat} (h : l[i]? = some k) : (v8 (yo l))[i]? = some [vI k] := by simp [v8, yo, h]
theorem xy (l : List Nat) (k : Nat) : v8 (yo l) ++ [[vI k]] = v8 (yo (l ++ [k])) := by simp [v8, yo]
def qL (Q : List Nat) : List (Nat × Int × Unit) := Q.zipIdx.map fun p => (p.2, (p.1 : Int), ())
theorem zaO (Q : List Nat) (k : Nat) : qL (Q ++ [k]) = qL Q ++ [(Q.length, (k : Int), ())] := by simp [qL, List.zipIdx_append]
theorem zbo {α : Type} (k : Int) (L M : List (Nat × Int × α)) : mf k (L ++ M) = match mf k L with | some a => some a | none => mf k M := by
 induction L with
 | nil => rfl
 | cons e L ih =>
  obtain ⟨b, k', a⟩ := e
  simp only [List.cons_append, mf]
  split
  ·rfl
  ·exact ih
theorem Xu {α : Type} (c : Nat) (k : Int) (a : α) : ∀ (L : List (Nat × Int × α)), mf k L = none → xX c k a L = L ++ [(c, k, a)]
 | [], _ => rfl
 | (b, k', a') :: L, h => by
  unfold mf at h
  by_cases hk : k' = k
  ·rw [if_pos hk] at h; cases h
  ·rw [if_neg hk] at h
   simp [xX, hk, Xu c k a L h]
theorem jU {α : Type} (k : Int) (L : List (Nat × Int × α)) : mf k L = none ↔ k ∉ L.map (·.2.1) := by
 induction L with
 | nil => simp [mf]
 | cons e L ih =>
  obtain ⟨b, k', a⟩ := e
  simp only [mf, List.map_cons, List.mem_cons, not_or]
  by_cases h : k' = k
  ·simp [h]
  ·rw [if_neg h, ih]
   exact ⟨fun g => ⟨fun e => h e.symm, g⟩, fun g => g.2⟩
theorem q8 (Q : List Nat) : (qL Q).map (·.2.1) = yo Q := by
 apply List.ext_getElem?
 intro i
 simp [qL, yo]
 cases Q[i]? <;> rfl
theorem Xv {Q : List Nat} {k : Nat} : (k : Int) ∈ yo Q ↔ k ∈ Q := by
  simp only [yo, List.mem_map]
  exact ⟨fun ⟨x, h1, h2⟩ => by have : x = k := by omega
                               rw [← this]; exact h1, fun h => ⟨k, h, rfl⟩⟩
theorem xu {Q : List Nat} {k : Nat} (h : k ∉ Q) : mf (k : Int) (qL Q) = none := by rw [jU, q8, Xv]; exact h
theorem xw {Q : List Nat} {k : Nat} (h : k ∈ Q) : mf (k : Int) (qL Q) = some () := by
 cases hq : mf (k : Int) (qL Q) with
 | some a => rfl
 | none => rw [jU, q8, Xv] at hq; exact absurd h hq
theorem Uv {Q : List Nat} {k : Nat} (h : k ∉ Q) : xX Q.length (k : Int) () (qL Q) = qL (Q ++ [k]) := by rw [Xu _ _ _ _ (xu h), zaO]
theorem Uw {Q : List Nat} {k : Nat} (h : k ∉ Q) : vL Q.length (k : Int) (qL Q) = (Q ++ [k]).length := by simp [vL, xu h]
def ye (_ : Nat) (_ : Int) : Bool := true
def yp (C : List InsM) (B : List Bool) (k : Nat) (w : Int) : Bool := !(wa C B k w)
def yT (C : List InsM) (g : Nat → Int → Bool) (a b : Nat) : Prop := ∃ w : Nat, (zO C a (zg C a))[w]? = some (b : Int) ∧ g a w = true
structure ReachI (C : List InsM) (g : Nat → Int → Bool) (fr Q : List Nat) : Prop where
 nd : Q.Nodup
 iff : ∀ k, k ∈ Q ↔ zaY (yT C g) fr k
structure ClosedS (C : List InsM) (B : List Bool) (S : Nat → Prop) : Prop where
 lt : ∀ k, S k → k < C.length
 ways : ∀ k, S k → ∀ j ∈ zO C k (zg C k), 0 ≤ j ∧ S j.toNat
 calls : ∀ k, S k → (zg C k).op = 16 → 0 ≤ (zg C k).c ∧ (zg C k).c < B.length
def zbw (e : Bool) (C : List InsM) (N : List Int) (B : List Bool) (en : Int) (c : Nat) (M : List (Nat × Int × Unit)) (g : Nat → Int → Bool) (fv : AV) (ob : List (Nat × AObj)) (obn : List Nat) : Prop :=
 (fv = .v (.func (.func 39) #[] #[]) ∧ ob = [(10000, .var [vB e, .lst 4 (zF C), .lst 1 (v8 N), .ref 4 1 10002 0 B.length, vI en, .v (.map none)]), (10002, .row 4 1 (xG B))] ∧ obn = [10000, 10002] ∧ ∀ x, x < C.length → ((zg C x).op = 16 → 0 ≤ (zg C x).c ∧ (zg C x).c < B.length) → ∀ j : Nat, yb Tryz.prog 39 [vI x, vI j] [] (vB (g x j)) []) ∨
 (fv = .fn (64 + 1000000) [.ptr 1 10000 0 0] ∧ ob = [(10000, .var [vB e, .lst 4 (zF C), .lst 1 (v8 N), .ref 4 1 10002 0 B.length, vI en, .map 10003]), (10002, .row 4 1 (xG B)), (10003, .mapr c (mK M))] ∧ obn = [10000, 10002, 10003] ∧ ∀ x, x < C.length → ((zg C x).op = 16 → 0 ≤ (zg C x).c ∧ (zg C x).c < B.length) → ∀ j : Nat, yb Tryz.prog 64 [.ptr 1 10000 0 0, vI x, vI j] [(10000, .var [vB e, .lst 4 (zF C), .lst 1 (v8 N), .ref 4 1 10002 0 B.length, vI en, .map 10003]), (10002, .row 4 1 (xG B)), (10003, .mapr c (mK M))] (vB (g x j)) [(10000, .var [vB e, .lst 4 (zF C), .lst 1 (v8 N), .ref 4 1 10002 0 B.length, vI en, .map 10003]), (10002, .row 4 1 (xG B)), (10003, .mapr c (mK M))]) ∨
 (fv = .fn 68 [.ptr 1 10005 0 0] ∧ ob = [(10005, .var [.ptr 1 10000 0 0]), (10000, .var [vB e, .lst 4 (zF C), .lst 1 (v8 N), .ref 4 1 10002 0 B.length, vI en, .map 10003]), (10002, .row 4 1 (xG B)), (10003, .mapr c (mK M))] ∧ obn = [10005, 10000, 10002, 10003] ∧ ∀ x, x < C.length → ((zg C x).op = 16 → 0 ≤ (zg C x).c ∧ (zg C x).c < B.length) → ∀ j : Nat, yb Tryz.prog 68 [vI x, vI j, .ptr 1 10005 0 0] [(10005, .var [.ptr 1 10000 0 0]), (10000, .var [vB e, .lst 4 (zF C), .lst 1 (v8 N), .ref 4 1 10002 0 B.length, vI en, .map 10003]), (10002, .row 4 1 (xG B)), (10003, .mapr c (mK M))] (vB (g x j)) [(10005, .var [.ptr 1 10000 0 0]), (10000, .var [vB e, .lst 4 (zF C), .lst 1 (v8 N), .ref 4 1 10002 0 B.length, vI en, .map 10003]), (10002, .row 4 1 (xG B)), (10003, .mapr c (mK M))])
theorem Ux (e : Bool) (C : List InsM) (N : List Int) (B : List Bool) (en : Int) (c : Nat) (M : List (Nat × Int × Unit)) (hok : CodeOK C N) (S : Nat → Prop) (hS : ClosedS C B S) (fr : List Nat) (hne : fr ≠ []) (hfr : ∀ k ∈ fr, S k) (hlf : fr.length ≤ 1048576) (g : Nat → Int → Bool) (fv : AV) (ob : List (Nat × AObj)) (obn : List Nat) (hm : zbw e C N B en c M g fv ob obn) :
  yx Tryz.prog 38 [.ptr 1 10000 0 0, .ref 3 1 10004 0 fr.length, fv] (ob ++ [(10004, .row 3 1 (v8 (yo fr)))]) (fun Q : List Nat => ReachI C g fr Q) (fun _ => .map 14) (fun Q => (ob ++ [(10004, .row 3 1 (v8 (yo fr)))]) ++ [(14, .mapr Q.length (mK (qL Q)))]) := by
 have hC := hok.len
 have h0 : 0 < fr.length := List.length_pos_iff.2 hne
 have hcl := JV (yo fr) (by rw [zS]; exact h0) (by rw [zS]; omega)
 rw [zS] at hcl
 rcases hm with ⟨hfv, hob, hon, hgo0⟩ | ⟨hfv, hob, hon, hgo0⟩ | ⟨hfv, hob, hon, hgo0⟩
 all_goals
  rw [hfv, hob]
  refine xq (zb _) Tryz.func38 rfl rfl (by rw [Tryz.results38]) Tryz.ntmps38 rfl fun E => ?_
  (repeat' (first | exact trivial | (with_reducible first | apply awA | apply awB | apply awF) | ((with_reducible first | refine awN (zb _) [4000014] ?_ | refine awO (zb _) [4000014] ?_); intro r hr; simp only [go_sem, Nat.reduceBEq, Nat.reduceLT, Nat.reduceAdd, List.cons_append, List.nil_append, yn, uw] at hr; subst hr; (first | refine awV ?_ ?_ | refine awW ?_ ?_)) | (refine zz [(10004, 10004)] [(5, 16), (10004, 10004)] [16] [10004] ?_; intro r hr; simp only [go_sem, Nat.reduceBEq, Nat.reduceLT, List.cons_append, List.nil_append] at hr; subst hr; refine zR (hcl) rfl rfl (by first | exact .inl rfl | exact .inr rfl) ?_ (.inl rfl) ?_))) <;> (try omega)
  refine zI [0, 2, 7, 8, 9] (obn ++ [10004, 14, 16]) (fun q : Nat × List Nat => ⟨[(0, true, .ptr 1 10000 0 0), (2, true, fv), (7, true, .map 14), (8, true, .ref 3 1 16 0 (fr ++ q.2).length), (9, true, vI q.1)],
   (ob ++ [(10004, .row 3 1 (v8 (yo fr))), (14, .mapr q.2.length (mK (qL q.2))), (16, .row 3 1 (v8 (yo (fr ++ q.2))))])⟩)
   (fun q => Srch (yT C g) fr q.2 q.1 ∧ q.1 ≤ (fr ++ q.2).length ∧ ∀ k ∈ q.2, S k) (fun q => fr.length + C.length - q.1) (0, []) (by simp only [hfv, hob, hon, List.cons_append, List.nil_append, go_sem, Nat.reduceBEq, Nat.reduceAdd] <;> exact rfl) ⟨Srch.nil _ _, Nat.zero_le _, fun k hk => by cases hk⟩ ?_
  intro ⟨i, Q⟩ ⟨hs, hi, hQ⟩
  simp only at hs hi hQ ⊢
  have hQl : Q.length ≤ C.length := yV hs.nd fun k hk => hS.lt k (hQ k hk)
  have hll : (fr ++ Q).length = fr.length + Q.length := List.length_append
  have hwi := zy (n := (i : Int) + 1) (by omega)
  have zi : ((i : Int)).toNat = i := by omega
  by_cases hlt : i < (fr ++ Q).length
  ·have e1 : ((i : Int) < ((fr ++ Q).length : Int)) = True := eq_true (by omega)
   obtain ⟨x, hx⟩ : ∃ x, (fr ++ Q)[i]? = some x := ⟨_, List.getElem?_eq_getElem hlt⟩
   have hSx : S x := by
    rcases List.mem_append.1 (List.mem_of_getElem? hx) with h | h
    ·exact hfr x h
    ·exact hQ x h
   have hxC := hS.lt x hSx
   have hxw := hS.ways x hSx
   have gi := yO hx
   have hw := jR e C N (by omega) x hxC (hok.arms x hxC)
   have hgo := fun j : Nat => hgo0 x hxC (hS.calls x hSx) j
   have hR : ∀ k, yT C g x k → ∃ w : Nat, w < (zO C x (zg C x)).length ∧ (zO C x (zg C x))[w]? = some (k : Int) ∧ g x w = true := fun k ⟨w, h1, h2⟩ => ⟨w, zG h1, h1, h2⟩
   have hR2 : ∀ (k w : Nat), (zO C x (zg C x))[w]? = some (k : Int) → g x w = true → yT C g x k := fun k w h1 h2 => ⟨w, h1, h2⟩
   have hkl : (zO C x (zg C x)).length ≤ 10000000 := by
    unfold zO
    split
    ·simp
    ·split
     ·simp
     ·split
      ·rename_i h8
       have := hok.arms x hxC h8
       simp
       omega
      ·split <;> simp
   generalize zO C x (zg C x) = ks at hw hxw hR hR2 hkl
   unfold pG at hw
   (repeat' (first | exact trivial | (with_reducible first | apply awA | apply awB | apply awC | apply awF) | (refine zA (id := 6) (t := (.node [0, 1, 2, 3, 4, 5, 6, 7, 10, 8, 9] [])) (drR [10000] [30] []) zH (by kernel_rfl) (by kernel_rfl) (fun _ _ h => h) ?_) | (refine zB (by simp only [go_sem]; exact rfl) ?_) | (refine zD (by simp only [go_sem]; exact rfl) ?_) | refine zl ?_ | refine zq ?_ ?_ | exact zC | ((with_reducible first | apply awn | apply awp | refine awQ ?_); intro r hr; simp only [go_sem, Nat.reduceBEq, Nat.reduceLT, Nat.reduceLeDiff, Nat.reduceAdd, Nat.reduceMul, reduceCtorEq, e1, zi, gi, zp, Nat.zero_add, hfv, hob, List.cons_append, List.nil_append] at hr; subst hr; (first | refine caC (hw) rfl ?_ ?_ ?_ | refine awV ?_ ?_ | (refine zh (fun h => ?_) (fun h => ?_) <;> (try simp only [go_sem, reduceCtorEq] at h) <;> (try (exfalso; omega))))))) <;> (try omega)
   all_goals
    refine zI [0, 2, 7, 8, 9, 31, 32, 33] (obn ++ [10004, 14, 16]) (fun q : Nat × List Nat => ⟨[(0, true, .ptr 1 10000 0 0), (2, true, fv), (7, true, .map 14), (8, true, .ref 3 1 16 0 (fr ++ q.2).length), (9, true, vI i), (31, true, .lst 1 (v8 ks)), (32, true, vI ks.length), (33, true, vI q.1)],
     (ob ++ [(10004, .row 3 1 (v8 (yo fr))), (14, .mapr q.2.length (mK (qL q.2))), (16, .row 3 1 (v8 (yo (fr ++ q.2))))])⟩)
     (fun q => Srch (yT C g) fr q.2 i ∧ (fr ++ q.2)[i]? = some x ∧ (∀ k ∈ q.2, S k) ∧ q.1 ≤ ks.length ∧ ∀ w, w < q.1 → ∀ k : Nat, ks[w]? = some (k : Int) → g x w = true → k ∈ q.2) (fun q => ks.length - q.1) (0, Q) (by simp only [hfv, hob, hon, List.cons_append, List.nil_append, go_sem, Nat.reduceBEq, Nat.reduceAdd] <;> exact rfl) ⟨hs, hx, hQ, Nat.zero_le _, fun w hw => by omega⟩ ?_
    intro ⟨j, Q'⟩ ⟨hs', hx', hQ', hj, hin⟩
    simp only at hs' hx' hQ' hj hin ⊢
    have hQl' : Q'.length ≤ C.length := yV hs'.nd fun k hk => hS.lt k (hQ' k hk)
    have hll' : (fr ++ Q').length = fr.length + Q'.length := List.length_append
    have gi' := yO hx'
    have hi' : i < (fr ++ Q').length := zG hx'
    have hwj := zy (n := (j : Int) + 1) (by omega)
    have zj : ((j : Int)).toNat = j := by omega
    by_cases hjl : j < ks.length
    ·have e2 : ((j : Int) < (ks.length : Int)) = True := eq_true (by omega)
     obtain ⟨m, hm⟩ : ∃ m : Nat, ks[j] = m := ⟨ks[j].toNat, by have := (hxw _ (List.getElem_mem hjl)).1; omega⟩
     have hSm : S m := by have := (hxw _ (List.getElem_mem hjl)).2; rwa [hm, Int.toNat_natCast] at this
     have hkj : ks[j]? = some (m : Int) := by rw [List.getElem?_eq_getElem hjl, hm]
     have gj := xb hjl
     rw [hm] at gj
     have hgj := hgo j
     have more : ∀ Q2 : List Nat, (∀ k ∈ Q', k ∈ Q2) → (g x j = true → m ∈ Q2) → ∀ w, w < j + 1 → ∀ k : Nat, ks[w]? = some (k : Int) → g x w = true → k ∈ Q2 := fun Q2 h1 h2 w hw k hk hg => by
      rcases Nat.lt_or_ge w j with h | h
      ·exact h1 k (hin w h k hk hg)
      ·have : w = j := by omega
       subst this
       rw [hkj] at hk
       injection hk with hk
       have : m = k := by omega
       subst this
       exact h2 hg
     by_cases hmq : m ∈ Q'
     ·have hf := xw hmq
      (repeat' (first | exact trivial | (with_reducible first | apply awA | apply awB | apply awC | apply awF | apply awI) | ((with_reducible first | apply awn | apply awo | refine awQ ?_); intro r hr; simp only [go_sem, Nat.reduceBEq, Nat.reduceLT, Nat.reduceLeDiff, Nat.reduceAdd, reduceCtorEq, e2, zj, hwj, gj, zi, gi', zp, Nat.zero_add, hfv, hob, List.cons_append, List.nil_append] at hr; subst hr; (first | refine awV ?_ ?_ | refine awW ?_ ?_ | (refine zh (fun h => ?_) (fun h => ?_) <;> (try simp only [go_sem, reduceCtorEq] at h) <;> (try (exfalso; omega))))) | (refine yc (zb _) (d := 14) (L := qL Q') (f := fun _ => AV.dead) (key := (m : Int)) (z := .int .i64 0) rfl rfl ⟨by decide, by decide⟩ rfl rfl rfl rfl t78 rfl t3 rfl yd rfl rfl (by rw [hf]) ?_) | (refine yD (vB true) rfl rfl ⟨by decide, by decide⟩ ?_))) <;> (try omega)
      refine ⟨(j + 1, Q'), ?_, ⟨hs', hx', hQ', hjl, more Q' (fun _ h => h) fun _ => hmq⟩, by show ks.length - (j + 1) < ks.length - j; omega⟩
      simp only [hfv, hob, hon, List.cons_append, List.nil_append, go_sem, Nat.reduceBEq, Nat.reduceAdd]
      try exact rfl
     ·have hf := xu hmq
      cases hg : g x j with
      | false =>
       rw [hg] at hgj
       (repeat' (first | exact trivial | (with_reducible first | apply awA | apply awB | apply awC | apply awF | apply awI) | ((with_reducible first | apply awn | apply awo | refine awQ ?_); intro r hr; simp only [go_sem, Nat.reduceBEq, Nat.reduceLT, Nat.reduceLeDiff, Nat.reduceAdd, reduceCtorEq, e2, zj, hwj, gj, zi, gi', zp, Nat.zero_add, hfv, hob, List.cons_append, List.nil_append, uw, z6] at hr; subst hr; (first | refine awV ?_ ?_ | refine awW ?_ ?_ | (refine zh (fun h => ?_) (fun h => ?_) <;> (try simp only [go_sem, reduceCtorEq] at h) <;> (try (exfalso; omega))))) | (refine yc (zb _) (d := 14) (L := qL Q') (f := fun _ => AV.dead) (key := (m : Int)) (z := .int .i64 0) rfl rfl ⟨by decide, by decide⟩ rfl rfl rfl rfl t78 rfl t3 rfl yd rfl rfl (by rw [hf]) ?_) | (refine yH 53 rfl (zb _) [] [] [] [] (by simp only [go_sem, Nat.reduceBEq, Nat.reduceLT, Nat.reduceSub, List.cons_append, List.nil_append] <;> exact rfl) ?_ rfl rfl (by first | exact .inl rfl | exact .inr rfl) (by simp only [go_sem, reduceCtorEq] <;> exact rfl) (hgj) (.inl rfl) ?_) | (refine yH 53 rfl (zb _) [(10000, 10000), (10002, 10002), (10003, 10003)] [(10000, 10000), (10002, 10002), (10003, 10003)] [] [10000, 10002, 10003] (by simp only [go_sem, Nat.reduceBEq, Nat.reduceLT, Nat.reduceSub, List.cons_append, List.nil_append] <;> exact rfl) ?_ rfl rfl (by first | exact .inl rfl | exact .inr rfl) (by simp only [go_sem, Nat.reduceBEq, z6] <;> exact rfl) (hgj) (.inl rfl) ?_) | (refine yH 53 rfl (zb _) [(10005, 10005), (10000, 10000), (10002, 10002), (10003, 10003)] [(10005, 10005), (10000, 10000), (10002, 10002), (10003, 10003)] [] [10005, 10000, 10002, 10003] (by simp only [go_sem, Nat.reduceBEq, Nat.reduceLT, Nat.reduceSub, List.cons_append, List.nil_append] <;> exact rfl) ?_ rfl rfl (by first | exact .inl rfl | exact .inr rfl) (by simp only [go_sem, Nat.reduceBEq, z6] <;> exact rfl) (hgj) (.inl rfl) ?_))) <;> (try omega)
       refine ⟨(j + 1, Q'), ?_, ⟨hs', hx', hQ', hjl, more Q' (fun _ h => h) fun h => by rw [hg] at h; cases h⟩, by show ks.length - (j + 1) < ks.length - j; omega⟩
       simp only [hfv, hob, hon, List.cons_append, List.nil_append, go_sem, Nat.reduceBEq, Nat.reduceAdd]
       try exact rfl
      | true =>
       rw [hg] at hgj
       have hset := Uv hmq
       have hclk := Uw hmq
       have hadd := hs'.add hx' (hR2 m j hkj hg) hmq
       have ht : (v8 (yo (fr ++ Q'))).take (fr ++ Q').length = v8 (yo (fr ++ Q')) := by rw [yR, List.take_of_length_le (by rw [zS]; omega)]
       have ha := xy (fr ++ Q') m
       rw [List.append_assoc] at ha
       have hl2 : (fr ++ (Q' ++ [m])).length = (fr ++ Q').length + 1 := by simp [Nat.add_assoc]
       (repeat' (first | exact trivial | (with_reducible first | apply awA | apply awB | apply awC | apply awF | apply awI) | ((with_reducible first | apply awn | apply awo | refine awQ ?_); intro r hr; simp only [go_sem, Nat.reduceBEq, Nat.reduceLT, Nat.reduceLeDiff, Nat.reduceAdd, Nat.reduceMul, Nat.reduceEqDiff, reduceCtorEq, e2, zj, hwj, gj, zi, gi', zp, zS, Nat.zero_add, ht, ha, hl2, hfv, hob, List.cons_append, List.nil_append, yn, uw, z6] at hr; subst hr; (first | refine awV ?_ ?_ | refine awW ?_ ?_ | (refine zh (fun h => ?_) (fun h => ?_) <;> (try simp only [go_sem, reduceCtorEq] at h) <;> (try (exfalso; omega))))) | (refine yc (zb _) (d := 14) (L := qL Q') (f := fun _ => AV.dead) (key := (m : Int)) (z := .int .i64 0) rfl rfl ⟨by decide, by decide⟩ rfl rfl rfl rfl t78 rfl t3 rfl yd rfl rfl (by rw [hf]) ?_) | (refine yH 53 rfl (zb _) [] [] [] [] (by simp only [go_sem, Nat.reduceBEq, Nat.reduceLT, Nat.reduceSub, reduceCtorEq, List.cons_append, List.nil_append] <;> exact rfl) ?_ rfl rfl (by first | exact .inl rfl | exact .inr rfl) (by simp only [go_sem, reduceCtorEq] <;> exact rfl) (hgj) (.inl rfl) ?_) | (refine yH 53 rfl (zb _) [(10000, 10000), (10002, 10002), (10003, 10003)] [(10000, 10000), (10002, 10002), (10003, 10003)] [] [10000, 10002, 10003] (by simp only [go_sem, Nat.reduceBEq, Nat.reduceLT, Nat.reduceSub, reduceCtorEq, List.cons_append, List.nil_append] <;> exact rfl) ?_ rfl rfl (by first | exact .inl rfl | exact .inr rfl) (by simp only [go_sem, Nat.reduceBEq, reduceCtorEq, z6] <;> exact rfl) (hgj) (.inl rfl) ?_) | (refine yH 53 rfl (zb _) [(10005, 10005), (10000, 10000), (10002, 10002), (10003, 10003)] [(10005, 10005), (10000, 10000), (10002, 10002), (10003, 10003)] [] [10005, 10000, 10002, 10003] (by simp only [go_sem, Nat.reduceBEq, Nat.reduceLT, Nat.reduceSub, reduceCtorEq, List.cons_append, List.nil_append] <;> exact rfl) ?_ rfl rfl (by first | exact .inl rfl | exact .inr rfl) (by simp only [go_sem, Nat.reduceBEq, reduceCtorEq, z6] <;> exact rfl) (hgj) (.inl rfl) ?_) | (refine JE (zb _) rfl rfl ⟨by decide, by decide⟩ rfl rfl t78 rfl rfl ?_) | (refine uP (zb _) (d := 14) (L := qL Q') (f := fun _ => AV.dead) (key := (m : Int)) () rfl rfl rfl rfl rfl rfl rfl rfl (.inr rfl) t78 rfl t3 rfl rfl hclk hset ?_))) <;> (try omega)
       refine ⟨(j + 1, Q' ++ [m]), ?_, ⟨hadd, by rw [← List.append_assoc, List.getElem?_append_left hi']; exact hx', fun k hk => ?_, hjl, more _ (fun _ h => List.mem_append_left _ h) fun _ => by simp⟩, by show ks.length - (j + 1) < ks.length - j; omega⟩
       ·simp only [hl2, hfv, hob, hon, List.cons_append, List.nil_append, go_sem, Nat.reduceBEq, Nat.reduceAdd]
        try exact rfl
       ·rcases List.mem_append.1 hk with h | h
        ·exact hQ' k h
        ·simp at h; subst h; exact hSm
    ·have e2 : ((j : Int) < (ks.length : Int)) = False := eq_false (by omega)
     (repeat' (first | exact trivial | (with_reducible first | apply awA | apply awE | apply awF | apply awH | apply awI | apply awK) | ((with_reducible first | apply awn | refine awQ ?_); intro r hr; simp only [go_sem, Nat.reduceBEq, Nat.reduceLT, Nat.reduceAdd, e2, hwi, hfv, hob, List.cons_append, List.nil_append] at hr; subst hr; (first | refine awV ?_ ?_ | (refine zh (fun h => ?_) (fun h => ?_) <;> (try simp only [go_sem, reduceCtorEq] at h) <;> (try (exfalso; omega))))))) <;> (try omega)
     refine ⟨(i + 1, Q'), ?_, ⟨hs'.next hx' (fun k hk => ?_), hi', hQ'⟩, by show fr.length + C.length - (i + 1) < fr.length + C.length - i; omega⟩
     ·simp only [hfv, hob, hon, List.cons_append, List.nil_append, go_sem, Nat.reduceBEq, Nat.reduceAdd]
      try exact rfl
     ·obtain ⟨w, h1, h2, h3⟩ := hR k hk
      exact hin w (by omega) k h2 h3
  ·have e1 : ((i : Int) < ((fr ++ Q).length : Int)) = False := eq_false (by omega)
   (repeat' (first | exact trivial | (with_reducible first | apply awA | apply awD | apply awE | apply awF | apply awH | apply awK) | ((with_reducible first | apply awn | refine awQ ?_ | refine wM ?_); intro r hr; simp only [go_sem, Nat.reduceBEq, Nat.reduceLT, Nat.reduceAdd, e1, hfv, hob, List.cons_append, List.nil_append] at hr; subst hr; (first | refine awV ?_ ?_ | refine y5 ?_ ?_ | (refine zh (fun h => ?_) (fun h => ?_) <;> (try simp only [go_sem, reduceCtorEq] at h) <;> (try (exfalso; omega))))))) <;> (try omega)
   all_goals first | (refine ⟨Q, ⟨hs.nd, fun k => hs.done (by omega) k⟩, AV.up_rfl _, ?_⟩; repeat first | exact zo | refine zn rfl ?_) | skip
theorem zaP (e : Bool) (C : List InsM) (N : List Int) (B : List Bool) (en : Int) (hok : CodeOK C N) (S : Nat → Prop) (hS : ClosedS C B S) (fr : List Nat) (hne : fr ≠ []) (hfr : ∀ k ∈ fr, S k) (hlf : fr.length ≤ 1048576) :
  yx Tryz.prog 38 [.ptr 1 10000 0 0, .ref 3 1 10004 0 fr.length, .v (.func (.func 39) #[] #[])] ([(10000, rtV e C N B en (.v (.map none))), (10002, .row 4 1 (xG B))] ++ [(10004, .row 3 1 (v8 (yo fr)))]) (fun Q : List Nat => ReachI C ye fr Q) (fun _ => .map 14) (fun Q => ([(10000, rtV e C N B en (.v (.map none))), (10002, .row 4 1 (xG B))] ++ [(10004, .row 3 1 (v8 (yo fr)))]) ++ [(14, .mapr Q.length (mK (qL Q)))]) :=
 Ux e C N B en 0 [] hok S hS fr hne hfr hlf ye _ _ _ (.inl ⟨rfl, rfl, rfl, fun x _ _ j => Kc x j⟩)
theorem Uy (e : Bool) (C : List InsM) (N : List Int) (B : List Bool) (en : Int) (c : Nat) (M : List (Nat × Int × Unit)) (hok : CodeOK C N) (S : Nat → Prop) (hS : ClosedS C B S) (fr : List Nat) (hne : fr ≠ []) (hfr : ∀ k ∈ fr, S k) (hlf : fr.length ≤ 1048576) :
  yx Tryz.prog 38 [.ptr 1 10000 0 0, .ref 3 1 10004 0 fr.length, .fn (64 + 1000000) [.ptr 1 10000 0 0]] (rtO e C N B en c M ++ [(10004, .row 3 1 (v8 (yo fr)))]) (fun Q : List Nat => ReachI C (yp C B) fr Q) (fun _ => .map 14) (fun Q => (rtO e C N B en c M ++ [(10004, .row 3 1 (v8 (yo fr)))]) ++ [(14, .mapr Q.length (mK (qL Q)))]) :=
 Ux e C N B en c M hok S hS fr hne hfr hlf (yp C B) _ _ _ (.inr (.inl ⟨rfl, rfl, rfl, fun x h1 h2 j => KJ e C N B en c M x h1 j h2⟩))
theorem zaQ (e : Bool) (C : List InsM) (N : List Int) (B : List Bool) (en : Int) (c : Nat) (M : List (Nat × Int × Unit)) (hok : CodeOK C N) (S : Nat → Prop) (hS : ClosedS C B S) (fr : List Nat) (hne : fr ≠ []) (hfr : ∀ k ∈ fr, S k) (hlf : fr.length ≤ 1048576) :
  yx Tryz.prog 38 [.ptr 1 10000 0 0, .ref 3 1 10004 0 fr.length, .fn 68 [.ptr 1 10005 0 0]] (((10005, AObj.var [.ptr 1 10000 0 0]) :: rtO e C N B en c M) ++ [(10004, .row 3 1 (v8 (yo fr)))]) (fun Q : List Nat => ReachI C (xU C B) fr Q) (fun _ => .map 14) (fun Q => (((10005, AObj.var [.ptr 1 10000 0 0]) :: rtO e C N B en c M) ++ [(10004, .row 3 1 (v8 (yo fr)))]) ++ [(14, .mapr Q.length (mK (qL Q)))]) :=
 Ux e C N B en c M hok S hS fr hne hfr hlf (xU C B) _ _ _ (.inr (.inr ⟨rfl, rfl, rfl, fun x h1 h2 j => zaN e C N B en c M x h1 j h2⟩))
end
section
open Go.RowKit
structure FormM where
 name : ByteArray
 has : ByteArray
 known : Bool
def Wn (op : Int) : FormM :=
 if op = 9 then ⟨⟨#[97, 114, 109]⟩, ⟨#[103, 116, 32]⟩, true⟩ else
 if op = 19 then ⟨⟨#[106, 117, 109, 112]⟩, ⟨#[32, 116, 32]⟩, true⟩ else
 if op = 20 then ⟨⟨#[114, 101, 116]⟩, ⟨#[32, 32, 32]⟩, true⟩ else
 ⟨ByteArray.empty, ByteArray.empty, false⟩
def Wo (op : Int) : FormM :=
 if op = 1 then ⟨⟨#[117, 105, 110, 116]⟩, ⟨#[107, 119, 32]⟩, true⟩ else
 if op = 2 then ⟨⟨#[117, 105, 110, 116, 115]⟩, ⟨#[75, 110, 119]⟩, true⟩ else
 if op = 3 then ⟨⟨#[98, 111, 111, 108]⟩, ⟨#[107, 32, 32]⟩, true⟩ else
 if op = 4 then ⟨⟨#[118, 97, 114, 105, 110, 116]⟩, ⟨#[107, 32, 32]⟩, true⟩ else
 if op = 5 then ⟨⟨#[115, 101, 113]⟩, ⟨#[32, 32, 32]⟩, true⟩ else
 if op = 6 then ⟨⟨#[115, 116, 114, 117, 99, 116]⟩, ⟨#[32, 32, 32]⟩, true⟩ else
 if op = 7 then ⟨⟨#[111, 112, 116, 105, 111, 110]⟩, ⟨#[32, 116, 32]⟩, true⟩ else
 if op = 8 then ⟨⟨#[117, 110, 105, 111, 110]⟩, ⟨#[97, 32, 32]⟩, true⟩ else
 if op = 10 then ⟨⟨#[111, 102, 102, 115, 101, 116]⟩, ⟨#[102, 32, 32]⟩, true⟩ else
 if op = 11 then ⟨⟨#[102, 105, 114, 115, 116]⟩, ⟨#[109, 116, 32]⟩, true⟩ else
 if op = 12 then ⟨⟨#[115, 108, 111, 116, 115]⟩, ⟨#[32, 116, 32]⟩, true⟩ else
 if op = 13 then ⟨⟨#[105, 116, 101, 109]⟩, ⟨#[109, 116, 32]⟩, true⟩ else
 if op = 14 then ⟨⟨#[108, 101, 115, 115]⟩, ⟨#[109, 116, 32]⟩, true⟩ else
 if op = 15 then ⟨⟨#[112, 97, 114, 116, 115]⟩, ⟨#[32, 116, 32]⟩, true⟩ else
 if op = 16 then ⟨⟨#[99, 97, 108, 108]⟩, ⟨#[107, 32, 121]⟩, true⟩ else
 if op = 17 then ⟨⟨#[112, 97, 114, 116]⟩, ⟨#[107, 112, 121]⟩, true⟩ else
 if op = 18 then ⟨⟨#[116, 97, 105, 108]⟩, ⟨#[112, 32, 32]⟩, true⟩ else
 Wn op
def Wp (op : Int) : FormM :=
 if op = 33 then ⟨⟨#[110, 117, 109, 98, 101, 114]⟩, ⟨#[80, 119, 32]⟩, true⟩ else
 if op = 34 then ⟨⟨#[110, 117, 109, 98, 101, 114, 115]⟩, ⟨#[113, 110, 119]⟩, true⟩ else
 if op = 35 then ⟨⟨#[102, 108, 97, 103]⟩, ⟨#[80, 32, 32]⟩, true⟩ else
 if op = 36 then ⟨⟨#[108, 101, 98]⟩, ⟨#[32, 32, 32]⟩, true⟩ else
 if op = 37 then ⟨⟨#[109, 97, 110, 121]⟩, ⟨#[109, 32, 32]⟩, true⟩ else
 if op = 38 then ⟨⟨#[117, 112, 116, 111]⟩, ⟨#[109, 32, 32]⟩, true⟩ else
 if op = 39 then ⟨⟨#[102, 105, 101, 108, 100, 115]⟩, ⟨#[115, 32, 32]⟩, true⟩ else
 if op = 40 then ⟨⟨#[109, 97, 121, 98, 101]⟩, ⟨#[32, 116, 32]⟩, true⟩ else
 if op = 41 then ⟨⟨#[99, 104, 111, 105, 99, 101]⟩, ⟨#[97, 32, 32]⟩, true⟩ else
 if op = 42 then ⟨⟨#[114, 111, 111, 109]⟩, ⟨#[98, 32, 32]⟩, true⟩ else
 if op = 43 then ⟨⟨#[115, 108, 111, 116]⟩, ⟨#[80, 32, 32]⟩, true⟩ else
 if op = 44 then ⟨⟨#[101, 110, 116, 101, 114]⟩, ⟨#[113, 32, 121]⟩, true⟩ else
 if op = 45 then ⟨⟨#[101, 97, 99, 104]⟩, ⟨#[122, 32, 121]⟩, true⟩ else
 if op = 46 then ⟨⟨#[97, 112, 112, 101, 110, 100]⟩, ⟨#[32, 32, 121]⟩, true⟩ else
 if op = 47 then ⟨⟨#[97, 103, 97, 105, 110]⟩, ⟨#[32, 116, 32]⟩, true⟩ else
 Wn op
def yS (e : Bool) (op : Int) : FormM := if e = true then Wp op else Wo op
abbrev ZM (f : FormM) : AV := .tup [.agg [.v (.string f.name), .v (.string f.has)], vB f.known]
theorem qY (op : Int) : zQ Tryz.prog 91 [vI op] (fun r => r = ZM (Wn op)) := by
 refine zE (zb _) Tryz.func91 rfl rfl (by rw [Tryz.results91]) Tryz.ntmps91 rfl fun E => ?_
 (repeat' (first | exact trivial | (with_reducible first | apply awA | apply awB | apply awC | apply awD | apply awF | apply awG | apply awI | apply awJ) | ((with_reducible first | apply awn | refine awQ ?_ | refine awR ?_); intro r hr; simp only [go_sem, Nat.reduceBEq, Nat.reduceLT, Nat.reduceLeDiff, Nat.reduceAdd, Nat.reduceMul] at hr; subst hr; (first | refine awV ?_ ?_ | refine zM ?_ ?_ | (refine zh (fun h => ?_) (fun h => ?_) <;> (try simp only [go_sem] at h) <;> (try (exfalso; omega))))))) <;> (try omega)
 all_goals first | (subst_vars; rfl) | (unfold Wn ZM; simp only [*, if_false]; rfl) | skip
theorem ZN (op : Int) : zQ Tryz.prog 76 [vI op] (fun r => r = ZM (Wo op)) := by
 have hs := qY op
 refine zE (zb _) Tryz.func76 rfl rfl (by rw [Tryz.results76]) Tryz.ntmps76 rfl fun E => ?_
 (repeat' (first | exact trivial | (with_reducible first | apply awA | apply awB | apply awC | apply awD | apply awF | apply awG | apply awI | apply awJ) | ((with_reducible first | apply awn | apply awo | refine awQ ?_ | refine awR ?_); intro r hr; simp only [go_sem, Nat.reduceBEq, Nat.reduceLT, Nat.reduceLeDiff, Nat.reduceAdd, Nat.reduceMul] at hr; subst hr; (first | refine caA (fun _ => hs) rfl ?_ ?_ ?_ | refine awV ?_ ?_ | refine zM ?_ ?_ | (refine zh (fun h => ?_) (fun h => ?_) <;> (try simp only [go_sem] at h) <;> (try (exfalso; omega))))))) <;> (try omega)
 all_goals first | (subst_vars; rfl) | (unfold Wo ZM; simp only [*, if_false]; rfl) | skip
theorem ZO (op : Int) : zQ Tryz.prog 75 [vI op] (fun r => r = ZM (Wp op)) := by
 have hs := qY op
 refine zE (zb _) Tryz.func75 rfl rfl (by rw [Tryz.results75]) Tryz.ntmps75 rfl fun E => ?_
 (repeat' (first | exact trivial | (with_reducible first | apply awA | apply awB | apply awC | apply awD | apply awF | apply awG | apply awI | apply awJ) | ((with_reducible first | apply awn | apply awo | refine awQ ?_ | refine awR ?_); intro r hr; simp only [go_sem, Nat.reduceBEq, Nat.reduceLT, Nat.reduceLeDiff, Nat.reduceAdd, Nat.reduceMul] at hr; subst hr; (first | refine caA (fun _ => hs) rfl ?_ ?_ ?_ | refine awV ?_ ?_ | refine zM ?_ ?_ | (refine zh (fun h => ?_) (fun h => ?_) <;> (try simp only [go_sem] at h) <;> (try (exfalso; omega))))))) <;> (try omega)
 all_goals first | (subst_vars; rfl) | (unfold Wp ZM; simp only [*, if_false]; rfl) | skip
theorem JR (e : Bool) (C : List InsM) (N : List Int) (op : Int) : zQ Tryz.prog 53 [pG e C N, vI op] (fun r => r = ZM (yS e op)) := by
 unfold pG yS
 cases e with
 | true =>
  simp only [if_true]
  have hf := ZO op
  generalize Wp op = f at hf ⊢
  refine zE (zb _) Tryz.func53 rfl rfl (by rw [Tryz.results53]) Tryz.ntmps53 rfl fun E => ?_
  (repeat' (first | exact trivial | (with_reducible first | apply awA | apply awD | apply awF | apply awG) | ((with_reducible first | apply awn | apply awo | refine awQ ?_ | refine awR ?_); intro r hr; simp only [go_sem, Nat.reduceBEq, Nat.reduceLT, Nat.reduceLeDiff, Nat.reduceAdd, Nat.reduceMul] at hr; subst hr; (first | refine caA (fun _ => hf) rfl ?_ ?_ ?_ | refine awV ?_ ?_ | refine zM ?_ ?_ | (refine zh (fun h => ?_) (fun h => ?_) <;> (try simp only [go_sem, reduceCtorEq] at h) <;> (try (exfalso; omega))))))) <;> (try omega)
  all_goals rfl
 | false =>
  simp only [reduceCtorEq, if_false]
  have hf := ZN op
  generalize Wo op = f at hf ⊢
  refine zE (zb _) Tryz.func53 rfl rfl (by rw [Tryz.results53]) Tryz.ntmps53 rfl fun E => ?_
  (repeat' (first | exact trivial | (with_reducible first | apply awA | apply awC | apply awD | apply awF) | ((with_reducible first | apply awn | apply awo | refine awQ ?_ | refine awR ?_); intro r hr; simp only [go_sem, Nat.reduceBEq, Nat.reduceLT, Nat.reduceLeDiff, Nat.reduceAdd, Nat.reduceMul] at hr; subst hr; (first | refine caA (fun _ => hf) rfl ?_ ?_ ?_ | refine awV ?_ ?_ | refine zM ?_ ?_ | (refine zh (fun h => ?_) (fun h => ?_) <;> (try simp only [go_sem, reduceCtorEq] at h) <;> (try (exfalso; omega))))))) <;> (try omega)
  all_goals rfl
end
end Go.Proofs.YtjeplogcfedmeaaGreat

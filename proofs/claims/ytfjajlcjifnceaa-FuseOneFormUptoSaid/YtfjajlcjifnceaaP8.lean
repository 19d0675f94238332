import Derived.Test.YtfjajlcjifnceaaP7
set_option linter.all false
set_option maxRecDepth 100000
set_option maxHeartbeats 8000000
namespace Go.Proofs.Ytfjajlcjifnceaa
section
open Go.RowKit Go.MapKept
open Go.ChangeMaps (setBlock)
section
variable {P : Program} {T : Nat → Option TyD} {E : Env} {s : AState} {tm : Array Value} {w w' : World} {β β' : Nat → Option Nat} {n : Nat} {ops : Array Oper} {Q : Exit → AState → Prop} {rest : List Oper} {o : Oper} {F : Nat → Prop}
theorem ZH {t clk d : Nat} {es : List (Nat × Int × List Int)} {h : Option Nat} (ho : xW F β w d (.mapl t clk es h)) : ∃ b arr, β d = some b ∧ w.heap[b]? = some (.map arr clk) ∧ arr.toList.length = es.length ∧
  (∀ (i : Nat) (e : Nat × Int × List Int) (m : MapEntry), es[i]? = some e → arr.toList[i]? = some m → m.born = e.1 ∧ m.key = .int .i64 e.2.1) ∧
  ∀ (i : Nat) (e : Nat × Int × List Int) (m : MapEntry), es[i]? = some e → arr.toList[i]? = some m → h ≠ some i → zaH β w t (kn d i) e.2.2 m.val := by
 obtain ⟨b, arr, h1, h2, h3, h4⟩ := ho
 exact ⟨b, arr, h1, h2, by simpa using h3, fun i e m he hm => ⟨(h4 i e m he (by simpa using hm)).1, (h4 i e m he (by simpa using hm)).2.1⟩, fun i e m he hm => (h4 i e m he (by simpa using hm)).2.2⟩
theorem WK (hT : TOK P T) {m k : Operand} {t d kt vt te clk u : Nat} {es : List (Nat × Int × List Int)} {key : Int} {dt dk : TyD} {l : List Int} {h' : Option Nat} (hG : z6 ops s o.guard = some true) (ho : o.op = .lookup t m k false) (hdst : o.dst = some u) (hdo : yQ n (some u)) (hgm : s.gd m = true) (hgk : s.gd k = true)
  (hm : s.ev m = .map d) (hk : s.ev k = vI key) (hTt : T t = some dt) (hsh : dt.sh = .map kt vt) (hTk : T kt = some dk) (hsk : dk.sh = .int .i64) (hz : ∀ w, (zeroValue vt).run P w = .ok (.slice none 0 0) w)
  (hob : lk s.ob d = some (.mapl te clk es none)) (hd2 : d < 20000) (hdu : d ≠ u) (hlF : loF s.fr) (hlO : loO s.ob) (hl : (mf key es).getD [] = l) (hh : mfi key es = h')
  (hr : zL P E n ops yZ rest Q { fr := (u, true, .ref te 1 u 0 l.length) :: (s.drop u).fr, ob := (u, .row te 1 (v8 l)) :: (d, .mapl te clk es h') :: rm d (s.drop u).ob }) : yp P E n ops yZ (o :: rest) Q s := by
 intro a w β hn hd hs
 have hw := yn (ops := ops) hs hG
 have vm := hs.ev m hgm (a := a) rfl
 have vk := hs.ev k hgk (a := a) rfl
 rw [hm] at vm
 rw [hk] at vk
 obtain ⟨b, hmb, hb⟩ := wS vm
 have hkv := kX vk
 obtain ⟨b', arr, hb', harr, hlen, hent, hkid⟩ := ZH (hs.ob d _ hob)
 rw [hb] at hb'
 injection hb' with hb'
 subst hb'
 have hu10 : u < 10000 := hdo.2
 have hu := kl hT hTt hsh
 have hku := ji hT hTk hsk
 have hget := yu (P := P) harr (fun _ _ _ h => by cases h)
 have hcheck : ∀ em, (Instr.checkKey em 10000 kt (.int .i64 key)).run P w = .ok () w := fun em => run_checkKey (P := P) (w := w) hku (show IsKey (.int .i64) (.int .i64 key) from rfl) em 9999
 have fin : ∀ (β' : Nat → Option Nat) (v : Value), (Instr.lookup t (.map (some b)) (.int .i64 key) false).run P w = .ok v w → (∀ e f b, β' e = some b → β' f = some b → e = f) → (∀ e b, β' e = some b → ∃ e', β e' = some b ∧ (e' = e ∨ e < 15000 ∨ 20000 ≤ e) ∧ (e = e' ∨ e' < 10000 ∨ 20000 ≤ e')) →
   (∀ e b, e < 20000 → e ≠ u → β e = some b → β' e = some b) → (∀ e i b, e ≠ d → e < 20000 → β (kn e i) = some b → β' (kn e i) = some b) → xW (FF E β' w) β' w d (.mapl te clk es h') → xW (FF E β' w) β' w u (.row te 1 (v8 l)) → AVR (FF E β' w) β' w (.ref te 1 u 0 l.length) v →
   o.wp P a w (fun a' w' => ∃ X', yG (yZ.dst o) (XW yZ β) w X' w' ∧ zU P ops yZ (jh E n Q) (nrm E n yZ (Q .normal)) rest X' a' w') (jh E n Q) := fun β' v hrun h1 h2 h3 h4 h5 h6 h7 => by
  have hS := ((hs.owners d u hu10 hlF hlO h1 h2 h3 h4).add d _ h5).add u _ h6
  obtain ⟨g1, g2, g3⟩ := yN (dst := some u) hn hd hS hdo true (.ref te 1 u 0 l.length) (v := v) (fun _ => h7) (fun h => by cases h)
  refine y9 (w' := w) (v := v) (by simp [execOp, ho, hmb, hkv, hrun]) ⟨XW yZ β', ⟨fun _ => ⟨Nat.le_refl _, fun _ _ _ => rfl⟩, ⟨Nat.le_refl _, fun _ _ _ => rfl⟩, fun b _ ⟨e, _, he⟩ => by obtain ⟨e', g, _⟩ := h2 e b he; exact ⟨e', rfl, g⟩⟩, hr _ _ _ ?_ ?_ ?_⟩
  ·rw [hdst]; exact g1
  ·rw [hdst]; exact g2
  ·rw [hdst]; exact g3
 refine yi (by rw [ho]; rfl) hw (fun _ => ?_) (fun hGf => by cases hGf)
 rcases zcS (key := key) es arr.toList 0 hlen hent with ⟨q, e, me, g1, g2, g3, g4, g5, g6, g7⟩ | ⟨g4, g5, g6, g7⟩
 ·rw [g4] at hl
  rw [g5] at hh
  simp only [Option.getD_some] at hl
  subst hl
  subst hh
  obtain ⟨bi, c, ai, k1, k2, k3, k4, k5, k6, k7⟩ := hkid q e me g1 g2 (by simp)
  have hkn : kn d q ≠ u := by unfold kn; omega
  have hkn2 : 20000 ≤ kn d q := by unfold kn; omega
  refine fin (fun e => if e = u then some bi else if e = kn d q then none else β e) me.val ?_ (fun x y z hx hy => ?_) (fun x z hx => ?_) (fun x z hx hxu hxz => ?_) (fun x i z hxd hx hxz => ?_) ?_ ?_ ?_
  ·simp only [Instr.lookup, Sem.run_bind, run_underlying hu, Result.andThen_ok, hget, Sem.run_pure, hcheck, run_findKey hku g7]
   rfl
  ·have key : ∀ x, (if x = u then some bi else if x = kn d q then none else β x) = some z → (x = u ∧ bi = z) ∨ (x ≠ u ∧ x ≠ kn d q ∧ β x = some z) := fun x hx => by
    by_cases h1 : x = u
    ·rw [if_pos h1] at hx; injection hx with hx; exact .inl ⟨h1, hx⟩
    ·rw [if_neg h1] at hx
     by_cases h2 : x = kn d q
     ·rw [if_pos h2] at hx; cases hx
     ·rw [if_neg h2] at hx; exact .inr ⟨h1, h2, hx⟩
   rcases key x hx with ⟨h1, h2⟩ | ⟨h1, h2, h3⟩ <;> rcases key y hy with ⟨h4, h5⟩ | ⟨h4, h5, h6⟩
   ·rw [h1, h4]
   ·subst h2; exact absurd (hs.inj _ _ _ h6 k1) h5
   ·subst h5; exact absurd (hs.inj _ _ _ h3 k1) h2
   ·exact hs.inj _ _ _ h3 h6
  ·by_cases h1 : x = u
   ·rw [if_pos h1] at hx; injection hx with hx; subst hx
    exact ⟨kn d q, k1, .inr (.inl (by omega)), .inr (.inr hkn2)⟩
   ·rw [if_neg h1] at hx
    by_cases h2 : x = kn d q
    ·rw [if_pos h2] at hx; cases hx
    ·rw [if_neg h2] at hx; exact ⟨x, hx, .inl rfl, .inl rfl⟩
  ·rw [if_neg hxu, if_neg (by omega)]; exact hxz
  ·rw [if_neg (by unfold kn; omega), if_neg (fun h => hxd (ZG hx hd2 h).1)]; exact hxz
  ·refine ⟨b, arr, by show (if d = u then some bi else if d = kn d q then none else β d) = some b; rw [if_neg hdu, if_neg (by omega)]; exact hb, harr, by simpa using hlen, fun i x m hx hm => ?_⟩
   have hm' : arr.toList[i]? = some m := by simpa using hm
   refine ⟨(hent i x m hx hm').1, (hent i x m hx hm').2, fun hq => (hkid i x m hx hm' (by simp)).step (fun z hz => ?_) fun _ _ => rfl⟩
   rw [if_neg (by unfold kn; omega), if_neg (fun h => hq (by rw [(ZG hd2 hd2 h).2]))]
   exact hz
  ·refine ⟨fun cs hcs => by obtain ⟨z, _, rfl⟩ := List.mem_map.1 hcs; rfl, .inr ⟨bi, ai, by show (if u = u then some bi else if u = kn d q then none else β u) = some bi; rw [if_pos rfl], k5, by rw [zq]; omega, fun i j cs u' hcs hu' => ?_⟩⟩
   rw [v8, List.getElem?_map] at hcs
   cases hz : e.2.2[i]? with
   | none => rw [hz] at hcs; cases hcs
   | some z =>
    rw [hz] at hcs
    injection hcs with hcs
    subst hcs
    have hj : j = 0 := by have := zE hu'; simp at this; omega
    subst hj
    simp only [List.getElem?_cons_zero, Option.some.injEq] at hu'
    subst hu'
    exact ⟨_, by rw [Nat.mul_one, Nat.add_zero]; exact k7 i z hz, .v rfl⟩
  ·rw [k2]
   exact .ref (by rw [if_pos rfl]) k3 k4 rfl ⟨ai, k5, by omega⟩
 ·rw [g4] at hl
  rw [g5] at hh
  simp only [Option.getD_none] at hl
  subst hl
  subst hh
  refine fin (fun e => if e = u then none else β e) (.slice none 0 0) ?_ (fun x y z hx hy => ?_) (fun x z hx => ?_) (fun x z hx hxu hxz => ?_) (fun x i z hxd hx hxz => ?_) ?_ ?_ ?_
  ·simp only [Instr.lookup, Sem.run_bind, run_underlying hu, Result.andThen_ok, hget, Sem.run_pure, hcheck, run_findKey hku g7, hz]
   rfl
  ·by_cases h1 : x = u
   ·rw [if_pos h1] at hx; cases hx
   ·rw [if_neg h1] at hx
    by_cases h2 : y = u
    ·rw [if_pos h2] at hy; cases hy
    ·rw [if_neg h2] at hy; exact hs.inj _ _ _ hx hy
  ·by_cases h1 : x = u
   ·rw [if_pos h1] at hx; cases hx
   ·rw [if_neg h1] at hx; exact ⟨x, hx, .inl rfl, .inl rfl⟩
  ·rw [if_neg hxu]; exact hxz
  ·rw [if_neg (by unfold kn; omega)]; exact hxz
  ·refine ⟨b, arr, by show (if d = u then none else β d) = some b; rw [if_neg hdu]; exact hb, harr, by simpa using hlen, fun i x m hx hm => ?_⟩
   have hm' : arr.toList[i]? = some m := by simpa using hm
   refine ⟨(hent i x m hx hm').1, (hent i x m hx hm').2, fun hq => (hkid i x m hx hm' (by simp)).step (fun z hz => ?_) fun _ _ => rfl⟩
   rw [if_neg (by unfold kn; omega)]
   exact hz
  ·exact ⟨fun cs hcs => (by cases hcs), .inl rfl⟩
  ·exact .nil
theorem WL (hT : TOK P T) {m k x : Operand} {t d kt vt te clk u : Nat} {es : List (Nat × Int × List Int)} {key : Int} {dt dk : TyD} {l : List Int} {h' : Option Nat} (hG : z6 ops s o.guard = some true) (ho : o.op = .mapUpdate t m k x) (hdst : o.dst = none) (hgm : s.gd m = true) (hgk : s.gd k = true) (hgx : s.gd x = true)
  (hm : s.ev m = .map d) (hk : s.ev k = vI key) (hx : s.ev x = .ref te 1 u 0 l.length) (hTt : T t = some dt) (hsh : dt.sh = .map kt vt) (hTk : T kt = some dk) (hsk : dk.sh = .int .i64)
  (hob : lk s.ob d = some (.mapl te clk es h')) (hobu : lk s.ob u = some (.row te 1 (v8 l))) (hl0 : 0 < l.length) (hd2 : d < 20000) (hu10 : u < 10000) (hdu : d ≠ u) (hlF : loF s.fr) (hlO : loO s.ob) (hh : mfi key es = h') {c' : Nat} {es' : List (Nat × Int × List Int)} (hc' : vY clk key es = c') (hes' : wj clk key l es = es')
  (hr : zL P E n ops yZ rest Q { fr := (s.drop u).fr, ob := (d, .mapl te c' es' none) :: rm d (s.drop u).ob }) : yp P E n ops yZ (o :: rest) Q s := by
 subst hc'
 subst hes'
 intro a w β hn hd hs
 have hw := yn (ops := ops) hs hG
 have vm := hs.ev m hgm (a := a) rfl
 have vk := hs.ev k hgk (a := a) rfl
 have vx := hs.ev x hgx (a := a) rfl
 rw [hm] at vm
 rw [hk] at vk
 rw [hx] at vx
 obtain ⟨b, hmb, hb⟩ := wS vm
 have hkv := kX vk
 obtain ⟨b', arr, hb', harr, hlen, hent, hkid⟩ := ZH (hs.ob d _ hob)
 rw [hb] at hb'
 injection hb' with hb'
 subst hb'
 obtain ⟨bu, c, ai, k1, k2, k3, k4, k5, k6, k7⟩ : zaH β w te u l (a.eval x) := by
  obtain ⟨hk1, hrow⟩ := hs.ob u _ hobu
  generalize a.eval x = v at vx
  generalize hll : l.length = ln at vx
  cases vx with
  | s h => cases h
  | nil => omega
  | empty => omega
  | @ref _ _ _ _ _ c b0 A q1 q2 q3 q4 q5 =>
   subst q4
   obtain ⟨ai, r1, r2⟩ := q5
   rcases hrow with h | ⟨b1, arr1, e1, e2, e3, e4⟩
   ·have h2 : (v8 l).length = 0 := by rw [h]; rfl
    rw [zq] at h2; omega
   ·rw [q1] at e1
    injection e1 with e1
    subst e1
    rw [r1] at e2
    injection e2 with e2
    injection e2 with e2 _
    subst e2
    refine ⟨b0, c, ai, q1, by rw [hll], by omega, q3, r1, by omega, fun j z hz => ?_⟩
    obtain ⟨x0, p1, p2⟩ := e4 j 0 [vI z] (vI z) (by simp [v8, hz]) rfl
    rw [Nat.mul_one, Nat.add_zero] at p1
    rw [p1, XG p2]
 have hu := kl hT hTt hsh
 have hku := ji hT hTk hsk
 have hget := yu (P := P) harr (fun _ _ _ h => by cases h)
 have hik : IsKey (.int .i64) (.int .i64 key) := rfl
 have hcheck : ∀ em, (Instr.checkKey em 10000 kt (.int .i64 key)).run P w = .ok () w := fun em => run_checkKey (P := P) (w := w) hku hik em 9999
 have hset : ∀ o' : Obj, (setObj b o').run P w = .ok () (setBlock w b o') := fun o' => by simp [setObj, Sem.run, harr, setBlock]
 have hbu : bu ≠ b := fun h => hdu (hs.inj d u b hb (by rw [← h]; exact k1))
 have fin : ∀ (q : Nat) (arr' : Array MapEntry), (Instr.mapUpdate t (.map (some b)) (.int .i64 key) (a.eval x)).run P w = .ok () (setBlock w b (.map arr' (vY clk key es))) → arr'.toList.length = (wj clk key l es).length →
   (∀ (i : Nat) (e : Nat × Int × List Int) (m : MapEntry), (wj clk key l es)[i]? = some e → arr'.toList[i]? = some m → m.born = e.1 ∧ m.key = .int .i64 e.2.1 ∧ (i = q ∧ e.2.2 = l ∧ m.val = a.eval x ∨ i ≠ q ∧ zaH β w te (kn d i) e.2.2 m.val)) →
   o.wp P a w (fun a' w' => ∃ X', yG (yZ.dst o) (XW yZ β) w X' w' ∧ zU P ops yZ (jh E n Q) (nrm E n yZ (Q .normal)) rest X' a' w') (jh E n Q) := fun q arr' hrun hl' hent' => by
  have hkn : kn d q ≠ u := by unfold kn; omega
  have hkn2 : 20000 ≤ kn d q := by unfold kn; omega
  generalize hβ' : (fun e => if e = kn d q then some bu else if e = u then none else β e) = β'
  have hv : ∀ e, β' e = if e = kn d q then some bu else if e = u then none else β e := fun e => by rw [← hβ']
  have hsub : ∀ e z, β' e = some z → (e = kn d q ∧ bu = z) ∨ (e ≠ kn d q ∧ e ≠ u ∧ β e = some z) := fun e z he => by
   rw [hv] at he
   by_cases h1 : e = kn d q
   ·rw [if_pos h1] at he; injection he with he; exact .inl ⟨h1, he⟩
   ·rw [if_neg h1] at he
    by_cases h2 : e = u
    ·rw [if_pos h2] at he; cases he
    ·rw [if_neg h2] at he; exact .inr ⟨h1, h2, he⟩
  have hO := hs.owners (β' := β') d u hu10 hlF hlO (fun x y z hx hy => by
   rcases hsub x z hx with ⟨h1, h2⟩ | ⟨h1, h2, h3⟩ <;> rcases hsub y z hy with ⟨h4, h5⟩ | ⟨h4, h5, h6⟩
   ·rw [h1, h4]
   ·subst h2; exact absurd (hs.inj _ _ _ h6 k1) h5
   ·subst h5; exact absurd (hs.inj _ _ _ h3 k1) h2
   ·exact hs.inj _ _ _ h3 h6) (fun x z hx => by
   rcases hsub x z hx with ⟨h1, h2⟩ | ⟨h1, h2, h3⟩
   ·subst h2; exact ⟨u, k1, .inr (.inr (by omega)), .inr (.inl hu10)⟩
   ·exact ⟨x, h3, .inl rfl, .inl rfl⟩) (fun x z hx hxu hxz => by rw [hv, if_neg (by omega), if_neg hxu]; exact hxz) (fun x i z hxd hx hxz => by
   rw [hv, if_neg (fun h => hxd (ZG hx hd2 h).1), if_neg (by unfold kn; omega)]; exact hxz)
  have hb2 : β' d = some b := by rw [hv, if_neg (by omega), if_neg hdu]; exact hb
  have hK : Keeps (fun c => β' d = some c) w (setBlock w b (.map arr' (vY clk key es))) := wy hb2
  have hlt : b < w.heap.size := (hs.rng d b hb).2
  have hnew : (setBlock w b (.map arr' (vY clk key es))).heap[b]? = some (.map arr' (vY clk key es)) := by simp [setBlock, hlt]
  have hC := hO.content d hK fun c te n hc' ⟨a', e1, _⟩ => by
   rw [hb2] at hc'; injection hc' with hc'; subst hc'; rw [harr] at e1; cases e1
  have hoth : ∀ z, z ≠ b → (setBlock w b (.map arr' (vY clk key es))).heap[z]? = w.heap[z]? := fun z hz => Array.getElem?_setIfInBounds_ne (Ne.symm hz)
  have hA := hC.add d (.mapl te (vY clk key es) (wj clk key l es) none) ⟨b, arr', hb2, hnew, by simpa using hl', fun i e m he hm => by
   obtain ⟨r1, r2, r3⟩ := hent' i e m he (by simpa using hm)
   refine ⟨r1, r2, fun _ => ?_⟩
   rcases r3 with ⟨rfl, r4, r5⟩ | ⟨r4, r5⟩
   ·rw [r4, r5]
    exact ⟨bu, c, ai, by rw [hv, if_pos rfl], k2, k3, k4, (hoth _ hbu).trans k5, k6, k7⟩
   ·refine r5.step (fun z hz => by rw [hv, if_neg (fun h => r4 (ZG hd2 hd2 h).2), if_neg (by unfold kn; omega)]; exact hz) fun z hz => hoth z fun h => ?_
    subst h
    have := hs.inj _ _ _ hz hb
    unfold kn at this; omega⟩
  have hW : SRel E { fr := (s.drop u).fr, ob := (d, .mapl te (vY clk key es) (wj clk key l es) none) :: rm d (s.drop u).ob } a.tmps (setBlock w b (.map arr' (vY clk key es))) β' := hA.weaken (fun t g x h => h) fun e o' h => by
   have h' : lk ((d, AObj.mapl te (vY clk key es) (wj clk key l es) none) :: rm d (s.drop u).ob) e = some o' := h
   show lk ((d, AObj.mapl te (vY clk key es) (wj clk key l es) none) :: rmo d (rm d (s.drop u).ob)) e = some o'
   rw [yg] at h' ⊢
   by_cases he : d = e
   ·rw [zO he] at h' ⊢; exact h'
   ·rw [zK he] at h' ⊢
    unfold rmo
    rw [decide_eq_true hd2, cond_true, ZV, zK (Ne.symm he)]
    exact h'
  refine qS (w' := setBlock w b (.map arr' (vY clk key es))) (by simp [execOp, ho, hmb, hkv, hrun]) ⟨XW yZ β', ⟨fun h => (by rw [Dr.dst, ho] at h; cases h), ⟨hK.size, fun z hz hne => hoth z fun h => hne ⟨d, rfl, by rw [h]; exact hb⟩⟩, fun z _ ⟨e, _, he⟩ => ?_⟩, hr _ _ _ ?_ ?_ ?_⟩
  ·rcases hsub e z he with ⟨_, h2⟩ | ⟨_, _, h3⟩
   ·subst h2; exact ⟨u, rfl, k1⟩
   ·exact ⟨e, rfl, h3⟩
  ·rw [hdst]; exact hn
  ·rw [hdst]; exact hd
  ·rw [hdst]; exact hW
 refine yi (by rw [ho]; rfl) hw (fun _ => ?_) (fun hGf => by cases hGf)
 rcases zcS (key := key) es arr.toList 0 hlen hent with ⟨q, e, me, g1, g2, g3, g4, g5, g6, g7⟩ | ⟨g4, g5, g6, g7⟩
 ·rw [g5] at hh
  have hq2 : arr[q]? = some me := by simpa using g2
  have hkme := (hent q e me g1 g2).2
  rw [g3] at hkme
  have hlt : q < arr.size := (Array.getElem?_eq_some_iff.1 hq2).1
  have he : (arr.modify q fun e => { e with key := .int .i64 key, val := a.eval x }).toList = arr.toList.set q { me with key := .int .i64 key, val := a.eval x } := by
   apply List.ext_getElem?
   intro i
   rw [Array.getElem?_toList, Array.getElem?_modify, List.getElem?_set, Array.getElem?_toList]
   by_cases hi : q = i
   ·subst hi
    rw [if_pos rfl, if_pos rfl, hq2, if_pos (by simpa using hlt)]
    rfl
   ·rw [if_neg hi, if_neg hi]
  refine fin q (arr.modify q fun e => { e with key := .int .i64 key, val := a.eval x }) ?_ ?_ fun i x' m' hx' hm' => ?_
  ·simp only [Instr.mapUpdate, Sem.run_bind, run_underlying hu, Result.andThen_ok, hget, hcheck, run_findKey hku g7, Nat.zero_add, hq2, Option.map_some, Option.getD_some, hkme, run_keyThatStays hik, hset, vY, g4, Option.isSome_some, cond_true]
  ·rw [he, g6, List.length_set, List.length_set, hlen]
  ·rw [he] at hm'
   rw [g6] at hx'
   rw [List.getElem?_set] at hx' hm'
   by_cases hi : q = i
   ·subst hi
    rw [if_pos rfl] at hx' hm'
    rw [if_pos (zE g1)] at hx'
    rw [if_pos (by simpa using hlt)] at hm'
    injection hx' with hx'
    injection hm' with hm'
    subst hx'
    subst hm'
    exact ⟨(hent q e me g1 g2).1, rfl, .inl ⟨rfl, rfl, rfl⟩⟩
   ·rw [if_neg hi] at hx' hm'
    exact ⟨(hent i x' m' hx' hm').1, (hent i x' m' hx' hm').2, .inr ⟨fun h => hi h.symm, hkid i x' m' hx' hm' (by rw [← hh]; intro h; injection h with h; exact hi h)⟩⟩
 ·rw [g5] at hh
  refine fin es.length (arr.push { key := .int .i64 key, val := a.eval x, born := clk }) ?_ ?_ fun i x' m' hx' hm' => ?_
  ·simp only [Instr.mapUpdate, Sem.run_bind, run_underlying hu, Result.andThen_ok, hget, hcheck, run_findKey hku g7, hset, vY, g4, Option.isSome_none, cond_false]
  ·rw [Array.toList_push, g6, List.length_append, List.length_append, hlen]; rfl
  ·rw [Array.toList_push] at hm'
   rw [g6] at hx'
   by_cases hi : i < es.length
   ·rw [List.getElem?_append_left hi] at hx'
    rw [List.getElem?_append_left (by rw [hlen]; exact hi)] at hm'
    exact ⟨(hent i x' m' hx' hm').1, (hent i x' m' hx' hm').2, .inr ⟨by omega, hkid i x' m' hx' hm' (by rw [← hh]; simp)⟩⟩
   ·rw [List.getElem?_append_right (by omega)] at hx'
    rw [List.getElem?_append_right (by rw [hlen]; omega), hlen] at hm'
    have h0 : i - es.length = 0 := by have := zE hx'; simp at this; omega
    rw [h0] at hx' hm'
    simp only [List.getElem?_cons_zero, Option.some.injEq] at hx' hm'
    subst hx'
    subst hm'
    exact ⟨rfl, rfl, .inl ⟨by omega, rfl, rfl⟩⟩
theorem QT {c : Code} (d te : Nat) (hd : d < 20000) (ho : lk s.ob d = some (.mapr 0 [])) (h : AWp P E n c Q { fr := s.fr, ob := (d, .mapl te 0 [] none) :: rm d s.ob }) : AWp P E n c Q s := fun a w ⟨hn, hdf, β, hs⟩ => by
 refine h a w ⟨hn, hdf, β, (hs.weaken (s' := { fr := s.fr, ob := rm d s.ob }) (fun t g x h => h) fun e o h => ?_).add d _ ?_⟩
 ·have h' : lk (rm d s.ob) e = some o := h
  rw [ZV] at h'
  by_cases he : e = d
  ·rw [zO he] at h'; cases h'
  ·rw [zK he] at h'; exact h'
 ·obtain ⟨b, arr, h1, h2, h3, _⟩ := hs.ob d _ ho
  exact ⟨b, arr, h1, h2, h3, fun i e m he => by simp at he⟩
end
end
section
open Go.RowKit Go.MapKept
section
variable {F F' : Nat → Prop} {β β' : Nat → Option Nat} {w w' : World}
theorem AVR.lo0 {a : AV} {x : Value} (h : AVR F β w a x) (hlo : a.lo = true) (hF : ∀ b, F b → F' b) (hβ : ∀ e b, e < 20000 → β e = some b → β' e = some b) : AVR F' β' w a x := by
 induction h with
 | s h => exact .s (h.mono hF fun _ _ => rfl)
 | agg h1 h2 _ ih => exact .agg h1 h2 fun i c u hc hu => ih i c u hc hu (AV.loL_mem (by simpa only [AV.lo] using hlo) c (List.mem_of_getElem? hc))
 | tup h1 _ ih => exact .tup h1 fun i c u hc hu => ih i c u hc hu (AV.loL_mem (by simpa only [AV.lo] using hlo) c (List.mem_of_getElem? hc))
 | nil => exact .nil
 | ref h1 h2 h3 h5 h6 => exact .ref (hβ _ _ (by simpa [AV.lo] using hlo) h1) h2 h3 h5 h6
 | empty h1 => exact .empty h1
 | rfx h ih => exact .rfx (ih (by simpa only [AV.lo] using hlo))
 | ptr h1 => exact .ptr (hβ _ _ (by simpa [AV.lo] using hlo) h1)
 | elt g h1 h2 h3 h4 h5 => exact .elt g (hF _ h1) h2 h3 h4 (fun i j cs u hc hu => (h5 i j cs u hc hu).mono hF fun _ _ => rfl)
 | map h1 => exact .map (hβ _ _ (by simpa [AV.lo] using hlo) h1)
 | slen => exact .slen
 | fn h0 h1 _ ih => exact .fn h0 h1 fun i c u hc hu => ih i c u hc hu (AV.loL_mem (by simpa only [AV.lo] using hlo) c (List.mem_of_getElem? hc))
 | ifc _ ih => exact .ifc (ih (by simpa only [AV.lo] using hlo))
 | dead => exact .dead
theorem xW.lo0 {d : Nat} {o : AObj} (h : xW F β w d o) (hlo : o.lo) (hd : d < 20000) (hF : ∀ b, F b → F' b) (hβ : ∀ e b, e < 20000 → β e = some b → β' e = some b) (hkid : ∀ i b, β (kn d i) = some b → β' (kn d i) = some b) : xW F' β' w d o := by
 cases o with
 | row t k xs =>
  obtain ⟨hk, h⟩ := h
  refine ⟨hk, ?_⟩
  rcases h with h | ⟨b, arr, h1, h2, h3, h4⟩
  ·exact .inl h
  ·exact .inr ⟨b, arr, hβ d b hd h1, h2, h3, fun i j cs u hc hu => by
    obtain ⟨x, hx, hr⟩ := h4 i j cs u hc hu
    exact ⟨x, hx, hr.mono hF fun _ _ => rfl⟩⟩
 | var cs =>
  obtain ⟨b, arr, t, h1, h2, h3, h4⟩ := h
  exact ⟨b, arr, t, hβ d b hd h1, h2, h3, fun j u hu => by
   obtain ⟨x, hx, hr, ho⟩ := h4 j u hu
   exact ⟨x, hx, hr.lo0 (AV.loL_mem hlo u (List.mem_of_getElem? hu)) hF hβ, ho⟩⟩
 | mapo es =>
  obtain ⟨b, arr, clk, h1, h2, h3, h4⟩ := h
  exact ⟨b, arr, clk, hβ d b hd h1, h2, h3, fun i e m he hm => ⟨(h4 i e m he hm).1.mono hF fun _ _ => rfl, (h4 i e m he hm).2.mono hF fun _ _ => rfl⟩⟩
 | mapr clk es =>
  obtain ⟨b, arr, h1, h2, h3, h4⟩ := h
  exact ⟨b, arr, hβ d b hd h1, h2, h3, fun i e m he hm => by
   obtain ⟨g1, g2, g3⟩ := h4 i e m he hm
   exact ⟨g1, g2.mono hF fun _ _ => rfl, g3.lo0 (hlo e (List.mem_of_getElem? he)) hF hβ⟩⟩
 | mapl t clk es q =>
  obtain ⟨b, arr, h1, h2, h3, h4⟩ := h
  exact ⟨b, arr, hβ d b hd h1, h2, h3, fun i x m hx hm => ⟨(h4 i x m hx hm).1, (h4 i x m hx hm).2.1, fun hq => ((h4 i x m hx hm).2.2 hq).step (fun c hc => hkid i c hc) fun _ _ => rfl⟩⟩
 | iter e' ok since seen =>
  obtain ⟨r, b, last, h1, h2, h3⟩ := h
  exact ⟨r, b, last, hβ d r hd h1, h2, fun hok => hβ e' b hlo (h3 hok)⟩
end
section
variable {P : Program} {E : Env} {s : AState} {tm : Array Value} {w : World} {β : Nat → Option Nat} {n : Nat} {Q : Exit → AState → Prop}
theorem QU {c : Code} (d : Nat) {te clk : Nat} {es : List (Nat × Int × List Int)} (hd : d < 20000) (ho : lk s.ob d = some (.mapl te clk es none)) (hlF : loF s.fr) (hlO : loO s.ob) (h : AWp P E n c Q { fr := s.fr, ob := (d, .mapr clk (mI (fun l => .lst 1 (v8 l)) es)) :: rm d s.ob }) : AWp P E n c Q s := fun a w ⟨hn, hdf, β, hs⟩ => by
 generalize hβ' : (fun e => if 20000 ≤ e ∧ e % 20000 = d then none else β e) = β'
 have hv : ∀ e, β' e = if 20000 ≤ e ∧ e % 20000 = d then none else β e := fun e => by rw [← hβ']
 have hsub : ∀ e b, β' e = some b → ¬ (20000 ≤ e ∧ e % 20000 = d) ∧ β e = some b := fun e b he => by
  rw [hv] at he
  by_cases h1 : 20000 ≤ e ∧ e % 20000 = d
  ·rw [if_pos h1] at he; cases he
  ·rw [if_neg h1] at he; exact ⟨h1, he⟩
 have hkeep : ∀ e b, e < 20000 → β e = some b → β' e = some b := fun e b h1 h2 => by rw [hv, if_neg (by omega)]; exact h2
 have hF : ∀ b, FF E β w b → FF E β' w b := fun b ⟨h1, h2, h3⟩ => ⟨h1, h2, fun e he => h3 e (hsub e b he).2⟩
 have hE : ∀ e b, E.β0 e = some b → 10000 ≤ e ∧ e < 20000 := E.hβ
 obtain ⟨b, arr, hb, harr, hlen, hent, hkid⟩ := ZH (hs.ob d _ ho)
 refine h a w ⟨hn, hdf, β', ⟨fun e f b h1 h2 => hs.inj e f b (hsub e b h1).2 (hsub f b h2).2, fun e b h => hs.rng e b (hsub e b h).2, hs.old, fun e o he => ?_, fun t g x ht hg => (hs.fr t g x ht hg).lo0 (zat hlF ht) hF hkeep, hs.un, fun e b hlt he => hkeep e b (by omega) (hs.fx e b hlt he), hs.fs⟩⟩
 have he' : lk ((d, AObj.mapr clk (mI (fun l => .lst 1 (v8 l)) es)) :: rm d s.ob) e = some o := he
 rw [yg] at he'
 by_cases hde : d = e
 ·rw [zO hde] at he'
  injection he' with he'
  subst he'
  subst hde
  refine ⟨b, arr, hkeep d b hd hb, harr, by rw [YD]; simpa using hlen, fun i e' m he hm => ?_⟩
  obtain ⟨x, hx, rfl⟩ := QQ he
  have hm' : arr.toList[i]? = some m := by simpa using hm
  obtain ⟨g1, g2⟩ := hent i x m hx hm'
  refine ⟨g1, by rw [g2]; exact .v rfl, .s ?_⟩
  obtain ⟨bi, c, ai, k1, k2, k3, k4, k5, k6, k7⟩ := hkid i x m hx hm' (by simp)
  rw [k2]
  have hFb : FF E β' w bi := ⟨(hs.rng _ _ k1).2, by
   rcases (hs.rng _ _ k1).1 with h | h
   ·exact .inr (.inl h)
   ·exact .inr (.inr ⟨_, h⟩), fun e he => by
   obtain ⟨h1, h2⟩ := hsub e bi he
   have := hs.inj _ _ _ h2 k1
   subst this
   exact h1 ⟨by unfold kn; omega, by unfold kn; omega⟩⟩
  have hcell : ∀ q z, x.2.2[q]? = some z → w.cell? ⟨bi, q, none⟩ = some (.int .i64 z) := fun q z hz => (cell_of_row w bi q ai te (0, 0) k5).trans (k7 q z hz)
  refine .lst (fun i _ => .int .i64 (x.2.2.getD i 0)) (zq _).symm k3 k4 (fun cs hcs => by obtain ⟨z, _, rfl⟩ := List.mem_map.1 hcs; rfl) (fun _ => ⟨bi, 0, rfl, hFb, fun i j hi hj => ?_⟩) (fun _ _ _ _ => rfl) fun i j cs u hcs hu => ?_
  ·have hj0 : j = 0 := by omega
   subst hj0
   rw [show 0 + (i * 1 + 0) = i by omega]
   exact hcell i _ (by simp [List.getD, hi])
  ·rw [v8, List.getElem?_map] at hcs
   cases hz : x.2.2[i]? with
   | none => rw [hz] at hcs; cases hcs
   | some z =>
    rw [hz] at hcs
    injection hcs with hcs
    subst hcs
    have hj : j = 0 := by have := zE hu; simp at this; omega
    subst hj
    simp only [List.getElem?_cons_zero, Option.some.injEq] at hu
    subst hu
    have : x.2.2.getD i 0 = z := by simp [List.getD, hz]
    show SVR _ w (.v (.int .i64 z)) (.int .i64 (x.2.2.getD i 0))
    rw [this]
    exact .v rfl
 ·rw [zK hde, ZV, zK (Ne.symm hde)] at he'
  obtain ⟨g1, g2⟩ := zas hlO he'
  exact (hs.ob e o he').lo0 g2 g1 hF hkeep fun i b h => by
   rw [hv, if_neg (fun h2 => hde (by have := h2.2; unfold kn at this; omega))]; exact h
end
attribute [go_sem] loF loO AV.lo AV.lo.loL AObj.lo
end
section
open Go.RowKit
def nL (L : List (Nat × Int × List Nat)) : List (Nat × Int × List Int) := L.map fun e => (e.1, e.2.1, yC e.2.2)
theorem zc3 (k : Int) (L : List (Nat × Int × List Nat)) : mf k (nL L) = (mf k L).map yC := by
 induction L with
 | nil => rfl
 | cons e L ih =>
  obtain ⟨b, k', l⟩ := e
  rw [show nL ((b, k', l) :: L) = (b, k', yC l) :: nL L from rfl]
  simp only [mf]
  split
  ·rfl
  ·exact ih
theorem Kj (c : Nat) (k : Int) (l : List Nat) (L : List (Nat × Int × List Nat)) : wj c k (yC l) (nL L) = nL (wj c k l L) := by
 induction L with
 | nil => rfl
 | cons e L ih =>
  obtain ⟨b, k', l'⟩ := e
  rw [show nL ((b, k', l') :: L) = (b, k', yC l') :: nL L from rfl]
  simp only [wj]
  split
  ·rfl
  ·rw [ih]; rfl
theorem Kk (c : Nat) (k : Int) (L : List (Nat × Int × List Nat)) : vY c k (nL L) = vY c k L := by
 unfold vY
 rw [zc3]
 cases mf k L <;> rfl
theorem zc4 (L : List (Nat × Int × List Nat)) : mI (fun l : List Int => .lst 1 (v8 l)) (nL L) = mL L := by
 simp [mI, nL, List.map_map, Function.comp, lsF]
theorem zaA (L : List (Nat × Int × List Nat)) (k : Nat) : (mf (k : Int) (nL L)).getD [] = yC (atL L k) := by
 rw [zc3]
 unfold atL
 cases mf (k : Int) L <;> rfl
theorem wU (c : Nat) (k : Nat) (l : List Nat) (L : List (Nat × Int × List Nat)) (y : Nat) : atL (wj c (k : Int) l L) y = if y = k then l else atL L y := by
 unfold atL
 rw [XP]
 by_cases h : y = k
 ·subst h; simp
 ·rw [if_neg (by omega), if_neg h]
theorem VW (M : List (Nat × Int × Unit)) : (∀ e ∈ mK M, e.2.2.lo = true) = True := eq_true fun e he => by
 obtain ⟨x, _, rfl⟩ := List.mem_map.1 he
 rfl
theorem zdq (L : List (Nat × Int × List Nat)) : (∀ e ∈ mL L, e.2.2.lo = true) = True := eq_true fun e he => by
 obtain ⟨x, _, rfl⟩ := List.mem_map.1 he
 rfl
structure RingsI (C : List InsM) (B : List Bool) (M : List (Nat × Int × Unit)) (q : List Nat) : Prop where
 iff : ∀ k, k ∈ q ↔ k ∈ yM M ∧ Rch (xF C (xp C B)) k k
 len : q.length ≤ 1048576
theorem JW {C : List InsM} {N : List Int} (hok : CodeOK C N) {x : Nat} (hxC : x < C.length) : (yz C x (zb C x)).length ≤ 10000000 := by
 have hC := hok.len
 unfold yz
 split
 ·simp
 ·split
  ·simp
  ·split
   ·rename_i h8
    have := hok.arms x hxC h8
    simp
    omega
   ·split <;> simp
structure NoteI (C : List InsM) (B : List Bool) (V : List (Nat × Int × Unit)) (cur : Option (Nat × Nat)) (T : Nat) (L1 L2 : List (Nat × Int × List Nat)) : Prop where
 cnt : ∀ x y, (atL L1 x).count y = (atL L2 y).count x
 old : ∀ x ∈ yM V, ∀ y, y ∈ atL L1 x ↔ xF C (xp C B) x y
 new : ∀ x, x ∉ yM V → (∀ j, cur ≠ some (x, j)) → atL L1 x = []
 now : ∀ x j, cur = some (x, j) → ∀ y, y ∈ atL L1 x ↔ ∃ w, w < j ∧ (yz C x (zb C x))[w]? = some (y : Int) ∧ xp C B x w = true
 l1 : ∀ x, (atL L1 x).length ≤ T
 l2 : ∀ x, (atL L2 x).length ≤ T
theorem NoteI.add {C : List InsM} {B : List Bool} {V : List (Nat × Int × Unit)} {x j T c1 c2 m : Nat} {L1 L2 : List (Nat × Int × List Nat)} (h : NoteI C B V (some (x, j)) T L1 L2) (hx : x ∉ yM V) (hm : (yz C x (zb C x))[j]? = some (m : Int)) (hg : xp C B x j = true) :
  NoteI C B V (some (x, j + 1)) (T + 1) (wj c1 (x : Int) (atL L1 x ++ [m]) L1) (wj c2 (m : Int) (atL L2 m ++ [x]) L2) := by
 refine ⟨fun a b => ?_, fun a ha y => ?_, fun a ha hc => ?_, fun a i hi y => ?_, fun a => ?_, fun a => ?_⟩
 ·rw [wU, wU]
  have := h.cnt a b
  by_cases h1 : a = x <;> by_cases h2 : b = m
  ·subst h1; subst h2; simp [this]
  ·subst h1; simp [h2, this, Ne.symm h2]
  ·subst h2; simp [h1, this, Ne.symm h1]
  ·simp [h1, h2, this]
 ·rw [wU, if_neg (by rintro rfl; exact hx ha)]; exact h.old a ha y
 ·rw [wU, if_neg (by rintro rfl; exact hc _ rfl)]
  exact h.new a ha fun i hi => by injection hi with hi; injection hi with h1 h2; subst h1; exact hc _ rfl
 ·injection hi with hi
  injection hi with h1 h2
  subst h1
  subst h2
  rw [wU, if_pos rfl, List.mem_append, List.mem_singleton, h.now x j rfl]
  constructor
  ·rintro (⟨w, h1, h2⟩ | rfl)
   ·exact ⟨w, by omega, h2⟩
   ·exact ⟨j, by omega, hm, hg⟩
  ·rintro ⟨w, h1, h2, h3⟩
   by_cases hw : w = j
   ·subst hw; rw [hm] at h2; injection h2 with h2; exact .inr (by omega)
   ·exact .inl ⟨w, by omega, h2, h3⟩
 ·rw [wU]; have := h.l1 x; have := h.l1 a; split <;> simp <;> omega
 ·rw [wU]; have := h.l2 m; have := h.l2 a; split <;> simp <;> omega
theorem NoteI.skip {C : List InsM} {B : List Bool} {V : List (Nat × Int × Unit)} {x j T : Nat} {L1 L2 : List (Nat × Int × List Nat)} (h : NoteI C B V (some (x, j)) T L1 L2) (hg : xp C B x j = false) : NoteI C B V (some (x, j + 1)) (T + 1) L1 L2 := by
 refine ⟨h.cnt, h.old, fun a ha hc => h.new a ha fun i hi => by injection hi with hi; injection hi with h1 h2; subst h1; exact hc _ rfl, fun a i hi y => ?_, fun a => Nat.le_succ_of_le (h.l1 a), fun a => Nat.le_succ_of_le (h.l2 a)⟩
 injection hi with hi
 injection hi with h1 h2
 subst h1
 subst h2
 rw [h.now x j rfl]
 constructor
 ·rintro ⟨w, h1, h2⟩; exact ⟨w, by omega, h2⟩
 ·rintro ⟨w, h1, h2, h3⟩
  by_cases hw : w = j
  ·subst hw; rw [hg] at h3; cases h3
  ·exact ⟨w, by omega, h2, h3⟩
theorem NoteI.enter {C : List InsM} {B : List Bool} {V : List (Nat × Int × Unit)} {x T : Nat} {L1 L2 : List (Nat × Int × List Nat)} (h : NoteI C B V none T L1 L2) (hx : x ∉ yM V) : NoteI C B V (some (x, 0)) T L1 L2 :=
 ⟨h.cnt, h.old, fun a ha _ => h.new a ha fun _ h => (by cases h), fun a i hi y => by
  injection hi with hi
  injection hi with h1 h2
  subst h1
  subst h2
  rw [h.new x hx fun _ h => (by cases h)]
  exact ⟨fun h => (by cases h), fun ⟨w, hw, _⟩ => by omega⟩, h.l1, h.l2⟩
theorem NoteI.leave {C : List InsM} {B : List Bool} {V : List (Nat × Int × Unit)} {x j T : Nat} {L1 L2 : List (Nat × Int × List Nat)} {e : Nat × Int × Unit} (h : NoteI C B V (some (x, j)) T L1 L2) (hj : (yz C x (zb C x)).length ≤ j) (he : e.2.1 = (x : Int)) : NoteI C B (V ++ [e]) none T L1 L2 := by
 have hk : ∀ y, y ∈ yM (V ++ [e]) ↔ y ∈ yM V ∨ y = x := fun y => by simp [yM, he]
 refine ⟨h.cnt, fun a ha y => ?_, fun a ha _ => h.new a (fun h => ha ((hk a).2 (.inl h))) fun i hi => by injection hi with hi; injection hi with h1 h2; exact ha ((hk a).2 (.inr h1.symm)), fun _ _ h => (by cases h), h.l1, h.l2⟩
 by_cases hax : a = x
 ·subst hax
  rw [h.now a j rfl]
  exact ⟨fun ⟨w, _, h2, h3⟩ => ⟨w, h2, h3⟩, fun ⟨w, h2, h3⟩ => ⟨w, Nat.lt_of_lt_of_le (zE h2) hj, h2, h3⟩⟩
 ·exact h.old a (((hk a).1 ha).resolve_right hax) y
theorem zbM (e : Bool) (C : List InsM) (N : List Int) (B : List Bool) (en : Int) (c : Nat) (M : List (Nat × Int × Unit)) (hok : CodeOK C N) (S : Nat → Prop) (hS : ClosedS C B S) (hM : MapOK c M) (hMS : ∀ k ∈ yM M, S k) (hcl : ∀ k ∈ yM M, ∀ j ∈ yz C k (zb C k), j.toNat ∈ yM M) :
  yL Try.prog 46 [.ptr 1 10000 0 0] (rtO e C N B en c M) (RingsI C B M) (fun q => .ref 3 1 88 0 q.length) (fun q => rtO e C N B en c M ++ [(88, .row 3 1 (v8 (yC q)))]) := by
 have hC := hok.len
 have hlen := hM.len
 have hre := fun (k : Nat) (hk : S k) => Kd e C N B en c M hok S hS [k] (by simp) (by simpa using hk) (by simp)
 unfold rtO rtV at *
 refine xT (za _) Try.func46 rfl rfl (by rw [Try.results46]) Try.ntmps46 rfl fun E => ?_
 (repeat' (first | exact trivial | (with_reducible first | apply awA | apply awB | apply awF) | ((with_reducible first | refine awN (za _) [4000013, 4000014] ?_ | refine awO (za _) [4000013, 4000014] ?_); intro r hr; simp only [go_sem, Nat.reduceBEq, Nat.reduceLT, Nat.reduceLeDiff, Nat.reduceAdd, Nat.reduceMul, yk] at hr; subst hr; (first | refine awV ?_ ?_ | refine awW ?_ ?_)) | (refine vv (za _) (u := 19) rfl rfl rfl ⟨by decide, by decide⟩ rfl rfl t83 rfl rfl (by decide) ?_))) <;> (try omega)
 refine QT 13 3 (by decide) (by simp only [go_sem, Nat.reduceBEq]) ?_
 refine QT 14 3 (by decide) (by simp only [go_sem, Nat.reduceBEq]) ?_
 refine zC [0, 3, 4, 19] [10000, 10002, 10003, 13, 14, 19] (fun q : List (Nat × Int × Unit) × Nat × List (Nat × Int × List Nat) × Nat × List (Nat × Int × List Nat) => ⟨[(0, true, .ptr 1 10000 0 0), (3, true, .map 13), (4, true, .map 14), (19, true, .ptr 1 19 0 0)],
  [(10000, .var [vB e, .lst 4 (zz C), .lst 1 (v8 N), .ref 4 1 10002 0 B.length, vI en, .map 10003]), (10002, .row 4 1 (wJ B)), (10003, .mapr c (mK M)), (13, .mapl 3 q.2.1 (nL q.2.2.1) none), (14, .mapl 3 q.2.2.2.1 (nL q.2.2.2.2) none), (19, .iter 10003 true c (q.1.map (·.1)))]⟩)
  (fun q => (∀ e ∈ q.1, e ∈ M) ∧ (q.1.map (·.1)).Nodup ∧ NoteI C B q.1 none (q.1.length * 10000000) q.2.2.1 q.2.2.2.2) (fun q => M.length - q.1.length) ([], 0, [], 0, [])
  (by simp only [go_sem, Nat.reduceBEq] <;> exact rfl) ⟨fun e he => (by cases he), List.nodup_nil, ⟨fun _ _ => rfl, fun x hx => by simp [yM] at hx, fun _ _ _ => rfl, fun _ _ h => (by cases h), fun _ => Nat.zero_le _, fun _ => Nat.zero_le _⟩⟩ ?_
 intro ⟨V, c1, L1, c2, L2⟩ ⟨hV, hVn, hN⟩
 simp only at hV hVn hN ⊢
 have hVl : V.length ≤ M.length := by
  refine yv ?_ hV
  rw [List.Nodup, List.pairwise_map] at hVn
  exact hVn.imp fun h e => h (by rw [e])
 (repeat' (first | exact trivial | (with_reducible apply awA) | ((with_reducible apply awn); intro r hr; simp only [go_sem, Nat.reduceBEq] at hr; subst hr; (first | refine awW ?_ ?_)) | (refine uR (d := 10003) (u := 19) (L := M) (f := fun _ => AV.dead) rfl rfl ⟨by decide, by decide⟩ rfl rfl rfl rfl hM.lt rfl (fun h0 => wl ?_) (fun x hx hxn => wl ?_)))) <;> (try omega)
 ·refine ⟨?_⟩
  have hVK : ∀ k, k ∈ yM M → k ∈ yM V := fun k h => by
   obtain ⟨e, he, rfl⟩ := List.mem_map.1 h
   obtain ⟨e', he', h2⟩ := List.mem_map.1 (h0 e he)
   have : e' = e := yD hM.nd (hV e' he') he h2
   subst this
   exact List.mem_map.2 ⟨e', he', rfl⟩
  have hon : ∀ x ∈ yM M, ∀ y, y ∈ atL L1 x ↔ xF C (xp C B) x y := fun x hx => hN.old x (hVK x hx)
  have hcn := hN.cnt
  have hl1 : ∀ k, (atL L1 k).length ≤ 17000000000000 := fun k => by have := hN.l1 k; omega
  have hl2 : ∀ k, (atL L2 k).length ≤ 17000000000000 := fun k => by have := hN.l2 k; omega
  have hklt : ∀ k ∈ yM M, k < C.length := fun k hk => hS.lt k (hMS k hk)
  have hp1 := WW c c1 c2 C.length M hM L1 L2 hC hklt hl1 hl2 hcn
  clear hN hV hVn hVl hVK h0
  (repeat' (first | exact trivial | (refine QU 13 (by decide) rfl (by simp only [go_sem, Nat.reduceLT]) (by simp only [go_sem, Nat.reduceBEq, Nat.reduceLT, VW]) ?_) | (refine QU 14 (by decide) rfl (by simp only [go_sem, Nat.reduceLT]) (by simp only [go_sem, Nat.reduceBEq, Nat.reduceLT, VW, zc4, zdq]) ?_) | (with_reducible first | apply awA | apply awE | apply awF | apply awH | apply awK) | ((with_reducible first | apply awn | apply awo | refine awQ ?_); intro r hr; simp only [go_sem, Nat.reduceBEq, Nat.reduceLT, Nat.reduceLeDiff, Nat.reduceAdd, Nat.reduceMul, zc4] at hr; subst hr; (first | refine awV ?_ ?_ | refine awW ?_ ?_ | (refine zf (fun h => ?_) (fun h => ?_) <;> (try simp only [go_sem, reduceCtorEq] at h) <;> (try (exfalso; omega))))) | (refine zp [(10003, 10003), (13, 10006), (14, 10007)] [(21, 63), (10003, 10003), (10006, 13), (10007, 14)] [63] [10003, 13, 14] ?_; intro r hr; simp only [go_sem, Nat.reduceBEq, Nat.reduceLT, zT, WV] at hr; subst hr; refine y4 (hp1) rfl rfl (by first | exact .inl rfl | exact .inr rfl) ?_ (.inl rfl) (fun q hq => wl ?_)))) <;> (try omega)
  ·refine ⟨?_⟩
   obtain ⟨M1, rfl⟩ : ∃ z, z = q := ⟨_, rfl⟩
   have hq1 := hq
   clear hq
   have hM1 := hM.sub hq1.sub
   have hklt1 : ∀ k ∈ yM M1, k < C.length := fun k hk => hklt k ((hq1.sub.map _).mem hk)
   have hp2 := WW c c2 c1 C.length M1 hM1 L2 L1 hC hklt1 hl2 hl1 fun x y => (hcn y x).symm
   (repeat' (first | exact trivial | (refine x4 9 3 1 88 (.inl (by decide)) rfl ?_) | (with_reducible first | apply awA | apply awF) | ((with_reducible first | apply awn | apply awo); intro r hr; simp only [go_sem, Nat.reduceBEq, Nat.reduceLT, yk, zT, qn, WV, AState.nilrow] at hr; subst hr; (first | refine awV ?_ ?_ | refine awW ?_ ?_)) | (refine zp [(63, 10003), (14, 10006), (13, 10007)] [(21, 67), (10003, 63), (10006, 14), (10007, 13)] [67] [63, 14, 13] ?_; intro r hr; simp only [go_sem, Nat.reduceBEq, Nat.reduceLT, zT, WV] at hr; subst hr; refine y4 (hp2) rfl rfl (by first | exact .inl rfl | exact .inr rfl) ?_ (.inl rfl) (fun q hq => wl ?_)))) <;> (try omega)
   refine ⟨?_⟩
   obtain ⟨M2, rfl⟩ : ∃ z, z = q := ⟨_, rfl⟩
   have hq2 := hq
   clear hq
   have hM2 := hM1.sub hq2.sub
   have hring : ∀ k, k ∈ yM M → Rch (xF C (xp C B)) k k → k ∈ yM M2 := fun k hk hr => by
    have hclR : ∀ x ∈ yM M, ∀ y, xF C (xp C B) x y → y ∈ yM M := fun x hx y ⟨w, h1, _⟩ => by
     have := hcl x hx _ (List.mem_of_getElem? h1)
     rwa [Int.toNat_natCast] at this
    have h1 := zcI hon hclR hk
    have hK1 : ∀ y, Rch (xF C (xp C B)) k y → Rch (xF C (xp C B)) y k → y ∈ yM M1 := fun y h2 h3 => by
     obtain ⟨e, he, h4⟩ := List.mem_map.1 (hq1.cy _ h1 y ⟨h2, h3⟩)
     exact List.mem_map.2 ⟨e, he, by omega⟩
    have hsub : ∀ y ∈ yM M1, y ∈ yM M := fun y hy => (hq1.sub.map _).mem hy
    have h2 := Jq (R := xF C (xp C B)) (back := atL L2) (x := k) hK1 fun y hy z hz => by
     rw [← hon z (hsub z hz) y, ← List.count_pos_iff, ← List.count_pos_iff, hcn]
    obtain ⟨e, he, h4⟩ := List.mem_map.1 (hq2.cy _ h2 k ⟨hr, hr⟩)
    exact List.mem_map.2 ⟨e, he, by omega⟩
   have hsub2 : ∀ y ∈ yM M2, y ∈ yM M := fun y hy => ((hq2.sub.trans hq1.sub).map _).mem hy
   have hl2' : M2.length ≤ M.length := (hq2.sub.trans hq1.sub).length_le
   clear hp1 hp2 hq1 hq2 hon hcn hl1 hl2 hklt hklt1 hM1
   (repeat' (first | exact trivial | (with_reducible first | apply awB | apply awF) | ((with_reducible apply awo); intro r hr; simp only [go_sem, Nat.reduceBEq, Nat.reduceLT, yk, uX, zT, qn, WV] at hr; subst hr; (first | refine awV ?_ ?_ | refine awW ?_ ?_)) | (refine vv (za _) (u := 68) rfl rfl rfl ⟨by decide, by decide⟩ rfl rfl t83 rfl rfl (by decide) ?_))) <;> (try omega)
   refine zC [0, 9, 68] [10000, 10002, 10003, 67, 68, 88] (fun q : List (Nat × Int × Unit) × List Nat => ⟨[(0, true, .ptr 1 10000 0 0), (9, true, .ref 3 1 88 0 q.2.length), (68, true, .ptr 1 68 0 0)],
    [(10000, .var [vB e, .lst 4 (zz C), .lst 1 (v8 N), .ref 4 1 10002 0 B.length, vI en, .map 10003]), (10002, .row 4 1 (wJ B)), (10003, .mapr c (mK M)), (67, .mapr c (mK M2)), (68, .iter 67 true c (q.1.map (·.1))), (88, .row 3 1 (v8 (yC q.2)))]⟩)
    (fun q => (∀ e ∈ q.1, e ∈ M2) ∧ (q.1.map (·.1)).Nodup ∧ (∀ k, k ∈ q.2 ↔ k ∈ yM q.1 ∧ Rch (xF C (xp C B)) k k) ∧ q.2.length ≤ q.1.length) (fun q => M2.length - q.1.length) ([], [])
    (by simp only [go_sem, Nat.reduceBEq] <;> exact rfl) ⟨fun e he => (by cases he), List.nodup_nil, fun k => by simp [yM], Nat.zero_le _⟩ ?_
   intro ⟨V, r⟩ ⟨hV, hVn, hr, hrl⟩
   simp only at hV hVn hr hrl ⊢
   have hVl : V.length ≤ M2.length := by
    refine yv ?_ hV
    rw [List.Nodup, List.pairwise_map] at hVn
    exact hVn.imp fun h e => h (by rw [e])
   (repeat' (first | exact trivial | (with_reducible apply awA) | ((with_reducible apply awn); intro r hr; simp only [go_sem, Nat.reduceBEq] at hr; subst hr; (first | refine awW ?_ ?_)) | (refine uR (d := 67) (u := 68) (L := M2) (f := fun _ => AV.dead) rfl rfl ⟨by decide, by decide⟩ rfl rfl rfl rfl hM2.lt rfl (fun h0 => wl ?_) (fun x hx hxn => wl ?_)))) <;> (try omega)
   ·refine ⟨?_⟩
    (repeat' (first | exact trivial | (with_reducible first | apply awA | apply awD | apply awE | apply awF | apply awH | apply awK) | ((with_reducible first | apply awn | apply awo | refine awQ ?_ | refine uh ?_); intro r hr; simp only [go_sem, Nat.reduceBEq, Nat.reduceLT] at hr; subst hr; (first | refine awV ?_ ?_ | refine xi ?_ ?_ | (refine zf (fun h => ?_) (fun h => ?_) <;> (try simp only [go_sem, reduceCtorEq] at h) <;> (try (exfalso; omega))))))) <;> (try omega)
    ·refine ⟨r, ⟨fun k => ?_, by omega⟩, AV.up_rfl _, ?_⟩
     ·rw [hr]
      constructor
      ·rintro ⟨h1, h2⟩
       obtain ⟨e, he, rfl⟩ := List.mem_map.1 h1
       exact ⟨hsub2 _ (List.mem_map.2 ⟨e, hV e he, rfl⟩), h2⟩
      ·rintro ⟨h1, h2⟩
       refine ⟨?_, h2⟩
       obtain ⟨e, he, h3⟩ := List.mem_map.1 (hring k h1 h2)
       obtain ⟨e', he', h4⟩ := List.mem_map.1 (h0 e he)
       have : e' = e := yD hM2.nd (hV e' he') he h4
       subst this
       exact List.mem_map.2 ⟨e', he', h3⟩
     ·repeat first | exact zo | refine zh rfl ?_
   ·refine ⟨?_⟩
    obtain ⟨bx, kx, ux⟩ := x
    have hpos := hM2.pos _ hx
    obtain ⟨k, rfl⟩ : ∃ k : Nat, kx = k := ⟨kx.toNat, by simp only at hpos; omega⟩
    have hkM : k ∈ yM M := hsub2 k (List.mem_map.2 ⟨_, hx, by simp⟩)
    have hkV : k ∉ yM V := fun h => by
     obtain ⟨e', he', h2⟩ := List.mem_map.1 h
     have hp' := hM2.pos e' (hV e' he')
     have : e' = (bx, (k : Int), ux) := yD hM2.kd (hV e' he') hx (by show e'.2.1 = (k : Int); omega)
     subst this
     exact hxn (List.mem_map.2 ⟨_, he', rfl⟩)
    have hV2 : ∀ e ∈ V ++ [(bx, (k : Int), ux)], e ∈ M2 := fun e he => by
     rcases List.mem_append.1 he with h | h
     ·exact hV e h
     ·simp at h; subst h; exact hx
    have hVn2 : ((V ++ [(bx, (k : Int), ux)]).map (·.1)).Nodup := by
     rw [List.map_append, List.nodup_append]
     exact ⟨hVn, by simp, fun a ha b hb hab => by simp at hb; subst hb; subst hab; exact hxn ha⟩
    have hVl2 : (V ++ [(bx, (k : Int), ux)]).length ≤ M2.length := by
     refine yv ?_ hV2
     rw [List.Nodup, List.pairwise_map] at hVn2
     exact hVn2.imp fun h e => h (by rw [e])
    have hVs : (V ++ [(bx, (k : Int), ux)]).length = V.length + 1 := by simp
    have hkV2 : ∀ y, y ∈ yM (V ++ [(bx, (k : Int), ux)]) ↔ y ∈ yM V ∨ y = k := fun y => by simp [yM]
    have hVm : (V.map (·.1)) ++ [bx] = (V ++ [(bx, (k : Int), ux)]).map (·.1) := by simp
    have hrk := hre k (hMS k hkM)
    (repeat' (first | exact trivial | (with_reducible first | apply awA | apply awB | apply awC | apply awF) | ((with_reducible first | refine awN (za _) [76] ?_ | refine awO (za _) [76] ?_ | refine awQ ?_); intro r hr; simp only [go_sem, Nat.reduceBEq, Nat.reduceLT, Nat.reduceLeDiff, Nat.reduceAdd, Nat.reduceMul, yk] at hr; subst hr; (first | refine awV ?_ ?_ | refine awW ?_ ?_ | (refine zf (fun h => ?_) (fun h => ?_) <;> (try simp only [go_sem, reduceCtorEq] at h) <;> (try (exfalso; omega))))) | (refine xn (d := 67) (u := 68) (L := M2) (f := fun _ => AV.dead) (e := (bx, (k : Int), ux)) rfl rfl ⟨by decide, by decide⟩ rfl rfl rfl rfl hx hM2.nd ?_) | (refine zp [(10000, 10000), (10002, 10002), (10003, 10003), (76, 10004)] [(14, 79), (10000, 10000), (10002, 10002), (10003, 10003), (10004, 76)] [79] [10000, 10002, 10003, 76] ?_; intro r hr; simp only [go_sem, Nat.reduceBEq, Nat.reduceLT, zT] at hr; subst hr; refine y4 (hrk) rfl rfl (by first | exact .inl rfl | exact .inr rfl) ?_ (.inl rfl) (fun q hq => wl ?_)))) <;> (try omega)
    refine ⟨?_⟩
    have hqk : k ∈ q ↔ Rch (xF C (xp C B)) k k := by
     rw [hq.iff]
     exact ⟨fun ⟨a, ha, h⟩ => by simp at ha; subst ha; exact h, fun h => ⟨k, by simp, h⟩⟩
    by_cases hin : k ∈ q
    ·have hf := xx hin
     have ht : (v8 (yC r)).take r.length = v8 (yC r) := by rw [yT, List.take_of_length_le (by rw [zY]; omega)]
     have ha := wT r k
     have hl3 : (r ++ [k]).length = r.length + 1 := by simp
     (repeat' (first | exact trivial | (with_reducible first | apply awA | apply awF | apply awI) | ((with_reducible first | apply awn | apply awo | refine awQ ?_); intro r hr; simp only [go_sem, Nat.reduceBEq, Nat.reduceLT, Nat.reduceLeDiff, Nat.reduceAdd, Nat.reduceMul, Nat.reduceEqDiff, yk, uX, zT, zq, zY, ht, ha, hl3] at hr; subst hr; (first | refine awV ?_ ?_ | refine awW ?_ ?_ | (refine zf (fun h => ?_) (fun h => ?_) <;> (try simp only [go_sem, reduceCtorEq] at h) <;> (try (exfalso; omega))))) | (refine z7 (za _) (d := 79) (L := qL q) (f := fun _ => AV.dead) (key := (k : Int)) (z := .int .i64 0) rfl rfl ⟨by decide, by decide⟩ rfl rfl rfl rfl t83 rfl t3 rfl z8 rfl rfl (by rw [hf]) ?_))) <;> (try omega)
     refine ⟨(V ++ [(bx, (k : Int), ux)], r ++ [k]), ?_, ⟨hV2, hVn2, fun y => ?_, by show (r ++ [k]).length ≤ (V ++ [(bx, (k : Int), ux)]).length; rw [hVs, hl3]; omega⟩, by show M2.length - (V ++ [(bx, (k : Int), ux)]).length < M2.length - V.length; omega⟩
     ·simp only [hVm, hl3, go_sem, Nat.reduceBEq]
      try exact rfl
     ·show y ∈ r ++ [k] ↔ y ∈ yM (V ++ [(bx, (k : Int), ux)]) ∧ _
      rw [List.mem_append, List.mem_singleton, hr, hkV2]
      constructor
      ·rintro (⟨h1, h2⟩ | rfl)
       ·exact ⟨.inl h1, h2⟩
       ·exact ⟨.inr rfl, hqk.1 hin⟩
      ·rintro ⟨h1 | h1, h2⟩
       ·exact .inl ⟨h1, h2⟩
       ·exact .inr h1
    ·have hf := xw hin
     (repeat' (first | exact trivial | (with_reducible first | apply awA | apply awC | apply awF | apply awI) | ((with_reducible first | apply awn | apply awo | refine awQ ?_); intro r hr; simp only [go_sem, Nat.reduceBEq, Nat.reduceLT, uX, zT] at hr; subst hr; (first | refine awV ?_ ?_ | refine awW ?_ ?_ | (refine zf (fun h => ?_) (fun h => ?_) <;> (try simp only [go_sem, reduceCtorEq] at h) <;> (try (exfalso; omega))))) | (refine z7 (za _) (d := 79) (L := qL q) (f := fun _ => AV.dead) (key := (k : Int)) (z := .int .i64 0) rfl rfl ⟨by decide, by decide⟩ rfl rfl rfl rfl t83 rfl t3 rfl z8 rfl rfl (by rw [hf]) ?_))) <;> (try omega)
     refine ⟨(V ++ [(bx, (k : Int), ux)], r), ?_, ⟨hV2, hVn2, fun y => ?_, by show r.length ≤ (V ++ [(bx, (k : Int), ux)]).length; omega⟩, by show M2.length - (V ++ [(bx, (k : Int), ux)]).length < M2.length - V.length; omega⟩
     ·simp only [hVm, go_sem, Nat.reduceBEq]
      try exact rfl
     ·show y ∈ r ↔ y ∈ yM (V ++ [(bx, (k : Int), ux)]) ∧ _
      rw [hr, hkV2]
      exact ⟨fun h => ⟨.inl h.1, h.2⟩, fun h => ⟨h.1.resolve_right fun e => by subst e; exact hin (hqk.2 h.2), h.2⟩⟩
 ·refine ⟨?_⟩
  obtain ⟨bx, kx, ux⟩ := x
  have hpos := hM.pos _ hx
  obtain ⟨x, rfl⟩ : ∃ k : Nat, kx = k := ⟨kx.toNat, by simp only at hpos; omega⟩
  have hxM : x ∈ yM M := List.mem_map.2 ⟨_, hx, by simp⟩
  have hxV : x ∉ yM V := fun h => by
   obtain ⟨e', he', h2⟩ := List.mem_map.1 h
   have hp' := hM.pos e' (hV e' he')
   have : e' = (bx, (x : Int), ux) := yD hM.kd (hV e' he') hx (by show e'.2.1 = (x : Int); omega)
   subst this
   exact hxn (List.mem_map.2 ⟨_, he', rfl⟩)
  have hV2 : ∀ e ∈ V ++ [(bx, (x : Int), ux)], e ∈ M := fun e he => by
   rcases List.mem_append.1 he with h | h
   ·exact hV e h
   ·simp at h; subst h; exact hx
  have hVn2 : ((V ++ [(bx, (x : Int), ux)]).map (·.1)).Nodup := by
   rw [List.map_append, List.nodup_append]
   exact ⟨hVn, by simp, fun a ha b hb hab => by simp at hb; subst hb; subst hab; exact hxn ha⟩
  have hVl2 : (V ++ [(bx, (x : Int), ux)]).length ≤ M.length := by
   refine yv ?_ hV2
   rw [List.Nodup, List.pairwise_map] at hVn2
   exact hVn2.imp fun h e => h (by rw [e])
  have hVs : (V ++ [(bx, (x : Int), ux)]).length = V.length + 1 := by simp
  have hVm : (V.map (·.1)) ++ [bx] = (V ++ [(bx, (x : Int), ux)]).map (·.1) := by simp
  have hSx := hMS x hxM
  have hxC := hS.lt x hSx
  have hxw := hS.ways x hSx
  have hw := ZK e C N (by omega) x hxC (hok.arms x hxC)
  have hwl := JW hok hxC
  have hN0 := hN.enter hxV
  obtain ⟨T0, hT0⟩ : ∃ T0, T0 = V.length * 10000000 := ⟨_, rfl⟩
  rw [← hT0] at hN0
  generalize hks : yz C x (zb C x) = ks at hw hxw hwl
  unfold pG at hw
  clear hre
  (repeat' (first | exact trivial | (with_reducible first | apply awA | apply awB | apply awC | apply awF) | ((with_reducible first | apply awn | apply awo | refine awQ ?_); intro r hr; simp only [go_sem, Nat.reduceBEq, Nat.reduceLT, Nat.reduceLeDiff, Nat.reduceAdd, Nat.reduceMul, zq] at hr; subst hr; (first | refine caC (hw) rfl ?_ ?_ ?_ | refine awV ?_ ?_ | refine awW ?_ ?_ | (refine zf (fun h => ?_) (fun h => ?_) <;> (try simp only [go_sem, reduceCtorEq] at h) <;> (try (exfalso; omega))))) | (refine xn (d := 10003) (u := 19) (L := M) (f := fun _ => AV.dead) (e := (bx, (x : Int), ux)) rfl rfl ⟨by decide, by decide⟩ rfl rfl rfl rfl hx hM.nd ?_))) <;> (try omega)
  refine zC [0, 3, 4, 19, 5, 29, 30, 31] [10000, 10002, 10003, 13, 14, 19] (fun q : Nat × Nat × List (Nat × Int × List Nat) × Nat × List (Nat × Int × List Nat) => ⟨[(0, true, .ptr 1 10000 0 0), (3, true, .map 13), (4, true, .map 14), (19, true, .ptr 1 19 0 0), (5, true, vI x), (29, true, .lst 1 (v8 ks)), (30, true, vI ks.length), (31, true, vI q.1)],
   [(10000, .var [vB e, .lst 4 (zz C), .lst 1 (v8 N), .ref 4 1 10002 0 B.length, vI en, .map 10003]), (10002, .row 4 1 (wJ B)), (10003, .mapr c (mK M)), (13, .mapl 3 q.2.1 (nL q.2.2.1) none), (14, .mapl 3 q.2.2.2.1 (nL q.2.2.2.2) none), (19, .iter 10003 true c (V.map (·.1) ++ [bx]))]⟩)
   (fun q => NoteI C B V (some (x, q.1)) (T0 + q.1) q.2.2.1 q.2.2.2.2 ∧ q.1 ≤ ks.length) (fun q => ks.length - q.1) (0, c1, L1, c2, L2)
   (by simp only [go_sem, Nat.reduceBEq] <;> exact rfl) ⟨hN0, Nat.zero_le _⟩ ?_
  clear hN0 hN c1 L1 c2 L2
  intro ⟨j, c1, L1, c2, L2⟩ ⟨hN, hj⟩
  simp only at hN hj ⊢
  have hwj := zg (n := (j : Int) + 1) (by omega)
  have zj : ((j : Int)).toNat = j := by omega
  by_cases hjl : j < ks.length
  ·have e2 : ((j : Int) < (ks.length : Int)) = True := eq_true (by omega)
   obtain ⟨m, hm⟩ : ∃ m : Nat, ks[j] = m := ⟨ks[j].toNat, by have := (hxw _ (List.getElem_mem hjl)).1; omega⟩
   have hkj : ks[j]? = some (m : Int) := by rw [List.getElem?_eq_getElem hjl, hm]
   have gj := xm hjl
   rw [hm] at gj
   have hb := zaz e C N B en c M x hxC j (hS.calls x hSx)
   rw [show (!wG C B x j) = xp C B x j from rfl] at hb
   unfold rtO rtV at hb
   cases hg : xp C B x j with
   | false =>
    rw [hg] at hb
    have hn := hN.skip hg
    (repeat' (first | exact trivial | (with_reducible first | apply awA | apply awB | apply awC | apply awF | apply awI) | ((with_reducible first | apply awn | apply awo | refine awQ ?_); intro r hr; simp only [go_sem, Nat.reduceBEq, Nat.reduceLT, Nat.reduceLeDiff, e2, zj, hwj, gj, zq, zT] at hr; subst hr; (first | refine awV ?_ ?_ | refine awW ?_ ?_ | (refine zf (fun h => ?_) (fun h => ?_) <;> (try simp only [go_sem, reduceCtorEq] at h) <;> (try (exfalso; omega))))) | (refine zp [(10000, 10000), (10002, 10002), (10003, 10003)] [(10000, 10000), (10002, 10002), (10003, 10003)] [] [10000, 10002, 10003] ?_; intro r hr; simp only [go_sem, Nat.reduceBEq, Nat.reduceLT, zT] at hr; subst hr; refine yo (hb) rfl rfl (by first | exact .inl rfl | exact .inr rfl) ?_ (.inl rfl) ?_))) <;> (try omega)
    refine ⟨(j + 1, c1, L1, c2, L2), ?_, ⟨hn, hjl⟩, by show ks.length - (j + 1) < ks.length - j; omega⟩
    simp only [go_sem, Nat.reduceBEq]
    try exact rfl
   | true =>
    rw [hg] at hb
    have hn := hN.add (c1 := c1) (c2 := c2) hxV (by rw [hks]; exact hkj) hg
    have hb1 := hN.l1 x
    have hb2 := hN.l2 m
    have hq1 := wT (atL L1 x) m
    have hq2 := wT (atL L2 m) x
    have ht1 : (v8 (yC (atL L1 x))).take (yC (atL L1 x)).length = v8 (yC (atL L1 x)) := by rw [yT, List.take_of_length_le (by omega)]
    have ht2 : (v8 (yC (atL L2 m))).take (yC (atL L2 m)).length = v8 (yC (atL L2 m)) := by rw [yT, List.take_of_length_le (by omega)]
    have hr1 : (yC (atL L1 x)).length + 1 = (yC (atL L1 x ++ [m])).length := by simp [yC]
    have hr2 : (yC (atL L2 m)).length + 1 = (yC (atL L2 m ++ [x])).length := by simp [yC]
    have hp1 : 0 < (yC (atL L1 x ++ [m])).length := by omega
    have hp2 : 0 < (yC (atL L2 m ++ [x])).length := by omega
    rw [zY] at ht1 ht2
    (repeat' (first | exact trivial | (with_reducible first | apply awA | apply awB | apply awC | apply awF | apply awI) | ((with_reducible first | apply awn | apply awo | refine awQ ?_); intro r hr; simp only [go_sem, Nat.reduceBEq, Nat.reduceLT, Nat.reduceLeDiff, Nat.reduceAdd, Nat.reduceMul, Nat.reduceEqDiff, e2, zj, hwj, gj, zq, zY, hq1, hq2, ht1, ht2, yk, zT] at hr; subst hr; (first | refine awV ?_ ?_ | refine awW ?_ ?_ | (refine zf (fun h => ?_) (fun h => ?_) <;> (try simp only [go_sem, reduceCtorEq] at h) <;> (try (exfalso; omega))))) | (refine zp [(10000, 10000), (10002, 10002), (10003, 10003)] [(10000, 10000), (10002, 10002), (10003, 10003)] [] [10000, 10002, 10003] ?_; intro r hr; simp only [go_sem, Nat.reduceBEq, Nat.reduceLT, zT] at hr; subst hr; refine yo (hb) rfl rfl (by first | exact .inl rfl | exact .inr rfl) ?_ (.inl rfl) ?_) | (refine WK (za _) (d := 13) (te := 3) (u := 44) (es := nL L1) (key := (x : Int)) (l := yC (atL L1 x)) rfl rfl rfl ⟨by decide, by decide⟩ rfl rfl rfl rfl zbV rfl t3 rfl uY rfl (by decide) (by decide) (by simp only [go_sem, Nat.reduceLT]) (by simp only [go_sem, Nat.reduceLT, VW]) (zaA _ _) rfl ?_) | (refine WK (za _) (d := 14) (te := 3) (u := 52) (es := nL L2) (key := (m : Int)) (l := yC (atL L2 m)) rfl rfl rfl ⟨by decide, by decide⟩ rfl rfl rfl rfl zbV rfl t3 rfl uY rfl (by decide) (by decide) (by simp only [go_sem, Nat.reduceLT]) (by simp only [go_sem, Nat.reduceLT, VW]) (zaA _ _) rfl ?_) | (refine WL (za _) (d := 13) (te := 3) (u := 44) (es := nL L1) (key := (x : Int)) (l := yC (atL L1 x ++ [m])) rfl rfl rfl rfl rfl rfl rfl rfl (by simp only [zY, List.length_append, List.length_singleton]; exact rfl) zbV rfl t3 rfl rfl rfl hp1 (by decide) (by decide) (by decide) (by simp only [go_sem, Nat.reduceLT]) (by simp only [go_sem, Nat.reduceLT, VW]) rfl (Kk _ _ _) (Kj _ _ _ _) ?_) | (refine WL (za _) (d := 14) (te := 3) (u := 52) (es := nL L2) (key := (m : Int)) (l := yC (atL L2 m ++ [x])) rfl rfl rfl rfl rfl rfl rfl rfl (by simp only [zY, List.length_append, List.length_singleton]; exact rfl) zbV rfl t3 rfl rfl rfl hp2 (by decide) (by decide) (by decide) (by simp only [go_sem, Nat.reduceLT]) (by simp only [go_sem, Nat.reduceLT, VW]) rfl (Kk _ _ _) (Kj _ _ _ _) ?_))) <;> (try omega)
    ·refine ⟨Nat.le_refl _, ?_⟩
     rw [List.length_append, List.length_singleton]
     omega
    ·refine ⟨Nat.le_refl _, ?_⟩
     rw [List.length_append, List.length_singleton]
     omega
    ·refine ⟨(j + 1, vY c1 (x : Int) L1, wj c1 (x : Int) (atL L1 x ++ [m]) L1, vY c2 (m : Int) L2, wj c2 (m : Int) (atL L2 m ++ [x]) L2), ?_, ⟨hn, hjl⟩, by show ks.length - (j + 1) < ks.length - j; omega⟩
     simp only [go_sem, Nat.reduceBEq]
     try exact rfl
  ·have e2 : ((j : Int) < (ks.length : Int)) = False := eq_false (by omega)
   have hn := hN.leave (e := (bx, (x : Int), ux)) (by rw [hks]; omega) rfl
   (repeat' (first | exact trivial | (with_reducible first | apply awA | apply awE | apply awF | apply awH | apply awI | apply awK) | ((with_reducible first | apply awn | refine awQ ?_); intro r hr; simp only [go_sem, Nat.reduceBEq, Nat.reduceLT, e2] at hr; subst hr; (first | refine awV ?_ ?_ | (refine zf (fun h => ?_) (fun h => ?_) <;> (try simp only [go_sem, reduceCtorEq] at h) <;> (try (exfalso; omega))))))) <;> (try omega)
   refine ⟨(V ++ [(bx, (x : Int), ux)], c1, L1, c2, L2), ?_, ⟨hV2, hVn2, ?_⟩, by show M.length - (V ++ [(bx, (x : Int), ux)]).length < M.length - V.length; omega⟩
   ·simp only [hVm, go_sem, Nat.reduceBEq]
    try exact rfl
   ·show NoteI C B (V ++ [(bx, (x : Int), ux)]) none ((V ++ [(bx, (x : Int), ux)]).length * 10000000) L1 L2
    rw [hVs]
    exact ⟨hn.cnt, hn.old, hn.new, hn.now, fun a => by have := hn.l1 a; rw [hT0] at this; omega, fun a => by have := hn.l2 a; rw [hT0] at this; omega⟩
end
section
open Go.RowKit
noncomputable def prB (p : Prop) : Bool := @decide p (Classical.propDecidable p)
theorem zdr {p : Prop} (h : p) : prB p = true := by unfold prB; exact @decide_eq_true p (Classical.propDecidable p) h
theorem zds {p : Prop} (h : ¬ p) : prB p = false := by unfold prB; exact @decide_eq_false p (Classical.propDecidable p) h
def qI (R : Nat → Nat → Prop) (en k : Nat) : Prop := k = en ∨ Rch R en k
noncomputable def XQ (C : List InsM) (B : List Bool) (en : Nat) : Bool := prB (∀ k, qI (xF C (qP C B)) en k → (zb C k).op ≠ 20)
theorem YS (Q : List Nat) : (qL Q).map (·.1) = List.range Q.length := by
 apply List.ext_getElem?
 intro i
 simp [qL]
 rcases Nat.lt_or_ge i Q.length with h | h
 ·simp [h]
 ·simp [Nat.not_lt.2 h]
theorem Kl (Q : List Nat) : yM (qL Q) = Q := by
 have : yM (qL Q) = (yC Q).map Int.toNat := by rw [← jd]; simp [yM]
 rw [this, yC, List.map_map]
 conv => rhs; rw [← List.map_id Q]
 exact List.map_congr_left fun k _ => by simp
theorem WX {Q : List Nat} {n : Nat} (hn : Q.Nodup) (hlt : ∀ k ∈ Q, k < n) (hb : n ≤ 1048576) : MapOK Q.length (qL Q) := by
 refine ⟨?_, fun e he => ?_, ?_, fun e he => ?_, ?_⟩
 ·rw [YS]; exact List.nodup_range
 ·have : e.1 ∈ (qL Q).map (·.1) := List.mem_map.2 ⟨e, he, rfl⟩
  rw [YS, List.mem_range] at this
  exact this
 ·rw [jd, yC, List.Nodup, List.pairwise_map]
  exact List.Pairwise.imp (fun h => by omega) hn
 ·have : e.2.1 ∈ (qL Q).map (·.2.1) := List.mem_map.2 ⟨e, he, rfl⟩
  rw [jd] at this
  obtain ⟨k, _, hk⟩ := List.mem_map.1 this
  omega
 ·have := xX hn hlt
  simp [qL]; omega
theorem YT {c : Nat} {k : Int} : ∀ {L : List (Nat × Int × Unit)}, mf k L = some () → wj c k () L = L
 | [], h => by cases h
 | (b, k', a) :: L, h => by
  unfold mf at h
  unfold wj
  by_cases hk : k' = k
  ·rw [if_pos hk]; subst hk; rfl
  ·rw [if_neg hk] at h ⊢; rw [YT h]
def qo (Q : List Nat) (en : Nat) : List Nat := if en ∈ Q then Q else Q ++ [en]
theorem YU (Q : List Nat) (en : Nat) : wj Q.length (en : Int) () (qL Q) = qL (qo Q en) := by
 unfold qo
 by_cases h : en ∈ Q
 ·rw [if_pos h]; exact YT (xx h)
 ·rw [if_neg h]; exact Ka h
theorem YV (Q : List Nat) (en : Nat) : vY Q.length (en : Int) (qL Q) = (qo Q en).length := by
 unfold qo
 by_cases h : en ∈ Q
 ·rw [if_pos h]; simp [vY, xx h]
 ·rw [if_neg h]; exact Kb h
theorem Km (Q : List Nat) (en k : Nat) : k ∈ qo Q en ↔ k ∈ Q ∨ k = en := by
 unfold qo
 by_cases h : en ∈ Q
 ·rw [if_pos h]; exact ⟨.inl, fun g => g.elim id fun e => by rw [e]; exact h⟩
 ·rw [if_neg h]; simp
theorem WY {Q : List Nat} (h : Q.Nodup) (en : Nat) : (qo Q en).Nodup := by
 unfold qo
 by_cases hm : en ∈ Q
 ·rw [if_pos hm]; exact h
 ·rw [if_neg hm, List.nodup_append]
  exact ⟨h, by simp, fun a ha b hb hab => by simp at hb; subst hb; subst hab; exact hm ha⟩
theorem WZ {C : List InsM} {g : Nat → Int → Bool} {en : Nat} {Q : List Nat} (h : ReachI C g [en] Q) (k : Nat) : k ∈ qo Q en ↔ qI (xF C g) en k := by
 rw [Km, h.iff, qI]
 constructor
 ·rintro (⟨a, ha, hr⟩ | h)
  ·simp at ha; subst ha; exact .inr hr
  ·exact .inl h
 ·rintro (h | h)
  ·exact .inr h
  ·exact .inl ⟨en, by simp, h⟩
theorem W0 {C : List InsM} {B : List Bool} {S : Nat → Prop} (hS : ClosedS C B S) {g : Nat → Int → Bool} {en k : Nat} (he : S en) (h : qI (xF C g) en k) : S k := by
 rcases h with rfl | h
 ·exact he
 ·induction h with
  | one h1 =>
   obtain ⟨w, h2, _⟩ := h1
   have := (hS.ways _ he _ (List.mem_of_getElem? h2)).2
   rwa [Int.toNat_natCast] at this
  | more _ h1 ih =>
   obtain ⟨w, h2, _⟩ := h1
   have := (hS.ways _ ih _ (List.mem_of_getElem? h2)).2
   rwa [Int.toNat_natCast] at this
theorem zdt (e : Bool) (C : List InsM) (N : List Int) (B : List Bool) (en : Nat) (c : Nat) (M : List (Nat × Int × Unit)) (hok : CodeOK C N) (S : Nat → Prop) (hS : ClosedS C B S) (hen : S en) :
  yq Try.prog 49 [.ptr 1 10000 0 0] (rtO e C N B en c M) (vB (XQ C B en)) (rtO e C N B en c M) := by
 have hC := hok.len
 have hr := zc1 e C N B en c M hok S hS [en] (by simp) (by simpa using hen) (by simp)
 unfold rtO rtV at *
 refine zW (za _) Try.func49 rfl rfl (by rw [Try.results49]) Try.ntmps49 rfl fun E => ?_
 (repeat' (first | exact trivial | (with_reducible first | apply awA | apply awF) | (refine zn (id := 1) (t := (.node [0, 1, 2, 3, 4, 6, 5, 7, 8] [])) (drR [] [5, 6, 9] [12]) zD (by kernel_rfl) (by kernel_rfl) (fun _ _ h => h) ?_) | (refine zx (by simp only [go_sem]; exact rfl) ?_) | (refine zA (by simp only [go_sem]; exact rfl) ?_) | refine ze ?_ | refine zl ?_ ?_ | exact zy | ((with_reducible first | refine awN (za _) [10] ?_ | refine awP (za _) [10] ?_); intro r hr; simp only [go_sem, Nat.reduceBEq, Nat.reduceLT, Nat.reduceLeDiff, Nat.reduceAdd, Nat.reduceMul, reduceCtorEq, yk] at hr; subst hr; (first | refine awV ?_ ?_ | refine awW ?_ ?_)) | (refine zp [(1, 10005), (10000, 10000), (10002, 10002), (10003, 10003), (10, 10004)] [(14, 12), (10005, 1), (10000, 10000), (10002, 10002), (10003, 10003), (10004, 10)] [12] [1, 10000, 10002, 10003, 10] ?_; intro r hr; simp only [go_sem, Nat.reduceBEq, Nat.reduceLT, zT] at hr; subst hr; refine y4 (hr) rfl rfl (by first | exact .inl rfl | exact .inr rfl) ?_ (.inl rfl) (fun q hq => wl ?_)))) <;> (try omega)
 refine ⟨?_⟩
 have hset := YU q en
 have hclk := YV q en
 have hmem := WZ hq
 have hM := WX (WY hq.nd en) (fun k hk => hS.lt k (W0 hS hen ((hmem k).1 hk))) hC
 have hkN := Kl (qo q en)
 generalize hQ1 : qo q en = Q1 at *
 (repeat' (first | exact trivial | (with_reducible first | apply awA | apply awB | apply awF) | ((with_reducible first | apply awn | apply awo | apply awp); intro r hr; simp only [go_sem, Nat.reduceBEq, Nat.reduceLT, Nat.reduceLeDiff, Nat.reduceAdd, Nat.reduceMul, reduceCtorEq, yk, zT] at hr; subst hr; (first | refine awV ?_ ?_ | refine awW ?_ ?_)) | (refine qi (za _) (d := 12) (L := qL q) (f := fun _ => AV.dead) (key := (en : Int)) () rfl rfl rfl rfl rfl rfl rfl rfl (.inr rfl) t83 rfl t3 rfl rfl hclk hset ?_) | (refine vv (za _) (u := 19) rfl rfl rfl ⟨by decide, by decide⟩ rfl rfl t83 rfl rfl (by decide) ?_))) <;> (try omega)
 refine zC [1, 19] [1, 10000, 10002, 10003, 12, 19] (fun V : List (Nat × Int × Unit) => ⟨[(1, true, .ptr 1 1 0 0), (19, true, .ptr 1 19 0 0)],
  [(1, .var [.ptr 1 10000 0 0]), (10000, .var [vB e, .lst 4 (zz C), .lst 1 (v8 N), .ref 4 1 10002 0 B.length, vI en, .map 10003]), (10002, .row 4 1 (wJ B)), (10003, .mapr c (mK M)), (12, .mapr Q1.length (mK (qL Q1))), (19, .iter 12 true Q1.length (V.map (·.1)))]⟩)
  (fun V => (∀ e ∈ V, e ∈ qL Q1) ∧ (V.map (·.1)).Nodup ∧ ∀ k ∈ yM V, (zb C k).op ≠ 20) (fun V => Q1.length - V.length) []
  (by simp only [go_sem, Nat.reduceBEq] <;> exact rfl) ⟨fun e he => (by cases he), List.nodup_nil, fun k hk => by simp [yM] at hk⟩ ?_
 intro V ⟨hV, hVn, hVo⟩
 (repeat' (first | exact trivial | (with_reducible apply awA) | ((with_reducible apply awn); intro r hr; simp only [go_sem, Nat.reduceBEq] at hr; subst hr; (first | refine awW ?_ ?_)) | (refine uR (d := 12) (u := 19) (L := qL Q1) (f := fun _ => AV.dead) rfl rfl ⟨by decide, by decide⟩ rfl rfl rfl rfl hM.lt rfl (fun h0 => wl ?_) (fun x hx hxn => wl ?_)))) <;> (try omega)
 ·refine ⟨?_⟩
  have hp : XQ C B en = true := zdr fun k hk => by
   have h1 := (hmem k).2 hk
   rw [← hkN] at h1
   obtain ⟨e, he, rfl⟩ := List.mem_map.1 h1
   obtain ⟨e', he', h2⟩ := List.mem_map.1 (h0 e he)
   have : e' = e := yD hM.nd (hV e' he') he h2
   subst this
   exact hVo _ (List.mem_map.2 ⟨e', he', rfl⟩)
  rw [hp]
  (repeat' (first | exact trivial | (with_reducible first | apply awA | apply awD | apply awE | apply awF | apply awH | apply awK) | ((with_reducible first | apply awn | apply awo | refine awQ ?_ | refine awT ?_); intro r hr; simp only [go_sem, Nat.reduceBEq, Nat.reduceLT] at hr; subst hr; (first | refine awV ?_ ?_ | refine yl ?_ ?_ ?_ | (refine zf (fun h => ?_) (fun h => ?_) <;> (try simp only [go_sem, reduceCtorEq] at h) <;> (try (exfalso; omega))))))) <;> (try omega)
  all_goals first | exact AV.up_rfl _ | (repeat first | exact zo | refine zh rfl ?_)
 ·refine ⟨?_⟩
  obtain ⟨bx, kx, ux⟩ := x
  have hpos := hM.pos _ hx
  obtain ⟨k, rfl⟩ : ∃ k : Nat, kx = k := ⟨kx.toNat, by simp only at hpos; omega⟩
  have hkQ : k ∈ Q1 := by rw [← hkN]; exact List.mem_map.2 ⟨_, hx, by simp⟩
  have hkC := hS.lt k (W0 hS hen ((hmem k).1 hkQ))
  have zk : ((k : Int)).toNat = k := by omega
  have gk := yy hkC
  by_cases h20 : (zb C k).op = 20
  ·have hp : XQ C B en = false := zds fun h => h k ((hmem k).1 hkQ) h20
   rw [hp]
   have e20 : ((zb C k).op = 20) = True := eq_true h20
   (repeat' (first | exact trivial | (with_reducible first | apply awA | apply awB | apply awC | apply awD | apply awF | apply awG | apply awJ) | ((with_reducible first | apply awn | apply awo | refine awQ ?_ | refine awT ?_); intro r hr; simp only [go_sem, Nat.reduceBEq, Nat.reduceLT, Nat.reduceLeDiff, Nat.reduceAdd, Nat.reduceMul, zk, gk, zd, e20] at hr; subst hr; (first | refine awV ?_ ?_ | refine awW ?_ ?_ | refine yl ?_ ?_ ?_ | (refine zf (fun h => ?_) (fun h => ?_) <;> (try simp only [go_sem, reduceCtorEq] at h) <;> (try (exfalso; omega))))) | (refine xn (d := 12) (u := 19) (L := qL Q1) (f := fun _ => AV.dead) (e := (bx, (k : Int), ux)) rfl rfl ⟨by decide, by decide⟩ rfl rfl rfl rfl hx hM.nd ?_))) <;> (try omega)
   all_goals first | exact AV.up_rfl _ | (repeat first | exact zo | refine zh rfl ?_)
  ·have e20 : ((zb C k).op = 20) = False := eq_false h20
   have hV2 : ∀ e ∈ V ++ [(bx, (k : Int), ux)], e ∈ qL Q1 := fun e he => by
    rcases List.mem_append.1 he with h | h
    ·exact hV e h
    ·simp at h; subst h; exact hx
   have hVn2 : ((V ++ [(bx, (k : Int), ux)]).map (·.1)).Nodup := by
    rw [List.map_append, List.nodup_append]
    exact ⟨hVn, by simp, fun a ha b hb hab => by simp at hb; subst hb; subst hab; exact hxn ha⟩
   have hVl2 : (V ++ [(bx, (k : Int), ux)]).length ≤ Q1.length := by
    have : (qL Q1).length = Q1.length := by simp [qL]
    rw [← this]
    refine yv ?_ hV2
    rw [List.Nodup, List.pairwise_map] at hVn2
    exact hVn2.imp fun h e => h (by rw [e])
   have hVs : (V ++ [(bx, (k : Int), ux)]).length = V.length + 1 := by simp
   have hVm : (V.map (·.1)) ++ [bx] = (V ++ [(bx, (k : Int), ux)]).map (·.1) := by simp
   (repeat' (first | exact trivial | (with_reducible first | apply awA | apply awB | apply awC | apply awF | apply awI) | ((with_reducible first | apply awn | apply awo | refine awQ ?_); intro r hr; simp only [go_sem, Nat.reduceBEq, Nat.reduceLT, Nat.reduceLeDiff, Nat.reduceAdd, Nat.reduceMul, zk, gk, zd, e20] at hr; subst hr; (first | refine awV ?_ ?_ | refine awW ?_ ?_ | (refine zf (fun h => ?_) (fun h => ?_) <;> (try simp only [go_sem, reduceCtorEq] at h) <;> (try (exfalso; omega))))) | (refine xn (d := 12) (u := 19) (L := qL Q1) (f := fun _ => AV.dead) (e := (bx, (k : Int), ux)) rfl rfl ⟨by decide, by decide⟩ rfl rfl rfl rfl hx hM.nd ?_))) <;> (try omega)
   refine ⟨V ++ [(bx, (k : Int), ux)], ?_, ⟨hV2, hVn2, fun y hy => ?_⟩, by show Q1.length - (V ++ [(bx, (k : Int), ux)]).length < Q1.length - V.length; omega⟩
   ·simp only [hVm, go_sem, Nat.reduceBEq]
    try exact rfl
   ·have : y ∈ yM V ∨ y = k := by simpa [yM] using hy
    rcases this with h | rfl
    ·exact hVo y h
    ·exact h20
end
section
open Go.RowKit
def W5 (Q1 Q2 : List Nat) (en k : Nat) : Bool := !decide (k ∈ Q1) && !decide (k ∈ Q2) && !decide ((k : Int) = (en : Int))
def unO (e : Bool) (C : List InsM) (N : List Int) (B : List Bool) (en : Nat) (c : Nat) (M : List (Nat × Int × Unit)) (Q1 Q2 : List Nat) : List (Nat × AObj) := [(10006, .var [.map 10008]), (10007, .var [.map 10009]), (10005, .var [.ptr 1 10000 0 0]), (10000, .var [vB e, .lst 4 (zz C), .lst 1 (v8 N), .ref 4 1 10002 0 B.length, vI en, .map 10003]), (10002, .row 4 1 (wJ B)), (10003, .mapr c (mK M)), (10008, .mapr Q1.length (mK (qL Q1))), (10009, .mapr Q2.length (mK (qL Q2)))]
theorem zc5 (e : Bool) (C : List InsM) (N : List Int) (B : List Bool) (en : Nat) (c : Nat) (M : List (Nat × Int × Unit)) (Q1 Q2 : List Nat) (k : Nat) : yq Try.prog 64 [vI k, .ptr 1 10006 0 0, .ptr 1 10007 0 0, .ptr 1 10005 0 0] (unO e C N B en c M Q1 Q2) (vB (W5 Q1 Q2 en k)) (unO e C N B en c M Q1 Q2) := by
 unfold unO W5
 by_cases h1 : k ∈ Q1
 ·have f1 := xx h1
  rw [decide_eq_true h1]
  simp only [Bool.not_true, Bool.false_and]
  by_cases h2 : k ∈ Q2
  ·have f2 := xx h2
   refine zW (za _) Try.func64 rfl rfl (by rw [Try.results64]) Try.ntmps64 rfl fun E => ?_
   (repeat' (first | exact trivial | (with_reducible first | apply awA | apply awD | apply awF) | ((with_reducible first | apply awn | apply awo | refine awT ?_); intro r hr; simp only [go_sem, Nat.reduceBEq, Nat.reduceLT, Nat.reduceLeDiff, Nat.reduceAdd, Nat.reduceMul, reduceCtorEq] at hr; subst hr; (first | refine awV ?_ ?_ | refine awW ?_ ?_ | refine yl ?_ ?_ ?_)) | (refine z7 (za _) (d := 10008) (L := qL Q1) (f := fun _ => AV.dead) (key := (k : Int)) (z := .int .i64 0) rfl rfl ⟨by decide, by decide⟩ rfl rfl rfl rfl t83 rfl t3 rfl z8 rfl rfl (by rw [f1]) ?_) | (refine z7 (za _) (d := 10009) (L := qL Q2) (f := fun _ => AV.dead) (key := (k : Int)) (z := .int .i64 0) rfl rfl ⟨by decide, by decide⟩ rfl rfl rfl rfl t83 rfl t3 rfl z8 rfl rfl (by rw [f2]) ?_))) <;> (try omega)
   all_goals first | exact AV.up_rfl _ | (repeat first | exact zo | refine zh rfl ?_)
  ·have f2 := xw h2
   refine zW (za _) Try.func64 rfl rfl (by rw [Try.results64]) Try.ntmps64 rfl fun E => ?_
   (repeat' (first | exact trivial | (with_reducible first | apply awA | apply awD | apply awF) | ((with_reducible first | apply awn | apply awo | refine awT ?_); intro r hr; simp only [go_sem, Nat.reduceBEq, Nat.reduceLT, Nat.reduceLeDiff, Nat.reduceAdd, Nat.reduceMul, reduceCtorEq] at hr; subst hr; (first | refine awV ?_ ?_ | refine awW ?_ ?_ | refine yl ?_ ?_ ?_)) | (refine z7 (za _) (d := 10008) (L := qL Q1) (f := fun _ => AV.dead) (key := (k : Int)) (z := .int .i64 0) rfl rfl ⟨by decide, by decide⟩ rfl rfl rfl rfl t83 rfl t3 rfl z8 rfl rfl (by rw [f1]) ?_) | (refine z7 (za _) (d := 10009) (L := qL Q2) (f := fun _ => AV.dead) (key := (k : Int)) (z := .int .i64 0) rfl rfl ⟨by decide, by decide⟩ rfl rfl rfl rfl t83 rfl t3 rfl z8 rfl rfl (by rw [f2]) ?_))) <;> (try omega)
   all_goals first | exact AV.up_rfl _ | (repeat first | exact zo | refine zh rfl ?_)
 ·have f1 := xw h1
  rw [decide_eq_false h1]
  by_cases h2 : k ∈ Q2
  ·have f2 := xx h2
   rw [decide_eq_true h2]
   simp only [Bool.not_false, Bool.not_true, Bool.true_and, Bool.false_and]
   refine zW (za _) Try.func64 rfl rfl (by rw [Try.results64]) Try.ntmps64 rfl fun E => ?_
   (repeat' (first | exact trivial | (with_reducible first | apply awA | apply awD | apply awF) | ((with_reducible first | apply awn | apply awo | refine awT ?_); intro r hr; simp only [go_sem, Nat.reduceBEq, Nat.reduceLT, Nat.reduceLeDiff, Nat.reduceAdd, Nat.reduceMul, reduceCtorEq] at hr; subst hr; (first | refine awV ?_ ?_ | refine awW ?_ ?_ | refine yl ?_ ?_ ?_)) | (refine z7 (za _) (d := 10008) (L := qL Q1) (f := fun _ => AV.dead) (key := (k : Int)) (z := .int .i64 0) rfl rfl ⟨by decide, by decide⟩ rfl rfl rfl rfl t83 rfl t3 rfl z8 rfl rfl (by rw [f1]) ?_) | (refine z7 (za _) (d := 10009) (L := qL Q2) (f := fun _ => AV.dead) (key := (k : Int)) (z := .int .i64 0) rfl rfl ⟨by decide, by decide⟩ rfl rfl rfl rfl t83 rfl t3 rfl z8 rfl rfl (by rw [f2]) ?_))) <;> (try omega)
   all_goals first | exact AV.up_rfl _ | (repeat first | exact zo | refine zh rfl ?_)
  ·have f2 := xw h2
   rw [decide_eq_false h2]
   simp only [Bool.not_false, Bool.true_and]
   by_cases h3 : (k : Int) = (en : Int)
   ·have e3 : ((k : Int) = (en : Int)) = True := eq_true h3
    simp only [e3, decide_true, Bool.not_true]
    refine zW (za _) Try.func64 rfl rfl (by rw [Try.results64]) Try.ntmps64 rfl fun E => ?_
    (repeat' (first | exact trivial | (with_reducible first | apply awA | apply awD | apply awF) | ((with_reducible first | apply awn | apply awo | refine awT ?_); intro r hr; simp only [go_sem, Nat.reduceBEq, Nat.reduceLT, Nat.reduceLeDiff, Nat.reduceAdd, Nat.reduceMul, reduceCtorEq, e3] at hr; subst hr; (first | refine awV ?_ ?_ | refine awW ?_ ?_ | refine yl ?_ ?_ ?_)) | (refine z7 (za _) (d := 10008) (L := qL Q1) (f := fun _ => AV.dead) (key := (k : Int)) (z := .int .i64 0) rfl rfl ⟨by decide, by decide⟩ rfl rfl rfl rfl t83 rfl t3 rfl z8 rfl rfl (by rw [f1]) ?_) | (refine z7 (za _) (d := 10009) (L := qL Q2) (f := fun _ => AV.dead) (key := (k : Int)) (z := .int .i64 0) rfl rfl ⟨by decide, by decide⟩ rfl rfl rfl rfl t83 rfl t3 rfl z8 rfl rfl (by rw [f2]) ?_))) <;> (try omega)
    all_goals first | exact AV.up_rfl _ | (repeat first | exact zo | refine zh rfl ?_)
   ·have e3 : ((k : Int) = (en : Int)) = False := eq_false h3
    simp only [e3, decide_false, Bool.not_false]
    refine zW (za _) Try.func64 rfl rfl (by rw [Try.results64]) Try.ntmps64 rfl fun E => ?_
    (repeat' (first | exact trivial | (with_reducible first | apply awA | apply awD | apply awF) | ((with_reducible first | apply awn | apply awo | refine awT ?_); intro r hr; simp only [go_sem, Nat.reduceBEq, Nat.reduceLT, Nat.reduceLeDiff, Nat.reduceAdd, Nat.reduceMul, reduceCtorEq, e3] at hr; subst hr; (first | refine awV ?_ ?_ | refine awW ?_ ?_ | refine yl ?_ ?_ ?_)) | (refine z7 (za _) (d := 10008) (L := qL Q1) (f := fun _ => AV.dead) (key := (k : Int)) (z := .int .i64 0) rfl rfl ⟨by decide, by decide⟩ rfl rfl rfl rfl t83 rfl t3 rfl z8 rfl rfl (by rw [f1]) ?_) | (refine z7 (za _) (d := 10009) (L := qL Q2) (f := fun _ => AV.dead) (key := (k : Int)) (z := .int .i64 0) rfl rfl ⟨by decide, by decide⟩ rfl rfl rfl rfl t83 rfl t3 rfl z8 rfl rfl (by rw [f2]) ?_))) <;> (try omega)
    all_goals first | exact AV.up_rfl _ | (repeat first | exact zo | refine zh rfl ?_)
def zdC (p : Nat → Bool) (l : List Nat) (r : Int) : Prop := (r = -1 ∧ ∀ k ∈ l, p k = false) ∨ ∃ (i k : Nat), r = i ∧ l[i]? = some k ∧ p k = true ∧ ∀ j ∈ l.take i, p j = false
theorem JX (e : Bool) (C : List InsM) (N : List Int) (B : List Bool) (en : Nat) (c : Nat) (M : List (Nat × Int × Unit)) (Q1 Q2 : List Nat) (l : List Nat) (hl : l.length ≤ 1000000000) :
  yL Try.prog 73 [.ref 3 1 10010 0 l.length, (.fn 64 [.ptr 1 10006 0 0, .ptr 1 10007 0 0, .ptr 1 10005 0 0])] (unO e C N B en c M Q1 Q2 ++ [(10010, .row 3 1 (v8 (yC l)))]) (zdC (W5 Q1 Q2 en) l) (fun r => vI r) (fun _ => unO e C N B en c M Q1 Q2 ++ [(10010, .row 3 1 (v8 (yC l)))]) := by
 have hu := fun k => zc5 e C N B en c M Q1 Q2 k
 unfold unO at *
 refine xT (za _) Try.func73 rfl rfl (by rw [Try.results73]) Try.ntmps73 rfl fun E => ?_
 (repeat' (first | exact trivial | (with_reducible first | apply awA | apply awB | apply awF) | ((with_reducible apply awn); intro r hr; simp only [go_sem, Nat.reduceBEq, Nat.reduceLT] at hr; subst hr; (first | refine awV ?_ ?_)))) <;> (try omega)
 refine zC [0, 1, 6, 7, 8] [10006, 10007, 10005, 10000, 10002, 10003, 10008, 10009, 10010] (fun i : Nat => ⟨[(0, true, .ref 3 1 10010 0 l.length), (1, true, (.fn 64 [.ptr 1 10006 0 0, .ptr 1 10007 0 0, .ptr 1 10005 0 0])), (6, true, .ref 3 1 10010 0 l.length), (7, true, vI l.length), (8, true, vI i)],
  [(10006, .var [.map 10008]), (10007, .var [.map 10009]), (10005, .var [.ptr 1 10000 0 0]), (10000, .var [vB e, .lst 4 (zz C), .lst 1 (v8 N), .ref 4 1 10002 0 B.length, vI en, .map 10003]), (10002, .row 4 1 (wJ B)), (10003, .mapr c (mK M)), (10008, .mapr Q1.length (mK (qL Q1))), (10009, .mapr Q2.length (mK (qL Q2))), (10010, .row 3 1 (v8 (yC l)))]⟩) (fun i => i ≤ l.length ∧ ∀ j ∈ l.take i, W5 Q1 Q2 en j = false) (fun i => l.length - i) 0 (by simp only [go_sem, Nat.reduceBEq] <;> exact rfl) ⟨Nat.zero_le _, fun j hj => by simp at hj⟩ ?_
 intro i ⟨hi, hall⟩
 have hwi := zg (n := (i : Int) + 1) (by omega)
 have zi : ((i : Int)).toNat = i := by omega
 by_cases hlt : i < l.length
 ·have e1 : ((i : Int) < (l.length : Int)) = True := eq_true (by omega)
  obtain ⟨k, hk⟩ : ∃ k, l[i]? = some k := ⟨_, List.getElem?_eq_getElem hlt⟩
  have gi := xE hk
  have hb := hu k
  cases hc : W5 Q1 Q2 en k with
  | true =>
   rw [hc] at hb
   (repeat' (first | exact trivial | (with_reducible first | apply awA | apply awB | apply awC | apply awD | apply awF | apply awG | apply awJ) | ((with_reducible first | apply awn | apply awo | refine awQ ?_ | refine uh ?_); intro r hr; simp only [go_sem, Nat.reduceBEq, Nat.reduceLT, Nat.reduceLeDiff, e1, zi, gi, Nat.zero_add, zT] at hr; subst hr; (first | refine awV ?_ ?_ | refine awW ?_ ?_ | refine xi ?_ ?_ | (refine zf (fun h => ?_) (fun h => ?_) <;> (try simp only [go_sem, reduceCtorEq] at h) <;> (try (exfalso; omega))))) | (refine yf (za _) [(10006, 10006), (10007, 10007), (10005, 10005), (10000, 10000), (10002, 10002), (10003, 10003), (10008, 10008), (10009, 10009)] [(10006, 10006), (10007, 10007), (10005, 10005), (10000, 10000), (10002, 10002), (10003, 10003), (10008, 10008), (10009, 10009)] [] [10006, 10007, 10005, 10000, 10002, 10003, 10008, 10009] (by simp only [go_sem, Nat.reduceBEq, Nat.reduceLT, Nat.reduceSub] <;> exact rfl) ?_ rfl rfl (by first | exact .inl rfl | exact .inr rfl) (by simp only [go_sem, Nat.reduceBEq, zT] <;> exact rfl) (hb) (.inl rfl) ?_))) <;> (try omega)
   all_goals refine ⟨(i : Int), .inr ⟨i, k, rfl, hk, hc, hall⟩, AV.up_rfl _, ?_⟩
   all_goals repeat first | exact zo | refine zh rfl ?_
  | false =>
   rw [hc] at hb
   (repeat' (first | exact trivial | (with_reducible first | apply awA | apply awB | apply awC | apply awF | apply awI) | ((with_reducible first | apply awn | apply awo | refine awQ ?_); intro r hr; simp only [go_sem, Nat.reduceBEq, Nat.reduceLT, Nat.reduceLeDiff, e1, zi, hwi, gi, Nat.zero_add, zT] at hr; subst hr; (first | refine awV ?_ ?_ | refine awW ?_ ?_ | (refine zf (fun h => ?_) (fun h => ?_) <;> (try simp only [go_sem, reduceCtorEq] at h) <;> (try (exfalso; omega))))) | (refine yf (za _) [(10006, 10006), (10007, 10007), (10005, 10005), (10000, 10000), (10002, 10002), (10003, 10003), (10008, 10008), (10009, 10009)] [(10006, 10006), (10007, 10007), (10005, 10005), (10000, 10000), (10002, 10002), (10003, 10003), (10008, 10008), (10009, 10009)] [] [10006, 10007, 10005, 10000, 10002, 10003, 10008, 10009] (by simp only [go_sem, Nat.reduceBEq, Nat.reduceLT, Nat.reduceSub] <;> exact rfl) ?_ rfl rfl (by first | exact .inl rfl | exact .inr rfl) (by simp only [go_sem, Nat.reduceBEq, zT] <;> exact rfl) (hb) (.inl rfl) ?_))) <;> (try omega)
   refine ⟨i + 1, ?_, ⟨hlt, fun j hj => ?_⟩, by omega⟩
   ·simp only [go_sem, Nat.reduceBEq]
    try exact rfl
   ·rw [List.take_succ_eq_append_getElem hlt] at hj
    rw [List.getElem?_eq_getElem hlt] at hk
    injection hk with hk
    rcases List.mem_append.1 hj with hj | hj
    ·exact hall j hj
    ·simp at hj; rw [hj, hk]; exact hc
 ·have e1 : ((i : Int) < (l.length : Int)) = False := eq_false (by omega)
  (repeat' (first | exact trivial | (with_reducible first | apply awA | apply awD | apply awE | apply awF | apply awH | apply awK) | ((with_reducible first | apply awn | refine awQ ?_ | refine uh ?_); intro r hr; simp only [go_sem, Nat.reduceBEq, Nat.reduceLT, e1] at hr; subst hr; (first | refine awV ?_ ?_ | refine xi ?_ ?_ | (refine zf (fun h => ?_) (fun h => ?_) <;> (try simp only [go_sem, reduceCtorEq] at h) <;> (try (exfalso; omega))))))) <;> (try omega)
  all_goals refine ⟨-1, .inl ⟨rfl, fun k hk => hall k (by rw [List.take_of_length_le (by omega)]; exact hk)⟩, AV.up_rfl _, ?_⟩
  all_goals repeat first | exact zo | refine zh rfl ?_
theorem JY (l : List Nat) (i k : Nat) : (v8 (yC l)).set i [vI k] = v8 (yC (l.set i k)) := by simp [v8, yC, List.map_set]
theorem Kn (l : List Nat) (i : Nat) : (v8 (yC l)).take i = v8 (yC (l.take i)) := by simp [v8, yC, List.map_take]
theorem JZ (e : Bool) (C : List InsM) (N : List Int) (B : List Bool) (en : Nat) (c : Nat) (M : List (Nat × Int × Unit)) (Q1 Q2 : List Nat) (l : List Nat) (hl : l.length ≤ 1000000000) :
  yq Try.prog 63 [.ref 3 1 10010 0 l.length, (.fn 64 [.ptr 1 10006 0 0, .ptr 1 10007 0 0, .ptr 1 10005 0 0])] (unO e C N B en c M Q1 Q2 ++ [(10010, .row 3 1 (v8 (yC l)))]) (.ref 3 1 10010 0 (l.filter fun k => !(W5 Q1 Q2 en k)).length) (unO e C N B en c M Q1 Q2 ++ [(10010, .row 3 1 (v8 (yC (l.filter fun k => !(W5 Q1 Q2 en k)))))]) := by
 have hu := fun k => zc5 e C N B en c M Q1 Q2 k
 have hx := JX e C N B en c M Q1 Q2 l hl
 unfold unO at *
 refine zW (za _) Try.func63 rfl rfl (by rw [Try.results63]) Try.ntmps63 rfl fun E => ?_
 (repeat' (first | exact trivial | (with_reducible first | apply awA | apply awF) | ((with_reducible apply awn); intro r hr; simp only [go_sem, Nat.reduceBEq, Nat.reduceLT, zq, zY] at hr; subst hr; (first | refine awV ?_ ?_ | refine awW ?_ ?_)) | (refine zp [(10006, 10006), (10007, 10007), (10005, 10005), (10000, 10000), (10002, 10002), (10003, 10003), (10008, 10008), (10009, 10009), (10010, 10010)] [(10006, 10006), (10007, 10007), (10005, 10005), (10000, 10000), (10002, 10002), (10003, 10003), (10008, 10008), (10009, 10009), (10010, 10010)] [] [10006, 10007, 10005, 10000, 10002, 10003, 10008, 10009, 10010] ?_; intro r hr; simp only [go_sem, Nat.reduceBEq, Nat.reduceLT, zT] at hr; subst hr; refine y4 (hx) rfl rfl (by first | exact .inl rfl | exact .inr rfl) ?_ (.inl rfl) (fun q hq => wl ?_)))) <;> (try omega)
 refine ⟨?_⟩
 rcases hq with ⟨rfl, hall⟩ | ⟨i0, k0, rfl, hk0, hp0, hall⟩
 ·have hf : (l.filter fun k => !(W5 Q1 Q2 en k)) = l := List.filter_eq_self.2 fun k hk => by rw [hall k hk]; rfl
  rw [hf]
  (repeat' (first | exact trivial | (with_reducible first | apply awA | apply awD | apply awF | apply awG) | ((with_reducible first | apply awn | apply awo | refine awQ ?_ | refine awT ?_); intro r hr; simp only [go_sem, Nat.reduceBEq, Nat.reduceLT, zT] at hr; subst hr; (first | refine awV ?_ ?_ | refine yl ?_ ?_ ?_ | (refine zf (fun h => ?_) (fun h => ?_) <;> (try simp only [go_sem, reduceCtorEq] at h) <;> (try (exfalso; omega))))))) <;> (try omega)
  all_goals first | exact AV.up_rfl _ | (repeat first | exact zo | refine zh rfl ?_)
 ·have hi0 := zE hk0
  have en1 : ((i0 : Int) = -1) = False := eq_false (by omega)
  have hw0 := zg (n := (i0 : Int) + 1) (by omega)
  (repeat' (first | exact trivial | (with_reducible first | apply awA | apply awB | apply awC | apply awF) | ((with_reducible first | apply awn | apply awo | refine awQ ?_); intro r hr; simp only [go_sem, Nat.reduceBEq, Nat.reduceLT, zT, en1, hw0] at hr; subst hr; (first | refine awV ?_ ?_ | (refine zf (fun h => ?_) (fun h => ?_) <;> (try simp only [go_sem, reduceCtorEq] at h) <;> (try (exfalso; omega))))))) <;> (try omega)
  refine zC [0, 1, 5, 6] [10006, 10007, 10005, 10000, 10002, 10003, 10008, 10009, 10010] (fun q : Nat × Nat × List Nat => ⟨[(0, true, .ref 3 1 10010 0 l.length), (1, true, (.fn 64 [.ptr 1 10006 0 0, .ptr 1 10007 0 0, .ptr 1 10005 0 0])), (5, true, vI q.1), (6, true, vI q.2.1)],
   [(10006, .var [.map 10008]), (10007, .var [.map 10009]), (10005, .var [.ptr 1 10000 0 0]), (10000, .var [vB e, .lst 4 (zz C), .lst 1 (v8 N), .ref 4 1 10002 0 B.length, vI en, .map 10003]), (10002, .row 4 1 (wJ B)), (10003, .mapr c (mK M)), (10008, .mapr Q1.length (mK (qL Q1))), (10009, .mapr Q2.length (mK (qL Q2))), (10010, .row 3 1 (v8 (yC q.2.2)))]⟩) (fun q => q.1 < q.2.1 ∧ q.2.1 ≤ l.length ∧ q.2.2.length = l.length ∧ q.2.2.take q.1 = (l.take q.2.1).filter (fun k => !(W5 Q1 Q2 en k)) ∧ ∀ j, q.2.1 ≤ j → q.2.2[j]? = l[j]?) (fun q => l.length - q.2.1) (i0, i0 + 1, l)
   (by simp only [Int.natCast_add, Int.cast_ofNat_Int, go_sem, Nat.reduceBEq] <;> exact rfl) ⟨Nat.lt_succ_self _, hi0, rfl, by
    show l.take i0 = (l.take (i0 + 1)).filter _
    rw [List.take_succ_eq_append_getElem hi0, List.filter_append]
    rw [List.getElem?_eq_getElem hi0] at hk0
    injection hk0 with hk0
    rw [hk0, List.filter_cons_of_neg (by simp [hp0]), List.filter_nil, List.append_nil]
    exact (List.filter_eq_self.2 fun k hk => by rw [hall k hk]; rfl).symm, fun _ _ => rfl⟩ ?_
  clear hk0 hp0 hall en1 hw0 hi0 i0 k0
  intro ⟨i, j, L⟩ ⟨hij, hjl, hL, htk, hdr⟩
  simp only at hij hjl hL htk hdr ⊢
  have hwi := zg (n := (i : Int) + 1) (by omega)
  have hwj := zg (n := (j : Int) + 1) (by omega)
  have zi : ((i : Int)).toNat = i := by omega
  have zj : ((j : Int)).toNat = j := by omega
  by_cases hlt : j < l.length
  ·have e1 : ((j : Int) < (l.length : Int)) = True := eq_true (by omega)
   obtain ⟨k, hk⟩ : ∃ k, l[j]? = some k := ⟨_, List.getElem?_eq_getElem hlt⟩
   have hkL : L[j]? = some k := by rw [hdr j (Nat.le_refl _)]; exact hk
   have gj := xE hkL
   have hb := hu k
   have htk2 : l.take (j + 1) = l.take j ++ [k] := by
    rw [List.take_succ_eq_append_getElem hlt]
    rw [List.getElem?_eq_getElem hlt] at hk
    injection hk with hk
    rw [hk]
   cases hc : W5 Q1 Q2 en k with
   | true =>
    rw [hc] at hb
    (repeat' (first | exact trivial | (with_reducible first | apply awA | apply awB | apply awC | apply awF | apply awI) | ((with_reducible first | apply awn | apply awo | refine awQ ?_); intro r hr; simp only [go_sem, Nat.reduceBEq, Nat.reduceLT, Nat.reduceLeDiff, e1, zj, hwj, gj, Nat.zero_add, zT] at hr; subst hr; (first | refine awV ?_ ?_ | refine awW ?_ ?_ | (refine zf (fun h => ?_) (fun h => ?_) <;> (try simp only [go_sem, reduceCtorEq] at h) <;> (try (exfalso; omega))))) | (refine yf (za _) [(10006, 10006), (10007, 10007), (10005, 10005), (10000, 10000), (10002, 10002), (10003, 10003), (10008, 10008), (10009, 10009)] [(10006, 10006), (10007, 10007), (10005, 10005), (10000, 10000), (10002, 10002), (10003, 10003), (10008, 10008), (10009, 10009)] [] [10006, 10007, 10005, 10000, 10002, 10003, 10008, 10009] (by simp only [go_sem, Nat.reduceBEq, Nat.reduceLT, Nat.reduceSub] <;> exact rfl) ?_ rfl rfl (by first | exact .inl rfl | exact .inr rfl) (by simp only [go_sem, Nat.reduceBEq, zT] <;> exact rfl) (hb) (.inl rfl) ?_))) <;> (try omega)
    refine ⟨(i, j + 1, L), ?_, ⟨by show i < j + 1; omega, hlt, hL, by show L.take i = (l.take (j + 1)).filter _; rw [htk2, List.filter_append, List.filter_cons_of_neg (by simp [hc]), List.filter_nil, List.append_nil]; exact htk, fun m hm => hdr m (by simp only at hm; omega)⟩, by show l.length - (j + 1) < l.length - j; omega⟩
    simp only [go_sem, Nat.reduceBEq]
    try exact rfl
   | false =>
    rw [hc] at hb
    have hset := JY L i k
    obtain ⟨k', hk'⟩ : ∃ k', L[i]? = some k' := ⟨_, List.getElem?_eq_getElem (by omega)⟩
    have gi := xE hk'
    (repeat' (first | exact trivial | (with_reducible first | apply awA | apply awB | apply awC | apply awF | apply awI) | ((with_reducible first | apply awn | apply awo | refine awQ ?_); intro r hr; simp only [go_sem, Nat.reduceBEq, Nat.reduceLT, Nat.reduceLeDiff, e1, zj, hwj, zi, hwi, gj, gi, zq, zY, hL, hset, Nat.zero_add, zT] at hr; subst hr; (first | refine awV ?_ ?_ | refine awW ?_ ?_ | (refine zf (fun h => ?_) (fun h => ?_) <;> (try simp only [go_sem, reduceCtorEq] at h) <;> (try (exfalso; omega))))) | (refine yf (za _) [(10006, 10006), (10007, 10007), (10005, 10005), (10000, 10000), (10002, 10002), (10003, 10003), (10008, 10008), (10009, 10009)] [(10006, 10006), (10007, 10007), (10005, 10005), (10000, 10000), (10002, 10002), (10003, 10003), (10008, 10008), (10009, 10009)] [] [10006, 10007, 10005, 10000, 10002, 10003, 10008, 10009] (by simp only [go_sem, Nat.reduceBEq, Nat.reduceLT, Nat.reduceSub] <;> exact rfl) ?_ rfl rfl (by first | exact .inl rfl | exact .inr rfl) (by simp only [go_sem, Nat.reduceBEq, zT] <;> exact rfl) (hb) (.inl rfl) ?_))) <;> (try omega)
    refine ⟨(i + 1, j + 1, L.set i k), ?_, ⟨by show i + 1 < j + 1; omega, hlt, by show (L.set i k).length = l.length; rw [List.length_set]; exact hL, ?_, fun m hm => ?_⟩, by show l.length - (j + 1) < l.length - j; omega⟩
    ·simp only [go_sem, Nat.reduceBEq]
     try exact rfl
    ·show (L.set i k).take (i + 1) = (l.take (j + 1)).filter _
     have hiL : i < (L.set i k).length := by rw [List.length_set]; omega
     rw [htk2, List.filter_append, List.filter_cons_of_pos (by simp [hc]), List.filter_nil, ← htk, List.take_succ_eq_append_getElem hiL, List.getElem_set_self, List.take_set_of_le (Nat.le_refl _)]
    ·simp only at hm
     show (L.set i k)[m]? = l[m]?
     rw [List.getElem?_set_ne (by omega)]
     exact hdr m (by omega)
  ·have e1 : ((j : Int) < (l.length : Int)) = False := eq_false (by omega)
   have hjj : l.take j = l := List.take_of_length_le (by omega)
   rw [hjj] at htk
   have hil : i ≤ L.length := by omega
   have ht : (v8 (yC L)).take i = v8 (yC (L.take i)) := Kn L i
   rw [htk] at ht
   have hfl : (l.filter fun k => !(W5 Q1 Q2 en k)).length = i := by rw [← htk, List.length_take]; omega
   rw [hfl]
   generalize (l.filter fun k => !(W5 Q1 Q2 en k)) = R at *
   (repeat' (first | exact trivial | (with_reducible first | apply awA | apply awD | apply awE | apply awF | apply awH | apply awK) | ((with_reducible first | apply awn | apply awo | refine awQ ?_ | refine awT ?_); intro r hr; simp only [go_sem, Nat.reduceBEq, Nat.reduceLT, e1, zi, ht, Nat.zero_add, Nat.sub_zero, Int.toNat_zero] at hr; subst hr; (first | refine awV ?_ ?_ | refine awW ?_ ?_ | refine yl ?_ ?_ ?_ | (refine zf (fun h => ?_) (fun h => ?_) <;> (try simp only [go_sem, reduceCtorEq] at h) <;> (try (exfalso; omega))))) | (refine JH (za _) (d := 10010) rfl rfl rfl rfl rfl t23 rfl t3 rfl rfl ?_))) <;> (try omega)
   all_goals first | exact AV.up_rfl _ | (repeat first | exact zo | refine zh rfl ?_)
end
section
open Go.RowKit
def uZ (C : List InsM) (B : List Bool) (k : Nat) : Prop := (zb C k).op = 16 ∧ B.getD (zb C k).c.toNat false = false
def XR (C : List InsM) (B : List Bool) (en : Nat) (K : Nat → Prop) (k : Nat) : Prop :=
 K k ∧ uZ C B k ∧ (k = en ∨ Rch (xF C (xp C B)) en k ∨ ∃ a, K a ∧ uZ C B a ∧ Rch (xF C (xp C B)) a k)
structure UnpI (C : List InsM) (B : List Bool) (en : Nat) (M : List (Nat × Int × Unit)) (q : List Nat) : Prop where
 iff : ∀ k, k ∈ q ↔ XR C B en (· ∈ yM M) k
 len : q.length ≤ 1048576
theorem J0 (e : Bool) (C : List InsM) (N : List Int) (B : List Bool) (en : Nat) (c : Nat) (M : List (Nat × Int × Unit)) (hok : CodeOK C N) (S : Nat → Prop) (hS : ClosedS C B S) (hM : MapOK c M) (hMS : ∀ k ∈ yM M, S k) (hen : S en) :
  yL Try.prog 47 [.ptr 1 10000 0 0] (rtO e C N B en c M) (UnpI C B en M) (fun q => .ref 3 1 42 0 q.length) (fun q => rtO e C N B en c M ++ [(42, .row 3 1 (v8 (yC q)))]) := by
 have hC := hok.len
 have hlen := hM.len
 have hr1 := Kd e C N B en c M hok S hS [en] (by simp) (by simpa using hen) (by simp)
 have hr2 := fun (r : List Nat) (h1 : r ≠ []) (h2 : ∀ k ∈ r, S k) (h3 : r.length ≤ 1048576) => Kd e C N B en c M hok S hS r h1 h2 h3
 have hdel := fun Q1 Q2 r hr => JZ e C N B en c M Q1 Q2 r hr
 unfold unO at hdel
 unfold rtO rtV at *
 refine xT (za _) Try.func47 rfl rfl (by rw [Try.results47]) Try.ntmps47 rfl fun E => ?_
 (repeat' (first | exact trivial | (with_reducible first | apply awA | apply awB | apply awF) | ((with_reducible first | apply awn | apply awo); intro r hr; simp only [go_sem, Nat.reduceBEq, Nat.reduceLT, Nat.reduceLeDiff, Nat.reduceAdd, Nat.reduceMul, yk] at hr; subst hr; (first | refine awV ?_ ?_ | refine awW ?_ ?_)) | (refine vv (za _) (u := 12) rfl rfl rfl ⟨by decide, by decide⟩ rfl rfl t83 rfl rfl (by decide) ?_))) <;> (try omega)
 refine x4 3 3 1 42 (.inl (by decide)) (by simp only [go_sem, Nat.reduceBEq]) ?_
 refine zC [1, 3, 12] [1, 10000, 10002, 10003, 12, 42] (fun q : List (Nat × Int × Unit) × List Nat => ⟨[(1, true, .ptr 1 1 0 0), (3, true, .ref 3 1 42 0 q.2.length), (12, true, .ptr 1 12 0 0)],
  [(1, .var [.ptr 1 10000 0 0]), (10000, .var [vB e, .lst 4 (zz C), .lst 1 (v8 N), .ref 4 1 10002 0 B.length, vI en, .map 10003]), (10002, .row 4 1 (wJ B)), (10003, .mapr c (mK M)), (12, .iter 10003 true c (q.1.map (·.1))), (42, .row 3 1 (v8 (yC q.2)))]⟩)
  (fun q => (∀ e ∈ q.1, e ∈ M) ∧ (q.1.map (·.1)).Nodup ∧ (∀ k, k ∈ q.2 ↔ k ∈ yM q.1 ∧ uZ C B k) ∧ q.2.length ≤ q.1.length) (fun q => M.length - q.1.length) ([], [])
  (by simp only [yk, AState.nilrow, go_sem, Nat.reduceBEq, Nat.reduceLT] <;> exact rfl) ⟨fun e he => (by cases he), List.nodup_nil, fun k => by simp [yM], Nat.zero_le _⟩ ?_
 intro ⟨V, r⟩ ⟨hV, hVn, hr, hrl⟩
 simp only at hV hVn hr hrl ⊢
 have hVl : V.length ≤ M.length := by
  refine yv ?_ hV
  rw [List.Nodup, List.pairwise_map] at hVn
  exact hVn.imp fun h e => h (by rw [e])
 (repeat' (first | exact trivial | (with_reducible apply awA) | ((with_reducible apply awn); intro r hr; simp only [go_sem, Nat.reduceBEq] at hr; subst hr; (first | refine awW ?_ ?_)) | (refine uR (d := 10003) (u := 12) (L := M) (f := fun _ => AV.dead) rfl rfl ⟨by decide, by decide⟩ rfl rfl rfl rfl hM.lt rfl (fun h0 => wl ?_) (fun x hx hxn => wl ?_)))) <;> (try omega)
 ·refine ⟨?_⟩
  have hVK : ∀ k, k ∈ yM V ↔ k ∈ yM M := fun k => by
   constructor
   ·intro h
    obtain ⟨e, he, rfl⟩ := List.mem_map.1 h
    exact List.mem_map.2 ⟨e, hV e he, rfl⟩
   ·intro h
    obtain ⟨e, he, rfl⟩ := List.mem_map.1 h
    obtain ⟨e', he', h2⟩ := List.mem_map.1 (h0 e he)
    have : e' = e := yD hM.nd (hV e' he') he h2
    subst this
    exact List.mem_map.2 ⟨e', he', rfl⟩
  have hr' : ∀ k, k ∈ r ↔ k ∈ yM M ∧ uZ C B k := fun k => by rw [hr, hVK]
  clear hr hVK h0 hV hVn
  by_cases hrn : r = []
  ·subst hrn
   have e0 : (((([] : List Nat).length : Nat) : Int) = 0) = True := eq_true rfl
   (repeat' (first | exact trivial | (with_reducible first | apply awA | apply awD | apply awE | apply awF | apply awG | apply awH | apply awK) | ((with_reducible first | apply awn | apply awo | refine awQ ?_ | refine uh ?_); intro r hr; simp only [go_sem, Nat.reduceBEq, Nat.reduceLT] at hr; subst hr; (first | refine awV ?_ ?_ | refine xi ?_ ?_ | (refine zf (fun h => ?_) (fun h => ?_) <;> (try simp only [go_sem, reduceCtorEq] at h) <;> (try (exfalso; omega))))))) <;> (try omega)
   all_goals refine ⟨[], ⟨fun k => ?_, Nat.zero_le _⟩, AV.up_nilref _ _ _ _, ?_⟩
   ·constructor
    ·intro h; cases h
    ·rintro ⟨h1, h2, _⟩
     exact absurd ((hr' k).2 ⟨h1, h2⟩) (by simp)
   ·repeat first | exact zo | refine zh rfl ?_
  ·have h0 : 0 < r.length := List.length_pos_iff.2 hrn
   have e0 : ((r.length : Int) = 0) = False := eq_false (by omega)
   have hr2' := hr2 r hrn (fun k hk => hMS k ((hr' k).1 hk).1) (by omega)
   have hdel' := fun Q1 Q2 => hdel Q1 Q2 r (by omega)
   clear hr2 hdel
   (repeat' (first | exact trivial | (with_reducible first | apply awA | apply awC | apply awE | apply awF | apply awH | apply awK) | (refine zn (id := 10) (t := (.node [0, 1, 2, 3, 4, 6, 7] [(.node [5] [(.node [8, 9, 10] []), (.node [9, 8, 10] [])]), (.node [9, 5, 8, 10] [])])) (drR [1] [50] [54]) zD (by kernel_rfl) (by kernel_rfl) (fun _ _ h => h) ?_) | (refine zx (by simp only [go_sem]; exact rfl) ?_) | (refine zA (by simp only [go_sem]; exact rfl) ?_) | refine ze ?_ | refine zl ?_ ?_ | exact zy | ((with_reducible first | refine awN (za _) [51] ?_ | refine awO (za _) [51] ?_ | refine awP (za _) [51] ?_ | refine awQ ?_); intro r hr; simp only [go_sem, Nat.reduceBEq, Nat.reduceLT, Nat.reduceLeDiff, Nat.reduceAdd, Nat.reduceMul, reduceCtorEq, yk, e0] at hr; subst hr; (first | refine awV ?_ ?_ | refine awW ?_ ?_ | (refine zf (fun h => ?_) (fun h => ?_) <;> (try simp only [go_sem, reduceCtorEq] at h) <;> (try (exfalso; omega))))) | (refine zp [(10000, 10000), (10002, 10002), (10003, 10003), (51, 10004)] [(14, 54), (10000, 10000), (10002, 10002), (10003, 10003), (10004, 51)] [54] [10000, 10002, 10003, 51] ?_; intro r hr; simp only [go_sem, Nat.reduceBEq, Nat.reduceLT, zT] at hr; subst hr; refine y4 (hr1) rfl rfl (by first | exact .inl rfl | exact .inr rfl) ?_ (.inl rfl) (fun q hq => wl ?_)))) <;> (try omega)
   all_goals
    refine ⟨?_⟩
    obtain ⟨Q1, rfl⟩ : ∃ z, z = q := ⟨_, rfl⟩
    have hq1 := hq
    clear hq
    (repeat' (first | exact trivial | (with_reducible first | apply awA | apply awF) | ((with_reducible first | apply awn | apply awp); intro r hr; simp only [go_sem, Nat.reduceBEq, Nat.reduceLT, Nat.reduceLeDiff, Nat.reduceAdd, Nat.reduceMul, yk, zT] at hr; subst hr; (first | refine awV ?_ ?_ | refine awW ?_ ?_)) | (refine zp [(10000, 10000), (10002, 10002), (10003, 10003), (42, 10004)] [(14, 59), (10000, 10000), (10002, 10002), (10003, 10003), (10004, 42)] [59] [10000, 10002, 10003, 42] ?_; intro r hr; simp only [go_sem, Nat.reduceBEq, Nat.reduceLT, zT] at hr; subst hr; refine y4 (hr2') rfl rfl (by first | exact .inl rfl | exact .inr rfl) ?_ (.inl rfl) (fun q hq => wl ?_)))) <;> (try omega)
    refine ⟨?_⟩
    obtain ⟨Q2, rfl⟩ : ∃ z, z = q := ⟨_, rfl⟩
    have hq2 := hq
    clear hq
    have hd := hdel' Q1 Q2
    (repeat' (first | exact trivial | (with_reducible first | apply awA | apply awD | apply awF) | ((with_reducible first | apply awn | apply awo | refine uh ?_); intro r hr; simp only [go_sem, Nat.reduceBEq, Nat.reduceLT, Nat.reduceLeDiff, Nat.reduceAdd, Nat.reduceMul, yk, uX, zT] at hr; subst hr; (first | refine awV ?_ ?_ | refine awW ?_ ?_ | refine xi ?_ ?_)) | (refine zp [(6, 10006), (7, 10007), (1, 10005), (10000, 10000), (10002, 10002), (10003, 10003), (54, 10008), (59, 10009), (42, 10010)] [(10006, 6), (10007, 7), (10005, 1), (10000, 10000), (10002, 10002), (10003, 10003), (10008, 54), (10009, 59), (10010, 42)] [] [6, 7, 1, 10000, 10002, 10003, 54, 59, 42] ?_; intro r hr; simp only [go_sem, Nat.reduceBEq, Nat.reduceLT, zT] at hr; subst hr; refine yo (hd) rfl rfl (by first | exact .inl rfl | exact .inr rfl) ?_ (.inl rfl) ?_))) <;> (try omega)
    all_goals refine ⟨r.filter fun k => !(W5 Q1 Q2 en k), ⟨fun k => ?_, Nat.le_trans (List.length_filter_le _ _) (by omega)⟩, AV.up_rfl _, ?_⟩
    ·rw [List.mem_filter, hr']
     unfold XR W5
     have h1 : k ∈ Q1 ↔ Rch (xF C (xp C B)) en k := by
      rw [hq1.iff]
      exact ⟨fun ⟨a, ha, h⟩ => by simp at ha; subst ha; exact h, fun h => ⟨en, by simp, h⟩⟩
     have h2 : k ∈ Q2 ↔ ∃ a, a ∈ yM M ∧ uZ C B a ∧ Rch (xF C (xp C B)) a k := by
      rw [hq2.iff]
      exact ⟨fun ⟨a, ha, h⟩ => ⟨a, ((hr' a).1 ha).1, ((hr' a).1 ha).2, h⟩, fun ⟨a, h1, h2, h3⟩ => ⟨a, (hr' a).2 ⟨h1, h2⟩, h3⟩⟩
     rw [← h1, ← h2, and_assoc]
     have h3 : ((k : Int) = (en : Int)) ↔ k = en := by omega
     simp only [h3, Bool.not_and, Bool.not_not, Bool.or_eq_true, decide_eq_true_eq]
     constructor
     ·rintro ⟨g1, g2, (g | g) | g⟩
      ·exact ⟨g1, g2, .inr (.inl g)⟩
      ·exact ⟨g1, g2, .inr (.inr g)⟩
      ·exact ⟨g1, g2, .inl g⟩
     ·rintro ⟨g1, g2, g | g | g⟩
      ·exact ⟨g1, g2, .inr g⟩
      ·exact ⟨g1, g2, .inl (.inl g)⟩
      ·exact ⟨g1, g2, .inl (.inr g)⟩
    ·repeat first | exact zo | refine zh rfl ?_
 ·refine ⟨?_⟩
  obtain ⟨bx, kx, ux⟩ := x
  have hpos := hM.pos _ hx
  obtain ⟨k, rfl⟩ : ∃ k : Nat, kx = k := ⟨kx.toNat, by simp only at hpos; omega⟩
  have hkM : k ∈ yM M := List.mem_map.2 ⟨_, hx, by simp⟩
  have hkV : k ∉ yM V := fun h => by
   obtain ⟨e', he', h2⟩ := List.mem_map.1 h
   have hp' := hM.pos e' (hV e' he')
   have : e' = (bx, (k : Int), ux) := yD hM.kd (hV e' he') hx (by show e'.2.1 = (k : Int); omega)
   subst this
   exact hxn (List.mem_map.2 ⟨_, he', rfl⟩)
  have hV2 : ∀ e ∈ V ++ [(bx, (k : Int), ux)], e ∈ M := fun e he => by
   rcases List.mem_append.1 he with h | h
   ·exact hV e h
   ·simp at h; subst h; exact hx
  have hVn2 : ((V ++ [(bx, (k : Int), ux)]).map (·.1)).Nodup := by
   rw [List.map_append, List.nodup_append]
   exact ⟨hVn, by simp, fun a ha b hb hab => by simp at hb; subst hb; subst hab; exact hxn ha⟩
  have hVl2 : (V ++ [(bx, (k : Int), ux)]).length ≤ M.length := by
   refine yv ?_ hV2
   rw [List.Nodup, List.pairwise_map] at hVn2
   exact hVn2.imp fun h e => h (by rw [e])
  have hVs : (V ++ [(bx, (k : Int), ux)]).length = V.length + 1 := by simp
  have hkV2 : ∀ y, y ∈ yM (V ++ [(bx, (k : Int), ux)]) ↔ y ∈ yM V ∨ y = k := fun y => by simp [yM]
  have hVm : (V.map (·.1)) ++ [bx] = (V ++ [(bx, (k : Int), ux)]).map (·.1) := by simp
  have hkC := hS.lt k (hMS k hkM)
  have hcal := hS.calls k (hMS k hkM)
  have zk : ((k : Int)).toNat = k := by omega
  have gk := yy hkC
  clear hr1 hr2 hdel
  have skip : ¬ uZ C B k → ∀ y, y ∈ r ↔ y ∈ yM (V ++ [(bx, (k : Int), ux)]) ∧ uZ C B y := fun hf y => by
   rw [hr, hkV2]
   exact ⟨fun h => ⟨.inl h.1, h.2⟩, fun h => ⟨h.1.resolve_right fun e => by subst e; exact hf h.2, h.2⟩⟩
  unfold uZ at skip hr ⊢
  generalize hx0 : zb C k = x0 at *
  obtain ⟨op, a, b, cc⟩ := x0
  dsimp only at hcal
  by_cases h16 : op = 16
  ·subst h16
   obtain ⟨h1, h2⟩ := hcal rfl
   obtain ⟨m, rfl⟩ : ∃ m : Nat, cc = m := ⟨cc.toNat, by omega⟩
   have zm : ((m : Int)).toNat = m := by omega
   have gb := vP (B := B) (k := m) (by omega)
   cases hp : B.getD m false with
   | true =>
    rw [hp] at gb
    (repeat' (first | exact trivial | (with_reducible first | apply awA | apply awB | apply awC | apply awF | apply awI) | (refine zn (id := 6) (t := (.node [0, 1, 2, 3, 4, 5, 6, 7, 8, 9, 10, 11, 12, 13] [])) (drR [5, 1] [32, 36] []) zD (by kernel_rfl) (by kernel_rfl) (fun _ _ h => h) ?_) | (refine zx (by simp only [go_sem]; exact rfl) ?_) | (refine zA (by simp only [go_sem]; exact rfl) ?_) | refine ze ?_ | refine zl ?_ ?_ | exact zy | ((with_reducible first | apply awn | apply awo | apply awp | refine awQ ?_); intro r hr; simp only [go_sem, Nat.reduceBEq, Nat.reduceLT, Nat.reduceLeDiff, Nat.reduceAdd, Nat.reduceMul, reduceCtorEq, yk, zk, gk, zd, zm, gb] at hr; subst hr; (first | refine awV ?_ ?_ | refine awW ?_ ?_ | (refine zf (fun h => ?_) (fun h => ?_) <;> (try simp only [go_sem, reduceCtorEq] at h) <;> (try (exfalso; omega))))) | (refine xn (d := 10003) (u := 12) (L := M) (f := fun _ => AV.dead) (e := (bx, (k : Int), ux)) rfl rfl ⟨by decide, by decide⟩ rfl rfl rfl rfl hx hM.nd ?_))) <;> (try omega)
    refine ⟨(V ++ [(bx, (k : Int), ux)], r), ?_, ⟨hV2, hVn2, skip (fun h => by have := h.2; rw [zm, hp] at this; cases this), by show r.length ≤ (V ++ [(bx, (k : Int), ux)]).length; omega⟩, by show M.length - (V ++ [(bx, (k : Int), ux)]).length < M.length - V.length; omega⟩
    simp only [hVm, go_sem, Nat.reduceBEq]
    try exact rfl
   | false =>
    rw [hp] at gb
    have ht : (v8 (yC r)).take r.length = v8 (yC r) := by rw [yT, List.take_of_length_le (by rw [zY]; omega)]
    have ha := wT r k
    have hl3 : (r ++ [k]).length = r.length + 1 := by simp
    (repeat' (first | exact trivial | (with_reducible first | apply awA | apply awB | apply awC | apply awF | apply awI) | (refine zn (id := 6) (t := (.node [0, 1, 2, 3, 4, 5, 6, 7, 8, 9, 10, 11, 12, 13] [])) (drR [5, 1] [32, 36] []) zD (by kernel_rfl) (by kernel_rfl) (fun _ _ h => h) ?_) | (refine zx (by simp only [go_sem]; exact rfl) ?_) | (refine zA (by simp only [go_sem]; exact rfl) ?_) | refine ze ?_ | refine zl ?_ ?_ | exact zy | ((with_reducible first | apply awn | apply awo | apply awp | refine awQ ?_); intro r hr; simp only [go_sem, Nat.reduceBEq, Nat.reduceLT, Nat.reduceLeDiff, Nat.reduceAdd, Nat.reduceMul, Nat.reduceEqDiff, reduceCtorEq, yk, zk, gk, zd, zm, gb, zq, zY, ht, ha, hl3] at hr; subst hr; (first | refine awV ?_ ?_ | refine awW ?_ ?_ | (refine zf (fun h => ?_) (fun h => ?_) <;> (try simp only [go_sem, reduceCtorEq] at h) <;> (try (exfalso; omega))))) | (refine xn (d := 10003) (u := 12) (L := M) (f := fun _ => AV.dead) (e := (bx, (k : Int), ux)) rfl rfl ⟨by decide, by decide⟩ rfl rfl rfl rfl hx hM.nd ?_))) <;> (try omega)
    refine ⟨(V ++ [(bx, (k : Int), ux)], r ++ [k]), ?_, ⟨hV2, hVn2, fun y => ?_, by show (r ++ [k]).length ≤ (V ++ [(bx, (k : Int), ux)]).length; omega⟩, by show M.length - (V ++ [(bx, (k : Int), ux)]).length < M.length - V.length; omega⟩
    ·simp only [hVm, hl3, go_sem, Nat.reduceBEq]
     try exact rfl
    ·show y ∈ r ++ [k] ↔ y ∈ yM (V ++ [(bx, (k : Int), ux)]) ∧ _
     rw [List.mem_append, List.mem_singleton, hr, hkV2]
     constructor
     ·rintro (⟨h1, h2⟩ | rfl)
      ·exact ⟨.inl h1, h2⟩
      ·exact ⟨.inr rfl, by rw [hx0], by rw [hx0]; show B.getD ((m : Int)).toNat false = false; rw [zm]; exact hp⟩
     ·rintro ⟨h1 | h1, h2⟩
      ·exact .inl ⟨h1, h2⟩
      ·exact .inr h1
  ·have e16 : (op = 16) = False := eq_false h16
   by_cases hin : cc.toNat < B.length
   ·have gb := vP hin
    (repeat' (first | exact trivial | (with_reducible first | apply awA | apply awB | apply awC | apply awF | apply awI) | (refine zn (id := 6) (t := (.node [0, 1, 2, 3, 4, 5, 6, 7, 8, 9, 10, 11, 12, 13] [])) (drR [5, 1] [32, 36] []) zD (by kernel_rfl) (by kernel_rfl) (fun _ _ h => h) ?_) | (refine zx (by simp only [go_sem]; exact rfl) ?_) | (refine zA (by simp only [go_sem]; exact rfl) ?_) | refine ze ?_ | refine zl ?_ ?_ | exact zy | ((with_reducible first | apply awn | apply awo | apply awp | refine awQ ?_); intro r hr; simp only [go_sem, Nat.reduceBEq, Nat.reduceLT, Nat.reduceLeDiff, Nat.reduceAdd, Nat.reduceMul, reduceCtorEq, yk, zk, gk, zd, e16, gb] at hr; subst hr; (first | refine awV ?_ ?_ | refine awW ?_ ?_ | (refine zf (fun h => ?_) (fun h => ?_) <;> (try simp only [go_sem, reduceCtorEq] at h) <;> (try (exfalso; omega))))) | (refine xn (d := 10003) (u := 12) (L := M) (f := fun _ => AV.dead) (e := (bx, (k : Int), ux)) rfl rfl ⟨by decide, by decide⟩ rfl rfl rfl rfl hx hM.nd ?_) | (refine yW (vB true) rfl rfl ⟨by decide, by decide⟩ ?_))) <;> (try omega)
    refine ⟨(V ++ [(bx, (k : Int), ux)], r), ?_, ⟨hV2, hVn2, skip (fun h => h16 h.1), by show r.length ≤ (V ++ [(bx, (k : Int), ux)]).length; omega⟩, by show M.length - (V ++ [(bx, (k : Int), ux)]).length < M.length - V.length; omega⟩
    simp only [hVm, go_sem, Nat.reduceBEq]
    try exact rfl
   ·have gb : (wJ B)[cc.toNat]? = none := List.getElem?_eq_none (by rw [xZ]; omega)
    (repeat' (first | exact trivial | (with_reducible first | apply awA | apply awB | apply awC | apply awF | apply awI) | (refine zn (id := 6) (t := (.node [0, 1, 2, 3, 4, 5, 6, 7, 8, 9, 10, 11, 12, 13] [])) (drR [5, 1] [32, 36] []) zD (by kernel_rfl) (by kernel_rfl) (fun _ _ h => h) ?_) | (refine zx (by simp only [go_sem]; exact rfl) ?_) | (refine zA (by simp only [go_sem]; exact rfl) ?_) | refine ze ?_ | refine zl ?_ ?_ | exact zy | ((with_reducible first | apply awn | apply awo | apply awp | refine awQ ?_); intro r hr; simp only [go_sem, Nat.reduceBEq, Nat.reduceLT, Nat.reduceLeDiff, Nat.reduceAdd, Nat.reduceMul, reduceCtorEq, yk, zk, gk, zd, e16, gb] at hr; subst hr; (first | refine awV ?_ ?_ | refine awW ?_ ?_ | (refine zf (fun h => ?_) (fun h => ?_) <;> (try simp only [go_sem, reduceCtorEq] at h) <;> (try (exfalso; omega))))) | (refine xn (d := 10003) (u := 12) (L := M) (f := fun _ => AV.dead) (e := (bx, (k : Int), ux)) rfl rfl ⟨by decide, by decide⟩ rfl rfl rfl rfl hx hM.nd ?_) | (refine yW (vB true) rfl rfl ⟨by decide, by decide⟩ ?_) | (refine Zh (vB true) rfl rfl ⟨by decide, by decide⟩ ?_))) <;> (try omega)
    refine ⟨(V ++ [(bx, (k : Int), ux)], r), ?_, ⟨hV2, hVn2, skip (fun h => h16 h.1), by show r.length ≤ (V ++ [(bx, (k : Int), ux)]).length; omega⟩, by show M.length - (V ++ [(bx, (k : Int), ux)]).length < M.length - V.length; omega⟩
    simp only [hVm, go_sem, Nat.reduceBEq]
    try exact rfl
end
end Go.Proofs.Ytfjajlcjifnceaa

import Derived.Test.YtjeplogcfedmeaaGreatP7
set_option linter.all false
set_option maxRecDepth 100000
set_option maxHeartbeats 8000000
namespace Go.Proofs.YtjeplogcfedmeaaGreat
section
open Go.RowKit
theorem zaL (y x : InsM) : yb Tryz.prog 56 [.agg (jQ x), .ptr 1 10001 0 0] [(10001, .var (jQ y))] (vB (decide (x.a = y.a))) [(10001, .var (jQ y))] := by
 refine zJ (zb _) Tryz.func56 rfl rfl (by rw [Tryz.results56]) Tryz.ntmps56 rfl fun E => ?_
 (repeat' (first | exact trivial | (with_reducible first | apply awA | apply awD | apply awF) | ((with_reducible first | apply awn | refine awT ?_); intro r hr; simp only [go_sem, Nat.reduceBEq, Nat.reduceLT, Nat.reduceLeDiff, Nat.reduceAdd, Nat.reduceMul] at hr; subst hr; (first | refine awV ?_ ?_ | refine zP ?_ ?_ ?_)))) <;> (try omega)
 all_goals first | exact AV.up_rfl _ | (repeat first | exact zo | refine zn rfl ?_)
def ZP (y : InsM) (x : InsM) : Bool := decide (x.a = y.a)
theorem Xr {l : List InsM} {i : Nat} {x : InsM} (h : l[i]? = some x) : (zF l)[i]? = some (jQ x) := by simp [zF, JG, h]
theorem Q9 (y : InsM) (l : List InsM) (hl : l.length ≤ 1000000000) :
  yx Tryz.prog 77 [.lst 4 (zF l), .fn 56 [.ptr 1 10001 0 0]] [(10001, .var (jQ y))] (fun r : Int => decide (0 ≤ r) = l.any (ZP y)) (fun r => vI r) (fun _ => [(10001, .var (jQ y))]) := by
 refine xq (zb _) Tryz.func77 rfl rfl (by rw [Tryz.results77]) Tryz.ntmps77 rfl fun E => ?_
 (repeat' (first | exact trivial | (with_reducible first | apply awA | apply awB | apply awF) | ((with_reducible apply awn); intro r hr; simp only [go_sem, Nat.reduceBEq, Nat.reduceLT, zd] at hr; subst hr; (first | refine awV ?_ ?_)))) <;> (try omega)
 refine zI [0, 1, 6, 7, 8] [10001] (fun i : Nat => ⟨[(0, true, .lst 4 (zF l)), (1, true, .fn 56 [.ptr 1 10001 0 0]), (6, true, .lst 4 (zF l)), (7, true, vI l.length), (8, true, vI i)], [(10001, .var (jQ y))]⟩)
  (fun i => i ≤ l.length ∧ ∀ x ∈ l.take i, ZP y x = false) (fun i => l.length - i) 0 (by simp only [go_sem, Nat.reduceBEq] <;> exact rfl) ⟨Nat.zero_le _, fun j hj => by simp at hj⟩ ?_
 intro i ⟨hi, hall⟩
 have hwi := zy (n := (i : Int) + 1) (by omega)
 have zi : ((i : Int)).toNat = i := by omega
 by_cases hlt : i < l.length
 ·have e1 : ((i : Int) < (l.length : Int)) = True := eq_true (by omega)
  obtain ⟨x, hx⟩ : ∃ x, l[i]? = some x := ⟨_, List.getElem?_eq_getElem hlt⟩
  have gi := Xr hx
  have hb := zaL y x
  by_cases hc : x.a = y.a
  ·rw [decide_eq_true hc] at hb
   (repeat' (first | exact trivial | (with_reducible first | apply awA | apply awB | apply awC | apply awD | apply awF | apply awG | apply awJ) | ((with_reducible first | apply awn | apply awo | refine awQ ?_ | refine wM ?_); intro r hr; simp only [go_sem, Nat.reduceBEq, Nat.reduceLT, Nat.reduceLeDiff, e1, zi, gi, zd] at hr; subst hr; (first | refine awV ?_ ?_ | refine awW ?_ ?_ | refine y5 ?_ ?_ | (refine zh (fun h => ?_) (fun h => ?_) <;> (try simp only [go_sem, reduceCtorEq] at h) <;> (try (exfalso; omega))))) | (refine yr (zb _) [(10001, 10001)] [(10001, 10001)] [] [10001] (by simp only [go_sem, Nat.reduceBEq, Nat.reduceLT, Nat.reduceSub] <;> exact rfl) ?_ rfl rfl (by first | exact .inl rfl | exact .inr rfl) (by simp only [go_sem] <;> exact rfl) (hb) (.inl rfl) ?_))) <;> (try omega)
   all_goals refine ⟨(i : Int), ?_, AV.up_rfl _, ?_⟩
   ·rw [decide_eq_true (show (0 : Int) ≤ (i : Int) by omega)]
    exact (List.any_eq_true.2 ⟨x, List.mem_of_getElem? hx, decide_eq_true hc⟩).symm
   ·repeat first | exact zo | refine zn rfl ?_
  ·rw [decide_eq_false hc] at hb
   (repeat' (first | exact trivial | (with_reducible first | apply awA | apply awB | apply awC | apply awF | apply awI) | ((with_reducible first | apply awn | apply awo | refine awQ ?_); intro r hr; simp only [go_sem, Nat.reduceBEq, Nat.reduceLT, Nat.reduceLeDiff, e1, zi, hwi, gi, zd] at hr; subst hr; (first | refine awV ?_ ?_ | refine awW ?_ ?_ | (refine zh (fun h => ?_) (fun h => ?_) <;> (try simp only [go_sem, reduceCtorEq] at h) <;> (try (exfalso; omega))))) | (refine yr (zb _) [(10001, 10001)] [(10001, 10001)] [] [10001] (by simp only [go_sem, Nat.reduceBEq, Nat.reduceLT, Nat.reduceSub] <;> exact rfl) ?_ rfl rfl (by first | exact .inl rfl | exact .inr rfl) (by simp only [go_sem] <;> exact rfl) (hb) (.inl rfl) ?_))) <;> (try omega)
   refine ⟨i + 1, ?_, ⟨hlt, fun j hj => ?_⟩, by omega⟩
   ·simp only [go_sem, Nat.reduceBEq]
    try exact rfl
   ·rw [List.take_succ_eq_append_getElem hlt] at hj
    rw [List.getElem?_eq_getElem hlt] at hx
    injection hx with hx
    rcases List.mem_append.1 hj with hj | hj
    ·exact hall j hj
    ·simp at hj; rw [hj, hx]; exact decide_eq_false hc
 ·have e1 : ((i : Int) < (l.length : Int)) = False := eq_false (by omega)
  (repeat' (first | exact trivial | (with_reducible first | apply awA | apply awD | apply awE | apply awF | apply awH | apply awK) | ((with_reducible first | apply awn | refine awQ ?_ | refine wM ?_); intro r hr; simp only [go_sem, Nat.reduceBEq, Nat.reduceLT, e1] at hr; subst hr; (first | refine awV ?_ ?_ | refine y5 ?_ ?_ | (refine zh (fun h => ?_) (fun h => ?_) <;> (try simp only [go_sem, reduceCtorEq] at h) <;> (try (exfalso; omega))))))) <;> (try omega)
  all_goals refine ⟨-1, ?_, AV.up_rfl _, ?_⟩
  ·rw [List.take_of_length_le (by omega)] at hall
   exact (List.any_eq_false.2 fun x hx => by simp [hall x hx]).symm
  ·repeat first | exact zo | refine zn rfl ?_
theorem YS (y : InsM) (l : List InsM) (hl : l.length ≤ 1000000000) :
  yb Tryz.prog 55 [.lst 4 (zF l), .fn 56 [.ptr 1 10001 0 0]] [(10001, .var (jQ y))] (vB (l.any (ZP y))) [(10001, .var (jQ y))] := by
 have hi := Q9 y l hl
 refine zJ (zb _) Tryz.func55 rfl rfl (by rw [Tryz.results55]) Tryz.ntmps55 rfl fun E => ?_
 (repeat' (first | exact trivial | (with_reducible first | apply awA | apply awD | apply awF) | ((with_reducible first | apply awn | apply awo | refine awT ?_); intro r hr; simp only [go_sem, Nat.reduceBEq, Nat.reduceLT] at hr; subst hr; (first | refine awV ?_ ?_ | refine awW ?_ ?_ | refine zP ?_ ?_ ?_)) | (refine zz [(10001, 10001)] [(10001, 10001)] [] [10001] ?_; intro r hr; simp only [go_sem, Nat.reduceBEq, Nat.reduceLT] at hr; subst hr; refine yQ (hi) rfl rfl (by first | exact .inl rfl | exact .inr rfl) ?_ (.inl rfl) (fun q hq => ?_)))) <;> (try omega)
 all_goals first | (rw [← hq]; exact AV.up_rfl _) | exact AV.up_rfl _ | (repeat first | exact zo | refine zn rfl ?_)
def y4 : List InsM → List InsM → Bool
 | _, [] => true
 | l, y :: r => decide (y.op = 9) && !(l.any (ZP y)) && y4 (l ++ [y]) r
def xE (C : List InsM) (k : Nat) (a : Int) : List InsM := (C.take (k + 1 + a.toNat)).drop (k + 1)
def w8 : ByteArray := ⟨#[117, 105, 110, 116, 115]⟩
def xT : ByteArray := ⟨#[110, 117, 109, 98, 101, 114, 115]⟩
def vA : ByteArray := ⟨#[112, 97, 114, 116]⟩
def wn : ByteArray := ⟨#[117, 110, 105, 111, 110]⟩
def wo : ByteArray := ⟨#[99, 104, 111, 105, 99, 101]⟩
def jS (nm : ByteArray) (C : List InsM) (k : Nat) (x : InsM) : Bool :=
 if nm = w8 then decide (IntKind.i64.wrap (x.a + x.b) ≤ 64)
 else if nm = xT then decide (IntKind.i64.wrap (x.a + IntKind.i64.wrap (x.b * x.c)) ≤ 16777216)
 else if nm = vA then decide (x.a = -1) == decide (x.b = -1)
 else if nm = wn ∨ nm = wo then (if (C.length : Int) - k ≤ x.a then false else y4 [] (xE C k x.a))
 else true
def zaM (nC nN : Nat) (f : FormM) (x : InsM) : Bool := kz nC nN (bAt f.has 0) x.a && kz nC nN (bAt f.has 1) x.b && kz nC nN (bAt f.has 2) x.c
def yE (e : Bool) (C : List InsM) (N : List Int) (k : Nat) : Bool :=
 let x := zg C k
 let f := yS e x.op
 f.known && zaM C.length N.length f x && jS f.name C k x
theorem Uk (e : Bool) {op : Int} (h : op < 0 ∨ 48 ≤ op) : yS e op = yS e 0 := by
 unfold yS Wp Wo Wn
 cases e
 ·rw [if_neg Bool.false_ne_true, if_neg Bool.false_ne_true]
  repeat rw [if_neg (by omega : ¬ op = _)]
  rfl
 ·rw [if_pos rfl, if_pos rfl]
  repeat rw [if_neg (by omega : ¬ op = _)]
  rfl
def J9 (f : FormM) : Bool := (!f.known || decide (f.has.size = 3)) && (!decide (f.name = wn ∨ f.name = wo) || decide (bAt f.has 0 = 97))
theorem JS : (List.range 48).all (fun n => J9 (yS true n) && J9 (yS false n)) = true := by decide +kernel
theorem ZQ (e : Bool) (op : Int) : J9 (yS e op) = true := by
 have key : ∀ n : Nat, n < 48 → J9 (yS e n) = true := fun n hn => by
  have := List.all_eq_true.1 JS n (List.mem_range.2 hn)
  rw [Bool.and_eq_true] at this
  cases e
  ·exact this.2
  ·exact this.1
 by_cases h : op < 0 ∨ 48 ≤ op
 ·rw [Uk e h]; exact key 0 (by decide)
 ·obtain ⟨n, rfl⟩ : ∃ n : Nat, op = n := ⟨op.toNat, by omega⟩
  exact key n (by omega)
theorem Wq (e : Bool) (op : Int) (h : (yS e op).known = true) : (yS e op).has.size = 3 := by
 have := ZQ e op
 unfold J9 at this
 simp only [h, Bool.not_true, Bool.false_or, Bool.and_eq_true, decide_eq_true_eq] at this
 exact this.1
theorem ZR (e : Bool) (op : Int) (h : (yS e op).name = wn ∨ (yS e op).name = wo) : bAt (yS e op).has 0 = 97 := by
 have := ZQ e op
 unfold J9 at this
 simp only [h, decide_true, Bool.not_true, Bool.false_or, Bool.and_eq_true, decide_eq_true_eq] at this
 exact this.2
theorem Ul {nm : ByteArray} (h : nm = wn ∨ nm = wo) (C : List InsM) (k : Nat) (x : InsM) : jS nm C k x = if (C.length : Int) - k ≤ x.a then false else y4 [] (xE C k x.a) := by
 unfold jS
 have h1 : ¬ nm = w8 := by rcases h with rfl | rfl <;> decide
 have h2 : ¬ nm = xT := by rcases h with rfl | rfl <;> decide
 have h3 : ¬ nm = vA := by rcases h with rfl | rfl <;> decide
 rw [if_neg h1, if_neg h2, if_neg h3, if_pos h]
theorem Ka (C : List InsM) (n m : Nat) : ((zF C).take n).drop m = zF ((C.take n).drop m) := by simp [zF, List.map_take, List.map_drop]
theorem Wr (C : List InsM) (n : Nat) : (zF C).take n = zF (C.take n) := by simp [zF, List.map_take]
theorem Um (e : Bool) (C : List InsM) (N : List Int) (hC : C.length ≤ 1048576) (hN : N.length ≤ 1048576) (k : Nat) (hk : k < C.length) : zQ Tryz.prog 33 [pG e C N, vI k] (fun r => r = vB (yE e C N k)) := by
 have zk : ((k : Int)).toNat = k := by omega
 have gk := yC hk
 unfold yE zaM
 dsimp only
 have hf := JR e C N (zg C k).op
 have hsz := Wq e (zg C k).op
 have harm : (yS e (zg C k).op).name = wn ∨ (yS e (zg C k).op).name = wo → kz C.length N.length (bAt (yS e (zg C k).op).has 0) (zg C k).a = true → 1 ≤ (zg C k).a ∧ (zg C k).a ≤ 64 := fun h hm => by
  rw [ZR e _ h] at hm
  simpa [kz, inF] using hm
 generalize yS e (zg C k).op = f at hf hsz harm ⊢
 generalize zg C k = x at *
 have hm0 := YR e C N (by omega) (by omega) (bAt f.has 0) x.a
 have hm1 := YR e C N (by omega) (by omega) (bAt f.has 1) x.b
 have hm2 := YR e C N (by omega) (by omega) (bAt f.has 2) x.c
 generalize kz C.length N.length (bAt f.has 0) x.a = b0 at hm0 harm ⊢
 generalize kz C.length N.length (bAt f.has 1) x.b = b1 at hm1 ⊢
 generalize kz C.length N.length (bAt f.has 2) x.c = b2 at hm2 ⊢
 obtain ⟨nm, hs, kn⟩ := f
 dsimp only at hf hsz hm0 hm1 hm2 harm ⊢
 unfold pG at *
 cases kn with
 | false =>
  refine zE (zb _) Tryz.func33 rfl rfl (by rw [Tryz.results33]) Tryz.ntmps33 rfl fun E => ?_
  (repeat' (first | exact trivial | (with_reducible first | apply awA | apply awD | apply awF | apply awG) | (refine zA (id := 3) (t := (.node [0, 1, 2, 3, 4, 5, 6, 7, 8, 9, 10, 11, 12, 13, 14, 15, 16, 17, 18, 19, 20, 21, 22, 23, 24, 25, 26, 27, 28, 29, 30, 31] [])) (drR [2, 6, 5] [] []) zH (by kernel_rfl) (by kernel_rfl) (fun _ _ h => h) ?_) | (refine zB (by simp only [go_sem]; exact rfl) ?_) | (refine zD (by simp only [go_sem]; exact rfl) ?_) | refine zl ?_ | refine zq ?_ ?_ | exact zC | ((with_reducible first | apply awn | apply awo | apply awp | refine awQ ?_ | refine awR ?_); intro r hr; simp only [go_sem, Nat.reduceBEq, Nat.reduceLT, Nat.reduceLeDiff, Nat.reduceAdd, Nat.reduceMul, reduceCtorEq, zk, gk, zd, Int.reduceToNat, Int.reduceLE] at hr; subst hr; (first | refine caA (fun _ => hf) rfl ?_ ?_ ?_ | refine caB 54 (vB true) ?_ ?_ ?_ | refine awV ?_ ?_ | refine zM ?_ ?_ | (refine zh (fun h => ?_) (fun h => ?_) <;> (try simp only [go_sem, reduceCtorEq] at h) <;> (try (exfalso; omega))))))) <;> (try omega)
  all_goals rfl
 | true =>
  have h3 := hsz rfl
  clear hsz
  have g0 : ((hs.size : Nat) : Int) = 3 := by omega
  cases b0 with
  | false =>
   refine zE (zb _) Tryz.func33 rfl rfl (by rw [Tryz.results33]) Tryz.ntmps33 rfl fun E => ?_
   (repeat' (first | exact trivial | (with_reducible first | apply awA | apply awD | apply awF | apply awG) | (refine zA (id := 3) (t := (.node [0, 1, 2, 3, 4, 5, 6, 7, 8, 9, 10, 11, 12, 13, 14, 15, 16, 17, 18, 19, 20, 21, 22, 23, 24, 25, 26, 27, 28, 29, 30, 31] [])) (drR [2, 6, 5] [] []) zH (by kernel_rfl) (by kernel_rfl) (fun _ _ h => h) ?_) | (refine zB (by simp only [go_sem]; exact rfl) ?_) | (refine zD (by simp only [go_sem]; exact rfl) ?_) | refine zl ?_ | refine zq ?_ ?_ | exact zC | ((with_reducible first | apply awn | apply awo | apply awp | refine awQ ?_ | refine awR ?_); intro r hr; simp only [go_sem, Nat.reduceBEq, Nat.reduceLT, Nat.reduceLeDiff, Nat.reduceAdd, Nat.reduceMul, reduceCtorEq, zk, gk, zd, g0, Int.reduceToNat, Int.reduceLT, Int.reduceLE] at hr; subst hr; (first | refine caA (fun _ => hf) rfl ?_ ?_ ?_ | refine caA (fun _ => hm0) rfl ?_ ?_ ?_ | refine caB 54 (vB true) ?_ ?_ ?_ | refine awV ?_ ?_ | refine zM ?_ ?_ | (refine zh (fun h => ?_) (fun h => ?_) <;> (try simp only [go_sem, reduceCtorEq] at h) <;> (try (exfalso; omega))))))) <;> (try omega)
   all_goals rfl
  | true =>
   cases b1 with
   | false =>
    refine zE (zb _) Tryz.func33 rfl rfl (by rw [Tryz.results33]) Tryz.ntmps33 rfl fun E => ?_
    (repeat' (first | exact trivial | (with_reducible first | apply awA | apply awD | apply awF | apply awG) | (refine zA (id := 3) (t := (.node [0, 1, 2, 3, 4, 5, 6, 7, 8, 9, 10, 11, 12, 13, 14, 15, 16, 17, 18, 19, 20, 21, 22, 23, 24, 25, 26, 27, 28, 29, 30, 31] [])) (drR [2, 6, 5] [] []) zH (by kernel_rfl) (by kernel_rfl) (fun _ _ h => h) ?_) | (refine zB (by simp only [go_sem]; exact rfl) ?_) | (refine zD (by simp only [go_sem]; exact rfl) ?_) | refine zl ?_ | refine zq ?_ ?_ | exact zC | ((with_reducible first | apply awn | apply awo | apply awp | refine awQ ?_ | refine awR ?_); intro r hr; simp only [go_sem, Nat.reduceBEq, Nat.reduceLT, Nat.reduceLeDiff, Nat.reduceAdd, Nat.reduceMul, reduceCtorEq, zk, gk, zd, g0, Int.reduceToNat, Int.reduceLT, Int.reduceLE] at hr; subst hr; (first | refine caA (fun _ => hf) rfl ?_ ?_ ?_ | refine caA (fun _ => hm0) rfl ?_ ?_ ?_ | refine caA (fun _ => hm1) rfl ?_ ?_ ?_ | refine caB 54 (vB true) ?_ ?_ ?_ | refine awV ?_ ?_ | refine zM ?_ ?_ | (refine zh (fun h => ?_) (fun h => ?_) <;> (try simp only [go_sem, reduceCtorEq] at h) <;> (try (exfalso; omega))))))) <;> (try omega)
    all_goals rfl
   | true =>
    cases b2 with
    | false =>
     refine zE (zb _) Tryz.func33 rfl rfl (by rw [Tryz.results33]) Tryz.ntmps33 rfl fun E => ?_
     (repeat' (first | exact trivial | (with_reducible first | apply awA | apply awD | apply awF | apply awG) | (refine zA (id := 3) (t := (.node [0, 1, 2, 3, 4, 5, 6, 7, 8, 9, 10, 11, 12, 13, 14, 15, 16, 17, 18, 19, 20, 21, 22, 23, 24, 25, 26, 27, 28, 29, 30, 31] [])) (drR [2, 6, 5] [] []) zH (by kernel_rfl) (by kernel_rfl) (fun _ _ h => h) ?_) | (refine zB (by simp only [go_sem]; exact rfl) ?_) | (refine zD (by simp only [go_sem]; exact rfl) ?_) | refine zl ?_ | refine zq ?_ ?_ | exact zC | ((with_reducible first | apply awn | apply awo | apply awp | refine awQ ?_ | refine awR ?_); intro r hr; simp only [go_sem, Nat.reduceBEq, Nat.reduceLT, Nat.reduceLeDiff, Nat.reduceAdd, Nat.reduceMul, reduceCtorEq, zk, gk, zd, g0, Int.reduceToNat, Int.reduceLT, Int.reduceLE] at hr; subst hr; (first | refine caA (fun _ => hf) rfl ?_ ?_ ?_ | refine caA (fun _ => hm0) rfl ?_ ?_ ?_ | refine caA (fun _ => hm1) rfl ?_ ?_ ?_ | refine caA (fun _ => hm2) rfl ?_ ?_ ?_ | refine awV ?_ ?_ | refine zM ?_ ?_ | (refine zh (fun h => ?_) (fun h => ?_) <;> (try simp only [go_sem, reduceCtorEq] at h) <;> (try (exfalso; omega))))))) <;> (try omega)
     all_goals rfl
    | true =>
     by_cases hO : nm = wn ∨ nm = wo
     ·obtain ⟨ha1, ha2⟩ := harm hO rfl
      rw [Ul hO]
      simp only [Bool.true_and, Bool.and_self]
      obtain ⟨op, a, b, cc⟩ := x
      dsimp only at ha1 ha2 hf hm0 hm1 hm2 ⊢
      obtain ⟨n, rfl⟩ : ∃ n : Nat, a = n := ⟨a.toNat, by omega⟩
      have w0 : IntKind.i64.wrap ((C.length : Int) - k) = (C.length : Int) - k := zy (by omega)
      have w1 := zy (n := (k : Int) + 1) (by omega)
      have w2 := zy (n := (k : Int) + 1 + n) (by omega)
      have z1 : ((k : Int) + 1).toNat = k + 1 := by omega
      have z2 : ((k : Int) + 1 + n).toNat = k + 1 + n := by omega
      have bad : ∀ {s : ByteArray}, nm = s → s ≠ wn → s ≠ wo → False := fun h h1 h2 => by
       subst h; exact hO.elim h1 h2
      by_cases hlen : (C.length : Int) - k ≤ n
      ·rw [if_pos hlen]
       have e95 : ((n : Int) ≥ (C.length : Int) - k) = True := eq_true hlen
       refine zE (zb _) Tryz.func33 rfl rfl (by rw [Tryz.results33]) Tryz.ntmps33 rfl fun E => ?_
       (repeat' (first | exact trivial | (with_reducible first | apply awA | apply awB | apply awC | apply awD | apply awF | apply awG | apply awI | apply awJ) | (refine zA (id := 3) (t := (.node [0, 1, 2, 3, 4, 5, 6, 7, 8, 9, 10, 11, 12, 13, 14, 15, 16, 17, 18, 19, 20, 21, 22, 23, 24, 25, 26, 27, 28, 29, 30, 31] [])) (drR [2, 6, 5] [] []) zH (by kernel_rfl) (by kernel_rfl) (fun _ _ h => h) ?_) | (refine zB (by simp only [go_sem]; exact rfl) ?_) | (refine zD (by simp only [go_sem]; exact rfl) ?_) | refine zl ?_ | refine zq ?_ ?_ | exact zC | ((with_reducible first | apply awn | apply awo | apply awp | refine awQ ?_ | refine awR ?_); intro r hr; simp only [go_sem, Nat.reduceBEq, Nat.reduceLT, Nat.reduceLeDiff, Nat.reduceAdd, Nat.reduceMul, reduceCtorEq, zk, gk, zd, g0, w0, e95, Int.reduceToNat, Int.reduceLT, Int.reduceLE] at hr; subst hr; (first | refine caA (fun _ => hf) rfl ?_ ?_ ?_ | refine caA (fun _ => hm0) rfl ?_ ?_ ?_ | refine caA (fun _ => hm1) rfl ?_ ?_ ?_ | refine caA (fun _ => hm2) rfl ?_ ?_ ?_ | refine awV ?_ ?_ | refine zM ?_ ?_ | (refine zh (fun h => ?_) (fun h => ?_) <;> (try simp only [go_sem, reduceCtorEq] at h) <;> (try (exfalso; omega))))))) <;> (try omega)
       all_goals first | rfl | exact (bad (by assumption) (by decide) (by decide)).elim | (exfalso; rcases hO with h1 | h1 <;> contradiction) | skip
      ·rw [if_neg hlen]
       have e95 : ((n : Int) ≥ (C.length : Int) - k) = False := eq_false (by omega)
       have hzn : ((n : Int)).toNat = n := by omega
       unfold xE
       rw [hzn]
       have htd := Ka C (k + 1 + n) (k + 1)
       generalize hR : ((C.take (k + 1 + n)).drop (k + 1)) = R at htd ⊢
       have hRl : R.length = n := by rw [← hR, List.length_drop, List.length_take]; omega
       obtain ⟨G, hG⟩ : ∃ G, y4 [] R = G := ⟨_, rfl⟩
       rw [hG]
       refine zE (zb _) Tryz.func33 rfl rfl (by rw [Tryz.results33]) Tryz.ntmps33 rfl fun E => ?_
       (repeat' (first | exact trivial | (with_reducible first | apply awA | apply awB | apply awC | apply awD | apply awF | apply awG | apply awI | apply awJ) | (refine zA (id := 3) (t := (.node [0, 1, 2, 3, 4, 5, 6, 7, 8, 9, 10, 11, 12, 13, 14, 15, 16, 17, 18, 19, 20, 21, 22, 23, 24, 25, 26, 27, 28, 29, 30, 31] [])) (drR [2, 6, 5] [] []) zH (by kernel_rfl) (by kernel_rfl) (fun _ _ h => h) ?_) | (refine zB (by simp only [go_sem]; exact rfl) ?_) | (refine zD (by simp only [go_sem]; exact rfl) ?_) | refine zl ?_ | refine zq ?_ ?_ | exact zC | ((with_reducible first | apply awn | apply awo | apply awp | refine awQ ?_ | refine awR ?_); intro r hr; simp only [go_sem, Nat.reduceBEq, Nat.reduceLT, Nat.reduceLeDiff, Nat.reduceAdd, Nat.reduceMul, reduceCtorEq, zk, gk, zd, g0, w0, w1, w2, z1, z2, e95, htd, Int.reduceToNat, Int.reduceLT, Int.reduceLE] at hr; subst hr; (first | refine caA (fun _ => hf) rfl ?_ ?_ ?_ | refine caA (fun _ => hm0) rfl ?_ ?_ ?_ | refine caA (fun _ => hm1) rfl ?_ ?_ ?_ | refine caA (fun _ => hm2) rfl ?_ ?_ ?_ | refine awV ?_ ?_ | refine zM ?_ ?_ | (refine zh (fun h => ?_) (fun h => ?_) <;> (try simp only [go_sem, reduceCtorEq] at h) <;> (try (exfalso; omega))))))) <;> (try omega)
       all_goals first | exact (bad (by assumption) (by decide) (by decide)).elim | (exfalso; rcases hO with h1 | h1 <;> contradiction) | skip
       all_goals
        refine zI [8, 106, 107, 108] [] (fun i : Nat => ⟨[(8, true, .lst 4 (zF R)), (106, true, .lst 4 (zF R)), (107, true, vI R.length), (108, true, vI i)], []⟩)
         (fun i => i ≤ R.length ∧ y4 (R.take i) (R.drop i) = G) (fun i => R.length - i) 0 (by simp only [go_sem, Nat.reduceBEq] <;> exact rfl) ⟨Nat.zero_le _, hG⟩ ?_
        intro i ⟨hi, hinv⟩
        have hwi := zy (n := (i : Int) + 1) (by omega)
        have zi : ((i : Int)).toNat = i := by omega
        by_cases hlt : i < R.length
        ·have e1 : ((i : Int) < (R.length : Int)) = True := eq_true (by omega)
         obtain ⟨y, hy⟩ : ∃ y, R[i]? = some y := ⟨_, List.getElem?_eq_getElem hlt⟩
         have gi := Xr hy
         have htk := Wr R i
         have hy' : R[i] = y := by rw [List.getElem?_eq_getElem hlt] at hy; injection hy
         rw [List.drop_eq_getElem_cons hlt, hy'] at hinv
         unfold y4 at hinv
         by_cases h9 : y.op = 9
         ·have e9 : (y.op = 9) = True := eq_true h9
          have hct := YS y (R.take i) (by rw [List.length_take]; omega)
          rw [decide_eq_true h9, Bool.true_and] at hinv
          cases hany : (R.take i).any (ZP y) with
          | true =>
           rw [hany] at hct hinv
           rw [← hinv]
           simp only [Bool.not_true, Bool.false_and]
           (repeat' (first | exact trivial | (with_reducible first | apply awA | apply awB | apply awC | apply awD | apply awF | apply awG | apply awJ) | ((with_reducible first | apply awn | apply awo | refine awQ ?_ | refine awR ?_); intro r hr; simp only [go_sem, Nat.reduceBEq, Nat.reduceLT, Nat.reduceLeDiff, Nat.reduceAdd, Nat.reduceMul, reduceCtorEq, e1, zi, gi, e9, htk, zd, Int.toNat_zero, Int.reduceLE] at hr; subst hr; (first | refine awV ?_ ?_ | refine awW ?_ ?_ | refine zM ?_ ?_ | (refine zh (fun h => ?_) (fun h => ?_) <;> (try simp only [go_sem, reduceCtorEq] at h) <;> (try (exfalso; omega))))) | (refine zz [(10, 10001)] [(10001, 10)] [] [10] ?_; intro r hr; simp only [go_sem, Nat.reduceBEq, Nat.reduceLT] at hr; subst hr; refine zR (hct) rfl rfl (by first | exact .inl rfl | exact .inr rfl) ?_ (.inl rfl) ?_))) <;> (try omega)
           all_goals rfl
          | false =>
           rw [hany] at hct hinv
           rw [Bool.not_false, Bool.true_and] at hinv
           (repeat' (first | exact trivial | (with_reducible first | apply awA | apply awB | apply awC | apply awF | apply awI) | ((with_reducible first | apply awn | apply awo | refine awQ ?_); intro r hr; simp only [go_sem, Nat.reduceBEq, Nat.reduceLT, Nat.reduceLeDiff, Nat.reduceAdd, Nat.reduceMul, reduceCtorEq, e1, zi, hwi, gi, e9, htk, zd, Int.toNat_zero, Int.reduceLE] at hr; subst hr; (first | refine awV ?_ ?_ | refine awW ?_ ?_ | (refine zh (fun h => ?_) (fun h => ?_) <;> (try simp only [go_sem, reduceCtorEq] at h) <;> (try (exfalso; omega))))) | (refine zz [(10, 10001)] [(10001, 10)] [] [10] ?_; intro r hr; simp only [go_sem, Nat.reduceBEq, Nat.reduceLT] at hr; subst hr; refine zR (hct) rfl rfl (by first | exact .inl rfl | exact .inr rfl) ?_ (.inl rfl) ?_))) <;> (try omega)
           all_goals refine ⟨i + 1, ?_, ⟨hlt, ?_⟩, by omega⟩
           ·simp only [go_sem, Nat.reduceBEq]
            try exact rfl
           ·rw [List.take_succ_eq_append_getElem hlt, hy']; exact hinv
         ·have e9 : (y.op = 9) = False := eq_false h9
          rw [decide_eq_false h9, Bool.false_and, Bool.false_and] at hinv
          rw [← hinv]
          (repeat' (first | exact trivial | (with_reducible first | apply awA | apply awB | apply awC | apply awD | apply awF | apply awG | apply awJ) | ((with_reducible first | apply awn | apply awo | refine awQ ?_ | refine awR ?_); intro r hr; simp only [go_sem, Nat.reduceBEq, Nat.reduceLT, Nat.reduceLeDiff, Nat.reduceAdd, Nat.reduceMul, reduceCtorEq, e1, zi, gi, e9, htk, zd, Int.toNat_zero, Int.reduceLE] at hr; subst hr; (first | refine awV ?_ ?_ | refine awW ?_ ?_ | refine zM ?_ ?_ | (refine zh (fun h => ?_) (fun h => ?_) <;> (try simp only [go_sem, reduceCtorEq] at h) <;> (try (exfalso; omega))))) | (refine yD (vB true) rfl rfl ⟨by decide, by decide⟩ ?_))) <;> (try omega)
          all_goals rfl
        ·have e1 : ((i : Int) < (R.length : Int)) = False := eq_false (by omega)
         rw [List.drop_of_length_le (by omega)] at hinv
         rw [← hinv]
         unfold y4
         (repeat' (first | exact trivial | (with_reducible first | apply awA | apply awD | apply awE | apply awF | apply awH | apply awI | apply awK) | ((with_reducible first | apply awn | refine awQ ?_ | refine awR ?_); intro r hr; simp only [go_sem, Nat.reduceBEq, Nat.reduceLT, e1] at hr; subst hr; (first | refine awV ?_ ?_ | refine zM ?_ ?_ | (refine zh (fun h => ?_) (fun h => ?_) <;> (try simp only [go_sem, reduceCtorEq] at h) <;> (try (exfalso; omega))))))) <;> (try omega)
         all_goals rfl
     ·refine zE (zb _) Tryz.func33 rfl rfl (by rw [Tryz.results33]) Tryz.ntmps33 rfl fun E => ?_
      (repeat' (first | exact trivial | (with_reducible first | apply awA | apply awB | apply awC | apply awD | apply awF | apply awG | apply awI | apply awJ) | (refine zA (id := 3) (t := (.node [0, 1, 2, 3, 4, 5, 6, 7, 8, 9, 10, 11, 12, 13, 14, 15, 16, 17, 18, 19, 20, 21, 22, 23, 24, 25, 26, 27, 28, 29, 30, 31] [])) (drR [2, 6, 5] [] []) zH (by kernel_rfl) (by kernel_rfl) (fun _ _ h => h) ?_) | (refine zB (by simp only [go_sem]; exact rfl) ?_) | (refine zD (by simp only [go_sem]; exact rfl) ?_) | refine zl ?_ | refine zq ?_ ?_ | exact zC | ((with_reducible first | apply awn | apply awo | apply awp | refine awQ ?_ | refine awR ?_); intro r hr; simp only [go_sem, Nat.reduceBEq, Nat.reduceLT, Nat.reduceLeDiff, Nat.reduceAdd, Nat.reduceMul, reduceCtorEq, zk, gk, zd, g0, Int.reduceToNat, Int.reduceLT, Int.reduceLE] at hr; subst hr; (first | refine caA (fun _ => hf) rfl ?_ ?_ ?_ | refine caA (fun _ => hm0) rfl ?_ ?_ ?_ | refine caA (fun _ => hm1) rfl ?_ ?_ ?_ | refine caA (fun _ => hm2) rfl ?_ ?_ ?_ | refine awV ?_ ?_ | refine zM ?_ ?_ | (refine zh (fun h => ?_) (fun h => ?_) <;> (try simp only [go_sem, reduceCtorEq] at h) <;> (try (exfalso; omega))))))) <;> (try omega)
      all_goals first
       | exact (hO (.inl (by assumption))).elim
       | exact (hO (.inr (by assumption))).elim
       | (unfold jS; rw [if_pos (show nm = w8 by assumption)]; rfl)
       | (unfold jS; rw [if_neg (show ¬ nm = w8 by assumption), if_pos (show nm = xT by assumption)]; rfl)
       | (unfold jS; rw [if_neg (show ¬ nm = w8 by assumption), if_neg (show ¬ nm = xT by assumption), if_pos (show nm = vA by assumption)]; rfl)
       | (unfold jS; rw [if_neg (show ¬ nm = w8 by assumption), if_neg (show ¬ nm = xT by assumption), if_neg (show ¬ nm = vA by assumption), if_neg hO]; rfl)
       | skip
end
section
open Go.RowKit
abbrev vFa (q : Int × Int) : AV := .agg [vI q.1, vI q.2]
def z8 (p : Nat → Bool) : Nat → Nat → Option Nat
 | _, 0 => none
 | i, n + 1 => if p i = true then z8 p (i + 1) n else some i
def xA (n : Nat) (m : Int) : Bool := inF m 0 ((n : Int) - 1)
def x8 (e : Bool) (C : List InsM) (N : List Int) : Int × Int :=
 if 1048576 < C.length ∨ 1048576 < N.length then (4, 0)
 else match z8 (yE e C N) 0 C.length with
  | some i => (140, i)
  | none =>
   match z8 (fun i => xA C.length (N.getD i 0)) 0 N.length with
   | some i => (3, i)
   | none => (0, 0)
theorem ZS (e : Bool) (C : List InsM) (N : List Int) (hC : C.length ≤ 140737488355328) (hN : N.length ≤ 140737488355328) : zQ Tryz.prog 22 [pG e C N] (fun r => r = vFa (x8 e C N)) := by
 unfold x8
 by_cases h1 : 1048576 < C.length
 ·have e1 : ((C.length : Int) > 1048576) = True := eq_true (by omega)
  rw [if_pos (.inl h1)]
  unfold pG
  refine zE (zb _) Tryz.func22 rfl rfl (by rw [Tryz.results22]) Tryz.ntmps22 rfl fun E => ?_
  (repeat' (first | exact trivial | (with_reducible first | apply awA | apply awD | apply awF | apply awG) | ((with_reducible first | apply awn | refine awQ ?_ | refine awR ?_); intro r hr; simp only [go_sem, Nat.reduceBEq, Nat.reduceLT, Nat.reduceLeDiff, Nat.reduceAdd, Nat.reduceMul, reduceCtorEq, zd, zp, e1] at hr; subst hr; (first | refine awV ?_ ?_ | refine zM ?_ ?_ | (refine zh (fun h => ?_) (fun h => ?_) <;> (try simp only [go_sem, reduceCtorEq] at h) <;> (try (exfalso; omega))))))) <;> (try omega)
  all_goals rfl
 have e1 : ((C.length : Int) > 1048576) = False := eq_false (by omega)
 by_cases h2 : 1048576 < N.length
 ·have e2 : ((N.length : Int) > 1048576) = True := eq_true (by omega)
  rw [if_pos (.inr h2)]
  unfold pG
  refine zE (zb _) Tryz.func22 rfl rfl (by rw [Tryz.results22]) Tryz.ntmps22 rfl fun E => ?_
  (repeat' (first | exact trivial | (with_reducible first | apply awA | apply awD | apply awF | apply awG) | ((with_reducible first | apply awn | refine awQ ?_ | refine awR ?_); intro r hr; simp only [go_sem, Nat.reduceBEq, Nat.reduceLT, Nat.reduceLeDiff, Nat.reduceAdd, Nat.reduceMul, reduceCtorEq, zd, zp, e1, e2] at hr; subst hr; (first | refine awV ?_ ?_ | refine zM ?_ ?_ | (refine zh (fun h => ?_) (fun h => ?_) <;> (try simp only [go_sem, reduceCtorEq] at h) <;> (try (exfalso; omega))))))) <;> (try omega)
  all_goals rfl
 have e2 : ((N.length : Int) > 1048576) = False := eq_false (by omega)
 rw [if_neg (by omega)]
 have hr := fun k hk => Um e C N (by omega) (by omega) k hk
 obtain ⟨G, hG⟩ : ∃ G, (match z8 (yE e C N) 0 C.length with
  | some i => ((140 : Int), (i : Int))
  | none =>
   match z8 (fun i => xA C.length (N.getD i 0)) 0 N.length with
   | some i => (3, i)
   | none => (0, 0)) = G := ⟨_, rfl⟩
 rw [hG]
 unfold pG at *
 refine zE (zb _) Tryz.func22 rfl rfl (by rw [Tryz.results22]) Tryz.ntmps22 rfl fun E => ?_
 (repeat' (first | exact trivial | (with_reducible first | apply awA | apply awB | apply awC | apply awF) | ((with_reducible first | apply awn | refine awQ ?_); intro r hr; simp only [go_sem, Nat.reduceBEq, Nat.reduceLT, Nat.reduceLeDiff, Nat.reduceAdd, Nat.reduceMul, reduceCtorEq, zd, zp, e1, e2] at hr; subst hr; (first | refine awV ?_ ?_ | (refine zh (fun h => ?_) (fun h => ?_) <;> (try simp only [go_sem, reduceCtorEq] at h) <;> (try (exfalso; omega))))))) <;> (try omega)
 refine zI [1, 2, 19, 20] [1, 2] (fun i : Nat => ⟨[(1, true, .ptr 1 1 0 0), (2, true, .ptr 1 2 0 0), (19, true, vI C.length), (20, true, vI i)], [(1, .var [vB e, .lst 4 (zF C), .lst 1 (v8 N)]), (2, .var [vI 0, vI 0])]⟩)
  (fun i => i ≤ C.length ∧ z8 (yE e C N) i (C.length - i) = z8 (yE e C N) 0 C.length) (fun i => C.length - i) 0 (by simp only [go_sem, Nat.reduceBEq] <;> exact rfl) ⟨Nat.zero_le _, rfl⟩ ?_
 intro i ⟨hi, hinv⟩
 have hwi := zy (n := (i : Int) + 1) (by omega)
 by_cases hlt : i < C.length
 ·have e3 : ((i : Int) < (C.length : Int)) = True := eq_true (by omega)
  have hri := hr i hlt
  obtain ⟨m, hm⟩ : ∃ m, C.length - i = m + 1 := ⟨C.length - i - 1, by omega⟩
  rw [hm] at hinv
  unfold z8 at hinv
  cases hb : yE e C N i with
  | true =>
   rw [hb] at hri
   rw [if_pos hb] at hinv
   (repeat' (first | exact trivial | (with_reducible first | apply awA | apply awB | apply awC | apply awF | apply awI) | ((with_reducible first | apply awn | apply awo | refine awQ ?_); intro r hr; simp only [go_sem, Nat.reduceBEq, Nat.reduceLT, Nat.reduceLeDiff, Nat.reduceAdd, Nat.reduceMul, e3, hwi] at hr; subst hr; (first | refine caA (fun _ => hri) rfl ?_ ?_ ?_ | refine awV ?_ ?_ | (refine zh (fun h => ?_) (fun h => ?_) <;> (try simp only [go_sem, reduceCtorEq] at h) <;> (try (exfalso; omega))))))) <;> (try omega)
   refine ⟨i + 1, ?_, ⟨hlt, ?_⟩, by omega⟩
   ·simp only [go_sem, Nat.reduceBEq]
    try exact rfl
   ·rw [show C.length - (i + 1) = m by omega, hinv]
    cases hx : C.length with
    | zero => omega
    | succ z => rfl
  | false =>
   rw [hb] at hri
   rw [if_neg (by rw [hb]; decide)] at hinv
   have hG2 : ((140 : Int), (i : Int)) = G := by
    rw [← hG]
    have : z8 (yE e C N) 0 C.length = some i := by
     rw [hinv]
     cases hx : C.length with
     | zero => omega
     | succ z => rfl
    rw [this]
   rw [← hG2]
   (repeat' (first | exact trivial | (with_reducible first | apply awA | apply awB | apply awC | apply awD | apply awF | apply awG | apply awJ) | ((with_reducible first | apply awn | apply awo | refine awQ ?_ | refine awR ?_); intro r hr; simp only [go_sem, Nat.reduceBEq, Nat.reduceLT, Nat.reduceLeDiff, Nat.reduceAdd, Nat.reduceMul, e3] at hr; subst hr; (first | refine caA (fun _ => hri) rfl ?_ ?_ ?_ | refine awV ?_ ?_ | refine zM ?_ ?_ | (refine zh (fun h => ?_) (fun h => ?_) <;> (try simp only [go_sem, reduceCtorEq] at h) <;> (try (exfalso; omega))))))) <;> (try omega)
   all_goals rfl
 ·have e3 : ((i : Int) < (C.length : Int)) = False := eq_false (by omega)
  rw [show C.length - i = 0 by omega] at hinv
  have hn : z8 (yE e C N) 0 C.length = none := by rw [← hinv]; rfl
  rw [hn] at hG
  clear hinv hr
  (repeat' (first | exact trivial | (with_reducible first | apply awA | apply awB | apply awE | apply awF | apply awH | apply awK) | ((with_reducible first | apply awn | refine awQ ?_); intro r hr; simp only [go_sem, Nat.reduceBEq, Nat.reduceLT, Nat.reduceLeDiff, Nat.reduceAdd, Nat.reduceMul, e3, zp] at hr; subst hr; (first | refine awV ?_ ?_ | (refine zh (fun h => ?_) (fun h => ?_) <;> (try simp only [go_sem, reduceCtorEq] at h) <;> (try (exfalso; omega))))))) <;> (try omega)
  refine zI [1, 2, 31, 32, 33] [1, 2] (fun i : Nat => ⟨[(1, true, .ptr 1 1 0 0), (2, true, .ptr 1 2 0 0), (31, true, .lst 1 (v8 N)), (32, true, vI N.length), (33, true, vI i)], [(1, .var [vB e, .lst 4 (zF C), .lst 1 (v8 N)]), (2, .var [vI 0, vI 0])]⟩)
   (fun i => i ≤ N.length ∧ z8 (fun i => xA C.length (N.getD i 0)) i (N.length - i) = z8 (fun i => xA C.length (N.getD i 0)) 0 N.length) (fun i => N.length - i) 0 (by simp only [go_sem, Nat.reduceBEq] <;> exact rfl) ⟨Nat.zero_le _, rfl⟩ ?_
  clear e3 hwi hlt hi i
  intro i ⟨hi, hinv⟩
  have hwi := zy (n := (i : Int) + 1) (by omega)
  have zi : ((i : Int)).toNat = i := by omega
  have hwc := zy (n := (C.length : Int) - 1) (by omega)
  by_cases hlt : i < N.length
  ·have e3 : ((i : Int) < (N.length : Int)) = True := eq_true (by omega)
   have gi := xb hlt
   have hgd : N.getD i 0 = N[i] := by simp [List.getD, hlt]
   have hin := y3 N[i] 0 ((C.length : Int) - 1)
   obtain ⟨m, hm⟩ : ∃ m, N.length - i = m + 1 := ⟨N.length - i - 1, by omega⟩
   rw [hm] at hinv
   unfold z8 at hinv
   rw [hgd] at hinv
   cases hb : inF N[i] 0 ((C.length : Int) - 1) with
   | true =>
    rw [hb] at hin
    rw [if_pos (show xA C.length N[i] = true from hb)] at hinv
    (repeat' (first | exact trivial | (with_reducible first | apply awA | apply awB | apply awC | apply awF | apply awI) | ((with_reducible first | apply awn | apply awo | refine awQ ?_); intro r hr; simp only [go_sem, Nat.reduceBEq, Nat.reduceLT, Nat.reduceLeDiff, Nat.reduceAdd, Nat.reduceMul, e3, zi, hwi, hwc, gi, zd, zp] at hr; subst hr; (first | refine caA (fun _ => hin) rfl ?_ ?_ ?_ | refine awV ?_ ?_ | (refine zh (fun h => ?_) (fun h => ?_) <;> (try simp only [go_sem, reduceCtorEq] at h) <;> (try (exfalso; omega))))))) <;> (try omega)
    refine ⟨i + 1, ?_, ⟨hlt, ?_⟩, by omega⟩
    ·simp only [go_sem, Nat.reduceBEq]
     try exact rfl
    ·rw [show N.length - (i + 1) = m by omega, hinv]
     cases hx : N.length with
     | zero => omega
     | succ z => rfl
   | false =>
    rw [hb] at hin
    rw [if_neg (by unfold xA; rw [hb]; decide)] at hinv
    have hG2 : ((3 : Int), (i : Int)) = G := by
     rw [← hG]
     have : z8 (fun i => xA C.length (N.getD i 0)) 0 N.length = some i := by
      rw [hinv]
      cases hx : N.length with
      | zero => omega
      | succ z => rfl
     rw [this]
    rw [← hG2]
    (repeat' (first | exact trivial | (with_reducible first | apply awA | apply awB | apply awC | apply awD | apply awF | apply awG | apply awJ) | ((with_reducible first | apply awn | apply awo | refine awQ ?_ | refine awR ?_); intro r hr; simp only [go_sem, Nat.reduceBEq, Nat.reduceLT, Nat.reduceLeDiff, Nat.reduceAdd, Nat.reduceMul, e3, zi, hwc, gi, zd, zp] at hr; subst hr; (first | refine caA (fun _ => hin) rfl ?_ ?_ ?_ | refine awV ?_ ?_ | refine zM ?_ ?_ | (refine zh (fun h => ?_) (fun h => ?_) <;> (try simp only [go_sem, reduceCtorEq] at h) <;> (try (exfalso; omega))))))) <;> (try omega)
    all_goals rfl
  ·have e3 : ((i : Int) < (N.length : Int)) = False := eq_false (by omega)
   rw [show N.length - i = 0 by omega] at hinv
   have hn : z8 (fun i => xA C.length (N.getD i 0)) 0 N.length = none := by rw [← hinv]; rfl
   rw [hn] at hG
   rw [← hG]
   (repeat' (first | exact trivial | (with_reducible first | apply awA | apply awD | apply awE | apply awF | apply awH | apply awK) | ((with_reducible first | apply awn | refine awQ ?_ | refine awR ?_); intro r hr; simp only [go_sem, Nat.reduceBEq, Nat.reduceLT, Nat.reduceLeDiff, Nat.reduceAdd, Nat.reduceMul, e3] at hr; subst hr; (first | refine awV ?_ ?_ | refine zM ?_ ?_ | (refine zh (fun h => ?_) (fun h => ?_) <;> (try simp only [go_sem, reduceCtorEq] at h) <;> (try (exfalso; omega))))))) <;> (try omega)
   all_goals rfl
end
section
open Go.RowKit
section
variable {α : Type}
theorem YU (c : Nat) (k : Int) (a : α) : ∀ (L : List (Nat × Int × α)) (k' : Int), mf k' (xX c k a L) = if k' = k then some a else mf k' L
 | [], k' => by
  by_cases h : k' = k
  ·subst h; simp [xX, mf]
  ·simp [xX, mf, h, Ne.symm h]
 | (b, k0, a0) :: L, k' => by
  by_cases h0 : k0 = k
  ·subst h0
   by_cases h : k' = k0
   ·subst h; simp [xX, mf]
   ·simp [xX, mf, h, Ne.symm h]
  ·have ih := YU c k a L k'
   simp only [xX, if_neg h0, mf, ih]
   by_cases h : k' = k
   ·subst h; simp [h0]
   ·by_cases h1 : k0 = k'
    ·simp [h1, h]
    ·simp [h1, h]
theorem Xw (k : Int) : ∀ (L : List (Nat × Int × α)), (YE k L).Sublist L
 | [] => .slnil
 | e :: L => by
  unfold YE
  split
  ·exact List.sublist_cons_self _ _
  ·exact (Xw k L).cons_cons _
theorem Uz (k : Int) : ∀ (L : List (Nat × Int × α)), (L.map (·.2.1)).Nodup → ∀ k', mf k' (YE k L) = if k' = k then none else mf k' L
 | [], _, k' => by simp [YE, mf]
 | (b, k0, a0) :: L, hn, k' => by
  rw [List.map_cons, List.nodup_cons] at hn
  unfold YE
  by_cases h0 : k0 = k
  ·subst h0
   rw [if_pos rfl]
   by_cases h : k' = k0
   ·subst h; rw [if_pos rfl, jU]; exact hn.1
   ·rw [if_neg h]; simp [mf, Ne.symm h]
  ·rw [if_neg h0]
   simp only [mf, Uz k L hn.2 k']
   by_cases h : k' = k
   ·subst h; simp [h0]
   ·simp [h]
theorem vW {k : Int} {a : α} : ∀ {L : List (Nat × Int × α)}, mf k L = some a → ∃ b, (b, k, a) ∈ L
 | [], h => by cases h
 | (b, k0, a0) :: L, h => by
  unfold mf at h
  split at h
  ·rename_i h0
   subst h0
   injection h with h
   subst h
   exact ⟨b, .head _⟩
  ·obtain ⟨b', hb⟩ := vW h
   exact ⟨b', .tail _ hb⟩
end
def yU (M : List (Nat × Int × Unit)) : List Nat := M.map fun e => e.2.1.toNat
def lsF (l : List Nat) : AV := .lst 1 (v8 (yo l))
abbrev mL (L : List (Nat × Int × List Nat)) : List (Nat × AV × AV) := mI lsF L
def atL (L : List (Nat × Int × List Nat)) (k : Nat) : List Nat := (mf (k : Int) L).getD []
abbrev mW (W : List (Nat × Int × Int)) : List (Nat × AV × AV) := mI (fun z => vI z) W
def wq (W : List (Nat × Int × Int)) (k : Nat) : Int := (mf (k : Int) W).getD 0
theorem uV (d : Nat) (L : List (Nat × Int × List Nat)) : mapM (AV.kill d) (mL L) = mL L := wC (f := lsF) (fun _ => rfl) L
theorem zaR (K V : List Nat) (L : List (Nat × Int × List Nat)) : mapM (AV.cut K V) (mL L) = mL L := wC (f := lsF) (fun _ => rfl) L
theorem Xx (r : List (Nat × Nat)) (L : List (Nat × Int × List Nat)) : mapM (AV.ren r) (mL L) = mL L := wC (f := lsF) (fun _ => rfl) L
theorem UA (d : Nat) (L : List (Nat × Int × Int)) : mapM (AV.kill d) (mW L) = mW L := wC (f := fun z => vI z) (fun _ => rfl) L
theorem zbp (K V : List Nat) (L : List (Nat × Int × Int)) : mapM (AV.cut K V) (mW L) = mW L := wC (f := fun z => vI z) (fun _ => rfl) L
theorem zbq (r : List (Nat × Nat)) (L : List (Nat × Int × Int)) : mapM (AV.ren r) (mW L) = mW L := wC (f := fun z => vI z) (fun _ => rfl) L
theorem UB (x : Option (List Nat)) : (X8 false x lsF (.slice none 0 0)).up (lsF (x.getD [])) := by
 cases x with
 | none => exact AV.up_nil 1
 | some l => exact AV.up_rfl _
theorem q9 (x : Option Int) : X8 false x (fun z => vI z) (.int .i64 0) = vI (x.getD 0) := by cases x <;> rfl
theorem Kd (c : Nat) (M : List (Nat × Int × Unit)) : yb Tryz.prog 82 [.map 10003] [(10003, .mapr c (mK M))] (.map 7) [(7, .mapr c (mK M)), (10003, .mapr c (mK M))] := by
 refine zJ (zb _) Tryz.func82 rfl rfl (by rw [Tryz.results82]) Tryz.ntmps82 rfl fun E => ?_
 (repeat' (first | exact trivial | (with_reducible first | apply awA | apply awC | apply awD | apply awF) | ((with_reducible first | apply awn | apply awo | refine awQ ?_ | refine awT ?_); intro r hr; simp only [go_sem, Nat.reduceBEq, Nat.reduceLT, yn] at hr; subst hr; (first | refine awV ?_ ?_ | refine awW ?_ ?_ | refine zP ?_ ?_ ?_ | (refine zh (fun h => ?_) (fun h => ?_) <;> (try simp only [go_sem, reduceCtorEq] at h) <;> (try (exfalso; omega))))) | (refine JF (zb _) rfl rfl ⟨by decide, by decide⟩ rfl rfl rfl rfl t78 rfl ?_) | (refine VP (d := 10003) (L := M) (f := fun _ => AV.dead) rfl rfl rfl ⟨by decide, by decide⟩ rfl rfl rfl (fun _ => rfl) Tryz.func103 (by kernel_rfl) (by kernel_rfl) (by kernel_rfl) (by kernel_rfl) ?_))) <;> (try omega)
 all_goals first | exact AV.up_rfl _ | (repeat first | exact zo | refine zn rfl ?_)
structure PeeledI (M : List (Nat × Int × Unit)) (on : Nat → List Nat) (M' : List (Nat × Int × Unit)) : Prop where
 sub : M'.Sublist M
 cy : ∀ C, Cyc (yU M) on C → ∀ x, C x → (x : Int) ∈ M'.map (·.2.1)
structure MapOK (c : Nat) (M : List (Nat × Int × Unit)) : Prop where
 nd : (M.map (·.1)).Nodup
 lt : ∀ e ∈ M, e.1 < c
 kd : (M.map (·.2.1)).Nodup
 pos : ∀ e ∈ M, 0 ≤ e.2.1
 len : M.length ≤ 1048576
theorem MapOK.sub {c : Nat} {M M' : List (Nat × Int × Unit)} (h : MapOK c M) (hs : M'.Sublist M) : MapOK c M' :=
 ⟨h.nd.sublist (hs.map _), fun e he => h.lt e (hs.mem he), h.kd.sublist (hs.map _), fun e he => h.pos e (hs.mem he), Nat.le_trans hs.length_le h.len⟩
theorem MapOK.mem {c : Nat} {M : List (Nat × Int × Unit)} (h : MapOK c M) (k : Nat) : k ∈ yU M ↔ mf (k : Int) M = some () := by
 constructor
 ·intro hk
  obtain ⟨e, he, h1⟩ := List.mem_map.1 hk
  have h2 := h.pos e he
  have h3 : e.2.1 = (k : Int) := by omega
  cases hq : mf (k : Int) M with
  | some a => rfl
  | none =>
   rw [jU] at hq
   exact absurd (by rw [← h3]; exact List.mem_map.2 ⟨e, he, rfl⟩) hq
 ·intro hk
  obtain ⟨b, hb⟩ := vW hk
  exact List.mem_map.2 ⟨_, hb, by simp⟩
end
section
open Go.RowKit
theorem UC {K l : List Nat} {j m : Nat} (h : l[j]? = some m) : u7 K [] (l.take (j + 1)) = u7 K [] (l.take j) + if m ∈ K then 1 else 0 := by
 have hlt := zG h
 have hm : l[j] = m := by rw [List.getElem?_eq_getElem hlt] at h; injection h
 unfold u7
 rw [List.take_succ_eq_append_getElem hlt, List.filter_append, List.length_append, hm]
 by_cases hk : m ∈ K <;> simp [hk]
theorem UD (K g l : List Nat) : u7 K g l ≤ l.length := List.length_filter_le _ _
theorem ka (c : Nat) (k : Nat) (a : Int) (W : List (Nat × Int × Int)) (y : Nat) : wq (xX c (k : Int) a W) y = if y = k then a else wq W y := by
 unfold wq
 rw [YU]
 by_cases h : y = k
 ·subst h; simp
 ·rw [if_neg (by omega), if_neg h]
theorem yw {α : Type} [DecidableEq α] : ∀ {V M : List α}, V.Nodup → (∀ e ∈ V, e ∈ M) → V.length ≤ M.length
 | [], M, _, _ => Nat.zero_le _
 | a :: V, M, hn, h => by
  rw [List.nodup_cons] at hn
  have ha := h a (.head _)
  have h1 := yw (V := V) (M := M.erase a) hn.2 fun e he => (List.mem_erase_of_ne (by rintro rfl; exact hn.1 he)).2 (h e (.tail _ he))
  have h2 := List.length_erase_of_mem ha
  have h3 := List.length_pos_of_mem ha
  rw [List.length_cons]
  omega
theorem yB {α β : Type} {f : α → β} {l : List α} (h : (l.map f).Nodup) {a b : α} (ha : a ∈ l) (hb : b ∈ l) (he : f a = f b) : a = b := by
 induction l with
 | nil => cases ha
 | cons x l ih =>
  rw [List.map_cons, List.nodup_cons] at h
  rcases List.mem_cons.1 ha with e1 | h1
  ·rcases List.mem_cons.1 hb with e2 | h2
   ·rw [e1, e2]
   ·exact absurd (by rw [← e1, he]; exact List.mem_map.2 ⟨b, h2, rfl⟩) h.1
  ·rcases List.mem_cons.1 hb with e2 | h2
   ·exact absurd (by rw [← e2, ← he]; exact List.mem_map.2 ⟨a, h1, rfl⟩) h.1
   ·exact ih h.2 h1 h2
theorem Xy (c c1 c2 nn : Nat) (M : List (Nat × Int × Unit)) (hM : MapOK c M) (LO LB : List (Nat × Int × List Nat)) (hnn : nn ≤ 1048576) (hlt : ∀ k ∈ yU M, k < nn) (hLO : ∀ k, (atL LO k).length ≤ 17000000000000) (hLB : ∀ k, (atL LB k).length ≤ 17000000000000)
  (hc : ∀ x y, (atL LO x).count y = (atL LB y).count x) :
  yx Tryz.prog 65 [.map 10003, .map 10006, .map 10007] [(10003, .mapr c (mK M)), (10006, .mapr c1 (mL LO)), (10007, .mapr c2 (mL LB))] (PeeledI M (atL LO)) (fun _ => .map 21)
   (fun M' => [(10003, .mapr c (mK M)), (10006, .mapr c1 (mL LO)), (10007, .mapr c2 (mL LB)), (21, .mapr c (mK M'))]) := by
 have hcl := Kd c M
 generalize hK : yU M = K at hlt
 have hlen := hM.len
 refine xq (zb _) Tryz.func65 rfl rfl (by rw [Tryz.results65]) Tryz.ntmps65 rfl fun E => ?_
 (repeat' (first | exact trivial | (with_reducible first | apply awA | apply awB | apply awF) | ((with_reducible first | refine awN (zb _) [4000022] ?_ | refine awO (zb _) [4000022] ?_); intro r hr; simp only [go_sem, Nat.reduceBEq, Nat.reduceLT, Nat.reduceAdd, yn, z6, uV, zaR] at hr; subst hr; (first | refine awV ?_ ?_ | refine awW ?_ ?_)) | (refine zz [(10003, 10003)] [(7, 21), (10003, 10003)] [21] [10003] ?_; intro r hr; simp only [go_sem, Nat.reduceBEq, Nat.reduceLT, z6] at hr; subst hr; refine zR (hcl) rfl rfl (by first | exact .inl rfl | exact .inr rfl) ?_ (.inl rfl) ?_) | (refine wV (zb _) (u := 24) rfl rfl rfl ⟨by decide, by decide⟩ rfl rfl t78 rfl rfl (by decide) ?_))) <;> (try omega)
 refine xi 9 3 1 56 (.inl (by decide)) (by simp only [go_sem, Nat.reduceBEq]) ?_
 refine zI [1, 2, 7, 8, 9, 24] [10003, 10006, 10007, 21, 22, 24, 56] (fun q : List (Nat × Int × Unit) × Nat × List (Nat × Int × Int) × List Nat => ⟨[(1, true, .map 10006), (2, true, .map 10007), (7, true, .map 21), (8, true, .map 22), (9, true, .ref 3 1 56 0 q.2.2.2.length), (24, true, .ptr 1 24 0 0)],
  [(10003, .mapr c (mK M)), (10006, .mapr c1 (mL LO)), (10007, .mapr c2 (mL LB)), (21, .mapr c (mK M)), (22, .mapr q.2.1 (mW q.2.2.1)), (24, .iter 21 true c (q.1.map (·.1))), (56, .row 3 1 (v8 (yo q.2.2.2)))]⟩)
  (fun q => (∀ e ∈ q.1, e ∈ M) ∧ (q.1.map (·.1)).Nodup ∧ (∀ k, wq q.2.2.1 k = if k ∈ yU q.1 then (u7 K [] (atL LO k) : Int) else 0) ∧ q.2.2.2.Nodup ∧ ∀ k, k ∈ q.2.2.2 ↔ k ∈ yU q.1 ∧ u7 K [] (atL LO k) = 0) (fun q => M.length - q.1.length) ([], 0, [], [])
  (by simp only [yn, uV, AState.nilrow, go_sem, Nat.reduceBEq, Nat.reduceLT] <;> exact rfl) ⟨fun e he => (by cases he), List.nodup_nil, fun k => rfl, List.nodup_nil, fun k => by simp [yU]⟩ ?_
 intro ⟨V, cw, W, b⟩ ⟨hV, hVn, hW, hbn, hb⟩
 simp only at hV hVn hW hbn hb ⊢
 have hVl : V.length ≤ M.length := by
  refine yw ?_ hV
  rw [List.Nodup, List.pairwise_map] at hVn
  exact hVn.imp fun h e => h (by rw [e])
 have hbK : ∀ k ∈ b, k ∈ K := fun k hk => by
  obtain ⟨e, he, rfl⟩ := List.mem_map.1 ((hb k).1 hk).1
  rw [← hK]
  exact List.mem_map.2 ⟨e, hV e he, rfl⟩
 have hbl : b.length ≤ nn := yV hbn fun k hk => hlt k (hbK k hk)
 (repeat' (first | exact trivial | (with_reducible apply awA) | ((with_reducible apply awn); intro r hr; simp only [go_sem, Nat.reduceBEq] at hr; subst hr; (first | refine awW ?_ ?_)) | (refine uj (d := 21) (u := 24) (L := M) (f := fun _ => AV.dead) rfl rfl ⟨by decide, by decide⟩ rfl rfl rfl rfl hM.lt rfl (fun h0 => xI ?_) (fun x hx hxn => xI ?_)))) <;> (try omega)
 ·refine ⟨?_⟩
  have hVK : ∀ k, k ∈ yU V ↔ k ∈ K := fun k => by
   rw [← hK]
   constructor
   ·intro h
    obtain ⟨e, he, rfl⟩ := List.mem_map.1 h
    exact List.mem_map.2 ⟨e, hV e he, rfl⟩
   ·intro h
    obtain ⟨e, he, rfl⟩ := List.mem_map.1 h
    obtain ⟨e', he', h2⟩ := List.mem_map.1 (h0 e he)
    have : e' = e := yB hM.nd (hV e' he') he h2
    subst this
    exact List.mem_map.2 ⟨e', he', rfl⟩
  have hp : Peel K (atL LO) b 0 (wq W) := Peel.init hbn (fun x => by rw [hb, hVK]) fun x hx => by rw [hW, if_pos ((hVK x).2 hx)]
  have hL0 : ∀ k : Nat, mf (k : Int) M = if k ∈ K ∧ k ∉ b.take 0 then some () else none := fun k => by
   rw [List.take_zero]
   by_cases hk : k ∈ K
   ·rw [if_pos ⟨hk, by simp⟩]; exact (hM.mem k).1 (by rw [hK]; exact hk)
   ·rw [if_neg (fun h => hk h.1)]
    cases hq : mf (k : Int) M with
    | none => rfl
    | some a => exact absurd (by rw [← hK]; exact (hM.mem k).2 hq) hk
  clear hW hb hV hVn h0 hVK hVl hbK hbl hbn
  (repeat' (first | exact trivial | (with_reducible first | apply awA | apply awB | apply awE | apply awF | apply awH | apply awK) | ((with_reducible first | apply awn | apply awo | refine awQ ?_); intro r hr; simp only [go_sem, Nat.reduceBEq, Nat.reduceLT] at hr; subst hr; (first | refine awV ?_ ?_ | (refine zh (fun h => ?_) (fun h => ?_) <;> (try simp only [go_sem, reduceCtorEq] at h) <;> (try (exfalso; omega))))))) <;> (try omega)
  refine zI [2, 7, 8, 9, 15] [10003, 10006, 10007, 21, 22, 56] (fun q : Nat × List (Nat × Int × Unit) × Nat × List (Nat × Int × Int) × List Nat => ⟨[(2, true, .map 10007), (7, true, .map 21), (8, true, .map 22), (9, true, .ref 3 1 56 0 q.2.2.2.2.length), (15, true, vI q.1)],
   [(10003, .mapr c (mK M)), (10006, .mapr c1 (mL LO)), (10007, .mapr c2 (mL LB)), (21, .mapr c (mK q.2.1)), (22, .mapr q.2.2.1 (mW q.2.2.2.1)), (56, .row 3 1 (v8 (yo q.2.2.2.2)))]⟩)
   (fun q => Peel K (atL LO) q.2.2.2.2 q.1 (wq q.2.2.2.1) ∧ q.1 ≤ q.2.2.2.2.length ∧ q.2.1.Sublist M ∧ ∀ k : Nat, mf (k : Int) q.2.1 = if k ∈ K ∧ k ∉ q.2.2.2.2.take q.1 then some () else none) (fun q => nn - q.1) (0, M, cw, W, b)
   (by simp only [go_sem, Nat.reduceBEq] <;> exact rfl) ⟨hp, Nat.zero_le _, List.Sublist.refl _, hL0⟩ ?_
  clear hp hL0 W cw b V
  intro ⟨i, L, cw, W, b⟩ ⟨hp, hi, hLs, hL⟩
  simp only at hp hi hLs hL ⊢
  have hbl : b.length ≤ nn := yV hp.nd fun k hk => hlt k (hp.sub k hk)
  have hwi := zy (n := (i : Int) + 1) (by omega)
  have zi : ((i : Int)).toNat = i := by omega
  have hLd := (hM.sub hLs).kd
  by_cases hib : i < b.length
  ·have e1 : ((i : Int) < (b.length : Int)) = True := eq_true (by omega)
   obtain ⟨x, hx⟩ : ∃ x, b[i]? = some x := ⟨_, List.getElem?_eq_getElem hib⟩
   have gi := yO hx
   have hin := hp.enter (back := atL LB) hx
   have hLd2 : ∀ k : Nat, mf (k : Int) (YE (x : Int) L) = if k ∈ K ∧ k ∉ b.take (i + 1) then some () else none := fun k => by
    rw [Uz _ _ hLd, hL]
    have ht : b.take (i + 1) = b.take i ++ [x] := by
     rw [List.take_succ_eq_append_getElem hib]
     rw [List.getElem?_eq_getElem hib] at hx
     injection hx with hx
     rw [hx]
    rw [ht]
    by_cases hkx : k = x
    ·subst hkx; simp
    ·rw [if_neg (by omega)]; simp [hkx]
   have hLs2 := (Xw (x : Int) L).trans hLs
   generalize hL2 : YE (x : Int) L = L2 at hLd2 hLs2
   have hbx := hLB x
   (repeat' (first | exact trivial | (with_reducible first | apply awA | apply awB | apply awC | apply awF) | ((with_reducible first | apply awn | apply awo | refine awQ ?_); intro r hr; simp only [go_sem, Nat.reduceBEq, Nat.reduceLT, Nat.reduceLeDiff, e1, zi, gi, zp, zS, Nat.zero_add, hL2] at hr; subst hr; (first | refine awV ?_ ?_ | refine awW ?_ ?_ | (refine zh (fun h => ?_) (fun h => ?_) <;> (try simp only [go_sem, reduceCtorEq] at h) <;> (try (exfalso; omega))))) | (refine JD (zb _) (d := 21) (L := L) (f := fun _ => AV.dead) (key := (x : Int)) rfl rfl rfl rfl rfl rfl rfl t78 rfl t3 rfl rfl ?_) | (refine qT (zb _) (d := 10007) (L := LB) (f := lsF) (key := (x : Int)) (z := .slice none 0 0) (r := .lst 1 (v8 (yo (atL LB x)))) rfl rfl ⟨by decide, by decide⟩ rfl rfl rfl rfl J5 rfl t3 rfl uA rfl rfl (UB _) ?_))) <;> (try omega)
   refine zI [2, 7, 8, 9, 15, 73, 74, 75] [10003, 10006, 10007, 21, 22, 56] (fun q : Nat × Nat × List (Nat × Int × Int) × List Nat => ⟨[(2, true, .map 10007), (7, true, .map 21), (8, true, .map 22), (9, true, .ref 3 1 56 0 q.2.2.2.length), (15, true, vI i), (73, true, .lst 1 (v8 (yo (atL LB x)))), (74, true, vI (atL LB x).length), (75, true, vI q.1)],
    [(10003, .mapr c (mK M)), (10006, .mapr c1 (mL LO)), (10007, .mapr c2 (mL LB)), (21, .mapr c (mK L2)), (22, .mapr q.2.1 (mW q.2.2.1)), (56, .row 3 1 (v8 (yo q.2.2.2)))]⟩)
    (fun q => PeelIn K (atL LO) (atL LB) b q.2.2.2 i q.1 x (wq q.2.2.1) ∧ q.1 ≤ (atL LB x).length) (fun q => (atL LB x).length - q.1) (0, cw, W, b)
    (by simp only [go_sem, Nat.reduceBEq] <;> exact rfl) ⟨hin, Nat.zero_le _⟩ ?_
   clear hin hp cw hL W
   intro ⟨j, cw, W, b'⟩ ⟨hin, hj⟩
   simp only at hin hj ⊢
   have hbl' : b'.length ≤ nn := yV hin.nd fun k hk => hlt k (hin.sub k hk)
   have hwj := zy (n := (j : Int) + 1) (by omega)
   have zj : ((j : Int)).toNat = j := by omega
   by_cases hjl : j < (atL LB x).length
   ·have e2 : ((j : Int) < ((atL LB x).length : Int)) = True := eq_true (by omega)
    obtain ⟨y, hy⟩ : ∃ y, (atL LB x)[j]? = some y := ⟨_, List.getElem?_eq_getElem hjl⟩
    have gj := yO hy
    by_cases hyK : y ∈ K
    ·have hf : mf (y : Int) L2 = some () := by rw [hLd2, if_pos ⟨hyK, hin.left hc hy hyK⟩]
     have hcy := hin.cn y hyK
     have h1 := UD K (b.take i) (atL LO y)
     have h2 := hLO y
     have h3 : ((atL LB x).take j).count y ≤ (atL LB x).length := Nat.le_trans (List.count_le_length) (by rw [List.length_take]; omega)
     have hwy : IntKind.i64.wrap (wq W y - 1) = wq W y - 1 := zy (by omega)
     have hst := hin.step hc hy hyK (cnt' := wq (xX cw (y : Int) (wq W y - 1) W)) fun z => by rw [ka]
     have hcy2 : wq (xX cw (y : Int) (wq W y - 1) W) y = wq W y - 1 := by rw [ka, if_pos rfl]
     generalize hW2 : xX cw (y : Int) (wq W y - 1) W = W2 at hst hcy2
     by_cases hz : wq W y - 1 = 0
     ·rw [if_pos hz] at hst
      have ez : (wq W y - 1 = 0) = True := eq_true hz
      have ht : (v8 (yo b')).take b'.length = v8 (yo b') := by rw [yR, List.take_of_length_le (by rw [zS]; omega)]
      have ha := xy b' y
      have hl2 : (b' ++ [y]).length = b'.length + 1 := by simp
      (repeat' (first | exact trivial | (with_reducible first | apply awA | apply awB | apply awC | apply awF | apply awI) | ((with_reducible first | apply awn | apply awo | refine awQ ?_); intro r hr; simp only [go_sem, Nat.reduceBEq, Nat.reduceLT, Nat.reduceLeDiff, Nat.reduceAdd, Nat.reduceMul, e2, zj, gj, hwj, hwy, ez, hcy2, zp, zS, Nat.zero_add, ht, ha, hl2, yn, uV, UA] at hr; subst hr; (first | refine awV ?_ ?_ | refine awW ?_ ?_ | (refine zh (fun h => ?_) (fun h => ?_) <;> (try simp only [go_sem, reduceCtorEq] at h) <;> (try (exfalso; omega))))) | (refine yc (zb _) (d := 21) (L := L2) (f := fun _ => AV.dead) (key := (y : Int)) (z := .int .i64 0) rfl rfl ⟨by decide, by decide⟩ rfl rfl rfl rfl t78 rfl t3 rfl yd rfl rfl (by rw [hf]) ?_) | (refine yc (zb _) (d := 22) (L := W) (f := fun z => vI z) (key := (y : Int)) (z := .int .i64 0) (r := vI (wq W y)) rfl rfl ⟨by decide, by decide⟩ rfl rfl rfl rfl t78 rfl t3 rfl yd rfl rfl (q9 _) ?_) | (refine yc (zb _) (d := 22) (L := W2) (f := fun z => vI z) (key := (y : Int)) (z := .int .i64 0) (r := vI (wq W2 y)) rfl rfl ⟨by decide, by decide⟩ rfl rfl rfl rfl t78 rfl t3 rfl yd rfl rfl (q9 _) ?_) | (refine uP (zb _) (d := 22) (L := W) (f := fun z => vI z) (key := (y : Int)) (wq W y - 1) rfl rfl rfl rfl rfl rfl rfl rfl (.inl rfl) t78 rfl t3 rfl rfl rfl hW2 ?_))) <;> (try omega)
      refine ⟨(j + 1, vL cw (y : Int) W, W2, b' ++ [y]), ?_, ⟨hst, hjl⟩, by show (atL LB x).length - (j + 1) < (atL LB x).length - j; omega⟩
      simp only [hl2, go_sem, Nat.reduceBEq]
      try exact rfl
     ·rw [if_neg hz] at hst
      have ez : (wq W y - 1 = 0) = False := eq_false hz
      (repeat' (first | exact trivial | (with_reducible first | apply awA | apply awB | apply awC | apply awF | apply awI) | ((with_reducible first | apply awn | apply awo | refine awQ ?_); intro r hr; simp only [go_sem, Nat.reduceBEq, Nat.reduceLT, Nat.reduceLeDiff, e2, zj, gj, hwj, hwy, ez, hcy2, zp, zS, Nat.zero_add] at hr; subst hr; (first | refine awV ?_ ?_ | refine awW ?_ ?_ | (refine zh (fun h => ?_) (fun h => ?_) <;> (try simp only [go_sem, reduceCtorEq] at h) <;> (try (exfalso; omega))))) | (refine yc (zb _) (d := 21) (L := L2) (f := fun _ => AV.dead) (key := (y : Int)) (z := .int .i64 0) rfl rfl ⟨by decide, by decide⟩ rfl rfl rfl rfl t78 rfl t3 rfl yd rfl rfl (by rw [hf]) ?_) | (refine yc (zb _) (d := 22) (L := W) (f := fun z => vI z) (key := (y : Int)) (z := .int .i64 0) (r := vI (wq W y)) rfl rfl ⟨by decide, by decide⟩ rfl rfl rfl rfl t78 rfl t3 rfl yd rfl rfl (q9 _) ?_) | (refine yc (zb _) (d := 22) (L := W2) (f := fun z => vI z) (key := (y : Int)) (z := .int .i64 0) (r := vI (wq W2 y)) rfl rfl ⟨by decide, by decide⟩ rfl rfl rfl rfl t78 rfl t3 rfl yd rfl rfl (q9 _) ?_) | (refine uP (zb _) (d := 22) (L := W) (f := fun z => vI z) (key := (y : Int)) (wq W y - 1) rfl rfl rfl rfl rfl rfl rfl rfl (.inl rfl) t78 rfl t3 rfl rfl rfl hW2 ?_))) <;> (try omega)
      refine ⟨(j + 1, vL cw (y : Int) W, W2, b'), ?_, ⟨hst, hjl⟩, by show (atL LB x).length - (j + 1) < (atL LB x).length - j; omega⟩
      simp only [go_sem, Nat.reduceBEq]
      try exact rfl
    ·have hf : mf (y : Int) L2 = none := by rw [hLd2, if_neg (fun h => hyK h.1)]
     (repeat' (first | exact trivial | (with_reducible first | apply awA | apply awB | apply awC | apply awE | apply awF | apply awH | apply awK) | ((with_reducible first | apply awn | apply awo | refine awQ ?_); intro r hr; simp only [go_sem, Nat.reduceBEq, Nat.reduceLT, Nat.reduceLeDiff, e2, zj, gj, hwj, zp, zS, Nat.zero_add] at hr; subst hr; (first | refine awV ?_ ?_ | refine awW ?_ ?_ | (refine zh (fun h => ?_) (fun h => ?_) <;> (try simp only [go_sem, reduceCtorEq] at h) <;> (try (exfalso; omega))))) | (refine yc (zb _) (d := 21) (L := L2) (f := fun _ => AV.dead) (key := (y : Int)) (z := .int .i64 0) rfl rfl ⟨by decide, by decide⟩ rfl rfl rfl rfl t78 rfl t3 rfl yd rfl rfl (by rw [hf]) ?_))) <;> (try omega)
     refine ⟨(j + 1, cw, W, b'), ?_, ⟨hin.skip hy hyK, hjl⟩, by show (atL LB x).length - (j + 1) < (atL LB x).length - j; omega⟩
     simp only [go_sem, Nat.reduceBEq]
     try exact rfl
   ·have e2 : ((j : Int) < ((atL LB x).length : Int)) = False := eq_false (by omega)
    (repeat' (first | exact trivial | (with_reducible first | apply awA | apply awE | apply awF | apply awH | apply awI | apply awK) | ((with_reducible first | apply awn | refine awQ ?_); intro r hr; simp only [go_sem, Nat.reduceBEq, Nat.reduceLT, e2, hwi] at hr; subst hr; (first | refine awV ?_ ?_ | (refine zh (fun h => ?_) (fun h => ?_) <;> (try simp only [go_sem, reduceCtorEq] at h) <;> (try (exfalso; omega))))))) <;> (try omega)
    have hlv := hin.leave hc (by omega)
    obtain ⟨m, hm⟩ := hin.pre
    refine ⟨(i + 1, L2, cw, W, b'), ?_, ⟨hlv, by rw [hm, List.length_append]; show i + 1 ≤ _; omega, hLs2, fun k => by show mf (k : Int) L2 = if k ∈ K ∧ k ∉ b'.take (i + 1) then some () else none; rw [hLd2, hm, List.take_append_of_le_length (by omega)]⟩, by show nn - (i + 1) < nn - i; omega⟩
    simp only [go_sem, Nat.reduceBEq]
    try exact rfl
  ·have e1 : ((i : Int) < (b.length : Int)) = False := eq_false (by omega)
   (repeat' (first | exact trivial | (with_reducible first | apply awA | apply awD | apply awE | apply awF | apply awH | apply awK) | ((with_reducible first | apply awn | refine awQ ?_ | refine wM ?_); intro r hr; simp only [go_sem, Nat.reduceBEq, Nat.reduceLT, e1] at hr; subst hr; (first | refine awV ?_ ?_ | refine y5 ?_ ?_ | (refine zh (fun h => ?_) (fun h => ?_) <;> (try simp only [go_sem, reduceCtorEq] at h) <;> (try (exfalso; omega))))))) <;> (try omega)
   all_goals first | (refine ⟨L, ⟨hLs, fun C hC x hx => ?_⟩, AV.up_rfl _, ?_⟩) | skip
   ·have h1 := hp.cy C (by rw [← hK]; exact hC) x hx
    have h2 := (hC x hx).1
    rw [hK] at h2
    have h3 := hL x
    rw [if_pos ⟨h2, fun hm => h1 (List.mem_of_mem_take hm)⟩] at h3
    obtain ⟨bb, hbb⟩ := vW h3
    exact List.mem_map.2 ⟨_, hbb, rfl⟩
   ·repeat first | exact zo | refine zn rfl ?_
 ·refine ⟨?_⟩
  obtain ⟨bx, kx, ux⟩ := x
  have hpos := hM.pos _ hx
  obtain ⟨k, rfl⟩ : ∃ k : Nat, kx = k := ⟨kx.toNat, by simp only at hpos; omega⟩
  have hkK : k ∈ K := by rw [← hK]; exact List.mem_map.2 ⟨_, hx, by simp⟩
  have hkV : k ∉ yU V := fun h => by
   obtain ⟨e', he', h2⟩ := List.mem_map.1 h
   have hp' := hM.pos e' (hV e' he')
   have : e' = (bx, (k : Int), ux) := yB hM.kd (hV e' he') hx (by show e'.2.1 = (k : Int); omega)
   subst this
   exact hxn (List.mem_map.2 ⟨_, he', rfl⟩)
  have hV2 : ∀ e ∈ V ++ [(bx, (k : Int), ux)], e ∈ M := fun e he => by
   rcases List.mem_append.1 he with h | h
   ·exact hV e h
   ·simp at h; subst h; exact hx
  have hVn2 : ((V ++ [(bx, (k : Int), ux)]).map (·.1)).Nodup := by
   rw [List.map_append, List.nodup_append]
   exact ⟨hVn, by simp, fun a ha b hb hab => by simp at hb; subst hb; subst hab; exact hxn ha⟩
  have hVl2 : (V ++ [(bx, (k : Int), ux)]).length ≤ M.length := by
   refine yw ?_ hV2
   rw [List.Nodup, List.pairwise_map] at hVn2
   exact hVn2.imp fun h e => h (by rw [e])
  have hkV2 : ∀ y, y ∈ yU (V ++ [(bx, (k : Int), ux)]) ↔ y ∈ yU V ∨ y = k := fun y => by simp [yU]
  have hVm : (V.map (·.1)) ++ [bx] = (V ++ [(bx, (k : Int), ux)]).map (·.1) := by simp
  have hcl0 := hLO k
  have hW0 := hW k
  rw [if_neg hkV] at hW0
  (repeat' (first | exact trivial | (with_reducible first | apply awA | apply awB | apply awC | apply awF) | ((with_reducible first | apply awn | apply awo | refine awQ ?_); intro r hr; simp only [go_sem, Nat.reduceBEq, Nat.reduceLT] at hr; subst hr; (first | refine awV ?_ ?_ | refine awW ?_ ?_ | (refine zh (fun h => ?_) (fun h => ?_) <;> (try simp only [go_sem, reduceCtorEq] at h) <;> (try (exfalso; omega))))) | (refine xl (d := 21) (u := 24) (L := M) (f := fun _ => AV.dead) (e := (bx, (k : Int), ux)) rfl rfl ⟨by decide, by decide⟩ rfl rfl rfl rfl hx hM.nd ?_) | (refine qT (zb _) (d := 10006) (L := LO) (f := lsF) (key := (k : Int)) (z := .slice none 0 0) (r := .lst 1 (v8 (yo (atL LO k)))) rfl rfl ⟨by decide, by decide⟩ rfl rfl rfl rfl J5 rfl t3 rfl uA rfl rfl (UB _) ?_))) <;> (try omega)
  refine zI [1, 2, 7, 8, 9, 24, 10, 31, 32, 33] [10003, 10006, 10007, 21, 22, 24, 56] (fun q : Nat × Nat × List (Nat × Int × Int) => ⟨[(1, true, .map 10006), (2, true, .map 10007), (7, true, .map 21), (8, true, .map 22), (9, true, .ref 3 1 56 0 b.length), (24, true, .ptr 1 24 0 0), (10, true, vI k), (31, true, .lst 1 (v8 (yo (atL LO k)))), (32, true, vI (atL LO k).length), (33, true, vI q.1)],
   [(10003, .mapr c (mK M)), (10006, .mapr c1 (mL LO)), (10007, .mapr c2 (mL LB)), (21, .mapr c (mK M)), (22, .mapr q.2.1 (mW q.2.2)), (24, .iter 21 true c (V.map (·.1) ++ [bx])), (56, .row 3 1 (v8 (yo b)))]⟩)
   (fun q => q.1 ≤ (atL LO k).length ∧ ∀ y, wq q.2.2 y = if y = k then (u7 K [] ((atL LO k).take q.1) : Int) else wq W y) (fun q => (atL LO k).length - q.1) (0, cw, W)
   (by simp only [zp, zS, go_sem, Nat.reduceBEq] <;> exact rfl) ⟨Nat.zero_le _, fun y => by
    by_cases hy : y = k
    ·subst hy; rw [if_pos rfl, hW0]; simp [u7]
    ·rw [if_neg hy]⟩ ?_
  intro ⟨j, cw', W'⟩ ⟨hj, hW'⟩
  simp only at hj hW' ⊢
  have hwj := zy (n := (j : Int) + 1) (by omega)
  have zj : ((j : Int)).toNat = j := by omega
  have hck := hW' k
  rw [if_pos rfl] at hck
  have hdl := UD K [] ((atL LO k).take j)
  rw [List.length_take] at hdl
  have hwk : IntKind.i64.wrap (wq W' k + 1) = wq W' k + 1 := zy (by omega)
  by_cases hjl : j < (atL LO k).length
  ·have e2 : ((j : Int) < ((atL LO k).length : Int)) = True := eq_true (by omega)
   obtain ⟨y, hy⟩ : ∃ y, (atL LO k)[j]? = some y := ⟨_, List.getElem?_eq_getElem hjl⟩
   have gj := yO hy
   have hdt := UC (K := K) hy
   by_cases hyK : y ∈ K
   ·have hf : mf (y : Int) M = some () := (hM.mem y).1 (by rw [hK]; exact hyK)
    rw [if_pos hyK] at hdt
    (repeat' (first | exact trivial | (with_reducible first | apply awA | apply awB | apply awC | apply awF | apply awI) | ((with_reducible first | apply awn | apply awo | refine awQ ?_); intro r hr; simp only [go_sem, Nat.reduceBEq, Nat.reduceLT, Nat.reduceLeDiff, e2, zj, gj, hwj, hwk, zp, zS, Nat.zero_add] at hr; subst hr; (first | refine awV ?_ ?_ | refine awW ?_ ?_ | (refine zh (fun h => ?_) (fun h => ?_) <;> (try simp only [go_sem, reduceCtorEq] at h) <;> (try (exfalso; omega))))) | (refine yc (zb _) (d := 21) (L := M) (f := fun _ => AV.dead) (key := (y : Int)) (z := .int .i64 0) rfl rfl ⟨by decide, by decide⟩ rfl rfl rfl rfl t78 rfl t3 rfl yd rfl rfl (by rw [hf]) ?_) | (refine yc (zb _) (d := 22) (L := W') (f := fun z => vI z) (key := (k : Int)) (z := .int .i64 0) (r := vI (wq W' k)) rfl rfl ⟨by decide, by decide⟩ rfl rfl rfl rfl t78 rfl t3 rfl yd rfl rfl (q9 _) ?_) | (refine uP (zb _) (d := 22) (L := W') (f := fun z => vI z) (key := (k : Int)) (wq W' k + 1) rfl rfl rfl rfl rfl rfl rfl rfl (.inl rfl) t78 rfl t3 rfl rfl rfl rfl ?_))) <;> (try omega)
    refine ⟨(j + 1, vL cw' (k : Int) W', xX cw' (k : Int) (wq W' k + 1) W'), ?_, ⟨hjl, fun z => ?_⟩, by show (atL LO k).length - (j + 1) < (atL LO k).length - j; omega⟩
    ·simp only [go_sem, Nat.reduceBEq]
     try exact rfl
    ·show wq (xX cw' (k : Int) (wq W' k + 1) W') z = if z = k then (u7 K [] ((atL LO k).take (j + 1)) : Int) else wq W z
     rw [ka, hdt, hck]
     by_cases hz : z = k
     ·rw [if_pos hz, if_pos hz]; omega
     ·rw [if_neg hz, if_neg hz, hW', if_neg hz]
   ·have hf : mf (y : Int) M = none := by
     cases hq : mf (y : Int) M with
     | none => rfl
     | some a => exact absurd (by rw [← hK]; exact (hM.mem y).2 hq) hyK
    rw [if_neg hyK] at hdt
    (repeat' (first | exact trivial | (with_reducible first | apply awA | apply awB | apply awC | apply awF | apply awI) | ((with_reducible first | apply awn | apply awo | refine awQ ?_); intro r hr; simp only [go_sem, Nat.reduceBEq, Nat.reduceLT, Nat.reduceLeDiff, e2, zj, gj, hwj, zp, zS, Nat.zero_add] at hr; subst hr; (first | refine awV ?_ ?_ | refine awW ?_ ?_ | (refine zh (fun h => ?_) (fun h => ?_) <;> (try simp only [go_sem, reduceCtorEq] at h) <;> (try (exfalso; omega))))) | (refine yc (zb _) (d := 21) (L := M) (f := fun _ => AV.dead) (key := (y : Int)) (z := .int .i64 0) rfl rfl ⟨by decide, by decide⟩ rfl rfl rfl rfl t78 rfl t3 rfl yd rfl rfl (by rw [hf]) ?_))) <;> (try omega)
    refine ⟨(j + 1, cw', W'), ?_, ⟨hjl, fun z => ?_⟩, by show (atL LO k).length - (j + 1) < (atL LO k).length - j; omega⟩
    ·simp only [go_sem, Nat.reduceBEq]
     try exact rfl
    ·show wq W' z = if z = k then (u7 K [] ((atL LO k).take (j + 1)) : Int) else wq W z
     rw [hdt, hW', Nat.add_zero]
  ·have e2 : ((j : Int) < ((atL LO k).length : Int)) = False := eq_false (by omega)
   have hjt : (atL LO k).take j = atL LO k := List.take_of_length_le (by omega)
   rw [hjt] at hck hW'
   have hW3 : ∀ y, wq W' y = if y ∈ yU (V ++ [(bx, (k : Int), ux)]) then (u7 K [] (atL LO y) : Int) else 0 := fun y => by
    rw [hW']
    by_cases hy : y = k
    ·subst hy; rw [if_pos rfl, if_pos ((hkV2 y).2 (.inr rfl))]
    ·rw [if_neg hy, hW]
     by_cases hyV : y ∈ yU V
     ·rw [if_pos hyV, if_pos ((hkV2 y).2 (.inl hyV))]
     ·rw [if_neg hyV, if_neg (fun h => by rcases (hkV2 y).1 h with h | h; (· exact hyV h); exact hy h)]
   by_cases hz : u7 K [] (atL LO k) = 0
   ·have ez : (wq W' k = 0) = True := eq_true (by rw [hck, hz]; rfl)
    have ht : (v8 (yo b)).take b.length = v8 (yo b) := by rw [yR, List.take_of_length_le (by rw [zS]; omega)]
    have ha := xy b k
    have hl2 : (b ++ [k]).length = b.length + 1 := by simp
    (repeat' (first | exact trivial | (with_reducible first | apply awA | apply awE | apply awF | apply awH | apply awI | apply awK) | ((with_reducible first | apply awn | apply awo | refine awQ ?_); intro r hr; simp only [go_sem, Nat.reduceBEq, Nat.reduceLT, Nat.reduceLeDiff, Nat.reduceAdd, Nat.reduceMul, e2, ez, zp, zS, ht, ha, hl2, yn, uV, UA] at hr; subst hr; (first | refine awV ?_ ?_ | refine awW ?_ ?_ | (refine zh (fun h => ?_) (fun h => ?_) <;> (try simp only [go_sem, reduceCtorEq] at h) <;> (try (exfalso; omega))))) | (refine yc (zb _) (d := 22) (L := W') (f := fun z => vI z) (key := (k : Int)) (z := .int .i64 0) (r := vI (wq W' k)) rfl rfl ⟨by decide, by decide⟩ rfl rfl rfl rfl t78 rfl t3 rfl yd rfl rfl (q9 _) ?_))) <;> (try omega)
    refine ⟨(V ++ [(bx, (k : Int), ux)], cw', W', b ++ [k]), ?_, ⟨hV2, hVn2, hW3, ?_, fun y => ?_⟩, by show M.length - (V ++ [(bx, (k : Int), ux)]).length < M.length - V.length; rw [List.length_append] at hVl2 ⊢; simp only [List.length_singleton] at hVl2 ⊢; omega⟩
    ·simp only [hVm, hl2, go_sem, Nat.reduceBEq]
     try exact rfl
    ·show (b ++ [k]).Nodup
     rw [List.nodup_append]
     exact ⟨hbn, by simp, fun z hz' b' hb' hab => by rw [List.mem_singleton] at hb'; rw [hab, hb'] at hz'; exact hkV ((hb k).1 hz').1⟩
    ·show y ∈ b ++ [k] ↔ y ∈ yU (V ++ [(bx, (k : Int), ux)]) ∧ u7 K [] (atL LO y) = 0
     rw [List.mem_append, hb, hkV2, List.mem_singleton]
     constructor
     ·rintro (⟨h1, h2⟩ | rfl)
      ·exact ⟨.inl h1, h2⟩
      ·exact ⟨.inr rfl, hz⟩
     ·rintro ⟨h1 | h1, h2⟩
      ·exact .inl ⟨h1, h2⟩
      ·exact .inr h1
   ·have ez : (wq W' k = 0) = False := eq_false (by rw [hck]; omega)
    (repeat' (first | exact trivial | (with_reducible first | apply awA | apply awC | apply awE | apply awF | apply awH | apply awI | apply awK) | ((with_reducible first | apply awn | apply awo | refine awQ ?_); intro r hr; simp only [go_sem, Nat.reduceBEq, Nat.reduceLT, e2, ez] at hr; subst hr; (first | refine awV ?_ ?_ | refine awW ?_ ?_ | (refine zh (fun h => ?_) (fun h => ?_) <;> (try simp only [go_sem, reduceCtorEq] at h) <;> (try (exfalso; omega))))) | (refine yc (zb _) (d := 22) (L := W') (f := fun z => vI z) (key := (k : Int)) (z := .int .i64 0) (r := vI (wq W' k)) rfl rfl ⟨by decide, by decide⟩ rfl rfl rfl rfl t78 rfl t3 rfl yd rfl rfl (q9 _) ?_))) <;> (try omega)
    refine ⟨(V ++ [(bx, (k : Int), ux)], cw', W', b), ?_, ⟨hV2, hVn2, hW3, hbn, fun y => ?_⟩, by show M.length - (V ++ [(bx, (k : Int), ux)]).length < M.length - V.length; rw [List.length_append] at hVl2 ⊢; simp only [List.length_singleton] at hVl2 ⊢; omega⟩
    ·simp only [hVm, go_sem, Nat.reduceBEq]
     try exact rfl
    ·show y ∈ b ↔ y ∈ yU (V ++ [(bx, (k : Int), ux)]) ∧ u7 K [] (atL LO y) = 0
     rw [hb, hkV2]
     exact ⟨fun h => ⟨.inl h.1, h.2⟩, fun h => ⟨h.1.resolve_right fun e => by subst e; exact hz h.2, h.2⟩⟩
end
section
open Go.RowKit Go.MapKept
open Go.ChangeMaps (setBlock)
def AV.lo : AV → Bool
 | .agg cs => loL cs
 | .tup cs => loL cs
 | .ref _ _ e _ _ => decide (e < 20000)
 | .rfx _ _ e _ _ _ => decide (e < 20000)
 | .ptr _ e _ _ => decide (e < 20000)
 | .map e => decide (e < 20000)
 | .v _ => true
 | .lst .. => true
 | .lsx .. => true
 | .elt .. => true
 | .slen _ => true
 | .fn _ cs => loL cs
 | .ifc _ a => a.lo
 | .dead => true
where
 loL : List AV → Bool
 | [] => true
 | c :: cs => c.lo && loL cs
theorem AV.loL_mem {cs : List AV} (h : AV.lo.loL cs = true) : ∀ c ∈ cs, c.lo = true := by
 induction cs with
 | nil => intro c hc; cases hc
 | cons c cs ih =>
  simp only [AV.lo.loL, Bool.and_eq_true] at h
  intro x hx
  rcases List.mem_cons.1 hx with rfl | hx
  ·exact h.1
  ·exact ih h.2 x hx
def AObj.lo : AObj → Prop
 | .row .. => True
 | .var cs => AV.lo.loL cs = true
 | .mapo _ => True
 | .mapr _ es => ∀ e ∈ es, e.2.2.lo = true
 | .mapl .. => True
 | .iter e .. => e < 20000
def loO : List (Nat × AObj) → Prop
 | [] => True
 | p :: l => (p.1 < 20000 ∧ p.2.lo) ∧ loO l
def loF : List (Nat × Bool × AV) → Prop
 | [] => True
 | p :: l => p.2.2.lo = true ∧ loF l
theorem KD {l : List (Nat × AObj)} (h : loO l) {d : Nat} {o : AObj} (hd : lk l d = some o) : d < 20000 ∧ o.lo := by
 induction l with
 | nil => cases hd
 | cons p l ih =>
  obtain ⟨k, a⟩ := p
  rw [zX] at hd
  by_cases hk : k = d
  ·rw [zW hk] at hd; injection hd with hd; subst hd; subst hk; exact h.1
  ·rw [zL hk] at hd; exact ih h.2 hd
theorem KE {l : List (Nat × Bool × AV)} (h : loF l) {t : Nat} {p : Bool × AV} (hd : lk l t = some p) : p.2.lo = true := by
 induction l with
 | nil => cases hd
 | cons q l ih =>
  obtain ⟨k, a⟩ := q
  rw [zX] at hd
  by_cases hk : k = t
  ·rw [zW hk] at hd; injection hd with hd; subst hd; exact h.1
  ·rw [zL hk] at hd; exact ih h.2 hd
section
variable {F F' : Nat → Prop} {β β' : Nat → Option Nat} {w w' : World}
theorem AVR.klo {a : AV} {x : Value} (u : Nat) (h : AVR F β w a x) (hlo : a.lo = true) (hF : ∀ b, F b → F' b) (hβ : ∀ e b, e < 20000 → e ≠ u → β e = some b → β' e = some b) : AVR F' β' w (a.kill u) x := by
 induction h with
 | s h =>
  cases h with
  | v h => exact .s (.v h)
  | lst g h1 h2 h3 h4 h5 h6 h7 => exact .s ((SVR.lst g h1 h2 h3 h4 h5 h6 h7).mono hF fun _ _ => rfl)
  | lsx h => exact .s ((SVR.lsx h).mono hF fun _ _ => rfl)
 | agg h1 h2 _ ih =>
  simp only [AV.kill, AV.killL_eq]
  refine .agg (by simpa using h1) h2 fun i c u' hc hu => ?_
  rw [List.getElem?_map] at hc
  rename_i cs vs _
  cases hci : cs[i]? with
  | none => rw [hci] at hc; cases hc
  | some c' => rw [hci] at hc; injection hc with hc; subst hc; exact ih i c' u' hci hu (AV.loL_mem (by simpa only [AV.lo] using hlo) c' (List.mem_of_getElem? hci))
 | tup h1 _ ih =>
  simp only [AV.kill, AV.killL_eq]
  refine .tup (by simpa using h1) fun i c u' hc hu => ?_
  rw [List.getElem?_map] at hc
  rename_i cs vs _
  cases hci : cs[i]? with
  | none => rw [hci] at hc; cases hc
  | some c' => rw [hci] at hc; injection hc with hc; subst hc; exact ih i c' u' hci hu (AV.loL_mem (by simpa only [AV.lo] using hlo) c' (List.mem_of_getElem? hci))
 | @nil t k e off =>
  by_cases he : e = u
  ·simp only [AV.kill, zW he]; exact .slen
  ·simp only [AV.kill, zL he]; exact .nil
 | @ref t k e off len c b A h1 h2 h3 h5 h6 =>
  by_cases he : e = u
  ·simp only [AV.kill, zW he]; exact .slen
  ·simp only [AV.kill, zL he]
   exact .ref (hβ e b (by simpa [AV.lo] using hlo) he h1) h2 h3 h5 h6
 | @empty t k e off A h1 =>
  by_cases he : e = u
  ·simp only [AV.kill, zW he]; exact .slen
  ·simp only [AV.kill, zL he]; exact .empty h1
 | @rfx t k e off len ext c A h ih =>
  by_cases he : e = u
  ·simp only [AV.kill, zW he]; exact .slen
  ·simp only [AV.kill, zL he] at ih ⊢; exact .rfx (ih (by simpa only [AV.lo] using hlo))
 | @ptr k e i j b h1 =>
  by_cases he : e = u
  ·simp only [AV.kill, zW he]; exact .dead
  ·simp only [AV.kill, zL he]; exact .ptr (hβ e b (by simpa [AV.lo] using hlo) he h1)
 | elt g h1 h2 h3 h4 h5 =>
  simp only [AV.kill]
  exact .elt g (hF _ h1) h2 h3 h4 (fun i j cs u hc hu => (h5 i j cs u hc hu).mono hF fun _ _ => rfl)
 | @map e b h1 =>
  by_cases he : e = u
  ·simp only [AV.kill, zW he]; exact .dead
  ·simp only [AV.kill, zL he]; exact .map (hβ e b (by simpa [AV.lo] using hlo) he h1)
 | slen => exact .slen
 | fn h0 h1 _ ih =>
  simp only [AV.kill, AV.killL_eq]
  refine .fn h0 (by simpa using h1) fun i c u' hc hu => ?_
  rw [List.getElem?_map] at hc
  rename_i f g cs vs _ _ _
  cases hci : cs[i]? with
  | none => rw [hci] at hc; cases hc
  | some c' => rw [hci] at hc; injection hc with hc; subst hc; exact ih i c' u' hci hu (AV.loL_mem (by simpa only [AV.lo] using hlo) c' (List.mem_of_getElem? hci))
 | ifc _ ih => exact .ifc (ih (by simpa only [AV.lo] using hlo))
 | dead => exact .dead
theorem xH.klo {d u : Nat} {o : AObj} (h : xH F β w d o) (hlo : o.lo) (hu : u < 20000) (hd : d < 20000) (hdu : d ≠ u) (hF : ∀ b, F b → F' b) (hβ : ∀ e b, e < 20000 → e ≠ u → β e = some b → β' e = some b) (hkid : ∀ i b, (∃ t clk es q, o = .mapl t clk es q) → β (kn d i) = some b → β' (kn d i) = some b) : xH F' β' w d (o.kill u) := by
 cases o with
 | row t k xs =>
  obtain ⟨hk, h⟩ := h
  refine ⟨hk, ?_⟩
  rcases h with h | ⟨b, arr, h1, h2, h3, h4⟩
  ·exact .inl h
  ·exact .inr ⟨b, arr, hβ d b hd hdu h1, h2, h3, fun i j cs u hc hu => by
    obtain ⟨x, hx, hr⟩ := h4 i j cs u hc hu
    exact ⟨x, hx, hr.mono hF fun _ _ => rfl⟩⟩
 | var cs =>
  obtain ⟨b, arr, t, h1, h2, h3, h4⟩ := h
  refine ⟨b, arr, t, hβ d b hd hdu h1, h2, by simpa [AV.killL_eq] using h3, fun j u hu => ?_⟩
  rw [AV.killL_eq, List.getElem?_map] at hu
  cases hc : cs[j]? with
  | none => rw [hc] at hu; cases hu
  | some u' =>
   rw [hc] at hu
   injection hu with hu
   subst hu
   obtain ⟨x, hx, hr, ho⟩ := h4 j u' hc
   exact ⟨x, hx, hr.klo _ (AV.loL_mem hlo u' (List.mem_of_getElem? hc)) hF hβ, ho⟩
 | mapo es =>
  obtain ⟨b, arr, clk, h1, h2, h3, h4⟩ := h
  exact ⟨b, arr, clk, hβ d b hd hdu h1, h2, h3, fun i e m he hm => ⟨(h4 i e m he hm).1.mono hF fun _ _ => rfl, (h4 i e m he hm).2.mono hF fun _ _ => rfl⟩⟩
 | mapr clk es =>
  obtain ⟨b, arr, h1, h2, h3, h4⟩ := h
  refine ⟨b, arr, hβ d b hd hdu h1, h2, by rw [v0]; exact h3, fun i e' m he hm => ?_⟩
  obtain ⟨e0, he0, rfl⟩ := v3 he
  obtain ⟨g1, g2, g3⟩ := h4 i e0 m he0 hm
  exact ⟨g1, g2.mono hF fun _ _ => rfl, g3.klo _ (hlo e0 (List.mem_of_getElem? he0)) hF hβ⟩
 | mapl t clk es q =>
  obtain ⟨b, arr, h1, h2, h3, h4⟩ := h
  simp only [AObj.kill]
  rw [decide_eq_true hu]
  exact ⟨b, arr, hβ d b hd hdu h1, h2, h3, fun i x m hx hm => ⟨(h4 i x m hx hm).1, (h4 i x m hx hm).2.1, fun hq => ((h4 i x m hx hm).2.2 hq).step (fun c hc => hkid i c ⟨_, _, _, _, rfl⟩ hc) fun _ _ => rfl⟩⟩
 | iter e' ok since seen =>
  obtain ⟨r, b, last, h1, h2, h3⟩ := h
  refine ⟨r, b, last, hβ d r hd hdu h1, h2, fun hok => ?_⟩
  simp only [Bool.and_eq_true, Bool.not_eq_true', beq_eq_false_iff_ne] at hok
  exact hβ e' b hlo hok.2 (h3 hok.1)
end
section
variable {P : Program} {T : Nat → Option TyD} {E : Env} {s : AState} {tm : Array Value} {w w' : World} {β β' : Nat → Option Nat} {n : Nat} {ops : Array Oper} {Q : Exit → AState → Prop} {rest : List Oper} {o : Oper} {F : Nat → Prop}
theorem SRel.owners (hs : SRel E s tm w β) (d u : Nat) (hu : u < 10000) (hlF : loF s.fr) (hlO : loO s.ob) (hinj : ∀ e f b, β' e = some b → β' f = some b → e = f) (hsub : ∀ e b, β' e = some b → ∃ e', β e' = some b ∧ (e' = e ∨ e < 15000 ∨ 20000 ≤ e) ∧ (e = e' ∨ e' < 10000 ∨ 20000 ≤ e'))
  (hkeep : ∀ e b, e < 20000 → e ≠ u → β e = some b → β' e = some b) (hkid : ∀ e i b, e ≠ d → e < 20000 → β (kn e i) = some b → β' (kn e i) = some b) :
  SRel E { fr := (s.drop u).fr, ob := rm d (s.drop u).ob } tm w β' := by
 have hF : ∀ b, FF E β w b → FF E β' w b := fun b ⟨h1, h2, h3⟩ => ⟨h1, h2, fun e he => by obtain ⟨e', h, _⟩ := hsub e b he; exact h3 e' h⟩
 have hE : ∀ e b, E.β0 e = some b → 10000 ≤ e ∧ e < 20000 := E.hβ
 refine ⟨hinj, fun e b h => ?_, hs.old, fun e o ho => ?_, fun t g a ht hg => ?_, fun t a ht => ?_, fun e b hlt he => hkeep e b (by omega) (by have := hE e b he; omega) (hs.fx e b hlt he), hs.fs⟩
 ·obtain ⟨e', h1, h2, h3⟩ := hsub e b h
  have h4 := hs.rng e' b h1
  refine ⟨?_, h4.2⟩
  rcases h4.1 with h5 | h5
  ·exact .inl h5
  ·have h6 := hE e' b h5
   have : e = e' := by omega
   rw [this]
   exact .inr h5
 ·have ho' : lk (rm d (s.drop u).ob) e = some o := ho
  rw [j6] at ho'
  by_cases hed : e = d
  ·rw [zW hed] at ho'; cases ho'
  ·rw [zL hed, uG] at ho'
   by_cases heu : e = u
   ·rw [zW heu] at ho'; cases ho'
   ·rw [zL heu] at ho'
    cases hl : lk s.ob e with
    | none => rw [hl] at ho'; cases ho'
    | some o' =>
     rw [hl] at ho'
     injection ho' with ho'
     subst ho'
     obtain ⟨g1, g2⟩ := KD hlO hl
     exact (hs.ob e o' hl).klo g2 (by omega) g1 heu hF hkeep fun i b _ h => hkid e i b hed g1 h
 ·have ht' : lk (s.drop u).fr t = some (g, a) := ht
  rw [vi] at ht'
  cases hl : lk s.fr t with
  | none => rw [hl] at ht'; cases ht'
  | some p =>
   obtain ⟨g', a'⟩ := p
   rw [hl] at ht'
   injection ht' with ht'
   injection ht' with h1 h2
   subst h1
   subst h2
   exact (hs.fr t g' a' hl hg).klo u (KE hlF hl) hF hkeep
 ·have ht' : lk (s.drop u).fr t = some (false, a) := ht
  rw [vi] at ht'
  cases hl : lk s.fr t with
  | none => rw [hl] at ht'; cases ht'
  | some p =>
   obtain ⟨g', a'⟩ := p
   rw [hl] at ht'
   injection ht' with ht'
   injection ht' with h1 h2
   subst h1
   exact hs.un t a' hl
def mfi {α : Type} (k : Int) : List (Nat × Int × α) → Option Nat
 | [] => none
 | (_, k', _) :: L => if k' = k then some 0 else (mfi k L).map (· + 1)
theorem zaE {key : Int} : ∀ (es : List (Nat × Int × List Int)) (ms : List MapEntry) (i : Nat), ms.length = es.length → (∀ (i : Nat) (e : Nat × Int × List Int) (m : MapEntry), es[i]? = some e → ms[i]? = some m → m.born = e.1 ∧ m.key = .int .i64 e.2.1) →
  (∃ q e m, es[q]? = some e ∧ ms[q]? = some m ∧ e.2.1 = key ∧ mf key es = some e.2.2 ∧ mfi key es = some q ∧ (∀ c v, xX c key v es = es.set q (e.1, key, v)) ∧ Instr.findNow (.int .i64) (.int .i64 key) ms i = some (some (i + q, m.val))) ∨
  (mf key es = none ∧ mfi key es = none ∧ (∀ c v, xX c key v es = es ++ [(c, key, v)]) ∧ Instr.findNow (.int .i64) (.int .i64 key) ms i = some none) := by
 intro es
 induction es with
 | nil =>
  intro ms i hl _
  have : ms = [] := List.eq_nil_of_length_eq_zero (by simpa using hl)
  subst this
  exact .inr ⟨rfl, rfl, fun _ _ => rfl, rfl⟩
 | cons e es ih =>
  intro ms i hl h
  obtain ⟨b, k, a⟩ := e
  cases ms with
  | nil => simp at hl
  | cons m ms =>
   have h0 := h 0 (b, k, a) m rfl rfl
   have hn : Instr.sameNow (.int .i64) (.int .i64 key) m.key = some (decide (key = k)) := by rw [h0.2]; simp [Instr.sameNow, qF]
   by_cases hkk : k = key
   ·subst hkk
    refine .inl ⟨0, _, m, rfl, rfl, rfl, by simp [mf], by simp [mfi], fun c v => by simp [xX], ?_⟩
    rw [decide_eq_true rfl] at hn
    simp [Instr.findNow, hn]
   ·rw [decide_eq_false (Ne.symm hkk)] at hn
    rcases ih ms (i + 1) (by simpa using hl) (fun i e m h1 h2 => h (i + 1) e m (by simpa using h1) (by simpa using h2)) with ⟨q, e, m', g1, g2, g3, g4, g5, g6, g7⟩ | ⟨g4, g5, g6, g7⟩
    ·exact .inl ⟨q + 1, e, m', by simpa using g1, by simpa using g2, g3, by simp [mf, hkk, g4], by simp [mfi, hkk, g5], fun c v => by simp [xX, hkk, g6 c v], by simp [Instr.findNow, hn, g7]; omega⟩
    ·exact .inr ⟨by simp [mf, hkk, g4], by simp [mfi, hkk, g5], fun c v => by simp [xX, hkk, g6 c v], by simp [Instr.findNow, hn, g7]⟩
theorem jF {d e i j : Nat} (hd : d < 20000) (he : e < 20000) (h : kn d i = kn e j) : d = e ∧ i = j := by unfold kn at h; omega
end
end
section
open Go.RowKit Go.MapKept
open Go.ChangeMaps (setBlock)
section
variable {P : Program} {T : Nat → Option TyD} {E : Env} {s : AState} {tm : Array Value} {w w' : World} {β β' : Nat → Option Nat} {n : Nat} {ops : Array Oper} {Q : Exit → AState → Prop} {rest : List Oper} {o : Oper} {F : Nat → Prop}
theorem jG {t clk d : Nat} {es : List (Nat × Int × List Int)} {h : Option Nat} (ho : xH F β w d (.mapl t clk es h)) : ∃ b arr, β d = some b ∧ w.heap[b]? = some (.map arr clk) ∧ arr.toList.length = es.length ∧
  (∀ (i : Nat) (e : Nat × Int × List Int) (m : MapEntry), es[i]? = some e → arr.toList[i]? = some m → m.born = e.1 ∧ m.key = .int .i64 e.2.1) ∧
  ∀ (i : Nat) (e : Nat × Int × List Int) (m : MapEntry), es[i]? = some e → arr.toList[i]? = some m → h ≠ some i → KT β w t (kn d i) e.2.2 m.val := by
 obtain ⟨b, arr, h1, h2, h3, h4⟩ := ho
 exact ⟨b, arr, h1, h2, by simpa using h3, fun i e m he hm => ⟨(h4 i e m he (by simpa using hm)).1, (h4 i e m he (by simpa using hm)).2.1⟩, fun i e m he hm => (h4 i e m he (by simpa using hm)).2.2⟩
theorem Xi (hT : TOK P T) {m k : Operand} {t d kt vt te clk u : Nat} {es : List (Nat × Int × List Int)} {key : Int} {dt dk : TyD} {l : List Int} {h' : Option Nat} (hG : ya ops s o.guard = some true) (ho : o.op = .lookup t m k false) (hdst : o.dst = some u) (hdo : yY n (some u)) (hgm : s.gd m = true) (hgk : s.gd k = true)
  (hm : s.ev m = .map d) (hk : s.ev k = vI key) (hTt : T t = some dt) (hsh : dt.sh = .map kt vt) (hTk : T kt = some dk) (hsk : dk.sh = .int .i64) (hz : ∀ w, (zeroValue vt).run P w = .ok (.slice none 0 0) w)
  (hob : lk s.ob d = some (.mapl te clk es none)) (hd2 : d < 20000) (hdu : d ≠ u) (hlF : loF s.fr) (hlO : loO s.ob) (hl : (mf key es).getD [] = l) (hh : mfi key es = h')
  (hr : zT P E n ops y7 rest Q { fr := (u, true, .ref te 1 u 0 l.length) :: (s.drop u).fr, ob := (u, .row te 1 (v8 l)) :: (d, .mapl te clk es h') :: rm d (s.drop u).ob }) : yu P E n ops y7 (o :: rest) Q s := by
 intro a w β hn hd hs
 have hw := yq (ops := ops) hs hG
 have vm := hs.ev m hgm (a := a) rfl
 have vk := hs.ev k hgk (a := a) rfl
 rw [hm] at vm
 rw [hk] at vk
 obtain ⟨b, hmb, hb⟩ := wD vm
 have hkv := qS vk
 obtain ⟨b', arr, hb', harr, hlen, hent, hkid⟩ := jG (hs.ob d _ hob)
 rw [hb] at hb'
 injection hb' with hb'
 subst hb'
 have hu10 : u < 10000 := hdo.2
 have hu := qE hT hTt hsh
 have hku := kj hT hTk hsk
 have hget := yv (P := P) harr (fun _ _ _ h => by cases h)
 have hcheck : ∀ em, (Instr.checkKey em 10000 kt (.int .i64 key)).run P w = .ok () w := fun em => run_checkKey (P := P) (w := w) hku (show IsKey (.int .i64) (.int .i64 key) from rfl) em 9999
 have fin : ∀ (β' : Nat → Option Nat) (v : Value), (Instr.lookup t (.map (some b)) (.int .i64 key) false).run P w = .ok v w → (∀ e f b, β' e = some b → β' f = some b → e = f) → (∀ e b, β' e = some b → ∃ e', β e' = some b ∧ (e' = e ∨ e < 15000 ∨ 20000 ≤ e) ∧ (e = e' ∨ e' < 10000 ∨ 20000 ≤ e')) →
   (∀ e b, e < 20000 → e ≠ u → β e = some b → β' e = some b) → (∀ e i b, e ≠ d → e < 20000 → β (kn e i) = some b → β' (kn e i) = some b) → xH (FF E β' w) β' w d (.mapl te clk es h') → xH (FF E β' w) β' w u (.row te 1 (v8 l)) → AVR (FF E β' w) β' w (.ref te 1 u 0 l.length) v →
   o.wp P a w (fun a' w' => ∃ X', yG (y7.dst o) (XW y7 β) w X' w' ∧ z7 P ops y7 (ki E n Q) (nrm E n y7 (Q .normal)) rest X' a' w') (ki E n Q) := fun β' v hrun h1 h2 h3 h4 h5 h6 h7 => by
  have hS := ((hs.owners d u hu10 hlF hlO h1 h2 h3 h4).add d _ h5).add u _ h6
  obtain ⟨g1, g2, g3⟩ := yW (dst := some u) hn hd hS hdo true (.ref te 1 u 0 l.length) (v := v) (fun _ => h7) (fun h => by cases h)
  refine xd (w' := w) (v := v) (by simp [execOp, ho, hmb, hkv, hrun]) ⟨XW y7 β', ⟨fun _ => ⟨Nat.le_refl _, fun _ _ _ => rfl⟩, ⟨Nat.le_refl _, fun _ _ _ => rfl⟩, fun b _ ⟨e, _, he⟩ => by obtain ⟨e', g, _⟩ := h2 e b he; exact ⟨e', rfl, g⟩⟩, hr _ _ _ ?_ ?_ ?_⟩
  ·rw [hdst]; exact g1
  ·rw [hdst]; exact g2
  ·rw [hdst]; exact g3
 refine ym (by rw [ho]; rfl) hw (fun _ => ?_) (fun hGf => by cases hGf)
 rcases zaE (key := key) es arr.toList 0 hlen hent with ⟨q, e, me, g1, g2, g3, g4, g5, g6, g7⟩ | ⟨g4, g5, g6, g7⟩
 ·rw [g4] at hl
  rw [g5] at hh
  simp only [Option.getD_some] at hl
  subst hl
  subst hh
  obtain ⟨bi, c, ai, k1, k2, k3, k4, k5, k6, k7⟩ := hkid q e me g1 g2 (by simp)
  have hkn : kn d q ≠ u := by unfold kn; omega
  have hkn2 : 20000 ≤ kn d q := by unfold kn; omega
  refine fin (fun e => if e = u then some bi else if e = kn d q then none else β e) me.val ?_ (fun x y z hx hy => ?_) (fun x z hx => ?_) (fun x z hx hxu hxz => ?_) (fun x i z hxd hx hxz => ?_) ?_ ?_ ?_
  ·simp only [Instr.lookup, Sem.run_bind, run_underlying hu, Result.andThen_ok, hget, Sem.run_pure, hcheck, run_findKey hku g7]
   rfl
  ·have key : ∀ x, (if x = u then some bi else if x = kn d q then none else β x) = some z → (x = u ∧ bi = z) ∨ (x ≠ u ∧ x ≠ kn d q ∧ β x = some z) := fun x hx => by
    by_cases h1 : x = u
    ·rw [if_pos h1] at hx; injection hx with hx; exact .inl ⟨h1, hx⟩
    ·rw [if_neg h1] at hx
     by_cases h2 : x = kn d q
     ·rw [if_pos h2] at hx; cases hx
     ·rw [if_neg h2] at hx; exact .inr ⟨h1, h2, hx⟩
   rcases key x hx with ⟨h1, h2⟩ | ⟨h1, h2, h3⟩ <;> rcases key y hy with ⟨h4, h5⟩ | ⟨h4, h5, h6⟩
   ·rw [h1, h4]
   ·subst h2; exact absurd (hs.inj _ _ _ h6 k1) h5
   ·subst h5; exact absurd (hs.inj _ _ _ h3 k1) h2
   ·exact hs.inj _ _ _ h3 h6
  ·by_cases h1 : x = u
   ·rw [if_pos h1] at hx; injection hx with hx; subst hx
    exact ⟨kn d q, k1, .inr (.inl (by omega)), .inr (.inr hkn2)⟩
   ·rw [if_neg h1] at hx
    by_cases h2 : x = kn d q
    ·rw [if_pos h2] at hx; cases hx
    ·rw [if_neg h2] at hx; exact ⟨x, hx, .inl rfl, .inl rfl⟩
  ·rw [if_neg hxu, if_neg (by omega)]; exact hxz
  ·rw [if_neg (by unfold kn; omega), if_neg (fun h => hxd (jF hx hd2 h).1)]; exact hxz
  ·refine ⟨b, arr, by show (if d = u then some bi else if d = kn d q then none else β d) = some b; rw [if_neg hdu, if_neg (by omega)]; exact hb, harr, by simpa using hlen, fun i x m hx hm => ?_⟩
   have hm' : arr.toList[i]? = some m := by simpa using hm
   refine ⟨(hent i x m hx hm').1, (hent i x m hx hm').2, fun hq => (hkid i x m hx hm' (by simp)).step (fun z hz => ?_) fun _ _ => rfl⟩
   rw [if_neg (by unfold kn; omega), if_neg (fun h => hq (by rw [(jF hd2 hd2 h).2]))]
   exact hz
  ·refine ⟨fun cs hcs => by obtain ⟨z, _, rfl⟩ := List.mem_map.1 hcs; rfl, .inr ⟨bi, ai, by show (if u = u then some bi else if u = kn d q then none else β u) = some bi; rw [if_pos rfl], k5, by rw [zp]; omega, fun i j cs u' hcs hu' => ?_⟩⟩
   rw [v8, List.getElem?_map] at hcs
   cases hz : e.2.2[i]? with
   | none => rw [hz] at hcs; cases hcs
   | some z =>
    rw [hz] at hcs
    injection hcs with hcs
    subst hcs
    have hj : j = 0 := by have := zG hu'; simp at this; omega
    subst hj
    simp only [List.getElem?_cons_zero, Option.some.injEq] at hu'
    subst hu'
    exact ⟨_, by rw [Nat.mul_one, Nat.add_zero]; exact k7 i z hz, .v rfl⟩
  ·rw [k2]
   exact .ref (by rw [if_pos rfl]) k3 k4 rfl ⟨ai, k5, by omega⟩
 ·rw [g4] at hl
  rw [g5] at hh
  simp only [Option.getD_none] at hl
  subst hl
  subst hh
  refine fin (fun e => if e = u then none else β e) (.slice none 0 0) ?_ (fun x y z hx hy => ?_) (fun x z hx => ?_) (fun x z hx hxu hxz => ?_) (fun x i z hxd hx hxz => ?_) ?_ ?_ ?_
  ·simp only [Instr.lookup, Sem.run_bind, run_underlying hu, Result.andThen_ok, hget, Sem.run_pure, hcheck, run_findKey hku g7, hz]
   rfl
  ·by_cases h1 : x = u
   ·rw [if_pos h1] at hx; cases hx
   ·rw [if_neg h1] at hx
    by_cases h2 : y = u
    ·rw [if_pos h2] at hy; cases hy
    ·rw [if_neg h2] at hy; exact hs.inj _ _ _ hx hy
  ·by_cases h1 : x = u
   ·rw [if_pos h1] at hx; cases hx
   ·rw [if_neg h1] at hx; exact ⟨x, hx, .inl rfl, .inl rfl⟩
  ·rw [if_neg hxu]; exact hxz
  ·rw [if_neg (by unfold kn; omega)]; exact hxz
  ·refine ⟨b, arr, by show (if d = u then none else β d) = some b; rw [if_neg hdu]; exact hb, harr, by simpa using hlen, fun i x m hx hm => ?_⟩
   have hm' : arr.toList[i]? = some m := by simpa using hm
   refine ⟨(hent i x m hx hm').1, (hent i x m hx hm').2, fun hq => (hkid i x m hx hm' (by simp)).step (fun z hz => ?_) fun _ _ => rfl⟩
   rw [if_neg (by unfold kn; omega)]
   exact hz
  ·exact ⟨fun cs hcs => (by cases hcs), .inl rfl⟩
  ·exact .nil
theorem Xj (hT : TOK P T) {m k x : Operand} {t d kt vt te clk u : Nat} {es : List (Nat × Int × List Int)} {key : Int} {dt dk : TyD} {l : List Int} {h' : Option Nat} (hG : ya ops s o.guard = some true) (ho : o.op = .mapUpdate t m k x) (hdst : o.dst = none) (hgm : s.gd m = true) (hgk : s.gd k = true) (hgx : s.gd x = true)
  (hm : s.ev m = .map d) (hk : s.ev k = vI key) (hx : s.ev x = .ref te 1 u 0 l.length) (hTt : T t = some dt) (hsh : dt.sh = .map kt vt) (hTk : T kt = some dk) (hsk : dk.sh = .int .i64)
  (hob : lk s.ob d = some (.mapl te clk es h')) (hobu : lk s.ob u = some (.row te 1 (v8 l))) (hl0 : 0 < l.length) (hd2 : d < 20000) (hu10 : u < 10000) (hdu : d ≠ u) (hlF : loF s.fr) (hlO : loO s.ob) (hh : mfi key es = h') {c' : Nat} {es' : List (Nat × Int × List Int)} (hc' : vL clk key es = c') (hes' : xX clk key l es = es')
  (hr : zT P E n ops y7 rest Q { fr := (s.drop u).fr, ob := (d, .mapl te c' es' none) :: rm d (s.drop u).ob }) : yu P E n ops y7 (o :: rest) Q s := by
 subst hc'
 subst hes'
 intro a w β hn hd hs
 have hw := yq (ops := ops) hs hG
 have vm := hs.ev m hgm (a := a) rfl
 have vk := hs.ev k hgk (a := a) rfl
 have vx := hs.ev x hgx (a := a) rfl
 rw [hm] at vm
 rw [hk] at vk
 rw [hx] at vx
 obtain ⟨b, hmb, hb⟩ := wD vm
 have hkv := qS vk
 obtain ⟨b', arr, hb', harr, hlen, hent, hkid⟩ := jG (hs.ob d _ hob)
 rw [hb] at hb'
 injection hb' with hb'
 subst hb'
 obtain ⟨bu, c, ai, k1, k2, k3, k4, k5, k6, k7⟩ : KT β w te u l (a.eval x) := by
  obtain ⟨hk1, hrow⟩ := hs.ob u _ hobu
  generalize a.eval x = v at vx
  generalize hll : l.length = ln at vx
  cases vx with
  | s h => cases h
  | nil => omega
  | empty => omega
  | @ref _ _ _ _ _ c b0 A q1 q2 q3 q4 q5 =>
   subst q4
   obtain ⟨ai, r1, r2⟩ := q5
   rcases hrow with h | ⟨b1, arr1, e1, e2, e3, e4⟩
   ·have h2 : (v8 l).length = 0 := by rw [h]; rfl
    rw [zp] at h2; omega
   ·rw [q1] at e1
    injection e1 with e1
    subst e1
    rw [r1] at e2
    injection e2 with e2
    injection e2 with e2 _
    subst e2
    refine ⟨b0, c, ai, q1, by rw [hll], by omega, q3, r1, by omega, fun j z hz => ?_⟩
    obtain ⟨x0, p1, p2⟩ := e4 j 0 [vI z] (vI z) (by simp [v8, hz]) rfl
    rw [Nat.mul_one, Nat.add_zero] at p1
    rw [p1, YF p2]
 have hu := qE hT hTt hsh
 have hku := kj hT hTk hsk
 have hget := yv (P := P) harr (fun _ _ _ h => by cases h)
 have hik : IsKey (.int .i64) (.int .i64 key) := rfl
 have hcheck : ∀ em, (Instr.checkKey em 10000 kt (.int .i64 key)).run P w = .ok () w := fun em => run_checkKey (P := P) (w := w) hku hik em 9999
 have hset : ∀ o' : Obj, (setObj b o').run P w = .ok () (setBlock w b o') := fun o' => by simp [setObj, Sem.run, harr, setBlock]
 have hbu : bu ≠ b := fun h => hdu (hs.inj d u b hb (by rw [← h]; exact k1))
 have fin : ∀ (q : Nat) (arr' : Array MapEntry), (Instr.mapUpdate t (.map (some b)) (.int .i64 key) (a.eval x)).run P w = .ok () (setBlock w b (.map arr' (vL clk key es))) → arr'.toList.length = (xX clk key l es).length →
   (∀ (i : Nat) (e : Nat × Int × List Int) (m : MapEntry), (xX clk key l es)[i]? = some e → arr'.toList[i]? = some m → m.born = e.1 ∧ m.key = .int .i64 e.2.1 ∧ (i = q ∧ e.2.2 = l ∧ m.val = a.eval x ∨ i ≠ q ∧ KT β w te (kn d i) e.2.2 m.val)) →
   o.wp P a w (fun a' w' => ∃ X', yG (y7.dst o) (XW y7 β) w X' w' ∧ z7 P ops y7 (ki E n Q) (nrm E n y7 (Q .normal)) rest X' a' w') (ki E n Q) := fun q arr' hrun hl' hent' => by
  have hkn : kn d q ≠ u := by unfold kn; omega
  have hkn2 : 20000 ≤ kn d q := by unfold kn; omega
  generalize hβ' : (fun e => if e = kn d q then some bu else if e = u then none else β e) = β'
  have hv : ∀ e, β' e = if e = kn d q then some bu else if e = u then none else β e := fun e => by rw [← hβ']
  have hsub : ∀ e z, β' e = some z → (e = kn d q ∧ bu = z) ∨ (e ≠ kn d q ∧ e ≠ u ∧ β e = some z) := fun e z he => by
   rw [hv] at he
   by_cases h1 : e = kn d q
   ·rw [if_pos h1] at he; injection he with he; exact .inl ⟨h1, he⟩
   ·rw [if_neg h1] at he
    by_cases h2 : e = u
    ·rw [if_pos h2] at he; cases he
    ·rw [if_neg h2] at he; exact .inr ⟨h1, h2, he⟩
  have hO := hs.owners (β' := β') d u hu10 hlF hlO (fun x y z hx hy => by
   rcases hsub x z hx with ⟨h1, h2⟩ | ⟨h1, h2, h3⟩ <;> rcases hsub y z hy with ⟨h4, h5⟩ | ⟨h4, h5, h6⟩
   ·rw [h1, h4]
   ·subst h2; exact absurd (hs.inj _ _ _ h6 k1) h5
   ·subst h5; exact absurd (hs.inj _ _ _ h3 k1) h2
   ·exact hs.inj _ _ _ h3 h6) (fun x z hx => by
   rcases hsub x z hx with ⟨h1, h2⟩ | ⟨h1, h2, h3⟩
   ·subst h2; exact ⟨u, k1, .inr (.inr (by omega)), .inr (.inl hu10)⟩
   ·exact ⟨x, h3, .inl rfl, .inl rfl⟩) (fun x z hx hxu hxz => by rw [hv, if_neg (by omega), if_neg hxu]; exact hxz) (fun x i z hxd hx hxz => by
   rw [hv, if_neg (fun h => hxd (jF hx hd2 h).1), if_neg (by unfold kn; omega)]; exact hxz)
  have hb2 : β' d = some b := by rw [hv, if_neg (by omega), if_neg hdu]; exact hb
  have hK : Keeps (fun c => β' d = some c) w (setBlock w b (.map arr' (vL clk key es))) := we hb2
  have hlt : b < w.heap.size := (hs.rng d b hb).2
  have hnew : (setBlock w b (.map arr' (vL clk key es))).heap[b]? = some (.map arr' (vL clk key es)) := by simp [setBlock, hlt]
  have hC := hO.content d hK fun c te n hc' ⟨a', e1, _⟩ => by
   rw [hb2] at hc'; injection hc' with hc'; subst hc'; rw [harr] at e1; cases e1
  have hoth : ∀ z, z ≠ b → (setBlock w b (.map arr' (vL clk key es))).heap[z]? = w.heap[z]? := fun z hz => Array.getElem?_setIfInBounds_ne (Ne.symm hz)
  have hA := hC.add d (.mapl te (vL clk key es) (xX clk key l es) none) ⟨b, arr', hb2, hnew, by simpa using hl', fun i e m he hm => by
   obtain ⟨r1, r2, r3⟩ := hent' i e m he (by simpa using hm)
   refine ⟨r1, r2, fun _ => ?_⟩
   rcases r3 with ⟨rfl, r4, r5⟩ | ⟨r4, r5⟩
   ·rw [r4, r5]
    exact ⟨bu, c, ai, by rw [hv, if_pos rfl], k2, k3, k4, (hoth _ hbu).trans k5, k6, k7⟩
   ·refine r5.step (fun z hz => by rw [hv, if_neg (fun h => r4 (jF hd2 hd2 h).2), if_neg (by unfold kn; omega)]; exact hz) fun z hz => hoth z fun h => ?_
    subst h
    have := hs.inj _ _ _ hz hb
    unfold kn at this; omega⟩
  have hW : SRel E { fr := (s.drop u).fr, ob := (d, .mapl te (vL clk key es) (xX clk key l es) none) :: rm d (s.drop u).ob } a.tmps (setBlock w b (.map arr' (vL clk key es))) β' := hA.weaken (fun t g x h => h) fun e o' h => by
   have h' : lk ((d, AObj.mapl te (vL clk key es) (xX clk key l es) none) :: rm d (s.drop u).ob) e = some o' := h
   show lk ((d, AObj.mapl te (vL clk key es) (xX clk key l es) none) :: rmo d (rm d (s.drop u).ob)) e = some o'
   rw [zX] at h' ⊢
   by_cases he : d = e
   ·rw [zW he] at h' ⊢; exact h'
   ·rw [zL he] at h' ⊢
    unfold rmo
    rw [decide_eq_true hd2, cond_true, j6, zL (Ne.symm he)]
    exact h'
  refine qh (w' := setBlock w b (.map arr' (vL clk key es))) (by simp [execOp, ho, hmb, hkv, hrun]) ⟨XW y7 β', ⟨fun h => (by rw [Dr.dst, ho] at h; cases h), ⟨hK.size, fun z hz hne => hoth z fun h => hne ⟨d, rfl, by rw [h]; exact hb⟩⟩, fun z _ ⟨e, _, he⟩ => ?_⟩, hr _ _ _ ?_ ?_ ?_⟩
  ·rcases hsub e z he with ⟨_, h2⟩ | ⟨_, _, h3⟩
   ·subst h2; exact ⟨u, rfl, k1⟩
   ·exact ⟨e, rfl, h3⟩
  ·rw [hdst]; exact hn
  ·rw [hdst]; exact hd
  ·rw [hdst]; exact hW
 refine ym (by rw [ho]; rfl) hw (fun _ => ?_) (fun hGf => by cases hGf)
 rcases zaE (key := key) es arr.toList 0 hlen hent with ⟨q, e, me, g1, g2, g3, g4, g5, g6, g7⟩ | ⟨g4, g5, g6, g7⟩
 ·rw [g5] at hh
  have hq2 : arr[q]? = some me := by simpa using g2
  have hkme := (hent q e me g1 g2).2
  rw [g3] at hkme
  have hlt : q < arr.size := (Array.getElem?_eq_some_iff.1 hq2).1
  have he : (arr.modify q fun e => { e with key := .int .i64 key, val := a.eval x }).toList = arr.toList.set q { me with key := .int .i64 key, val := a.eval x } := by
   apply List.ext_getElem?
   intro i
   rw [Array.getElem?_toList, Array.getElem?_modify, List.getElem?_set, Array.getElem?_toList]
   by_cases hi : q = i
   ·subst hi
    rw [if_pos rfl, if_pos rfl, hq2, if_pos (by simpa using hlt)]
    rfl
   ·rw [if_neg hi, if_neg hi]
  refine fin q (arr.modify q fun e => { e with key := .int .i64 key, val := a.eval x }) ?_ ?_ fun i x' m' hx' hm' => ?_
  ·simp only [Instr.mapUpdate, Sem.run_bind, run_underlying hu, Result.andThen_ok, hget, hcheck, run_findKey hku g7, Nat.zero_add, hq2, Option.map_some, Option.getD_some, hkme, run_keyThatStays hik, hset, vL, g4, Option.isSome_some, cond_true]
  ·rw [he, g6, List.length_set, List.length_set, hlen]
  ·rw [he] at hm'
   rw [g6] at hx'
   rw [List.getElem?_set] at hx' hm'
   by_cases hi : q = i
   ·subst hi
    rw [if_pos rfl] at hx' hm'
    rw [if_pos (zG g1)] at hx'
    rw [if_pos (by simpa using hlt)] at hm'
    injection hx' with hx'
    injection hm' with hm'
    subst hx'
    subst hm'
    exact ⟨(hent q e me g1 g2).1, rfl, .inl ⟨rfl, rfl, rfl⟩⟩
   ·rw [if_neg hi] at hx' hm'
    exact ⟨(hent i x' m' hx' hm').1, (hent i x' m' hx' hm').2, .inr ⟨fun h => hi h.symm, hkid i x' m' hx' hm' (by rw [← hh]; intro h; injection h with h; exact hi h)⟩⟩
 ·rw [g5] at hh
  refine fin es.length (arr.push { key := .int .i64 key, val := a.eval x, born := clk }) ?_ ?_ fun i x' m' hx' hm' => ?_
  ·simp only [Instr.mapUpdate, Sem.run_bind, run_underlying hu, Result.andThen_ok, hget, hcheck, run_findKey hku g7, hset, vL, g4, Option.isSome_none, cond_false]
  ·rw [Array.toList_push, g6, List.length_append, List.length_append, hlen]; rfl
  ·rw [Array.toList_push] at hm'
   rw [g6] at hx'
   by_cases hi : i < es.length
   ·rw [List.getElem?_append_left hi] at hx'
    rw [List.getElem?_append_left (by rw [hlen]; exact hi)] at hm'
    exact ⟨(hent i x' m' hx' hm').1, (hent i x' m' hx' hm').2, .inr ⟨by omega, hkid i x' m' hx' hm' (by rw [← hh]; simp)⟩⟩
   ·rw [List.getElem?_append_right (by omega)] at hx'
    rw [List.getElem?_append_right (by rw [hlen]; omega), hlen] at hm'
    have h0 : i - es.length = 0 := by have := zG hx'; simp at this; omega
    rw [h0] at hx' hm'
    simp only [List.getElem?_cons_zero, Option.some.injEq] at hx' hm'
    subst hx'
    subst hm'
    exact ⟨rfl, rfl, .inl ⟨by omega, rfl, rfl⟩⟩
theorem VQ {c : Code} (d te : Nat) (hd : d < 20000) (ho : lk s.ob d = some (.mapr 0 [])) (h : AWp P E n c Q { fr := s.fr, ob := (d, .mapl te 0 [] none) :: rm d s.ob }) : AWp P E n c Q s := fun a w ⟨hn, hdf, β, hs⟩ => by
 refine h a w ⟨hn, hdf, β, (hs.weaken (s' := { fr := s.fr, ob := rm d s.ob }) (fun t g x h => h) fun e o h => ?_).add d _ ?_⟩
 ·have h' : lk (rm d s.ob) e = some o := h
  rw [j6] at h'
  by_cases he : e = d
  ·rw [zW he] at h'; cases h'
  ·rw [zL he] at h'; exact h'
 ·obtain ⟨b, arr, h1, h2, h3, _⟩ := hs.ob d _ ho
  exact ⟨b, arr, h1, h2, h3, fun i e m he => by simp at he⟩
end
end
section
open Go.RowKit Go.MapKept
section
variable {F F' : Nat → Prop} {β β' : Nat → Option Nat} {w w' : World}
theorem AVR.lo0 {a : AV} {x : Value} (h : AVR F β w a x) (hlo : a.lo = true) (hF : ∀ b, F b → F' b) (hβ : ∀ e b, e < 20000 → β e = some b → β' e = some b) : AVR F' β' w a x := by
 induction h with
 | s h => exact .s (h.mono hF fun _ _ => rfl)
 | agg h1 h2 _ ih => exact .agg h1 h2 fun i c u hc hu => ih i c u hc hu (AV.loL_mem (by simpa only [AV.lo] using hlo) c (List.mem_of_getElem? hc))
 | tup h1 _ ih => exact .tup h1 fun i c u hc hu => ih i c u hc hu (AV.loL_mem (by simpa only [AV.lo] using hlo) c (List.mem_of_getElem? hc))
 | nil => exact .nil
 | ref h1 h2 h3 h5 h6 => exact .ref (hβ _ _ (by simpa [AV.lo] using hlo) h1) h2 h3 h5 h6
 | empty h1 => exact .empty h1
 | rfx h ih => exact .rfx (ih (by simpa only [AV.lo] using hlo))
 | ptr h1 => exact .ptr (hβ _ _ (by simpa [AV.lo] using hlo) h1)
 | elt g h1 h2 h3 h4 h5 => exact .elt g (hF _ h1) h2 h3 h4 (fun i j cs u hc hu => (h5 i j cs u hc hu).mono hF fun _ _ => rfl)
 | map h1 => exact .map (hβ _ _ (by simpa [AV.lo] using hlo) h1)
 | slen => exact .slen
 | fn h0 h1 _ ih => exact .fn h0 h1 fun i c u hc hu => ih i c u hc hu (AV.loL_mem (by simpa only [AV.lo] using hlo) c (List.mem_of_getElem? hc))
 | ifc _ ih => exact .ifc (ih (by simpa only [AV.lo] using hlo))
 | dead => exact .dead
theorem xH.lo0 {d : Nat} {o : AObj} (h : xH F β w d o) (hlo : o.lo) (hd : d < 20000) (hF : ∀ b, F b → F' b) (hβ : ∀ e b, e < 20000 → β e = some b → β' e = some b) (hkid : ∀ i b, β (kn d i) = some b → β' (kn d i) = some b) : xH F' β' w d o := by
 cases o with
 | row t k xs =>
  obtain ⟨hk, h⟩ := h
  refine ⟨hk, ?_⟩
  rcases h with h | ⟨b, arr, h1, h2, h3, h4⟩
  ·exact .inl h
  ·exact .inr ⟨b, arr, hβ d b hd h1, h2, h3, fun i j cs u hc hu => by
    obtain ⟨x, hx, hr⟩ := h4 i j cs u hc hu
    exact ⟨x, hx, hr.mono hF fun _ _ => rfl⟩⟩
 | var cs =>
  obtain ⟨b, arr, t, h1, h2, h3, h4⟩ := h
  exact ⟨b, arr, t, hβ d b hd h1, h2, h3, fun j u hu => by
   obtain ⟨x, hx, hr, ho⟩ := h4 j u hu
   exact ⟨x, hx, hr.lo0 (AV.loL_mem hlo u (List.mem_of_getElem? hu)) hF hβ, ho⟩⟩
 | mapo es =>
  obtain ⟨b, arr, clk, h1, h2, h3, h4⟩ := h
  exact ⟨b, arr, clk, hβ d b hd h1, h2, h3, fun i e m he hm => ⟨(h4 i e m he hm).1.mono hF fun _ _ => rfl, (h4 i e m he hm).2.mono hF fun _ _ => rfl⟩⟩
 | mapr clk es =>
  obtain ⟨b, arr, h1, h2, h3, h4⟩ := h
  exact ⟨b, arr, hβ d b hd h1, h2, h3, fun i e m he hm => by
   obtain ⟨g1, g2, g3⟩ := h4 i e m he hm
   exact ⟨g1, g2.mono hF fun _ _ => rfl, g3.lo0 (hlo e (List.mem_of_getElem? he)) hF hβ⟩⟩
 | mapl t clk es q =>
  obtain ⟨b, arr, h1, h2, h3, h4⟩ := h
  exact ⟨b, arr, hβ d b hd h1, h2, h3, fun i x m hx hm => ⟨(h4 i x m hx hm).1, (h4 i x m hx hm).2.1, fun hq => ((h4 i x m hx hm).2.2 hq).step (fun c hc => hkid i c hc) fun _ _ => rfl⟩⟩
 | iter e' ok since seen =>
  obtain ⟨r, b, last, h1, h2, h3⟩ := h
  exact ⟨r, b, last, hβ d r hd h1, h2, fun hok => hβ e' b hlo (h3 hok)⟩
end
section
variable {P : Program} {E : Env} {s : AState} {tm : Array Value} {w : World} {β : Nat → Option Nat} {n : Nat} {Q : Exit → AState → Prop}
theorem VR {c : Code} (d : Nat) {te clk : Nat} {es : List (Nat × Int × List Int)} (hd : d < 20000) (ho : lk s.ob d = some (.mapl te clk es none)) (hlF : loF s.fr) (hlO : loO s.ob) (h : AWp P E n c Q { fr := s.fr, ob := (d, .mapr clk (mI (fun l => .lst 1 (v8 l)) es)) :: rm d s.ob }) : AWp P E n c Q s := fun a w ⟨hn, hdf, β, hs⟩ => by
 generalize hβ' : (fun e => if 20000 ≤ e ∧ e % 20000 = d then none else β e) = β'
 have hv : ∀ e, β' e = if 20000 ≤ e ∧ e % 20000 = d then none else β e := fun e => by rw [← hβ']
 have hsub : ∀ e b, β' e = some b → ¬ (20000 ≤ e ∧ e % 20000 = d) ∧ β e = some b := fun e b he => by
  rw [hv] at he
  by_cases h1 : 20000 ≤ e ∧ e % 20000 = d
  ·rw [if_pos h1] at he; cases he
  ·rw [if_neg h1] at he; exact ⟨h1, he⟩
 have hkeep : ∀ e b, e < 20000 → β e = some b → β' e = some b := fun e b h1 h2 => by rw [hv, if_neg (by omega)]; exact h2
 have hF : ∀ b, FF E β w b → FF E β' w b := fun b ⟨h1, h2, h3⟩ => ⟨h1, h2, fun e he => h3 e (hsub e b he).2⟩
 have hE : ∀ e b, E.β0 e = some b → 10000 ≤ e ∧ e < 20000 := E.hβ
 obtain ⟨b, arr, hb, harr, hlen, hent, hkid⟩ := jG (hs.ob d _ ho)
 refine h a w ⟨hn, hdf, β', ⟨fun e f b h1 h2 => hs.inj e f b (hsub e b h1).2 (hsub f b h2).2, fun e b h => hs.rng e b (hsub e b h).2, hs.old, fun e o he => ?_, fun t g x ht hg => (hs.fr t g x ht hg).lo0 (KE hlF ht) hF hkeep, hs.un, fun e b hlt he => hkeep e b (by omega) (hs.fx e b hlt he), hs.fs⟩⟩
 have he' : lk ((d, AObj.mapr clk (mI (fun l => .lst 1 (v8 l)) es)) :: rm d s.ob) e = some o := he
 rw [zX] at he'
 by_cases hde : d = e
 ·rw [zW hde] at he'
  injection he' with he'
  subst he'
  subst hde
  refine ⟨b, arr, hkeep d b hd hb, harr, by rw [Zy]; simpa using hlen, fun i e' m he hm => ?_⟩
  obtain ⟨x, hx, rfl⟩ := VN he
  have hm' : arr.toList[i]? = some m := by simpa using hm
  obtain ⟨g1, g2⟩ := hent i x m hx hm'
  refine ⟨g1, by rw [g2]; exact .v rfl, .s ?_⟩
  obtain ⟨bi, c, ai, k1, k2, k3, k4, k5, k6, k7⟩ := hkid i x m hx hm' (by simp)
  rw [k2]
  have hFb : FF E β' w bi := ⟨(hs.rng _ _ k1).2, by
   rcases (hs.rng _ _ k1).1 with h | h
   ·exact .inr (.inl h)
   ·exact .inr (.inr ⟨_, h⟩), fun e he => by
   obtain ⟨h1, h2⟩ := hsub e bi he
   have := hs.inj _ _ _ h2 k1
   subst this
   exact h1 ⟨by unfold kn; omega, by unfold kn; omega⟩⟩
  have hcell : ∀ q z, x.2.2[q]? = some z → w.cell? ⟨bi, q, none⟩ = some (.int .i64 z) := fun q z hz => (cell_of_row w bi q ai te (0, 0) k5).trans (k7 q z hz)
  refine .lst (fun i _ => .int .i64 (x.2.2.getD i 0)) (zp _).symm k3 k4 (fun cs hcs => by obtain ⟨z, _, rfl⟩ := List.mem_map.1 hcs; rfl) (fun _ => ⟨bi, 0, rfl, hFb, fun i j hi hj => ?_⟩) (fun _ _ _ _ => rfl) fun i j cs u hcs hu => ?_
  ·have hj0 : j = 0 := by omega
   subst hj0
   rw [show 0 + (i * 1 + 0) = i by omega]
   exact hcell i _ (by simp [List.getD, hi])
  ·rw [v8, List.getElem?_map] at hcs
   cases hz : x.2.2[i]? with
   | none => rw [hz] at hcs; cases hcs
   | some z =>
    rw [hz] at hcs
    injection hcs with hcs
    subst hcs
    have hj : j = 0 := by have := zG hu; simp at this; omega
    subst hj
    simp only [List.getElem?_cons_zero, Option.some.injEq] at hu
    subst hu
    have : x.2.2.getD i 0 = z := by simp [List.getD, hz]
    show SVR _ w (.v (.int .i64 z)) (.int .i64 (x.2.2.getD i 0))
    rw [this]
    exact .v rfl
 ·rw [zL hde, j6, zL (Ne.symm hde)] at he'
  obtain ⟨g1, g2⟩ := KD hlO he'
  exact (hs.ob e o he').lo0 g2 g1 hF hkeep fun i b h => by
   rw [hv, if_neg (fun h2 => hde (by have := h2.2; unfold kn at this; omega))]; exact h
end
attribute [go_sem] loF loO AV.lo AV.lo.loL AObj.lo
end
end Go.Proofs.YtjeplogcfedmeaaGreat

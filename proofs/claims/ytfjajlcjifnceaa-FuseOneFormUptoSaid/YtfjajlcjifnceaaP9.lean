import Derived.Laws.Bits64b
import Derived.Test.YtfjajlcjifnceaaP8
set_option linter.all false
set_option maxRecDepth 100000
set_option maxHeartbeats 8000000
namespace Go.Proofs.Ytfjajlcjifnceaa
section
open Go.RowKit
def zaB (l : List Nat) (r : Int) : Prop := ∃ k : Nat, r = k ∧ k ∈ l ∧ ∀ j ∈ l, k ≤ j
theorem zc6 (l : List Nat) (h0 : 0 < l.length) (hl : l.length ≤ 1000000000) :
  yL Try.prog 48 [.ref 3 1 10004 0 l.length] [(10004, .row 3 1 (v8 (yC l)))] (zaB l) (fun r => vI r) (fun _ => [(10004, .row 3 1 (v8 (yC l)))]) := by
 have e0 : ((l.length : Int) < 1) = False := eq_false (by omega)
 obtain ⟨k0, hk0⟩ : ∃ k, l[0]? = some k := ⟨_, List.getElem?_eq_getElem h0⟩
 have g0 := xE hk0
 refine xT (za _) Try.func48 rfl rfl (by rw [Try.results48]) Try.ntmps48 rfl fun E => ?_
 (repeat' (first | exact trivial | (with_reducible first | apply awA | apply awB | apply awC | apply awF) | ((with_reducible first | apply awn | refine awQ ?_); intro r hr; simp only [go_sem, Nat.reduceBEq, Nat.reduceLT, Nat.reduceLeDiff, e0, g0, Int.toNat_zero, Nat.zero_add, Int.reduceLE] at hr; subst hr; (first | refine awV ?_ ?_ | (refine zf (fun h => ?_) (fun h => ?_) <;> (try simp only [go_sem, reduceCtorEq] at h) <;> (try (exfalso; omega))))))) <;> (try omega)
 refine zC [0, 3, 4] [10004] (fun q : Nat × Nat => ⟨[(0, true, .ref 3 1 10004 0 l.length), (3, true, vI q.2), (4, true, vI q.1)], [(10004, .row 3 1 (v8 (yC l)))]⟩)
  (fun q => 1 ≤ q.1 ∧ q.1 ≤ l.length ∧ q.2 ∈ l ∧ ∀ j ∈ l.take q.1, q.2 ≤ j) (fun q => l.length - q.1) (1, k0) (by simp only [go_sem, Nat.reduceBEq] <;> exact rfl) ⟨Nat.le_refl _, h0, List.mem_of_getElem? hk0, fun j hj => by
   rw [List.take_succ_eq_append_getElem h0, List.take_zero] at hj
   rw [List.getElem?_eq_getElem h0] at hk0
   injection hk0 with hk0
   simp at hj
   omega⟩ ?_
 intro ⟨i, m⟩ ⟨h1, hi, hm, hle⟩
 simp only at h1 hi hm hle ⊢
 have hwi := zg (n := (i : Int) + 1) (by omega)
 have zi : ((i : Int)).toNat = i := by omega
 by_cases hlt : i < l.length
 ·have e1 : ((i : Int) < (l.length : Int)) = True := eq_true (by omega)
  obtain ⟨k, hk⟩ : ∃ k, l[i]? = some k := ⟨_, List.getElem?_eq_getElem hlt⟩
  have gi := xE hk
  have hmin : min (m : Int) (k : Int) = ((min m k : Nat) : Int) := by omega
  (repeat' (first | exact trivial | (with_reducible first | apply awA | apply awB | apply awC | apply awF | apply awI) | ((with_reducible first | apply awn | refine awQ ?_); intro r hr; simp only [go_sem, Nat.reduceBEq, Nat.reduceLT, Nat.reduceLeDiff, e1, zi, hwi, gi, hmin, Nat.zero_add] at hr; subst hr; (first | refine awV ?_ ?_ | (refine zf (fun h => ?_) (fun h => ?_) <;> (try simp only [go_sem, reduceCtorEq] at h) <;> (try (exfalso; omega))))))) <;> (try omega)
  refine ⟨(i + 1, min m k), ?_, ⟨by show 1 ≤ i + 1; omega, hlt, ?_, fun j hj => ?_⟩, by show l.length - (i + 1) < l.length - i; omega⟩
  ·simp only [go_sem, Nat.reduceBEq]
   try exact rfl
  ·show min m k ∈ l
   rcases Nat.le_total m k with h | h
   ·rw [Nat.min_eq_left h]; exact hm
   ·rw [Nat.min_eq_right h]; exact List.mem_of_getElem? hk
  ·rw [List.take_succ_eq_append_getElem hlt] at hj
   rw [List.getElem?_eq_getElem hlt] at hk
   injection hk with hk
   show min m k ≤ j
   rcases List.mem_append.1 hj with hj | hj
   ·have := hle j hj; omega
   ·simp at hj; omega
 ·have e1 : ((i : Int) < (l.length : Int)) = False := eq_false (by omega)
  (repeat' (first | exact trivial | (with_reducible first | apply awA | apply awD | apply awE | apply awF | apply awH | apply awK) | ((with_reducible first | apply awn | refine awQ ?_ | refine uh ?_); intro r hr; simp only [go_sem, Nat.reduceBEq, Nat.reduceLT, e1] at hr; subst hr; (first | refine awV ?_ ?_ | refine xi ?_ ?_ | (refine zf (fun h => ?_) (fun h => ?_) <;> (try simp only [go_sem, reduceCtorEq] at h) <;> (try (exfalso; omega))))))) <;> (try omega)
  all_goals refine ⟨(m : Int), ⟨m, rfl, hm, fun j hj => hle j (by rw [List.take_of_length_le (by omega)]; exact hj)⟩, AV.up_rfl _, ?_⟩
  all_goals repeat first | exact zo | refine zh rfl ?_
def Kw (p : Nat → Prop) (r : Int) : Prop := ∃ k : Nat, r = k ∧ p k ∧ ∀ j, p j → k ≤ j
def Y4 (e : Bool) (C : List InsM) (B : List Bool) (en k : Nat) : Prop :=
 qI (xF C yV) en k ∧ (Rch (xF C (xp C B)) k k ∨ e = false ∧ XR C B en (qI (xF C yV) en) k)
def qQ (e : Bool) (C : List InsM) : List Int → List Bool → Int → Prop
 | [], _, r => r = -1
 | n :: ns, B, r => Kw (Y4 e C B n.toNat) r ∨ (¬ ∃ k, Y4 e C B n.toNat k) ∧ qQ e C ns (B ++ [XQ C B n.toNat]) r
theorem Kw.uniq {p : Nat → Prop} {r s : Int} (h : Kw p r) (g : Kw p s) : r = s := by
 obtain ⟨k, rfl, h1, h2⟩ := h
 obtain ⟨j, rfl, g1, g2⟩ := g
 have := h2 j g1
 have := g2 k h1
 omega
theorem Kw.ex {p : Nat → Prop} (h : ∃ k, p k) : ∃ r, Kw p r := by
 obtain ⟨k, hk⟩ := h
 induction k using Nat.strongRecOn with
 | ind k ih =>
  by_cases hj : ∃ j, j < k ∧ p j
  ·obtain ⟨j, h1, h2⟩ := hj; exact ih j h1 h2
  ·exact ⟨k, k, rfl, hk, fun j h => Nat.le_of_not_lt fun hlt => hj ⟨j, hlt, h⟩⟩
theorem qQ.uniq {e : Bool} {C : List InsM} : ∀ {ns : List Int} {B : List Bool} {r s : Int}, qQ e C ns B r → qQ e C ns B s → r = s
 | [], _, _, _, h, g => by rw [show _ = _ from h, show _ = _ from g]
 | n :: ns, B, r, s, h, g => by
  rcases h with h | ⟨h1, h2⟩ <;> rcases g with g | ⟨g1, g2⟩
  ·exact h.uniq g
  ·obtain ⟨k, _, hk, _⟩ := h; exact absurd ⟨k, hk⟩ g1
  ·obtain ⟨k, _, hk, _⟩ := g; exact absurd ⟨k, hk⟩ h1
  ·exact qQ.uniq h2 g2
theorem qQ.ex (e : Bool) (C : List InsM) : ∀ (ns : List Int) (B : List Bool), ∃ r, qQ e C ns B r
 | [], _ => ⟨-1, rfl⟩
 | n :: ns, B => by
  by_cases h : ∃ k, Y4 e C B n.toNat k
  ·obtain ⟨r, hr⟩ := Kw.ex h; exact ⟨r, .inl hr⟩
  ·obtain ⟨r, hr⟩ := qQ.ex e C ns (B ++ [XQ C B n.toNat]); exact ⟨r, .inr ⟨h, hr⟩⟩
noncomputable def Ko (e : Bool) (C : List InsM) (N : List Int) : Int := Classical.choose (qQ.ex e C N [])
theorem vE (e : Bool) (C : List InsM) (N : List Int) : qQ e C N [] (Ko e C N) := Classical.choose_spec (qQ.ex e C N [])
def ZP (C : List InsM) (N : List Int) : Prop := ∀ (t : Nat) (n : Int), N[t]? = some n → ∃ S : Nat → Prop, S n.toNat ∧ ∀ B : List Bool, B.length = t → ClosedS C B S
theorem W6 (e : Bool) (C : List InsM) (N : List Int) (hok : CodeOK C N) (hlk : ZP C N) : yL Try.prog 36 [pG e C N] [] (qQ e C N []) (fun r => vI r) (fun _ => []) := by
 have hC := hok.len
 have hNl := hok.lenN
 unfold pG
 refine xT (za _) Try.func36 rfl rfl (by rw [Try.results36]) Try.ntmps36 rfl fun E => ?_
 (repeat' (first | exact trivial | (with_reducible first | apply awA | apply awB | apply awF) | ((with_reducible apply awn); intro r hr; simp only [go_sem, Nat.reduceBEq, Nat.reduceLT, Nat.reduceLeDiff, Nat.reduceAdd, Nat.reduceMul] at hr; subst hr; (first | refine awV ?_ ?_)))) <;> (try omega)
 refine x4 3 4 1 50 (.inl (by decide)) (by simp only [go_sem, Nat.reduceBEq]) ?_
 (repeat' (first | exact trivial | (with_reducible first | apply awA | apply awB | apply awC | apply awD | apply awE | apply awF | apply awG | apply awH | apply awI | apply awJ | apply awK | apply awL | refine awM (by decide) ?_) | ((with_reducible first | apply awn | apply awo | apply awp | refine awQ ?_ | refine awR ?_ | refine awS ?_ | refine uh ?_ | refine zdw ?_); intro r hr; simp only [go_sem, Nat.reduceBEq, Nat.reduceBneDiff, Nat.reduceLT, Nat.reduceLeDiff, Nat.reduceAdd, Nat.reduceMul, Nat.reduceSub, Nat.reduceEqDiff, reduceCtorEq, AState.nilrow, zq] at hr; subst hr; (first | refine awV ?_ ?_ | refine awW ?_ ?_ | refine zR ?_ ?_ | refine xi ?_ ?_ | (refine zf (fun h => ?_) (fun h => ?_) <;> (try simp only [go_sem, reduceCtorEq] at h) <;> (try (exfalso; omega))))))) <;> (try omega)
 refine zC [1, 3, 9, 10, 11] [1, 50] (fun q : Nat × List Bool => ⟨[(1, true, .ptr 1 1 0 0), (3, true, .ref 4 1 50 0 q.2.length), (9, true, .lst 1 (v8 N)), (10, true, vI N.length), (11, true, vI q.1)],
  [(1, .var [vB e, .lst 4 (zz C), .lst 1 (v8 N)]), (50, .row 4 1 (wJ q.2))]⟩) (fun q => q.1 ≤ N.length ∧ q.2.length = q.1 ∧ ∀ r, qQ e C (N.drop q.1) q.2 r → qQ e C N [] r) (fun q => N.length - q.1) (0, [])
  (by simp only [AState.nilrow, zq, go_sem, Nat.reduceBEq, Nat.reduceLT] <;> exact rfl) ⟨Nat.zero_le _, rfl, fun r h => h⟩ ?_
 intro ⟨i, B⟩ ⟨hi, hB, hsec⟩
 simp only at hi hB hsec ⊢
 have hwi := zg (n := (i : Int) + 1) (by omega)
 have zi : ((i : Int)).toNat = i := by omega
 by_cases hlt : i < N.length
 ·have e1 : ((i : Int) < (N.length : Int)) = True := eq_true (by omega)
  obtain ⟨en, hen⟩ : ∃ en : Nat, N[i] = en := ⟨N[i].toNat, by have := (hok.entry _ (List.getElem_mem hlt)).1; omega⟩
  have gi := xm hlt
  rw [hen] at gi
  obtain ⟨S, hS0, hS1⟩ := hlk i N[i] (List.getElem?_eq_getElem hlt)
  rw [hen, Int.toNat_natCast] at hS0
  have hS := hS1 B hB
  rw [List.drop_eq_getElem_cons hlt, hen] at hsec
  have hr := zc0 e C N B en hok S hS [en] (by simp) (by simpa using hS0) (by simp)
  unfold rtV at hr
  (repeat' (first | exact trivial | (with_reducible first | apply awA | apply awB | apply awC | apply awF) | ((with_reducible first | refine awN (za _) [23] ?_ | refine awQ ?_); intro r hr; simp only [go_sem, Nat.reduceBEq, Nat.reduceLT, Nat.reduceLeDiff, Nat.reduceAdd, Nat.reduceMul, e1, zi, gi, zq] at hr; subst hr; (first | refine awV ?_ ?_ | refine awW ?_ ?_ | (refine zf (fun h => ?_) (fun h => ?_) <;> (try simp only [go_sem, reduceCtorEq] at h) <;> (try (exfalso; omega))))) | (refine zp [(19, 10000), (50, 10002), (23, 10004)] [(14, 24), (10000, 19), (10002, 50), (10004, 23)] [24] [19, 50, 23] ?_; intro r hr; simp only [go_sem, Nat.reduceBEq, Nat.reduceLT] at hr; subst hr; refine y4 (hr) rfl rfl (by first | exact .inl rfl | exact .inr rfl) ?_ (.inl rfl) (fun q hq => wl ?_)))) <;> (try omega)
  refine ⟨?_⟩
  obtain ⟨Q0, rfl⟩ : ∃ z, z = q := ⟨_, rfl⟩
  have hq0 := hq
  clear hq
  have hset := YU Q0 en
  have hclk := YV Q0 en
  have hmem := WZ hq0
  have hM := WX (WY hq0.nd en) (fun k hk => hS.lt k (W0 hS hS0 ((hmem k).1 hk))) hC
  have hkN := Kl (qo Q0 en)
  generalize hQ1 : qo Q0 en = Q1 at *
  have hMS : ∀ k ∈ yM (qL Q1), S k := fun k hk => W0 hS hS0 ((hmem k).1 (by rw [hkN] at hk; exact hk))
  have hcl : ∀ k ∈ yM (qL Q1), ∀ j ∈ yz C k (zb C k), j.toNat ∈ yM (qL Q1) := fun k hk j hj => by
   have h0 := (hS.ways k (hMS k hk) j hj).1
   rw [hkN] at hk ⊢
   rw [hmem] at hk ⊢
   obtain ⟨w, hw⟩ := List.mem_iff_getElem?.1 hj
   have hR : xF C yV k j.toNat := ⟨w, by rw [hw]; congr 1; omega, rfl⟩
   rcases hk with rfl | hk
   ·exact .inr (.one hR)
   ·exact .inr (.more hk hR)
  have hri := zbM e C N B en Q1.length (qL Q1) hok S hS hM hMS hcl
  have hun := J0 e C N B en Q1.length (qL Q1) hok S hS hM hMS hS0
  have hpa := zdt e C N B en Q1.length (qL Q1) hok S hS hS0
  have hcome : ∀ k, k ∈ yM (qL Q1) ↔ qI (xF C yV) en k := fun k => by rw [hkN]; exact hmem k
  have hcome2 : (fun k => k ∈ yM (qL Q1)) = qI (xF C yV) en := funext fun k => propext (hcome k)
  unfold rtO rtV at hri hun hpa
  (repeat' (first | exact trivial | (with_reducible first | apply awA | apply awF) | ((with_reducible first | apply awn | apply awo); intro r hr; simp only [go_sem, Nat.reduceBEq, Nat.reduceLT, Nat.reduceLeDiff, Nat.reduceAdd, Nat.reduceMul, zT] at hr; subst hr; (first | refine awV ?_ ?_ | refine awW ?_ ?_)) | (refine qi (za _) (d := 24) (L := qL Q0) (f := fun _ => AV.dead) (key := (en : Int)) () rfl rfl rfl rfl rfl rfl rfl rfl (.inr rfl) t83 rfl t3 rfl rfl hclk hset ?_) | (refine zp [(19, 10000), (50, 10002), (24, 10003)] [(88, 33), (10000, 19), (10002, 50), (10003, 24)] [33] [19, 50, 24] ?_; intro r hr; simp only [go_sem, Nat.reduceBEq, Nat.reduceLT, zT] at hr; subst hr; refine y4 (hri) rfl rfl (by first | exact .inl rfl | exact .inr rfl) ?_ (.inl rfl) (fun q hq => wl ?_)))) <;> (try omega)
  refine ⟨?_⟩
  obtain ⟨r1, rfl⟩ : ∃ z, z = q := ⟨_, rfl⟩
  have hr1 := hq
  clear hq
  have hr1l := hr1.len
  have hmin : ∀ R : List Nat, (∀ k, k ∈ R ↔ Y4 e C B en k) → ∀ r, zaB R r → qQ e C N [] r := fun R hR r ⟨k, h1, h2, h3⟩ => hsec r (.inl ⟨k, h1, by rw [Int.toNat_natCast]; exact (hR k).1 h2, fun j hj => h3 j ((hR j).2 (by rw [Int.toNat_natCast] at hj; exact hj))⟩)
  have hgo : ∀ R : List Nat, (∀ k, k ∈ R ↔ Y4 e C B en k) → R = [] → ∀ r, qQ e C (N.drop (i + 1)) (B ++ [XQ C B en]) r → qQ e C N [] r := fun R hR h0 r hr => hsec r (.inr ⟨fun ⟨k, hk⟩ => (by rw [Int.toNat_natCast] at hk; have := (hR k).2 hk; rw [h0] at this; cases this), by rw [Int.toNat_natCast]; exact hr⟩)
  have htB : (wJ B).take B.length = wJ B := List.take_of_length_le (by rw [xZ]; omega)
  have haB := JT B (XQ C B en)
  have hlB : (B ++ [XQ C B en]).length = B.length + 1 := by simp
  generalize XQ C B en = py at hpa htB haB hlB hgo
  cases e with
  | true =>
   have hR : ∀ k, k ∈ r1 ↔ Y4 true C B en k := fun k => by
    rw [hr1.iff, hcome]
    unfold Y4
    exact ⟨fun h => ⟨h.1, .inl h.2⟩, fun h => ⟨h.1, h.2.resolve_right fun g => by cases g.1⟩⟩
   by_cases hne : r1 = []
   ·have e4 : ((r1.length : Int) > 0) = False := eq_false (by rw [hne]; simp)
    have hg := hgo r1 hR hne
    (repeat' (first | exact trivial | (with_reducible first | apply awA | apply awC | apply awF | apply awI) | ((with_reducible first | apply awn | apply awo | refine awQ ?_); intro r hr; simp only [go_sem, Nat.reduceBEq, Nat.reduceLT, Nat.reduceLeDiff, Nat.reduceAdd, Nat.reduceMul, Nat.reduceEqDiff, yk, zT, e4, xZ, htB, haB, hlB] at hr; subst hr; (first | refine awV ?_ ?_ | refine awW ?_ ?_ | (refine zf (fun h => ?_) (fun h => ?_) <;> (try simp only [go_sem, reduceCtorEq] at h) <;> (try (exfalso; omega))))) | (refine zp [(19, 10000), (50, 10002), (24, 10003)] [(10000, 19), (10002, 50), (10003, 24)] [] [19, 50, 24] ?_; intro r hr; simp only [go_sem, Nat.reduceBEq, Nat.reduceLT, zT] at hr; subst hr; refine yo (hpa) rfl rfl (by first | exact .inl rfl | exact .inr rfl) ?_ (.inl rfl) ?_))) <;> (try omega)
    refine ⟨(i + 1, B ++ [py]), ?_, ⟨hlt, by show (B ++ [py]).length = i + 1; omega, hg⟩, by show N.length - (i + 1) < N.length - i; omega⟩
    simp only [hwi, hlB, go_sem, Nat.reduceBEq]
    try exact rfl
   ·have hl0 : 0 < r1.length := List.length_pos_iff.2 hne
    have e4 : ((r1.length : Int) > 0) = True := eq_true (by omega)
    have hmi := zc6 r1 hl0 (by omega)
    (repeat' (first | exact trivial | (with_reducible first | apply awA | apply awC | apply awF) | ((with_reducible first | apply awn | apply awo | refine awQ ?_); intro r hr; simp only [go_sem, Nat.reduceBEq, Nat.reduceLT, Nat.reduceLeDiff, Nat.reduceAdd, Nat.reduceMul, zT, e4] at hr; subst hr; (first | refine awV ?_ ?_ | refine awW ?_ ?_ | (refine zf (fun h => ?_) (fun h => ?_) <;> (try simp only [go_sem, reduceCtorEq] at h) <;> (try (exfalso; omega))))) | (refine zp [(33, 10004)] [(10004, 33)] [] [33] ?_; intro r hr; simp only [go_sem, Nat.reduceBEq, Nat.reduceLT] at hr; subst hr; refine y4 (hmi) rfl rfl (by first | exact .inl rfl | exact .inr rfl) ?_ (.inl rfl) (fun q hq => wl ?_)))) <;> (try omega)
    refine ⟨?_⟩
    have hfin := hmin r1 hR q hq
    (repeat' (first | exact trivial | (with_reducible first | apply awD | apply awF | apply awG | apply awJ) | ((with_reducible first | apply awo | refine uh ?_); intro r hr; simp only [go_sem, Nat.reduceBEq, Nat.reduceLT, uX] at hr; subst hr; (first | refine awV ?_ ?_ | refine xi ?_ ?_)))) <;> (try omega)
    all_goals refine ⟨q, hfin, AV.up_rfl _, ?_⟩
    all_goals repeat first | exact zo | refine zh rfl ?_
  | false =>
   (repeat' (first | exact trivial | (with_reducible first | apply awA | apply awF) | ((with_reducible first | apply awn | apply awo | refine awQ ?_); intro r hr; simp only [go_sem, Nat.reduceBEq, Nat.reduceLT, Nat.reduceLeDiff, Nat.reduceAdd, Nat.reduceMul, zT] at hr; subst hr; (first | refine awV ?_ ?_ | refine awW ?_ ?_ | (refine zf (fun h => ?_) (fun h => ?_) <;> (try simp only [go_sem, reduceCtorEq] at h) <;> (try (exfalso; omega))))) | (refine zp [(19, 10000), (50, 10002), (24, 10003)] [(42, 39), (10000, 19), (10002, 50), (10003, 24)] [39] [19, 50, 24] ?_; intro r hr; simp only [go_sem, Nat.reduceBEq, Nat.reduceLT, zT] at hr; subst hr; refine y4 (hun) rfl rfl (by first | exact .inl rfl | exact .inr rfl) ?_ (.inl rfl) (fun q hq => wl ?_)))) <;> (try omega)
   refine ⟨?_⟩
   obtain ⟨r2, rfl⟩ : ∃ z, z = q := ⟨_, rfl⟩
   have hr2 := hq
   clear hq
   have hr2l := hr2.len
   have hR : ∀ k, k ∈ r1 ++ r2 ↔ Y4 false C B en k := fun k => by
    rw [List.mem_append, hr1.iff, hr2.iff, hcome2]
    unfold Y4
    constructor
    ·rintro (⟨h1, h2⟩ | h)
     ·exact ⟨(hcome k).1 h1, .inl h2⟩
     ·exact ⟨h.1, .inr ⟨rfl, h⟩⟩
    ·rintro ⟨h1, h2 | ⟨_, h2⟩⟩
     ·exact .inl ⟨(hcome k).2 h1, h2⟩
     ·exact .inr h2
   have ht1 : (v8 (yC r1)).take r1.length = v8 (yC r1) := by rw [yT, List.take_of_length_le (by rw [zY]; omega)]
   have ht2 : (v8 (yC r2)).take r2.length = v8 (yC r2) := by rw [yT, List.take_of_length_le (by rw [zY]; omega)]
   have ha2 : v8 (yC r1) ++ v8 (yC r2) = v8 (yC (r1 ++ r2)) := by simp [v8, yC]
   have hl2 : (r1 ++ r2).length = r1.length + r2.length := List.length_append
   by_cases hne : r1 ++ r2 = []
   ·have e4 : (((r1 ++ r2).length : Int) > 0) = False := eq_false (by rw [hne]; simp)
    have hg := hgo (r1 ++ r2) hR hne
    (repeat' (first | exact trivial | (with_reducible first | apply awA | apply awC | apply awF | apply awI) | ((with_reducible first | apply awn | apply awo | refine awQ ?_); intro r hr; simp only [go_sem, Nat.reduceBEq, Nat.reduceLT, Nat.reduceLeDiff, Nat.reduceAdd, Nat.reduceMul, Nat.reduceEqDiff, yk, zT, e4, zq, zY, ht1, ht2, ha2, Nat.zero_add, xZ, htB, haB, hlB] at hr; subst hr; (first | refine awV ?_ ?_ | refine awW ?_ ?_ | (refine zf (fun h => ?_) (fun h => ?_) <;> (try simp only [go_sem, reduceCtorEq] at h) <;> (try (exfalso; omega))))) | (refine zp [(19, 10000), (50, 10002), (24, 10003)] [(10000, 19), (10002, 50), (10003, 24)] [] [19, 50, 24] ?_; intro r hr; simp only [go_sem, Nat.reduceBEq, Nat.reduceLT, zT] at hr; subst hr; refine yo (hpa) rfl rfl (by first | exact .inl rfl | exact .inr rfl) ?_ (.inl rfl) ?_))) <;> (try omega)
    refine ⟨(i + 1, B ++ [py]), ?_, ⟨hlt, by show (B ++ [py]).length = i + 1; omega, hg⟩, by show N.length - (i + 1) < N.length - i; omega⟩
    simp only [hwi, hlB, go_sem, Nat.reduceBEq]
    try exact rfl
   ·have hl0 : 0 < (r1 ++ r2).length := List.length_pos_iff.2 hne
    have e4 : (((r1 ++ r2).length : Int) > 0) = True := eq_true (by omega)
    have hmi := zc6 (r1 ++ r2) hl0 (by omega)
    (repeat' (first | exact trivial | (with_reducible first | apply awA | apply awF) | ((with_reducible first | apply awn | apply awo | refine awQ ?_); intro r hr; simp only [go_sem, Nat.reduceBEq, Nat.reduceLT, Nat.reduceLeDiff, Nat.reduceAdd, Nat.reduceEqDiff, yk, zT, e4, zq, zY, ht1, ht2, ha2, Nat.zero_add] at hr; subst hr; (first | refine awV ?_ ?_ | refine awW ?_ ?_ | (refine zf (fun h => ?_) (fun h => ?_) <;> (try simp only [go_sem, reduceCtorEq] at h) <;> (try (exfalso; omega))))) | (refine zp [(33, 10004)] [(10004, 33)] [] [33] ?_; intro r hr; simp only [go_sem, Nat.reduceBEq, Nat.reduceLT] at hr; subst hr; refine y4 (hmi) rfl rfl (by first | exact .inl rfl | exact .inr rfl) ?_ (.inl rfl) (fun q hq => wl ?_)))) <;> (try omega)
    refine ⟨?_⟩
    have hfin := hmin (r1 ++ r2) hR q hq
    (repeat' (first | exact trivial | (with_reducible first | apply awD | apply awF | apply awG | apply awJ) | ((with_reducible first | apply awo | refine uh ?_); intro r hr; simp only [go_sem, Nat.reduceBEq, Nat.reduceLT, uX] at hr; subst hr; (first | refine awV ?_ ?_ | refine xi ?_ ?_)))) <;> (try omega)
    all_goals refine ⟨q, hfin, AV.up_rfl _, ?_⟩
    all_goals repeat first | exact zo | refine zh rfl ?_
 ·have e1 : ((i : Int) < (N.length : Int)) = False := eq_false (by omega)
  (repeat' (first | exact trivial | (with_reducible first | apply awA | apply awD | apply awE | apply awF | apply awH | apply awK) | ((with_reducible first | apply awn | refine awQ ?_ | refine uh ?_); intro r hr; simp only [go_sem, Nat.reduceBEq, Nat.reduceLT, e1] at hr; subst hr; (first | refine awV ?_ ?_ | refine xi ?_ ?_ | (refine zf (fun h => ?_) (fun h => ?_) <;> (try simp only [go_sem, reduceCtorEq] at h) <;> (try (exfalso; omega))))))) <;> (try omega)
  all_goals refine ⟨-1, hsec _ (by rw [List.drop_of_length_le (by omega)]; rfl), AV.up_rfl _, ?_⟩
  all_goals repeat first | exact zo | refine zh rfl ?_
end
section
open Go.RowKit
def Dok (L : LkM) (D : List Nat) : Prop := ∀ d ∈ D, (L.getD d none).isSome = true
theorem WtH.len {L : LkM} {D : List Nat} {W : List Int} (h : WtH L D W) : W.length ≤ L.length := by
 have h1 : (W.map Int.toNat).Nodup := by
  rw [List.Nodup, List.pairwise_map]
  refine List.Pairwise.imp_of_mem (fun {a b} ha hb hab => ?_) h.nd
  have := ((h.mem a).1 ha).1
  have := ((h.mem b).1 hb).1
  omega
 have h2 := xX h1 (n := L.length) fun k hk => by
  obtain ⟨a, ha, rfl⟩ := List.mem_map.1 hk
  exact kc ((h.mem a).1 ha).2
 simpa using h2
def lkP (e : Bool) (C : List InsM) (N : List Int) (L : LkM) (W : List Int) : List (Nat × AObj) := (10001, .var [.ptr 1 10000 0 0]) :: lkO e C N L W
theorem JN (e : Bool) (C : List InsM) (N : List Int) (L : LkM) (W : List Int) (k : Int) : yq Try.prog 58 [vI k, .ptr 1 10001 0 0] (lkP e C N L W) (vB (decide ((C.length : Int) ≤ k))) (lkP e C N L W) := by
 unfold lkP lkO lkV
 refine zW (za _) Try.func58 rfl rfl (by rw [Try.results58]) Try.ntmps58 rfl fun E => ?_
 (repeat' (first | exact trivial | (with_reducible first | apply awA | apply awD | apply awF) | ((with_reducible first | apply awn | refine awT ?_); intro r hr; simp only [go_sem, Nat.reduceBEq, Nat.reduceLT, Nat.reduceLeDiff, Nat.reduceAdd, Nat.reduceMul, zd] at hr; subst hr; (first | refine awV ?_ ?_ | refine yl ?_ ?_ ?_)))) <;> (try omega)
 all_goals first | exact AV.up_rfl _ | exact AV.up_dead _ | (repeat first | exact zo | refine zh rfl ?_)
theorem zbG (e : Bool) (C : List InsM) (N : List Int) (L : LkM) (W : List Int) (ks : List Int) (hks : ks.length ≤ 1000000000) :
  yL Try.prog 73 [.lst 1 (v8 ks), .fn 58 [.ptr 1 10001 0 0]] (lkP e C N L W) (fun r : Int => decide (0 ≤ r) = ks.any fun j => decide ((C.length : Int) ≤ j)) (fun r => vI r) (fun _ => lkP e C N L W) := by
 unfold lkP lkO lkV
 refine xT (za _) Try.func73 rfl rfl (by rw [Try.results73]) Try.ntmps73 rfl fun E => ?_
 (repeat' (first | exact trivial | (with_reducible first | apply awA | apply awB | apply awF) | ((with_reducible apply awn); intro r hr; simp only [go_sem, Nat.reduceBEq, Nat.reduceLT, zq] at hr; subst hr; (first | refine awV ?_ ?_)))) <;> (try omega)
 refine zC [0, 1, 6, 7, 8] [10001, 10000, 15000, 15001, 15002] (fun i : Nat => ⟨[(0, true, .lst 1 (v8 ks)), (1, true, .fn 58 [.ptr 1 10001 0 0]), (6, true, .lst 1 (v8 ks)), (7, true, vI ks.length), (8, true, vI i)],
  [(10001, .var [.ptr 1 10000 0 0]), (10000, .var [vB e, .lst 4 (zz C), .lst 1 (v8 N), .ref 77 6 15000 0 L.length, .ref 4 1 15001 0 L.length, .ref 3 1 15002 0 W.length]), (15000, .row 77 6 (xf L)), (15001, .row 4 1 (xg L)), (15002, .row 3 1 (v8 W))]⟩) (fun i => i ≤ ks.length ∧ ∀ j ∈ ks.take i, ¬ (C.length : Int) ≤ j) (fun i => ks.length - i) 0 (by simp only [go_sem, Nat.reduceBEq] <;> exact rfl) ⟨Nat.zero_le _, fun j hj => by simp at hj⟩ ?_
 intro i ⟨hi, hall⟩
 have hwi := zg (n := (i : Int) + 1) (by omega)
 have zi : ((i : Int)).toNat = i := by omega
 by_cases hlt : i < ks.length
 ·have e1 : ((i : Int) < (ks.length : Int)) = True := eq_true (by omega)
  have gi := xm hlt
  have hb := JN e C N L W ks[i]
  unfold lkP lkO lkV at hb
  by_cases hc : (C.length : Int) ≤ ks[i]
  ·rw [decide_eq_true hc] at hb
   (repeat' (first | exact trivial | (with_reducible first | apply awA | apply awB | apply awC | apply awD | apply awF | apply awG | apply awJ) | ((with_reducible first | apply awn | apply awo | refine awQ ?_ | refine uh ?_); intro r hr; simp only [go_sem, Nat.reduceBEq, Nat.reduceLT, Nat.reduceLeDiff, e1, zi, gi, zq] at hr; subst hr; (first | refine awV ?_ ?_ | refine awW ?_ ?_ | refine xi ?_ ?_ | (refine zf (fun h => ?_) (fun h => ?_) <;> (try simp only [go_sem, reduceCtorEq] at h) <;> (try (exfalso; omega))))) | (refine yf (za _) [(10001, 10001), (10000, 10000), (15000, 15000), (15001, 15001), (15002, 15002)] [(10001, 10001), (10000, 10000), (15000, 15000), (15001, 15001), (15002, 15002)] [15000, 15001, 15002] [10001, 10000] (by simp only [go_sem, Nat.reduceBEq, Nat.reduceLT, Nat.reduceSub] <;> exact rfl) ?_ rfl rfl (by first | exact .inl rfl | exact .inr rfl) (by simp only [go_sem, Nat.reduceBEq] <;> exact rfl) (hb) (.inl rfl) ?_))) <;> (try omega)
   all_goals refine ⟨(i : Int), ?_, AV.up_rfl _, ?_⟩
   all_goals first | (repeat first | exact zo | refine zh rfl ?_) | skip
   all_goals rw [decide_eq_true (show (0 : Int) ≤ (i : Int) by omega)]
   all_goals exact (List.any_eq_true.2 ⟨_, List.getElem_mem hlt, decide_eq_true hc⟩).symm
  ·rw [decide_eq_false hc] at hb
   (repeat' (first | exact trivial | (with_reducible first | apply awA | apply awB | apply awC | apply awF | apply awI) | ((with_reducible first | apply awn | apply awo | refine awQ ?_); intro r hr; simp only [go_sem, Nat.reduceBEq, Nat.reduceLT, Nat.reduceLeDiff, e1, zi, hwi, gi, zq] at hr; subst hr; (first | refine awV ?_ ?_ | refine awW ?_ ?_ | (refine zf (fun h => ?_) (fun h => ?_) <;> (try simp only [go_sem, reduceCtorEq] at h) <;> (try (exfalso; omega))))) | (refine yf (za _) [(10001, 10001), (10000, 10000), (15000, 15000), (15001, 15001), (15002, 15002)] [(10001, 10001), (10000, 10000), (15000, 15000), (15001, 15001), (15002, 15002)] [15000, 15001, 15002] [10001, 10000] (by simp only [go_sem, Nat.reduceBEq, Nat.reduceLT, Nat.reduceSub] <;> exact rfl) ?_ rfl rfl (by first | exact .inl rfl | exact .inr rfl) (by simp only [go_sem, Nat.reduceBEq] <;> exact rfl) (hb) (.inl rfl) ?_))) <;> (try omega)
   refine ⟨i + 1, ?_, ⟨hlt, fun j hj => ?_⟩, by omega⟩
   ·simp only [go_sem, Nat.reduceBEq]
    try exact rfl
   ·rw [List.take_succ_eq_append_getElem hlt] at hj
    rcases List.mem_append.1 hj with hj | hj
    ·exact hall j hj
    ·simp at hj; subst hj; exact hc
 ·have e1 : ((i : Int) < (ks.length : Int)) = False := eq_false (by omega)
  (repeat' (first | exact trivial | (with_reducible first | apply awA | apply awD | apply awE | apply awF | apply awH | apply awK) | ((with_reducible first | apply awn | refine awQ ?_ | refine uh ?_); intro r hr; simp only [go_sem, Nat.reduceBEq, Nat.reduceLT, e1] at hr; subst hr; (first | refine awV ?_ ?_ | refine xi ?_ ?_ | (refine zf (fun h => ?_) (fun h => ?_) <;> (try simp only [go_sem, reduceCtorEq] at h) <;> (try (exfalso; omega))))))) <;> (try omega)
  all_goals refine ⟨-1, ?_, AV.up_rfl _, ?_⟩
  all_goals first | (repeat first | exact zo | refine zh rfl ?_) | skip
  all_goals rw [List.take_of_length_le (by omega)] at hall
  all_goals exact (List.any_eq_false.2 fun j hj => by simpa using hall j hj).symm
theorem VM (e : Bool) (C : List InsM) (N : List Int) (L : LkM) (W : List Int) (ks : List Int) (hks : ks.length ≤ 1000000000) :
  yq Try.prog 57 [.lst 1 (v8 ks), .fn 58 [.ptr 1 10001 0 0]] (lkP e C N L W) (vB (ks.any fun j => decide ((C.length : Int) ≤ j))) (lkP e C N L W) := by
 have hi := zbG e C N L W ks hks
 unfold lkP lkO lkV at *
 refine zW (za _) Try.func57 rfl rfl (by rw [Try.results57]) Try.ntmps57 rfl fun E => ?_
 (repeat' (first | exact trivial | (with_reducible first | apply awA | apply awD | apply awF) | ((with_reducible first | apply awn | apply awo | refine awT ?_); intro r hr; simp only [go_sem, Nat.reduceBEq, Nat.reduceLT] at hr; subst hr; (first | refine awV ?_ ?_ | refine awW ?_ ?_ | refine yl ?_ ?_ ?_)) | (refine zp [(10001, 10001), (10000, 10000), (15000, 15000), (15001, 15001), (15002, 15002)] [(10001, 10001), (10000, 10000), (15000, 15000), (15001, 15001), (15002, 15002)] [15000, 15001, 15002] [10001, 10000] ?_; intro r hr; simp only [go_sem, Nat.reduceBEq, Nat.reduceLT] at hr; subst hr; refine y4 (hi) rfl rfl (by first | exact .inl rfl | exact .inr rfl) ?_ (.inl rfl) (fun q hq => ?_)))) <;> (try omega)
 all_goals first | (rw [← hq]; exact AV.up_rfl _) | exact AV.up_rfl _ | (repeat first | exact zo | refine zh rfl ?_)
def zcU (C : List InsM) (D : List Nat) (R : Except Int LkM) (q : Int × LkM × List Int) : Prop :=
 q.2.1.length = C.length ∧ match R with
 | .ok L1 => q.1 = -1 ∧ q.2.1 = L1 ∧ WtH L1 D q.2.2 ∧ Dok L1 D
 | .error j => q.1 = j ∧ 0 ≤ j
theorem uU {e : Bool} {C : List InsM} {L : LkM} {k : Nat} {s : StM} {t : Int} (h : L.getD k none = none) : w7 e C L k s t = some (L.set k (some s)) := by unfold w7; rw [h]
theorem uV {e : Bool} {C : List InsM} {L : LkM} {k : Nat} {s s0 : StM} {t : Int} (h : L.getD k none = some s0) : w7 e C L k s t = none ∨ w7 e C L k s t = some L := by
 unfold w7
 rw [h]
 simp only
 split
 ·exact .inr rfl
 ·split
  ·exact .inr rfl
  ·exact .inl rfl
theorem Dok.set {L : LkM} {D : List Nat} (h : Dok L D) (k : Nat) (s : StM) : Dok (L.set k (some s)) D := fun d hd => by
 have h1 := h d hd
 by_cases hk : k = d
 ·subst hk
  have : k < L.length := by
   rcases Nat.lt_or_ge k L.length with h' | h'
   ·exact h'
   ·simp [List.getD, List.getElem?_eq_none h'] at h1
  simp [List.getD, this]
 ·simp only [List.getD, List.getElem?_set_ne hk] at h1 ⊢
  exact h1
theorem Dok.none {L : LkM} {D : List Nat} (h : Dok L D) {k : Nat} (hk : L.getD k none = Option.none) : k ∉ D := fun hm => by
 have := h k hm
 rw [hk] at this
 cases this
end
section
open Go.RowKit
abbrev cEf (e : EfM) : List AV := [vI e.next.place, .v (.int .u64 e.next.kids), vI e.next.table, vI e.next.parts, vI e.next.free, vI e.next.left, vI e.target.place, .v (.int .u64 e.target.kids), vI e.target.table, vI e.target.parts, vI e.target.free, vI e.target.left]
theorem zcV (e : Bool) (C : List InsM) (N : List Int) (hok : CodeOK C N) (L : LkM) (hL : L.length = C.length) (D : List Nat) (W : List Int) (hwt : WtH L D W) (hD : Dok L D) (k : Nat) (hk : k < C.length) (t : Int) :
  yL Try.prog 42 [.ptr 1 10000 0 0, vI k, vI t] (lkO e C N L W) (zcU C D (jt e C k L t)) (fun q => vI q.1) (fun q => lkO e C N q.2.1 q.2.2) := by
 have hC := hok.len
 have zk : ((k : Int)).toNat = k := by omega
 have gk := yy hk
 have gs := qj (L := L) (k := k) (by omega)
 have st := XJ e C N hok L W k hk (jb L k) t
 have hw := ZK e C N (by omega) k hk (hok.arms k hk)
 have hpos := hok.ways k hk
 have hct := VM e C N L W (yz C k (zb C k))
 have hop : YR (zb C k) = (decide ((zb C k).op = 8) || decide ((zb C k).op = 41)) := rfl
 have hwl : (yz C k (zb C k)).length ≤ 10000000 := by
  unfold yz
  split
  ·simp
  ·split
   ·simp
   ·split
    ·rename_i h8
     have := hok.arms k hk h8
     simp
     omega
    ·split <;> simp
 have hct := hct (by omega)
 unfold jt
 dsimp only
 generalize z5 e (zb C k) (jb L k) t = r at st ⊢
 obtain ⟨ef, ok⟩ := r
 generalize yz C k (zb C k) = ks at hw hpos hct hwl ⊢
 generalize hB : (ks.any fun j => decide ((C.length : Int) ≤ j)) = bey at hct ⊢
 generalize hA : YR (zb C k) = arms at hop ⊢
 generalize zb C k = x at gk hop
 unfold pG at hw
 cases ok with
 | false =>
  simp only [true_or, if_true]
  unfold lkP lkO lkV at *
  refine xT (za _) Try.func42 rfl rfl (by rw [Try.results42]) Try.ntmps42 rfl fun E => ?_
  (repeat' (first | exact trivial | (with_reducible first | apply awA | apply awD | apply awF | apply awG) | (refine zn (id := 1) (t := (.node [0, 1, 2, 3, 4, 5, 6, 7, 8, 9] [(.node [10, 11, 12, 13, 14, 15, 16] []), (.node [14, 10, 11, 12, 13, 15, 16] [])])) (drR [3] [20, 23] [25]) zD (by kernel_rfl) (by kernel_rfl) (fun _ _ h => h) ?_) | (refine zx (by simp only [go_sem]; exact rfl) ?_) | (refine zA (by simp only [go_sem]; exact rfl) ?_) | refine ze ?_ | refine zl ?_ ?_ | exact zy | ((with_reducible first | apply awn | apply awo | apply awp | refine awQ ?_ | refine uh ?_); intro r hr; simp only [go_sem, Nat.reduceBEq, Nat.reduceLT, Nat.reduceLeDiff, Nat.reduceAdd, Nat.reduceMul, reduceCtorEq, zk, gs] at hr; subst hr; (first | refine caC (hw) rfl ?_ ?_ ?_ | refine awV ?_ ?_ | refine awW ?_ ?_ | refine xi ?_ ?_ | (refine zf (fun h => ?_) (fun h => ?_) <;> (try simp only [go_sem, reduceCtorEq] at h) <;> (try (exfalso; omega))))) | (refine zp [(10000, 10000), (15000, 15000), (15001, 15001), (15002, 15002)] [(10000, 10000), (15000, 15000), (15001, 15001), (15002, 15002)] [15000, 15001, 15002] [10000] ?_; intro r hr; simp only [go_sem, Nat.reduceBEq, Nat.reduceLT, reduceCtorEq] at hr; subst hr; refine yo (st) rfl rfl (by first | exact .inl rfl | exact .inr rfl) ?_ (.inl rfl) ?_) | (refine yW (vB true) rfl rfl ⟨by decide, by decide⟩ ?_))) <;> (try omega)
  all_goals first | (refine ⟨((k : Int), L, W), ⟨hL, rfl, by omega⟩, AV.up_rfl _, ?_⟩; repeat first | exact zo | refine zh rfl ?_) | skip
 | true =>
  cases bey with
  | true =>
   simp only [or_true, if_true]
   unfold lkP lkO lkV at *
   refine xT (za _) Try.func42 rfl rfl (by rw [Try.results42]) Try.ntmps42 rfl fun E => ?_
   (repeat' (first | exact trivial | (with_reducible first | apply awA | apply awD | apply awF | apply awG) | (refine zn (id := 1) (t := (.node [0, 1, 2, 3, 4, 5, 6, 7, 8, 9] [(.node [10, 11, 12, 13, 14, 15, 16] []), (.node [14, 10, 11, 12, 13, 15, 16] [])])) (drR [3] [20, 23] [25]) zD (by kernel_rfl) (by kernel_rfl) (fun _ _ h => h) ?_) | (refine zx (by simp only [go_sem]; exact rfl) ?_) | (refine zA (by simp only [go_sem]; exact rfl) ?_) | refine ze ?_ | refine zl ?_ ?_ | exact zy | ((with_reducible first | apply awn | apply awo | apply awp | refine awQ ?_ | refine uh ?_); intro r hr; simp only [go_sem, Nat.reduceBEq, Nat.reduceLT, Nat.reduceLeDiff, Nat.reduceAdd, Nat.reduceMul, reduceCtorEq, zk, gs] at hr; subst hr; (first | refine caC (hw) rfl ?_ ?_ ?_ | refine awV ?_ ?_ | refine awW ?_ ?_ | refine xi ?_ ?_ | (refine zf (fun h => ?_) (fun h => ?_) <;> (try simp only [go_sem, reduceCtorEq] at h) <;> (try (exfalso; omega))))) | (refine zp [(10000, 10000), (15000, 15000), (15001, 15001), (15002, 15002)] [(10000, 10000), (15000, 15000), (15001, 15001), (15002, 15002)] [15000, 15001, 15002] [10000] ?_; intro r hr; simp only [go_sem, Nat.reduceBEq, Nat.reduceLT] at hr; subst hr; refine yo (st) rfl rfl (by first | exact .inl rfl | exact .inr rfl) ?_ (.inl rfl) ?_) | (refine zp [(3, 10001), (10000, 10000), (15000, 15000), (15001, 15001), (15002, 15002)] [(10001, 3), (10000, 10000), (15000, 15000), (15001, 15001), (15002, 15002)] [15000, 15001, 15002] [3, 10000] ?_; intro r hr; simp only [go_sem, Nat.reduceBEq, Nat.reduceLT] at hr; subst hr; refine yo (hct) rfl rfl (by first | exact .inl rfl | exact .inr rfl) ?_ (.inl rfl) ?_))) <;> (try omega)
   all_goals first | (refine ⟨((k : Int), L, W), ⟨hL, rfl, by omega⟩, AV.up_rfl _, ?_⟩; repeat first | exact zo | refine zh rfl ?_) | skip
  | false =>
   have hlt : ∀ j ∈ ks, j < C.length := fun j hj => by
    have := List.any_eq_false.1 hB j hj
    simpa using this
   simp only [reduceCtorEq, or_self, if_false]
   generalize hR : uW e C t ef arms ks 0 L = R
   unfold lkO lkV at st ⊢
   unfold lkP lkO lkV at hct
   refine xT (za _) Try.func42 rfl rfl (by rw [Try.results42]) Try.ntmps42 rfl fun E => ?_
   have hop2 := hop.symm
   (repeat' (first | exact trivial | (with_reducible first | apply awA | apply awB | apply awC | apply awF) | (refine zn (id := 1) (t := (.node [0, 1, 2, 3, 4, 5, 6, 7, 8, 9] [(.node [10, 11, 12, 13, 14, 15, 16] []), (.node [14, 10, 11, 12, 13, 15, 16] [])])) (drR [3] [20, 23] [25]) zD (by kernel_rfl) (by kernel_rfl) (fun _ _ h => h) ?_) | (refine zx (by simp only [go_sem]; exact rfl) ?_) | (refine zA (by simp only [go_sem]; exact rfl) ?_) | refine ze ?_ | refine zl ?_ ?_ | exact zy | ((with_reducible first | apply awn | apply awo | apply awp | refine awQ ?_); intro r hr; simp only [go_sem, Nat.reduceBEq, Nat.reduceLT, Nat.reduceLeDiff, Nat.reduceAdd, Nat.reduceMul, reduceCtorEq, zk, gs, gk, zd, zq] at hr; subst hr; (first | refine caC (hw) rfl ?_ ?_ ?_ | refine awV ?_ ?_ | refine awW ?_ ?_ | (refine zf (fun h => ?_) (fun h => ?_) <;> (try simp only [go_sem, reduceCtorEq] at h) <;> (try (exfalso; omega))))) | (refine zp [(10000, 10000), (15000, 15000), (15001, 15001), (15002, 15002)] [(10000, 10000), (15000, 15000), (15001, 15001), (15002, 15002)] [15000, 15001, 15002] [10000] ?_; intro r hr; simp only [go_sem, Nat.reduceBEq, Nat.reduceLT] at hr; subst hr; refine yo (st) rfl rfl (by first | exact .inl rfl | exact .inr rfl) ?_ (.inl rfl) ?_) | (refine zp [(3, 10001), (10000, 10000), (15000, 15000), (15001, 15001), (15002, 15002)] [(10001, 3), (10000, 10000), (15000, 15000), (15001, 15001), (15002, 15002)] [15000, 15001, 15002] [3, 10000] ?_; intro r hr; simp only [go_sem, Nat.reduceBEq, Nat.reduceLT] at hr; subst hr; refine yo (hct) rfl rfl (by first | exact .inl rfl | exact .inr rfl) ?_ (.inl rfl) ?_))) <;> (try omega)
   all_goals
    refine zC [1, 2, 3, 7, 10, 64, 65, 66] [3, 7, 10000, 15000, 15001, 15002] (fun q : Nat × LkM × List Int => ⟨[(1, true, vI k), (2, true, vI t), (3, true, .ptr 1 3 0 0), (7, true, .ptr 1 7 0 0), (10, true, vB arms), (64, true, .lst 1 (v8 ks)), (65, true, vI ks.length), (66, true, vI q.1)],
     [(3, .var [.ptr 1 10000 0 0]), (7, .var (cEf ef)), (10000, .var [vB e, .lst 4 (zz C), .lst 1 (v8 N), .ref 77 6 15000 0 C.length, .ref 4 1 15001 0 C.length, .ref 3 1 15002 0 q.2.2.length]), (15000, .row 77 6 (xf q.2.1)), (15001, .row 4 1 (xg q.2.1)), (15002, .row 3 1 (v8 q.2.2))]⟩)
     (fun q => q.1 ≤ ks.length ∧ q.2.1.length = C.length ∧ WtH q.2.1 D q.2.2 ∧ Dok q.2.1 D ∧ uW e C t ef arms (ks.drop q.1) q.1 q.2.1 = R) (fun q => ks.length - q.1) (0, L, W) (by rw [hop]; simp only [hL, go_sem, Nat.reduceBEq] <;> exact rfl) ⟨Nat.zero_le _, hL, hwt, hD, hR⟩ ?_
    intro ⟨i, L', W'⟩ ⟨hi, hL', hw', hD', hR'⟩
    simp only at hi hL' hw' hD' hR' ⊢
    have hWl := hw'.len
    have hwi := zg (n := (i : Int) + 1) (by omega)
    have zi : ((i : Int)).toNat = i := by omega
    by_cases hlti : i < ks.length
    ·have e1 : ((i : Int) < (ks.length : Int)) = True := eq_true (by omega)
     obtain ⟨m, hm⟩ : ∃ m : Nat, ks[i] = m := ⟨ks[i].toNat, by have := hpos _ (List.getElem_mem hlti); omega⟩
     have hmC : m < C.length := by have := hlt _ (List.getElem_mem hlti); omega
     have gi := xm hlti
     rw [hm] at gi
     rw [List.drop_eq_getElem_cons hlti, hm] at hR'
     unfold uW at hR'
     rw [Int.toNat_natCast] at hR'
     by_cases hi1 : i = 1
     ·have e2 : ((i : Int) = 1) = True := eq_true (by omega)
      cases arms with
      | false =>
       rw [if_pos ⟨hi1, rfl⟩] at hR'
       cases hn : L'.getD m none with
       | none =>
        have hh := q9 e C N hok L' hL' W' (by omega) m hmC ef.target t hn
        rw [uU hn] at hR'
        simp only at hR'
        have hp := hw'.push (by omega) hn (hD'.none hn) ef.target
        have hd := hD'.set m ef.target
        have hls : (L'.set m (some ef.target)).length = C.length := by simp [hL']
        generalize L'.set m (some ef.target) = L2 at hh hR' hp hd hls
        generalize upF (W'.length + 1) (W' ++ [(m : Int)]) W'.length = W2 at hh hp
        unfold lkO lkV at hh
        rw [hL', hls] at hh
        (repeat' (first | exact trivial | (with_reducible first | apply awA | apply awB | apply awC | apply awF | apply awI) | ((with_reducible first | apply awn | apply awo | refine awQ ?_); intro r hr; simp only [go_sem, Nat.reduceBEq, Nat.reduceLT, Nat.reduceLeDiff, Nat.reduceAdd, Nat.reduceMul, reduceCtorEq, e1, zi, hwi, gi, zq, e2] at hr; subst hr; (first | refine awV ?_ ?_ | refine awW ?_ ?_ | (refine zf (fun h => ?_) (fun h => ?_) <;> (try simp only [go_sem, reduceCtorEq] at h) <;> (try (exfalso; omega))))) | (refine zp [(10000, 10000), (15000, 15000), (15001, 15001), (15002, 15002)] [(10000, 10000), (15000, 15000), (15001, 15001), (15002, 15002)] [15000, 15001, 15002] [10000] ?_; intro r hr; simp only [go_sem, Nat.reduceBEq, Nat.reduceLT] at hr; subst hr; refine yo (hh) rfl rfl (by first | exact .inl rfl | exact .inr rfl) ?_ (.inl rfl) ?_))) <;> (try omega)
        refine ⟨(i + 1, L2, W2), ?_, ⟨hlti, hls, hp, hd, hR'⟩, by show ks.length - (i + 1) < ks.length - i; omega⟩
        simp only [go_sem, Nat.reduceBEq]
        try exact rfl
       | some s0 =>
        have hh := ka e C N hok L' hL' W' m hmC ef.target s0 t hn
        unfold lkO lkV at hh
        rw [hL'] at hh
        rcases uV (e := e) (C := C) (s := ef.target) (t := t) hn with hf | hf
        ·rw [hf] at hh hR'
         simp only [Option.isSome_none] at hh hR'
         subst hR'
         (repeat' (first | exact trivial | (with_reducible first | apply awA | apply awB | apply awC | apply awD | apply awF | apply awG | apply awJ) | ((with_reducible first | apply awn | apply awo | refine awQ ?_ | refine uh ?_); intro r hr; simp only [go_sem, Nat.reduceBEq, Nat.reduceLT, Nat.reduceLeDiff, Nat.reduceAdd, Nat.reduceMul, reduceCtorEq, e1, zi, gi, zq, e2] at hr; subst hr; (first | refine awV ?_ ?_ | refine awW ?_ ?_ | refine xi ?_ ?_ | (refine zf (fun h => ?_) (fun h => ?_) <;> (try simp only [go_sem, reduceCtorEq] at h) <;> (try (exfalso; omega))))) | (refine zp [(10000, 10000), (15000, 15000), (15001, 15001), (15002, 15002)] [(10000, 10000), (15000, 15000), (15001, 15001), (15002, 15002)] [15000, 15001, 15002] [10000] ?_; intro r hr; simp only [go_sem, Nat.reduceBEq, Nat.reduceLT] at hr; subst hr; refine yo (hh) rfl rfl (by first | exact .inl rfl | exact .inr rfl) ?_ (.inl rfl) ?_))) <;> (try omega)
         all_goals first | (refine ⟨((m : Int), L', W'), ⟨hL', rfl, by omega⟩, AV.up_rfl _, ?_⟩; simp only [hL']; repeat first | exact zo | refine zh rfl ?_) | skip
        ·rw [hf] at hh hR'
         simp only [Option.isSome_some] at hh hR'
         (repeat' (first | exact trivial | (with_reducible first | apply awA | apply awB | apply awC | apply awF | apply awI) | ((with_reducible first | apply awn | apply awo | refine awQ ?_); intro r hr; simp only [go_sem, Nat.reduceBEq, Nat.reduceLT, Nat.reduceLeDiff, Nat.reduceAdd, Nat.reduceMul, reduceCtorEq, e1, zi, hwi, gi, zq, e2] at hr; subst hr; (first | refine awV ?_ ?_ | refine awW ?_ ?_ | (refine zf (fun h => ?_) (fun h => ?_) <;> (try simp only [go_sem, reduceCtorEq] at h) <;> (try (exfalso; omega))))) | (refine zp [(10000, 10000), (15000, 15000), (15001, 15001), (15002, 15002)] [(10000, 10000), (15000, 15000), (15001, 15001), (15002, 15002)] [15000, 15001, 15002] [10000] ?_; intro r hr; simp only [go_sem, Nat.reduceBEq, Nat.reduceLT] at hr; subst hr; refine yo (hh) rfl rfl (by first | exact .inl rfl | exact .inr rfl) ?_ (.inl rfl) ?_))) <;> (try omega)
         refine ⟨(i + 1, L', W'), ?_, ⟨hlti, hL', hw', hD', hR'⟩, by show ks.length - (i + 1) < ks.length - i; omega⟩
         simp only [go_sem, Nat.reduceBEq]
         try exact rfl
      | true =>
       rw [if_neg (fun hh => by cases hh.2)] at hR'
       cases hn : L'.getD m none with
       | none =>
        have hh := q9 e C N hok L' hL' W' (by omega) m hmC ef.next t hn
        rw [uU hn] at hR'
        simp only at hR'
        have hp := hw'.push (by omega) hn (hD'.none hn) ef.next
        have hd := hD'.set m ef.next
        have hls : (L'.set m (some ef.next)).length = C.length := by simp [hL']
        generalize L'.set m (some ef.next) = L2 at hh hR' hp hd hls
        generalize upF (W'.length + 1) (W' ++ [(m : Int)]) W'.length = W2 at hh hp
        unfold lkO lkV at hh
        rw [hL', hls] at hh
        (repeat' (first | exact trivial | (with_reducible first | apply awA | apply awB | apply awC | apply awF | apply awI) | ((with_reducible first | apply awn | apply awo | refine awQ ?_); intro r hr; simp only [go_sem, Nat.reduceBEq, Nat.reduceLT, Nat.reduceLeDiff, Nat.reduceAdd, Nat.reduceMul, reduceCtorEq, e1, zi, hwi, gi, zq, e2] at hr; subst hr; (first | refine awV ?_ ?_ | refine awW ?_ ?_ | (refine zf (fun h => ?_) (fun h => ?_) <;> (try simp only [go_sem, reduceCtorEq] at h) <;> (try (exfalso; omega))))) | (refine zp [(10000, 10000), (15000, 15000), (15001, 15001), (15002, 15002)] [(10000, 10000), (15000, 15000), (15001, 15001), (15002, 15002)] [15000, 15001, 15002] [10000] ?_; intro r hr; simp only [go_sem, Nat.reduceBEq, Nat.reduceLT] at hr; subst hr; refine yo (hh) rfl rfl (by first | exact .inl rfl | exact .inr rfl) ?_ (.inl rfl) ?_))) <;> (try omega)
        refine ⟨(i + 1, L2, W2), ?_, ⟨hlti, hls, hp, hd, hR'⟩, by show ks.length - (i + 1) < ks.length - i; omega⟩
        simp only [go_sem, Nat.reduceBEq]
        try exact rfl
       | some s0 =>
        have hh := ka e C N hok L' hL' W' m hmC ef.next s0 t hn
        unfold lkO lkV at hh
        rw [hL'] at hh
        rcases uV (e := e) (C := C) (s := ef.next) (t := t) hn with hf | hf
        ·rw [hf] at hh hR'
         simp only [Option.isSome_none] at hh hR'
         subst hR'
         (repeat' (first | exact trivial | (with_reducible first | apply awA | apply awB | apply awC | apply awD | apply awF | apply awG | apply awJ) | ((with_reducible first | apply awn | apply awo | refine awQ ?_ | refine uh ?_); intro r hr; simp only [go_sem, Nat.reduceBEq, Nat.reduceLT, Nat.reduceLeDiff, Nat.reduceAdd, Nat.reduceMul, reduceCtorEq, e1, zi, gi, zq, e2] at hr; subst hr; (first | refine awV ?_ ?_ | refine awW ?_ ?_ | refine xi ?_ ?_ | (refine zf (fun h => ?_) (fun h => ?_) <;> (try simp only [go_sem, reduceCtorEq] at h) <;> (try (exfalso; omega))))) | (refine zp [(10000, 10000), (15000, 15000), (15001, 15001), (15002, 15002)] [(10000, 10000), (15000, 15000), (15001, 15001), (15002, 15002)] [15000, 15001, 15002] [10000] ?_; intro r hr; simp only [go_sem, Nat.reduceBEq, Nat.reduceLT] at hr; subst hr; refine yo (hh) rfl rfl (by first | exact .inl rfl | exact .inr rfl) ?_ (.inl rfl) ?_))) <;> (try omega)
         all_goals first | (refine ⟨((m : Int), L', W'), ⟨hL', rfl, by omega⟩, AV.up_rfl _, ?_⟩; simp only [hL']; repeat first | exact zo | refine zh rfl ?_) | skip
        ·rw [hf] at hh hR'
         simp only [Option.isSome_some] at hh hR'
         (repeat' (first | exact trivial | (with_reducible first | apply awA | apply awB | apply awC | apply awF | apply awI) | ((with_reducible first | apply awn | apply awo | refine awQ ?_); intro r hr; simp only [go_sem, Nat.reduceBEq, Nat.reduceLT, Nat.reduceLeDiff, Nat.reduceAdd, Nat.reduceMul, reduceCtorEq, e1, zi, hwi, gi, zq, e2] at hr; subst hr; (first | refine awV ?_ ?_ | refine awW ?_ ?_ | (refine zf (fun h => ?_) (fun h => ?_) <;> (try simp only [go_sem, reduceCtorEq] at h) <;> (try (exfalso; omega))))) | (refine zp [(10000, 10000), (15000, 15000), (15001, 15001), (15002, 15002)] [(10000, 10000), (15000, 15000), (15001, 15001), (15002, 15002)] [15000, 15001, 15002] [10000] ?_; intro r hr; simp only [go_sem, Nat.reduceBEq, Nat.reduceLT] at hr; subst hr; refine yo (hh) rfl rfl (by first | exact .inl rfl | exact .inr rfl) ?_ (.inl rfl) ?_))) <;> (try omega)
         refine ⟨(i + 1, L', W'), ?_, ⟨hlti, hL', hw', hD', hR'⟩, by show ks.length - (i + 1) < ks.length - i; omega⟩
         simp only [go_sem, Nat.reduceBEq]
         try exact rfl
     ·have e2 : ((i : Int) = 1) = False := eq_false (by omega)
      rw [if_neg (fun hh => hi1 hh.1)] at hR'
      cases hn : L'.getD m none with
      | none =>
       have hh := q9 e C N hok L' hL' W' (by omega) m hmC ef.next t hn
       rw [uU hn] at hR'
       simp only at hR'
       have hp := hw'.push (by omega) hn (hD'.none hn) ef.next
       have hd := hD'.set m ef.next
       have hls : (L'.set m (some ef.next)).length = C.length := by simp [hL']
       generalize L'.set m (some ef.next) = L2 at hh hR' hp hd hls
       generalize upF (W'.length + 1) (W' ++ [(m : Int)]) W'.length = W2 at hh hp
       unfold lkO lkV at hh
       rw [hL', hls] at hh
       (repeat' (first | exact trivial | (with_reducible first | apply awA | apply awB | apply awC | apply awF | apply awI) | ((with_reducible first | apply awn | apply awo | refine awQ ?_); intro r hr; simp only [go_sem, Nat.reduceBEq, Nat.reduceLT, Nat.reduceLeDiff, Nat.reduceAdd, Nat.reduceMul, reduceCtorEq, e1, zi, hwi, gi, zq, e2] at hr; subst hr; (first | refine awV ?_ ?_ | refine awW ?_ ?_ | (refine zf (fun h => ?_) (fun h => ?_) <;> (try simp only [go_sem, reduceCtorEq] at h) <;> (try (exfalso; omega))))) | (refine zp [(10000, 10000), (15000, 15000), (15001, 15001), (15002, 15002)] [(10000, 10000), (15000, 15000), (15001, 15001), (15002, 15002)] [15000, 15001, 15002] [10000] ?_; intro r hr; simp only [go_sem, Nat.reduceBEq, Nat.reduceLT] at hr; subst hr; refine yo (hh) rfl rfl (by first | exact .inl rfl | exact .inr rfl) ?_ (.inl rfl) ?_))) <;> (try omega)
       refine ⟨(i + 1, L2, W2), ?_, ⟨hlti, hls, hp, hd, hR'⟩, by show ks.length - (i + 1) < ks.length - i; omega⟩
       simp only [go_sem, Nat.reduceBEq]
       try exact rfl
      | some s0 =>
       have hh := ka e C N hok L' hL' W' m hmC ef.next s0 t hn
       unfold lkO lkV at hh
       rw [hL'] at hh
       rcases uV (e := e) (C := C) (s := ef.next) (t := t) hn with hf | hf
       ·rw [hf] at hh hR'
        simp only [Option.isSome_none] at hh hR'
        subst hR'
        (repeat' (first | exact trivial | (with_reducible first | apply awA | apply awB | apply awC | apply awD | apply awF | apply awG | apply awJ) | ((with_reducible first | apply awn | apply awo | refine awQ ?_ | refine uh ?_); intro r hr; simp only [go_sem, Nat.reduceBEq, Nat.reduceLT, Nat.reduceLeDiff, Nat.reduceAdd, Nat.reduceMul, reduceCtorEq, e1, zi, gi, zq, e2] at hr; subst hr; (first | refine awV ?_ ?_ | refine awW ?_ ?_ | refine xi ?_ ?_ | (refine zf (fun h => ?_) (fun h => ?_) <;> (try simp only [go_sem, reduceCtorEq] at h) <;> (try (exfalso; omega))))) | (refine zp [(10000, 10000), (15000, 15000), (15001, 15001), (15002, 15002)] [(10000, 10000), (15000, 15000), (15001, 15001), (15002, 15002)] [15000, 15001, 15002] [10000] ?_; intro r hr; simp only [go_sem, Nat.reduceBEq, Nat.reduceLT] at hr; subst hr; refine yo (hh) rfl rfl (by first | exact .inl rfl | exact .inr rfl) ?_ (.inl rfl) ?_))) <;> (try omega)
        all_goals first | (refine ⟨((m : Int), L', W'), ⟨hL', rfl, by omega⟩, AV.up_rfl _, ?_⟩; simp only [hL']; repeat first | exact zo | refine zh rfl ?_) | skip
       ·rw [hf] at hh hR'
        simp only [Option.isSome_some] at hh hR'
        (repeat' (first | exact trivial | (with_reducible first | apply awA | apply awB | apply awC | apply awF | apply awI) | ((with_reducible first | apply awn | apply awo | refine awQ ?_); intro r hr; simp only [go_sem, Nat.reduceBEq, Nat.reduceLT, Nat.reduceLeDiff, Nat.reduceAdd, Nat.reduceMul, reduceCtorEq, e1, zi, hwi, gi, zq, e2] at hr; subst hr; (first | refine awV ?_ ?_ | refine awW ?_ ?_ | (refine zf (fun h => ?_) (fun h => ?_) <;> (try simp only [go_sem, reduceCtorEq] at h) <;> (try (exfalso; omega))))) | (refine zp [(10000, 10000), (15000, 15000), (15001, 15001), (15002, 15002)] [(10000, 10000), (15000, 15000), (15001, 15001), (15002, 15002)] [15000, 15001, 15002] [10000] ?_; intro r hr; simp only [go_sem, Nat.reduceBEq, Nat.reduceLT] at hr; subst hr; refine yo (hh) rfl rfl (by first | exact .inl rfl | exact .inr rfl) ?_ (.inl rfl) ?_))) <;> (try omega)
        refine ⟨(i + 1, L', W'), ?_, ⟨hlti, hL', hw', hD', hR'⟩, by show ks.length - (i + 1) < ks.length - i; omega⟩
        simp only [go_sem, Nat.reduceBEq]
        try exact rfl
    ·have e1 : ((i : Int) < (ks.length : Int)) = False := eq_false (by omega)
     rw [List.drop_of_length_le (by omega)] at hR'
     unfold uW at hR'
     subst hR'
     (repeat' (first | exact trivial | (with_reducible first | apply awA | apply awD | apply awE | apply awF | apply awH | apply awK) | ((with_reducible first | apply awn | refine awQ ?_ | refine uh ?_); intro r hr; simp only [go_sem, Nat.reduceBEq, Nat.reduceLT, e1] at hr; subst hr; (first | refine awV ?_ ?_ | refine xi ?_ ?_ | (refine zf (fun h => ?_) (fun h => ?_) <;> (try simp only [go_sem, reduceCtorEq] at h) <;> (try (exfalso; omega))))))) <;> (try omega)
     all_goals first | (refine ⟨(-1, L', W'), ⟨hL', rfl, rfl, hw', hD'⟩, AV.up_rfl _, ?_⟩; simp only [hL']; repeat first | exact zo | refine zh rfl ?_) | skip
end
section
open Go.RowKit
theorem WtH.init (n : Nat) : WtH (List.replicate n none) [] [] := by
 refine ⟨fun k _ h => by simp at h, List.nodup_nil, fun k => ?_⟩
 constructor
 ·intro h; cases h
 ·intro ⟨_, h⟩
  unfold xL at h
  simp [List.getD, List.getElem?_replicate] at h
  split at h <;> simp at h
theorem Dok.nil (L : LkM) : Dok L [] := fun _ h => by cases h
def Dnd (C : List InsM) (D : List Nat) : Prop := D.Nodup ∧ ∀ d ∈ D, d < C.length
theorem Dnd.len {C : List InsM} {D : List Nat} (h : Dnd C D) : D.length ≤ C.length := xX h.1 h.2
def zcW (C : List InsM) (R : Except Int (LkM × List Nat)) (q : Int × LkM × List Int) : Prop :=
 q.2.1.length = C.length ∧ match R with
 | .ok r => q.1 = -1 ∧ q.2.1 = r.1
 | .error j => q.1 = j ∧ 0 ≤ j
def QX (e : Bool) (C : List InsM) (ns : List Int) (t : Int) (r : Except Int (LkM × List Nat)) : Except Int (LkM × List Nat) :=
 match r with
 | .error j => .error j
 | .ok (L2, D2) => xU e C ns (t + 1) L2 D2
theorem QY (e : Bool) (C : List InsM) (N : List Int) (hok : CodeOK C N) :
  yL Try.prog 35 [.ptr 1 10000 0 0] (lkO e C N (List.replicate C.length none) []) (zcW C (xV e C N)) (fun q => vI q.1) (fun q => lkO e C N q.2.1 q.2.2) := by
 have hC := hok.len
 have hN := hok.lenN
 unfold xV
 generalize hR : xU e C N 0 (List.replicate C.length none) [] = R
 have hl0 : (List.replicate C.length (none : Option StM)).length = C.length := by simp
 have hw0 := WtH.init C.length
 generalize List.replicate C.length (none : Option StM) = L0 at hR hl0 hw0 ⊢
 have hbeg : (fun (x : StM) => x = xh e) (xh e) := rfl
 unfold lkO lkV
 rw [hl0]
 refine xT (za _) Try.func35 rfl rfl (by rw [Try.results35]) Try.ntmps35 rfl fun E => ?_
 (repeat' (first | exact trivial | (refine zbo (.tmp 12) [0, 3] [3, 10000, 15000, 15001, 15002] (fun _ : Unit => ⟨[(0, true, .ptr 1 10000 0 0), (3, true, .ptr 1 3 0 0)], [(3, .var (cSt (xh e))), (10000, .var [vB e, .lst 4 (zz C), .lst 1 (v8 N), .ref 77 6 15000 0 C.length, .ref 4 1 15001 0 C.length, .ref 3 1 15002 0 ([] : List Int).length]), (15000, .row 77 6 (xf L0)), (15001, .row 4 1 (xg L0)), (15002, .row 3 1 (v8 ([] : List Int)))]⟩) (fun _ => True) (wl ?_) ?_) | (with_reducible first | apply awA | apply awF) | ((with_reducible apply awn); intro r hr; simp only [go_sem, Nat.reduceBEq, Nat.reduceLT, Nat.reduceLeDiff, Nat.reduceAdd, Nat.reduceMul] at hr; subst hr; (first | refine awV ?_ ?_)))) <;> (try omega)
 ·refine ⟨?_⟩
  cases e
  all_goals (repeat' (first | exact trivial | (with_reducible first | apply awC | apply awF) | ((with_reducible first | apply awn | refine awQ ?_); intro r hr; simp only [go_sem, Nat.reduceBEq, Nat.reduceLT, Nat.reduceLeDiff, Nat.reduceAdd, Nat.reduceMul] at hr; subst hr; (first | refine awV ?_ ?_ | (refine zf (fun h => ?_) (fun h => ?_) <;> (try simp only [go_sem, reduceCtorEq] at h) <;> (try (exfalso; omega))))))) <;> (try omega)
  all_goals exact ⟨(), rfl, trivial⟩
 intro _ _
 (repeat' (first | exact trivial | (with_reducible first | apply awA | apply awB | apply awF) | ((with_reducible apply awn); intro r hr; simp only [go_sem, Nat.reduceBEq, Nat.reduceLT, Nat.reduceLeDiff, Nat.reduceAdd, Nat.reduceMul, zq] at hr; subst hr; (first | refine awV ?_ ?_)))) <;> (try omega)
 refine zC [0, 3, 18, 19, 20] [3, 10000, 15000, 15001, 15002] (fun q : Nat × LkM × List Nat => ⟨[(0, true, .ptr 1 10000 0 0), (3, true, .ptr 1 3 0 0), (18, true, .lst 1 (v8 N)), (19, true, vI N.length), (20, true, vI q.1)],
  [(3, .var (cSt (xh e))), (10000, .var [vB e, .lst 4 (zz C), .lst 1 (v8 N), .ref 77 6 15000 0 C.length, .ref 4 1 15001 0 C.length, .ref 3 1 15002 0 ([] : List Int).length]), (15000, .row 77 6 (xf q.2.1)), (15001, .row 4 1 (xg q.2.1)), (15002, .row 3 1 (v8 ([] : List Int)))]⟩)
  (fun q => q.1 ≤ N.length ∧ q.2.1.length = C.length ∧ WtH q.2.1 q.2.2 [] ∧ Dok q.2.1 q.2.2 ∧ Dnd C q.2.2 ∧ xU e C (N.drop q.1) q.1 q.2.1 q.2.2 = R) (fun q => N.length - q.1) (0, L0, []) (by simp only [go_sem, Nat.reduceBEq] <;> exact rfl) ⟨Nat.zero_le _, hl0, hw0, Dok.nil _, ⟨List.nodup_nil, fun _ h => by cases h⟩, hR⟩ ?_
 intro ⟨ti, L, D⟩ ⟨hti, hL, hwt, hD, hnd, hR⟩
 simp only at hti hL hwt hD hnd hR ⊢
 have hwi := zg (n := (ti : Int) + 1) (by omega)
 have zi : ((ti : Int)).toNat = ti := by omega
 by_cases hlti : ti < N.length
 ·have e1 : ((ti : Int) < (N.length : Int)) = True := eq_true (by omega)
  have hen := hok.entry _ (List.getElem_mem hlti)
  obtain ⟨m, hm⟩ : ∃ m : Nat, N[ti] = m := ⟨N[ti].toNat, by omega⟩
  have gi := xm hlti
  rw [hm] at gi hen
  rw [List.drop_eq_getElem_cons hlti, hm] at hR
  unfold xU at hR
  rw [Int.toNat_natCast] at hR
  have hb := hok
  have hCm : m < C.length := by omega
  have hbs : cSt (xh e) = cSt (xh e) := rfl
  have key : (w7 e C L m (xh e) ti = none ∧ yq Try.prog 41 [.ptr 1 10000 0 0, vI m, vSt (xh e), vI ti] (lkO e C N L []) (vB false) (lkO e C N L [])) ∨
    ∃ L1 W1, w7 e C L m (xh e) ti = some L1 ∧ L1.length = C.length ∧ WtH L1 D W1 ∧ Dok L1 D ∧ yq Try.prog 41 [.ptr 1 10000 0 0, vI m, vSt (xh e), vI ti] (lkO e C N L []) (vB true) (lkO e C N L1 W1) := by
   cases hn : L.getD m none with
   | none => exact .inr ⟨_, _, uU hn, by simp [hL], hwt.push (by omega) hn (hD.none hn) (xh e), hD.set m (xh e), q9 e C N hok L hL [] (Nat.zero_le _) m hCm (xh e) ti hn⟩
   | some s0 =>
    have hh := ka e C N hok L hL [] m hCm (xh e) s0 ti hn
    rcases uV (e := e) (C := C) (s := xh e) (t := (ti : Int)) hn with hf | hf <;> rw [hf] at hh
    ·exact .inl ⟨hf, hh⟩
    ·exact .inr ⟨_, _, hf, hL, hwt, hD, hh⟩
  rcases key with ⟨hf, hh⟩ | ⟨L1, W1, hf, hl1, hw1, hd1, hh⟩
  ·rw [hf] at hR
   subst hR
   unfold lkO lkV at hh
   rw [hL] at hh
   (repeat' (first | exact trivial | (with_reducible first | apply awA | apply awB | apply awC | apply awD | apply awF | apply awG | apply awJ) | ((with_reducible first | apply awn | apply awo | refine awQ ?_ | refine uh ?_); intro r hr; simp only [go_sem, Nat.reduceBEq, Nat.reduceLT, Nat.reduceLeDiff, Nat.reduceAdd, Nat.reduceMul, e1, zi, gi, zq] at hr; subst hr; (first | refine awV ?_ ?_ | refine awW ?_ ?_ | refine xi ?_ ?_ | (refine zf (fun h => ?_) (fun h => ?_) <;> (try simp only [go_sem, reduceCtorEq] at h) <;> (try (exfalso; omega))))) | (refine zp [(10000, 10000), (15000, 15000), (15001, 15001), (15002, 15002)] [(10000, 10000), (15000, 15000), (15001, 15001), (15002, 15002)] [15000, 15001, 15002] [10000] ?_; intro r hr; simp only [go_sem, Nat.reduceBEq, Nat.reduceLT] at hr; subst hr; refine yo (hh) rfl rfl (by first | exact .inl rfl | exact .inr rfl) ?_ (.inl rfl) ?_))) <;> (try omega)
   all_goals first | (refine ⟨((m : Int), L, []), ⟨hL, rfl, by omega⟩, AV.up_rfl _, ?_⟩; simp only [hL]; repeat first | exact zo | refine zh rfl ?_) | skip
  rw [hf] at hR
  unfold lkO lkV at hh
  rw [hL, hl1] at hh
  change QX e C (N.drop (ti + 1)) ti (qO e C ti (C.length + 1 - D.length) L1 D) = R at hR
  (repeat' (first | exact trivial | (with_reducible first | apply awA | apply awB | apply awC | apply awF) | ((with_reducible first | apply awn | apply awo | refine awQ ?_); intro r hr; simp only [go_sem, Nat.reduceBEq, Nat.reduceLT, Nat.reduceLeDiff, Nat.reduceAdd, Nat.reduceMul, e1, zi, gi, zq] at hr; subst hr; (first | refine awV ?_ ?_ | refine awW ?_ ?_ | (refine zf (fun h => ?_) (fun h => ?_) <;> (try simp only [go_sem, reduceCtorEq] at h) <;> (try (exfalso; omega))))) | (refine zp [(10000, 10000), (15000, 15000), (15001, 15001), (15002, 15002)] [(10000, 10000), (15000, 15000), (15001, 15001), (15002, 15002)] [15000, 15001, 15002] [10000] ?_; intro r hr; simp only [go_sem, Nat.reduceBEq, Nat.reduceLT] at hr; subst hr; refine yo (hh) rfl rfl (by first | exact .inl rfl | exact .inr rfl) ?_ (.inl rfl) ?_))) <;> (try omega)
  refine zC [0, 3, 4, 18, 19, 20] [3, 10000, 15000, 15001, 15002] (fun q : LkM × List Nat × List Int => ⟨[(0, true, .ptr 1 10000 0 0), (3, true, .ptr 1 3 0 0), (4, true, vI ti), (18, true, .lst 1 (v8 N)), (19, true, vI N.length), (20, true, vI ti)],
   [(3, .var (cSt (xh e))), (10000, .var [vB e, .lst 4 (zz C), .lst 1 (v8 N), .ref 77 6 15000 0 C.length, .ref 4 1 15001 0 C.length, .ref 3 1 15002 0 q.2.2.length]), (15000, .row 77 6 (xf q.1)), (15001, .row 4 1 (xg q.1)), (15002, .row 3 1 (v8 q.2.2))]⟩)
   (fun q => q.1.length = C.length ∧ WtH q.1 q.2.1 q.2.2 ∧ Dok q.1 q.2.1 ∧ Dnd C q.2.1 ∧ QX e C (N.drop (ti + 1)) ti (qO e C ti (C.length + 1 - q.2.1.length) q.1 q.2.1) = R) (fun q => C.length - q.2.1.length) (L1, D, W1) (by simp only [go_sem, Nat.reduceBEq] <;> exact rfl) ⟨hl1, hw1, hd1, hnd, hR⟩ ?_
  intro ⟨L2, D2, W2⟩ ⟨hL2, hw2, hd2, hnd2, hR2⟩
  simp only at hL2 hw2 hd2 hnd2 hR2 ⊢
  have hdl := hnd2.len
  have hWl := hw2.len
  obtain ⟨f, hf⟩ : ∃ f, C.length + 1 - D2.length = f + 1 := ⟨C.length - D2.length, by omega⟩
  rw [hf] at hR2
  unfold qO at hR2
  by_cases hW2 : W2 = []
  ·have hnx := hw2.empty.1 hW2
   subst hW2
   rw [hnx] at hR2
   simp only [QX] at hR2
   (repeat' (first | exact trivial | (with_reducible first | apply awA | apply awE | apply awF | apply awH | apply awI | apply awK) | ((with_reducible first | apply awn | refine awQ ?_); intro r hr; simp only [go_sem, Nat.reduceBEq, Nat.reduceLT, Nat.reduceLeDiff, Nat.reduceAdd, Nat.reduceMul, hwi, List.length_nil, Int.cast_ofNat_Int, Int.reduceLT] at hr; subst hr; (first | refine awV ?_ ?_ | (refine zf (fun h => ?_) (fun h => ?_) <;> (try simp only [go_sem, reduceCtorEq] at h) <;> (try (exfalso; omega))))))) <;> (try omega)
   refine ⟨(ti + 1, L2, D2), ?_, ⟨hlti, hL2, hw2, hd2, hnd2, by show xU e C (N.drop (ti + 1)) ((ti + 1 : Nat) : Int) L2 D2 = R; exact hR2⟩, by show N.length - (ti + 1) < N.length - ti; omega⟩
   simp only [List.length_nil, go_sem, Nat.reduceBEq]
   try exact rfl
  ·have hp := zcN e C N L2 W2 (by omega) hW2
   obtain ⟨hnn, hnx⟩ := hw2.next hW2
   have hwp := hw2.pop hW2
   have hpl : 0 < W2.length := List.length_pos_iff.2 hW2
   have e5 : ((0 : Int) < (W2.length : Int)) = True := eq_true (by omega)
   have hkm := (hw2.mem _).1 (jc hW2)
   obtain ⟨k, hk⟩ : ∃ k : Nat, W2.getD 0 0 = k := ⟨(W2.getD 0 0).toNat, by omega⟩
   rw [hk] at hp hwp hnx hkm
   rw [Int.toNat_natCast] at hwp hnx hkm
   rw [hnx] at hR2
   simp only at hR2
   have hkC : k < C.length := by rw [← hL2]; exact kc hkm.2
   have hkD : k ∉ D2 := by
    have := hkm.2
    unfold xL at this
    simp only [Bool.and_eq_true, Bool.not_eq_true', decide_eq_false_iff_not] at this
    exact this.2
   have hkS : (L2.getD k none).isSome = true := by
    have := hkm.2
    unfold xL at this
    simp only [Bool.and_eq_true] at this
    exact this.1
   have hd3 : Dok L2 (k :: D2) := fun d hd => by
    rcases List.mem_cons.1 hd with rfl | hd
    ·exact hkS
    ·exact hd2 d hd
   have hnd3 : Dnd C (k :: D2) := ⟨List.nodup_cons.2 ⟨hkD, hnd2.1⟩, fun d hd => by
    rcases List.mem_cons.1 hd with rfl | hd
    ·exact hkC
    ·exact hnd2.2 d hd⟩
   have hg := zcV e C N hok L2 hL2 (k :: D2) (XB W2) hwp hd3 k hkC ti
   have hfl := hnd3.len
   generalize XB W2 = W3 at hp hwp hg
   unfold lkO lkV at hp hg
   rw [hL2] at hp hg
   (repeat' (first | exact trivial | (with_reducible first | apply awA | apply awB | apply awC | apply awF) | ((with_reducible first | apply awn | apply awo | refine awQ ?_); intro r hr; simp only [go_sem, Nat.reduceBEq, Nat.reduceLT, Nat.reduceLeDiff, Nat.reduceAdd, Nat.reduceMul, e5] at hr; subst hr; (first | refine awV ?_ ?_ | refine awW ?_ ?_ | (refine zf (fun h => ?_) (fun h => ?_) <;> (try simp only [go_sem, reduceCtorEq] at h) <;> (try (exfalso; omega))))) | (refine zp [(10000, 10000), (15000, 15000), (15001, 15001), (15002, 15002)] [(10000, 10000), (15000, 15000), (15001, 15001), (15002, 15002)] [15000, 15001, 15002] [10000] ?_; intro r hr; simp only [go_sem, Nat.reduceBEq, Nat.reduceLT] at hr; subst hr; refine yo (hp) rfl rfl (by first | exact .inl rfl | exact .inr rfl) ?_ (.inl rfl) ?_) | (refine zp [(10000, 10000), (15000, 15000), (15001, 15001), (15002, 15002)] [(10000, 10000), (15000, 15000), (15001, 15001), (15002, 15002)] [15000, 15001, 15002] [10000] ?_; intro r hr; simp only [go_sem, Nat.reduceBEq, Nat.reduceLT] at hr; subst hr; refine y4 (hg) rfl rfl (by first | exact .inl rfl | exact .inr rfl) ?_ (.inl rfl) (fun q hq => wl ?_)))) <;> (try omega)
   refine ⟨?_⟩
   obtain ⟨rq, L4, W4⟩ := q
   unfold zcU at hq
   simp only at hq ⊢
   cases hgo : jt e C k L2 ti with
   | error j =>
    rw [hgo] at hq hR2
    obtain ⟨hl4, rfl, hj0⟩ := hq
    simp only [QX] at hR2
    subst hR2
    have e6 : ((0 : Int) ≤ rq) = True := eq_true hj0
    rw [hl4]
    (repeat' (first | exact trivial | (with_reducible first | apply awA | apply awD | apply awF | apply awG | apply awJ) | ((with_reducible first | apply awn | apply awo | refine awQ ?_ | refine uh ?_); intro r hr; simp only [go_sem, Nat.reduceBEq, Nat.reduceLT, e6] at hr; subst hr; (first | refine awV ?_ ?_ | refine xi ?_ ?_ | (refine zf (fun h => ?_) (fun h => ?_) <;> (try simp only [go_sem, reduceCtorEq] at h) <;> (try (exfalso; omega))))))) <;> (try omega)
    all_goals first | (refine ⟨(rq, L4, W4), ⟨hl4, rfl, hj0⟩, AV.up_rfl _, ?_⟩; simp only [hl4]; repeat first | exact zo | refine zh rfl ?_) | skip
   | ok L5 =>
    rw [hgo] at hq hR2
    obtain ⟨hl4, rfl, rfl, hw4, hd4⟩ := hq
    simp only at hR2
    rw [hl4]
    (repeat' (first | exact trivial | (with_reducible first | apply awA | apply awC | apply awF | apply awI) | ((with_reducible first | apply awn | apply awo | refine awQ ?_); intro r hr; simp only [go_sem, Nat.reduceBEq, Nat.reduceLT, Int.reduceLE] at hr; subst hr; (first | refine awV ?_ ?_ | (refine zf (fun h => ?_) (fun h => ?_) <;> (try simp only [go_sem, reduceCtorEq] at h) <;> (try (exfalso; omega))))))) <;> (try omega)
    refine ⟨(L4, k :: D2, W4), ?_, ⟨hl4, hw4, hd4, hnd3, ?_⟩, by show C.length - (D2.length + 1) < C.length - D2.length; simp only [List.length_cons] at hfl; omega⟩
    ·simp only [go_sem, Nat.reduceBEq]
     try exact rfl
    ·show QX e C (N.drop (ti + 1)) ti (qO e C ti (C.length + 1 - (D2.length + 1)) L4 (k :: D2)) = R
     rw [show C.length + 1 - (D2.length + 1) = f by omega]
     exact hR2
 ·have e1 : ((ti : Int) < (N.length : Int)) = False := eq_false (by omega)
  rw [List.drop_of_length_le (by omega)] at hR
  unfold xU at hR
  subst hR
  (repeat' (first | exact trivial | (with_reducible first | apply awA | apply awD | apply awE | apply awF | apply awH | apply awK) | ((with_reducible first | apply awn | refine awQ ?_ | refine uh ?_); intro r hr; simp only [go_sem, Nat.reduceBEq, Nat.reduceLT, e1] at hr; subst hr; (first | refine awV ?_ ?_ | refine xi ?_ ?_ | (refine zf (fun h => ?_) (fun h => ?_) <;> (try simp only [go_sem, reduceCtorEq] at h) <;> (try (exfalso; omega))))))) <;> (try omega)
  all_goals first | (refine ⟨(-1, L, []), ⟨hL, rfl, rfl⟩, AV.up_rfl _, ?_⟩; simp only [hL]; repeat first | exact zo | refine zh rfl ?_) | skip
end
section
open Go.RowKit
theorem xY {p : Nat → Bool} : ∀ {n i : Nat}, zX p i n = none ↔ ∀ k, i ≤ k → k < i + n → p k = true
 | 0, i => ⟨fun _ k h1 h2 => by omega, fun _ => rfl⟩
 | n + 1, i => by
  unfold zX
  by_cases h : p i = true
  ·rw [if_pos h, xY]
   exact ⟨fun g k h1 h2 => by
    by_cases hk : k = i
    ·rw [hk]; exact h
    ·exact g k (by omega) (by omega), fun g k h1 h2 => g k (by omega) (by omega)⟩
  ·rw [if_neg h]
   exact ⟨fun g => (by cases g), fun g => absurd (g i (Nat.le_refl _) (by omega)) h⟩
theorem z9 {e : Bool} {C : List InsM} {N : List Int} (h : yK e C N = (0, 0)) : (C.length ≤ 1048576 ∧ N.length ≤ 1048576) ∧ (∀ k, k < C.length → yr e C N k = true) ∧ ∀ n ∈ N, 0 ≤ n ∧ n < C.length := by
 unfold yK at h
 split at h
 ·simp at h
 ·rename_i hl
  split at h
  ·simp at h
  ·rename_i h1
   split at h
   ·simp at h
   ·rename_i h2
    rw [xY] at h1 h2
    refine ⟨by omega, fun k hk => h1 k (Nat.zero_le _) (by omega), fun n hn => ?_⟩
    obtain ⟨i, hi⟩ := List.mem_iff_getElem?.1 hn
    have := h2 i (Nat.zero_le _) (by have := zE hi; omega)
    rw [show N.getD i 0 = n by simp [List.getD, hi]] at this
    simp only [xJ, inF, Bool.and_eq_true, decide_eq_true_eq] at this
    omega
theorem ZL {e : Bool} {C : List InsM} {N : List Int} : yK e C N = (0, 0) ↔ (C.length ≤ 1048576 ∧ N.length ≤ 1048576) ∧ (∀ k, k < C.length → yr e C N k = true) ∧ ∀ n ∈ N, 0 ≤ n ∧ n < C.length := by
 refine ⟨z9, fun ⟨h1, h2, h3⟩ => ?_⟩
 have g1 : zX (yr e C N) 0 C.length = none := xY.2 fun k _ hk => h2 k (by omega)
 have g2 : zX (fun i => xJ C.length (N.getD i 0)) 0 N.length = none := xY.2 fun i _ hi => by
  have hi' : i < N.length := by omega
  have := h3 _ (List.getElem_mem hi')
  rw [show N.getD i 0 = N[i] by simp [List.getD, hi']]
  simp only [xJ, inF, Bool.and_eq_true, decide_eq_true_eq]
  omega
 unfold yK
 rw [if_neg (by omega), g1, g2]
theorem kb {e : Bool} {C : List InsM} {N : List Int} : (yK e C N).1 = 0 ↔ yK e C N = (0, 0) := by
 refine ⟨fun h => ?_, fun h => by rw [h]⟩
 unfold yK at h ⊢
 split
 ·rw [if_pos (by assumption)] at h; cases h
 ·rw [if_neg (by assumption)] at h
  split
  ·rename_i h1; rw [h1] at h; cases h
  ·rename_i h1
   rw [h1] at h
   split
   ·rename_i h2; simp only [h2] at h; cases h
   ·rfl
theorem zZ {e : Bool} {C : List InsM} {N : List Int} {k : Nat} (h : yr e C N k = true) : (yB e (zb C k).op).known = true ∧ wW C.length N.length (bAt (yB e (zb C k).op).has 0) (zb C k).a = true ∧ wW C.length N.length (bAt (yB e (zb C k).op).has 1) (zb C k).b = true ∧
  wW C.length N.length (bAt (yB e (zb C k).op).has 2) (zb C k).c = true ∧ qN (yB e (zb C k).op).name C k (zb C k) = true := by
 unfold yr zbI at h
 simp only [Bool.and_eq_true] at h
 exact ⟨h.1.1, h.1.2.1.1, h.1.2.1.2, h.1.2.2, h.2⟩
theorem jr {nC nN : Nat} {n : Int} (h : wW nC nN 116 n = true) : 0 ≤ n ∧ n < nC := by
 simp [wW, inF] at h; omega
theorem zdp {nC nN : Nat} {n : Int} (h : wW nC nN 121 n = true) : 0 ≤ n ∧ n < nN := by
 simp [wW, inF] at h; omega
def zb2 (op : Int) : Prop := op = 7 ∨ op = 9 ∨ op = 11 ∨ op = 12 ∨ op = 13 ∨ op = 14 ∨ op = 15 ∨ op = 19 ∨ op = 40 ∨ op = 47
theorem k9 {e : Bool} {C : List InsM} {N : List Int} {k : Nat} (h : yr e C N k = true) (ho : zb2 (zb C k).op) : 0 ≤ (zb C k).b ∧ (zb C k).b < C.length := by
 obtain ⟨h1, _, h3, _⟩ := zZ h
 generalize zb C k = x at *
 unfold zb2 at ho
 rcases ho with ho | ho | ho | ho | ho | ho | ho | ho | ho | ho <;> rw [ho] at h1 h3 <;> cases e <;> first
  | exact absurd h1 (by decide)
  | exact jr h3
theorem jZ {e : Bool} {C : List InsM} {N : List Int} {k : Nat} (h : yr e C N k = true) (ho : (zb C k).op = 16) : e = false ∧ 0 ≤ (zb C k).c ∧ (zb C k).c < N.length := by
 obtain ⟨h1, _, _, h4, _⟩ := zZ h
 generalize zb C k = x at *
 rw [ho] at h1 h4
 cases e
 ·exact ⟨rfl, zdp h4⟩
 ·exact absurd h1 (by decide)
theorem VS {e : Bool} {C : List InsM} {N : List Int} {k : Nat} (h : yr e C N k = true) (ho : (zb C k).op = 2) : (0 ≤ (zb C k).a ∧ (zb C k).a ≤ 63) ∧ 2 ≤ (zb C k).b ∧ (zb C k).b ≤ 64 := by
 obtain ⟨h1, h2, h3, _⟩ := zZ h
 generalize zb C k = x at *
 rw [ho] at h1 h2 h3
 cases e
 ·rw [show bAt (yB false 2).has 0 = 75 from rfl] at h2
  rw [show bAt (yB false 2).has 1 = 110 from rfl] at h3
  simp [wW, inF] at h2 h3
  omega
 ·exact absurd h1 (by decide)
theorem x2 : ∀ {l R : List InsM}, yI l R = true → ∀ y ∈ R, y.op = 9
 | _, [], _, y, hy => by cases hy
 | l, x :: R, h, y, hy => by
  unfold yI at h
  simp only [Bool.and_eq_true, decide_eq_true_eq] at h
  rcases List.mem_cons.1 hy with rfl | hy
  ·exact h.1.1
  ·exact x2 h.2 y hy
theorem xu {e : Bool} {C : List InsM} {N : List Int} {k : Nat} (h : yr e C N k = true) (ho : (zb C k).op = 8 ∨ (zb C k).op = 41) : 1 ≤ (zb C k).a ∧ (zb C k).a ≤ 64 ∧ k + (zb C k).a < C.length ∧ yI [] (y8 C k (zb C k).a) = true := by
 obtain ⟨h1, h2, _, _, h5⟩ := zZ h
 have key : ∀ {op : Int}, (zb C k).op = op → ((yB e op).name = we ∨ (yB e op).name = wg) → 1 ≤ (zb C k).a ∧ (zb C k).a ≤ 64 ∧ k + (zb C k).a < C.length ∧ yI [] (y8 C k (zb C k).a) = true := fun {op} hop hn => by
  rw [hop] at h2 h5
  rw [XN hn] at h5
  rw [YK e op hn] at h2
  simp [wW, inF] at h2
  by_cases hl : (C.length : Int) - k ≤ (zb C k).a
  ·rw [if_pos hl] at h5; cases h5
  ·rw [if_neg hl] at h5; exact ⟨h2.1, h2.2, by omega, h5⟩
 rcases ho with ho | ho
 ·cases e
  ·exact key ho (.inl rfl)
  ·rw [ho] at h1; exact absurd h1 (by decide)
 ·cases e
  ·rw [ho] at h1; exact absurd h1 (by decide)
  ·exact key ho (.inr rfl)
theorem xK {C : List InsM} {k i : Nat} {a : Int} (hi : (i : Int) < a) (hk : (k : Int) + a < C.length) : (y8 C k a)[i]? = some (zb C (k + 1 + i)) := by
 unfold y8
 rw [List.getElem?_drop, List.getElem?_take_of_lt (by omega), List.getElem?_eq_getElem (by omega)]
 simp [zb, List.getD, show k + 1 + i < C.length by omega]
theorem YM {C : List InsM} {k i : Nat} (h : k + 1 + i < C.length) : ((C[k + 1 + i]?).map (·.b)).getD 0 = (zb C (k + 1 + i)).b := by
 simp [zb, List.getD, h]
theorem ja {e : Bool} {C : List InsM} {N : List Int} (hr : ∀ k, k < C.length → yr e C N k = true) {k : Nat} (hk : k < C.length) : ∀ j ∈ yz C k (zb C k), 0 ≤ j ∧ (j < C.length ∨ j = (k : Int) + 1) := by
 intro j hj
 have h := hr k hk
 unfold yz at hj
 split at hj
 ·rename_i ho
  simp at hj
  have := k9 h (by unfold zb2; simp [ho])
  omega
 ·split at hj
  ·cases hj
  ·split at hj
   ·rename_i ho
    obtain ⟨h1, h2, h3, h4⟩ := xu h ho
    obtain ⟨i, hi, rfl⟩ := List.mem_map.1 hj
    rw [List.mem_range] at hi
    have hlt : k + 1 + i < C.length := by omega
    rw [YM hlt]
    have h9 := x2 h4 _ (List.mem_of_getElem? (xK (i := i) (by omega) h3))
    have := k9 (hr _ hlt) (by unfold zb2; simp [h9])
    omega
   ·split at hj
    ·rename_i ho
     have : zb2 (zb C k).op := by unfold zb2; omega
     have := k9 h this
     simp at hj
     omega
    ·simp at hj
     omega
theorem YN {e : Bool} {C : List InsM} {N : List Int} (h : yK e C N = (0, 0)) : CodeOK C N := by
 obtain ⟨⟨h1, h2⟩, hr, hN⟩ := z9 h
 refine ⟨h1, h2, fun k hk ho => ?_, fun k hk ho => ?_, fun k hk j hj => (ja hr hk j hj).1, fun k hk ho => (jZ (hr k hk) ho).2, hN⟩
 ·have := VS (hr k hk) ho; omega
 ·have := xu (hr k hk) ho; omega
end
section
open Go.RowKit
def tgF (op : Int) : Bool :=
 if op = 7 then true else if op = 9 then true else if op = 11 then true else if op = 12 then true else if op = 13 then true else if op = 14 then true
 else if op = 15 then true else if op = 19 then true else if op = 40 then true else if op = 47 then true else false
def qv : List Int := [32, 107, 112, 75, 119, 110, 102, 109, 115, 97, 103, 80, 113, 98, 122]
def K3 (op : Int) : Bool := decide (op = 16) || decide (op = 17) || decide (44 ≤ op) && decide (op ≤ 46)
def K4 (n : Nat) (f : FormM) : Bool :=
 !f.known || (qv.contains (bAt f.has 0) && (if tgF n = true then decide (bAt f.has 1 = 116) else qv.contains (bAt f.has 1)) && (if K3 n = true then decide (bAt f.has 2 = 121) else qv.contains (bAt f.has 2)) && (decide (f.name = we ∨ f.name = wg) == decide (n = 8 ∨ n = 41)))
theorem K5 : (List.range 48).all (fun n => K4 n (yB true n) && K4 n (yB false n)) = true := by decide +kernel
structure Lett (op : Int) (f : FormM) : Prop where
 a : bAt f.has 0 ∈ qv
 b0 : ¬ tgF op = true → bAt f.has 1 ∈ qv
 b1 : tgF op = true → bAt f.has 1 = 116
 c0 : ¬ K3 op = true → bAt f.has 2 ∈ qv
 c1 : K3 op = true → bAt f.has 2 = 121
 n : (f.name = we ∨ f.name = wg) ↔ (op = 8 ∨ op = 41)
theorem Ku {e : Bool} {op : Int} (h : (yB e op).known = true) : Lett op (yB e op) := by
 obtain ⟨n, rfl, hn⟩ : ∃ n : Nat, op = n ∧ n < 48 := by
  by_cases g : op < 0 ∨ 48 ≤ op
  ·rw [YI e g] at h; cases h
  ·exact ⟨op.toNat, by omega, by omega⟩
 have ht : K4 n (yB e n) = true := by
  have := List.all_eq_true.1 K5 n (List.mem_range.2 hn)
  rw [Bool.and_eq_true] at this
  cases e
  ·exact this.2
  ·exact this.1
 unfold K4 at ht
 rw [h] at ht
 simp only [Bool.not_true, Bool.false_or, Bool.and_eq_true, List.contains_iff_mem] at ht
 obtain ⟨⟨⟨h1, h2⟩, h3⟩, h4⟩ := ht
 refine ⟨h1, fun g => ?_, fun g => ?_, fun g => ?_, fun g => ?_, ?_⟩
 ·rw [if_neg g] at h2; simpa using h2
 ·rw [if_pos g] at h2; simpa using h2
 ·rw [if_neg g] at h3; simpa using h3
 ·rw [if_pos g] at h3; simpa using h3
 ·simp only [beq_iff_eq, decide_eq_decide] at h4
  exact h4.trans (by omega)
theorem kr {w : Int} (h : w ∈ qv) (nC nN nC' nN' : Nat) (x : Int) : wW nC nN w x = wW nC' nN' w x := by
 simp only [qv, List.mem_cons, List.not_mem_nil, or_false] at h
 rcases h with rfl | rfl | rfl | rfl | rfl | rfl | rfl | rfl | rfl | rfl | rfl | rfl | rfl | rfl | rfl <;> rfl
theorem za5 {nC nN : Nat} {x : Int} (h : 0 ≤ x ∧ x < nC) : wW nC nN 116 x = true := by
 show inF x 0 ((nC : Int) - 1) = true
 simp only [inF, Bool.and_eq_true, decide_eq_true_eq]; omega
theorem Ye {op : Int} (h : tgF op = true) : op = 7 ∨ op = 9 ∨ op = 11 ∨ op = 12 ∨ op = 13 ∨ op = 14 ∨ op = 15 ∨ op = 19 ∨ op = 40 ∨ op = 47 := by
 by_cases g : op = 7 ∨ op = 9 ∨ op = 11 ∨ op = 12 ∨ op = 13 ∨ op = 14 ∨ op = 15 ∨ op = 19 ∨ op = 40 ∨ op = 47
 ·exact g
 ·simp only [not_or] at g
  obtain ⟨g1, g2, g3, g4, g5, g6, g7, g8, g9, g10⟩ := g
  unfold tgF at h
  simp only [g1, g2, g3, g4, g5, g6, g7, g8, g9, g10, if_false] at h
  cases h
end
section
open Go.RowKit
def Ext (L L' : LkM) : Prop := L'.length = L.length ∧ ∀ k s, L.getD k none = some s → L'.getD k none = some s
theorem Ext.refl (L : LkM) : Ext L L := ⟨rfl, fun _ _ h => h⟩
theorem Ext.trans {a b c : LkM} (h : Ext a b) (g : Ext b c) : Ext a c := ⟨g.1.trans h.1, fun k s hk => g.2 k s (h.2 k s hk)⟩
theorem Ext.some {L L' : LkM} (h : Ext L L') {k : Nat} (hk : (L.getD k none).isSome = true) : (L'.getD k none).isSome = true := by
 cases hs : L.getD k none with
 | none => rw [hs] at hk; cases hk
 | some s => rw [h.2 k s hs]; rfl
theorem Ext.st {L L' : LkM} (h : Ext L L') {k : Nat} (hk : (L.getD k none).isSome = true) : jb L' k = jb L k := by
 unfold jb
 cases hs : L.getD k none with
 | none => rw [hs] at hk; cases hk
 | some s => rw [h.2 k s hs]
theorem wh {e : Bool} {C : List InsM} {L L' : LkM} {k : Nat} {s : StM} {t : Int} (hk : k < L.length) (h : w7 e C L k s t = .some L') : Ext L L' ∧ (L'.getD k none).isSome = true := by
 unfold w7 at h
 split at h
 ·rename_i hn
  injection h with h
  subst h
  refine ⟨⟨by simp, fun j s' hj => ?_⟩, by simp [List.getD, hk]⟩
  by_cases hjk : k = j
  ·subst hjk; rw [hn] at hj; cases hj
  ·simp only [List.getD, List.getElem?_set_ne hjk] at hj ⊢; exact hj
 ·rename_i s0 hs
  split at h
  ·injection h with h; subst h; exact ⟨Ext.refl _, by rw [hs]; rfl⟩
  ·split at h
   ·injection h with h; subst h; exact ⟨Ext.refl _, by rw [hs]; rfl⟩
   ·cases h
theorem u4 {e : Bool} {C : List InsM} {t : Int} {E : EfM} {arms : Bool} : ∀ {ks : List Int} {w : Nat} {L L' : LkM}, (∀ j ∈ ks, j.toNat < L.length) → uW e C t E arms ks w L = .ok L' → Ext L L' ∧ ∀ j ∈ ks, (L'.getD j.toNat none).isSome = true
 | [], w, L, L', _, h => by
  unfold uW at h
  injection h with h
  subst h
  exact ⟨Ext.refl _, fun j hj => by cases hj⟩
 | k :: ks, w, L, L', hlt, h => by
  unfold uW at h
  split at h
  ·cases h
  ·rename_i L1 h1
   obtain ⟨g1, g2⟩ := wh (hlt k (.head _)) h1
   obtain ⟨g3, g4⟩ := u4 (fun j hj => by rw [g1.1]; exact hlt j (.tail _ hj)) h
   refine ⟨g1.trans g3, fun j hj => ?_⟩
   rcases List.mem_cons.1 hj with rfl | hj
   ·exact g3.some g2
   ·exact g4 j hj
structure FirstI (e : Bool) (C : List InsM) (t : Int) (L : LkM) (D : List Nat) : Prop where
 len : L.length = C.length
 nd : D.Nodup
 dok : ∀ k ∈ D, k < C.length ∧ (L.getD k none).isSome = true
 cl : ∀ k ∈ D, ∀ j ∈ yz C k (zb C k), j < C.length ∧ (L.getD j.toNat none).isSome = true
 st : ∀ k ∈ D, ∃ t' ≤ t, (z5 e (zb C k) (jb L k) t').2 = true
theorem FirstI.hand {e : Bool} {C : List InsM} {t : Int} {L L' : LkM} {D : List Nat} (h : FirstI e C t L D) (hx : Ext L L') : FirstI e C t L' D :=
 ⟨hx.1.trans h.len, h.nd, fun k hk => ⟨(h.dok k hk).1, hx.some (h.dok k hk).2⟩, fun k hk j hj => ⟨(h.cl k hk j hj).1, hx.some (h.cl k hk j hj).2⟩, fun k hk => by
  obtain ⟨t', h1, h2⟩ := h.st k hk
  exact ⟨t', h1, by rw [hx.st (h.dok k hk).2]; exact h2⟩⟩
theorem FirstI.up {e : Bool} {C : List InsM} {t t' : Int} {L : LkM} {D : List Nat} (h : FirstI e C t L D) (ht : t ≤ t') : FirstI e C t' L D := ⟨h.len, h.nd, h.dok, h.cl, fun k hk => by
 obtain ⟨t0, h1, h2⟩ := h.st k hk
 exact ⟨t0, Int.le_trans h1 ht, h2⟩⟩
theorem FirstI.dlen {e : Bool} {C : List InsM} {t : Int} {L : LkM} {D : List Nat} (h : FirstI e C t L D) : D.length ≤ C.length := xX h.nd fun k hk => (h.dok k hk).1
def V4 (C : List InsM) : Prop := ∀ k, k < C.length → ∀ j ∈ yz C k (zb C k), 0 ≤ j
theorem ZQ {e : Bool} {C : List InsM} (hp : V4 C) {t : Int} {L L' : LkM} {D : List Nat} {k : Nat} (h : FirstI e C t L D) (hk : k < C.length) (hs : (L.getD k none).isSome = true) (hD : k ∉ D) (hg : jt e C k L t = .ok L') : FirstI e C t L' (k :: D) ∧ Ext L L' := by
 unfold jt at hg
 dsimp only at hg
 split at hg
 ·cases hg
 ·rename_i hn
  simp only [not_or, Bool.not_eq_false, Bool.not_eq_true] at hn
  obtain ⟨h1, h2⟩ := hn
  have hlt : ∀ j ∈ yz C k (zb C k), j < C.length := fun j hj => by
   have := List.any_eq_false.1 h2 j hj
   simpa using this
  obtain ⟨g1, g2⟩ := u4 (fun j hj => by have := hlt j hj; have := hp k hk j hj; rw [h.len]; omega) hg
  have hh := h.hand g1
  refine ⟨⟨hh.len, List.nodup_cons.2 ⟨hD, h.nd⟩, fun j hj => ?_, fun j hj i hi => ?_, fun j hj => ?_⟩, g1⟩
  ·rcases List.mem_cons.1 hj with rfl | hj
   ·exact ⟨hk, g1.some hs⟩
   ·exact hh.dok j hj
  ·rcases List.mem_cons.1 hj with rfl | hj
   ·exact ⟨hlt i hi, g2 i hi⟩
   ·exact hh.cl j hj i hi
  ·rcases List.mem_cons.1 hj with rfl | hj
   ·exact ⟨t, Int.le_refl _, by rw [g1.st hs]; exact h1⟩
   ·exact hh.st j hj
theorem qp {L : LkM} {D : List Nat} {k : Nat} (h : ju L D = some k) : k < L.length ∧ (L.getD k none).isSome = true ∧ k ∉ D := by
 unfold ju at h
 have h1 := List.find?_some h
 have h2 := List.mem_of_find?_eq_some h
 rw [List.mem_range] at h2
 unfold xL at h1
 simp only [Bool.and_eq_true, Bool.not_eq_true', decide_eq_false_iff_not] at h1
 exact ⟨h2, h1.1, h1.2⟩
theorem VX {L : LkM} {D : List Nat} (h : ju L D = none) {k : Nat} (hk : (L.getD k none).isSome = true) : k ∈ D := by
 unfold ju at h
 rw [List.find?_eq_none] at h
 have hlt : k < L.length := by
  rcases Nat.lt_or_ge k L.length with h' | h'
  ·exact h'
  ·simp [List.getD, List.getElem?_eq_none h'] at hk
 have := h k (List.mem_range.2 hlt)
 unfold xL at this
 rw [hk] at this
 simpa using this
theorem kf {e : Bool} {C : List InsM} (hp : V4 C) {t : Int} : ∀ {f : Nat} {L L' : LkM} {D D' : List Nat}, FirstI e C t L D → C.length + 1 ≤ f + D.length → qO e C t f L D = .ok (L', D') → FirstI e C t L' D' ∧ Ext L L' ∧ ∀ k, (L'.getD k none).isSome = true → k ∈ D'
 | 0, L, L', D, D', h, hf, _ => by have := h.dlen; omega
 | f + 1, L, L', D, D', h, hf, hl => by
  unfold qO at hl
  split at hl
  ·rename_i hn
   injection hl with hl
   injection hl with h1 h2
   subst h1
   subst h2
   exact ⟨h, Ext.refl _, fun k hk => VX hn hk⟩
  ·rename_i k hn
   obtain ⟨h1, h2, h3⟩ := qp hn
   rw [h.len] at h1
   split at hl
   ·cases hl
   ·rename_i L1 hg
    obtain ⟨g1, g2⟩ := ZQ hp h h1 h2 h3 hg
    obtain ⟨g3, g4, g5⟩ := kf hp g1 (by rw [List.length_cons]; omega) hl
    exact ⟨g3, g2.trans g4, g5⟩
theorem jg {e : Bool} {C : List InsM} (hp : V4 C) : ∀ {N : List Int} {t : Int} {L L' : LkM} {D D' : List Nat}, (∀ n ∈ N, 0 ≤ n ∧ n < C.length) → FirstI e C t L D → (∀ k, (L.getD k none).isSome = true → k ∈ D) → xU e C N t L D = .ok (L', D') →
  (∃ t', FirstI e C t' L' D' ∧ t' ≤ t + N.length) ∧ Ext L L' ∧ (∀ k, (L'.getD k none).isSome = true → k ∈ D') ∧ ∀ (i : Nat) (n : Int), N[i]? = some n → (L'.getD n.toNat none).isSome = true ∧ ∃ L1 D1, FirstI e C (t + i) L1 D1 ∧ (∀ k, (L1.getD k none).isSome = true → k ∈ D1) ∧ (L1.getD n.toNat none).isSome = true
 | [], t, L, L', D, D', _, h, ha, hf => by
  unfold xU at hf
  injection hf with hf
  injection hf with h1 h2
  subst h1
  subst h2
  exact ⟨⟨t, h, by simp⟩, Ext.refl _, ha, fun i n hi => by simp at hi⟩
 | n :: ns, t, L, L', D, D', hN, h, ha, hf => by
  unfold xU at hf
  split at hf
  ·cases hf
  ·rename_i L1 h1
   have hn := hN n (.head _)
   obtain ⟨g1, g2⟩ := wh (by rw [h.len]; omega) h1
   split at hf
   ·cases hf
   ·rename_i L2 D2 h2
    obtain ⟨g3, g4, g5⟩ := kf hp (h.hand g1) (by have := h.dlen; omega) h2
    obtain ⟨⟨t', q1, q2⟩, q3, q4, q5⟩ := jg hp (fun m hm => hN m (.tail _ hm)) (g3.up (by omega : t ≤ t + 1)) g5 hf
    refine ⟨⟨t', q1, by rw [List.length_cons]; omega⟩, (g1.trans g4).trans q3, q4, fun i m hi => ?_⟩
    cases i with
    | zero =>
     simp only [List.getElem?_cons_zero, Option.some.injEq] at hi
     subst hi
     exact ⟨(g4.trans q3).some g2, L2, D2, by simpa using g3, g5, g4.some g2⟩
    | succ i =>
     obtain ⟨r1, L3, D3, r2, r3⟩ := q5 i m (by simpa using hi)
     exact ⟨r1, L3, D3, by rw [show t + ((i + 1 : Nat) : Int) = t + 1 + i by omega]; exact r2, r3⟩
theorem FirstI.init (e : Bool) (C : List InsM) : FirstI e C 0 (List.replicate C.length none) [] := ⟨by simp, List.nodup_nil, fun _ h => (by cases h), fun _ h => (by cases h), fun _ h => (by cases h)⟩
theorem u5 (C : List InsM) (k : Nat) : ((List.replicate C.length (none : Option StM)).getD k none).isSome = false := by
 simp only [List.getD, List.getElem?_replicate]
 split <;> rfl
theorem VY {x : InsM} {s : StM} {t : Int} (h : (z5 false x s t).2 = true) (ho : x.op = 16) : x.c < t := by
 unfold z5 Kv at h
 simp only [reduceCtorEq, if_false] at h
 rw [if_pos ho] at h
 split at h
 ·cases h
 ·omega
theorem YW {e : Bool} {C : List InsM} {N : List Int} (hc : yK e C N = (0, 0)) {L : LkM} {D : List Nat} (h : xV e C N = .ok (L, D)) : ZP C N := by
 obtain ⟨_, hr, hN⟩ := z9 hc
 have hp : V4 C := fun k hk j hj => (ja hr hk j hj).1
 intro t n hn
 obtain ⟨_, _, _, h4⟩ := jg hp hN (FirstI.init e C) (fun k hk => by rw [u5] at hk; cases hk) h
 obtain ⟨_, L1, D1, g1, g2, g3⟩ := h4 t n hn
 refine ⟨fun k => k ∈ D1, g2 _ g3, fun B hB => ⟨fun k hk => (g1.dok k hk).1, fun k hk j hj => ?_, fun k hk ho => ?_⟩⟩
 ·exact ⟨hp k (g1.dok k hk).1 j hj, g2 _ (g1.cl k hk j hj).2⟩
 ·obtain ⟨he, h0, _⟩ := jZ (hr k (g1.dok k hk).1) ho
  subst he
  obtain ⟨t', h1, h2⟩ := g1.st k hk
  have := VY h2 ho
  omega
end
section
open Go.RowKit
def V5 (x : Int) : Nat := (x % 18446744073709551616).toNat
theorem Kp (x : Int) : V5 x < 18446744073709551616 := by unfold V5; omega
theorem x3 (x : Int) : (BitVec.ofInt 64 x).toNat = V5 x := by
 rw [BitVec.toNat_ofInt]; rfl
end
section
open Go.RowKit
noncomputable def wX (e : Bool) (C : List InsM) (N : List Int) : Int × Int :=
 if (yK e C N).1 ≠ 0 then yK e C N
 else match xV e C N with
  | .error j => (150, j)
  | .ok _ => if 0 ≤ Ko e C N then (150, Ko e C N) else (0, 0)
theorem W7 (n : Nat) : (List.replicate n [vI 0, .v (.int .u64 0), vI 0, vI 0, vI 0, vI 0] : List (List AV)) = xf (List.replicate n none) := by simp [xf, Jw, StM.zero]
theorem W8 (n : Nat) : (List.replicate n [vB false] : List (List AV)) = xg (List.replicate n none) := by simp [xg]
theorem VZ (e : Bool) (C : List InsM) (N : List Int) (hC : C.length ≤ 140737488355328) (hN : N.length ≤ 140737488355328) (hv : (wX e C N).1 ≠ 0) :
  yq Try.prog 17 [pG e C N] [] (.tup [.v (.pointer none), vFa (wX e C N)]) [] := by
 have hck := YL e C N hC hN
 unfold wX at hv ⊢
 by_cases hc : (yK e C N).1 = 0
 ·have hc0 := kb.1 hc
  have hok := YN hc0
  have hl := hok.len
  rw [if_neg (by simpa using hc)] at hv ⊢
  rw [hc0] at hck
  have fe := QY e C N hok
  unfold lkO lkV at fe
  simp only [List.length_replicate, List.length_nil] at fe
  have hr1 := W7 C.length
  have hr2 := W8 C.length
  have sec := fun hlk => W6 e C N hok hlk
  have hlk : ∀ r, xV e C N = .ok r → ZP C N := fun r h => YW hc0 h
  generalize xV e C N = R at fe hv hlk ⊢
  generalize xf (List.replicate C.length none) = rows1 at fe hr1
  generalize xg (List.replicate C.length none) = rows2 at fe hr2
  unfold pG at *
  cases R with
  | error j =>
   dsimp only
   refine zW (za _) Try.func17 rfl rfl (by rw [Try.results17]) Try.ntmps17 rfl fun E => ?_
   (repeat' (first | exact trivial | (refine u6 23 5 3 1 15002 (.inr (by decide)) (by decide) rfl rfl ?_) | (with_reducible first | apply awA | apply awC | apply awF) | (refine zn (id := 4) (t := (.node [0, 1, 2, 3, 5, 6, 7] [(.node [4, 8, 9, 10, 11] []), (.node [8, 4, 9, 10, 11] [])])) (drR [1] [] []) zD (by kernel_rfl) (by kernel_rfl) (fun _ _ h => h) ?_) | (refine zx (by simp only [go_sem]; exact rfl) ?_) | (refine zA (by simp only [go_sem]; exact rfl) ?_) | refine ze ?_ | refine zl ?_ ?_ | exact zy | ((with_reducible first | apply awn | apply awo | apply awp | refine awQ ?_); intro r hr; simp only [go_sem, Nat.reduceBEq, Nat.reduceLT, Nat.reduceLeDiff, Nat.reduceAdd, Nat.reduceMul, zd, AState.nilvar, hr1, hr2, Int.cast_ofNat_Int] at hr; subst hr; (first | refine caA (fun _ => hck) rfl ?_ ?_ ?_ | refine awV ?_ ?_ | refine awW ?_ ?_ | (refine zf (fun h => ?_) (fun h => ?_) <;> (try simp only [go_sem, reduceCtorEq] at h) <;> (try (exfalso; omega))))) | (refine zp [(23, 10000), (17, 15000), (21, 15001), (15002, 15002)] [(10000, 23), (15000, 17), (15001, 21), (15002, 15002)] [17, 21, 15002] [23] ?_; intro r hr; simp only [go_sem, Nat.reduceBEq, Nat.reduceLT] at hr; subst hr; refine y4 (fe) rfl rfl (by first | exact .inl rfl | exact .inr rfl) ?_ (.inl rfl) (fun q hq => wl ?_)))) <;> (try omega)
   all_goals
    refine ⟨?_⟩
    obtain ⟨r, L, W⟩ := q
    obtain ⟨_, rfl, h0⟩ := hq
    have e1 : (r < 0) = False := eq_false (by omega)
    have e2 : (r ≥ 0) = True := eq_true h0
    (repeat' (first | exact trivial | (with_reducible first | apply awA | apply awC | apply awD | apply awF | apply awG) | ((with_reducible first | apply awn | apply awo | refine awQ ?_ | refine awT ?_); intro r hr; simp only [go_sem, Nat.reduceBEq, Nat.reduceLT, Nat.reduceLeDiff, Nat.reduceAdd, Nat.reduceMul, e1, e2] at hr; subst hr; (first | refine awV ?_ ?_ | refine yl ?_ ?_ ?_ | (refine zf (fun h => ?_) (fun h => ?_) <;> (try simp only [go_sem, reduceCtorEq] at h) <;> (try (exfalso; omega))))))) <;> (try omega)
    all_goals first | exact AV.up_rfl _ | exact zo
  | ok r0 =>
   dsimp only at hv ⊢
   have hs0 : 0 ≤ Ko e C N := by
    by_cases h : 0 ≤ Ko e C N
    ·exact h
    ·rw [if_neg h] at hv; exact absurd rfl hv
   rw [if_pos hs0]
   have sec' := sec (hlk _ rfl)
   have hsp := vE e C N
   generalize Ko e C N = sr at hs0 hsp ⊢
   have e1 : ((-1 : Int) < 0) = True := eq_true (by decide)
   have e2 : (sr ≥ 0) = True := eq_true hs0
   clear hlk sec hv
   refine zW (za _) Try.func17 rfl rfl (by rw [Try.results17]) Try.ntmps17 rfl fun E => ?_
   (repeat' (first | exact trivial | (refine u6 23 5 3 1 15002 (.inr (by decide)) (by decide) rfl rfl ?_) | (with_reducible first | apply awA | apply awC | apply awF) | (refine zn (id := 4) (t := (.node [0, 1, 2, 3, 5, 6, 7] [(.node [4, 8, 9, 10, 11] []), (.node [8, 4, 9, 10, 11] [])])) (drR [1] [] []) zD (by kernel_rfl) (by kernel_rfl) (fun _ _ h => h) ?_) | (refine zx (by simp only [go_sem]; exact rfl) ?_) | (refine zA (by simp only [go_sem]; exact rfl) ?_) | refine ze ?_ | refine zl ?_ ?_ | exact zy | ((with_reducible first | apply awn | apply awo | apply awp | refine awQ ?_); intro r hr; simp only [go_sem, Nat.reduceBEq, Nat.reduceLT, Nat.reduceLeDiff, Nat.reduceAdd, Nat.reduceMul, zd, AState.nilvar, hr1, hr2, Int.cast_ofNat_Int] at hr; subst hr; (first | refine caA (fun _ => hck) rfl ?_ ?_ ?_ | refine awV ?_ ?_ | refine awW ?_ ?_ | (refine zf (fun h => ?_) (fun h => ?_) <;> (try simp only [go_sem, reduceCtorEq] at h) <;> (try (exfalso; omega))))) | (refine zp [(23, 10000), (17, 15000), (21, 15001), (15002, 15002)] [(10000, 23), (15000, 17), (15001, 21), (15002, 15002)] [17, 21, 15002] [23] ?_; intro r hr; simp only [go_sem, Nat.reduceBEq, Nat.reduceLT] at hr; subst hr; refine y4 (fe) rfl rfl (by first | exact .inl rfl | exact .inr rfl) ?_ (.inl rfl) (fun q hq => wl ?_)))) <;> (try omega)
   all_goals
    refine ⟨?_⟩
    obtain ⟨r, L, W⟩ := q
    obtain ⟨_, rfl, rfl⟩ := hq
    (repeat' (first | exact trivial | (with_reducible first | apply awA | apply awF) | ((with_reducible first | apply awn | apply awo | refine awQ ?_); intro r hr; simp only [go_sem, Nat.reduceBEq, Nat.reduceLT, Nat.reduceLeDiff, Nat.reduceAdd, Nat.reduceMul, e1] at hr; subst hr; (first | refine awV ?_ ?_ | refine awW ?_ ?_ | (refine zf (fun h => ?_) (fun h => ?_) <;> (try simp only [go_sem, reduceCtorEq] at h) <;> (try (exfalso; omega))))) | (refine zp [] [] [] [] ?_; intro r hr; simp only [go_sem, Nat.reduceBEq, Nat.reduceLT] at hr; subst hr; refine y4 (sec') rfl rfl (by first | exact .inl rfl | exact .inr rfl) ?_ (.inl rfl) (fun q hq => wl ?_)))) <;> (try omega)
    refine ⟨?_⟩
    have hqq := hq.uniq hsp
    subst hqq
    (repeat' (first | exact trivial | (with_reducible first | apply awA | apply awD | apply awF | apply awG) | ((with_reducible first | apply awn | apply awo | refine awQ ?_ | refine awT ?_); intro r hr; simp only [go_sem, Nat.reduceBEq, Nat.reduceLT, Nat.reduceLeDiff, Nat.reduceAdd, Nat.reduceMul, e2] at hr; subst hr; (first | refine awV ?_ ?_ | refine yl ?_ ?_ ?_ | (refine zf (fun h => ?_) (fun h => ?_) <;> (try simp only [go_sem, reduceCtorEq] at h) <;> (try (exfalso; omega))))))) <;> (try omega)
    all_goals first | exact AV.up_rfl _ | exact zo
 ·rw [if_pos (by simpa using hc)] at hv ⊢
  generalize yK e C N = ch at hck hc ⊢
  obtain ⟨c1, c2⟩ := ch
  have e1 : (c1 = 0) = False := eq_false hc
  unfold pG at *
  refine zW (za _) Try.func17 rfl rfl (by rw [Try.results17]) Try.ntmps17 rfl fun E => ?_
  (repeat' (first | exact trivial | (with_reducible first | apply awA | apply awD | apply awF | apply awG) | (refine zn (id := 3) (t := (.node [0, 1, 2] [])) (drR [4] [] []) zD (by kernel_rfl) (by kernel_rfl) (fun _ _ h => h) ?_) | (refine zx (by simp only [go_sem]; exact rfl) ?_) | (refine zA (by simp only [go_sem]; exact rfl) ?_) | refine ze ?_ | refine zl ?_ ?_ | exact zy | ((with_reducible first | apply awn | apply awo | apply awp | refine awQ ?_ | refine awT ?_); intro r hr; simp only [go_sem, Nat.reduceBEq, Nat.reduceLT, Nat.reduceLeDiff, Nat.reduceAdd, Nat.reduceMul, e1] at hr; subst hr; (first | refine caA (fun _ => hck) rfl ?_ ?_ ?_ | refine awV ?_ ?_ | refine yl ?_ ?_ ?_ | (refine zf (fun h => ?_) (fun h => ?_) <;> (try simp only [go_sem, reduceCtorEq] at h) <;> (try (exfalso; omega))))))) <;> (try omega)
  all_goals first | exact AV.up_rfl _ | exact zo
def lkR (e : Bool) (C : List InsM) (N : List Int) (L : LkM) (W : List Int) : List (Nat × AObj) :=
 [(23, .var [vB e, .lst 4 (zz C), .lst 1 (v8 N), .ref 77 6 17 0 C.length, .ref 4 1 21 0 C.length, .ref 3 1 15002 0 W.length]), (17, .row 77 6 (xf L)), (21, .row 4 1 (xg L)), (15002, .row 3 1 (v8 W))]
theorem vF {e : Bool} {C : List InsM} {N : List Int} (hv : (wX e C N).1 = 0) : yK e C N = (0, 0) ∧ (∃ r, xV e C N = .ok r) ∧ Ko e C N < 0 ∧ wX e C N = (0, 0) := by
 unfold wX at hv ⊢
 by_cases hc : (yK e C N).1 = 0
 ·rw [if_neg (by simpa using hc)] at hv ⊢
  refine ⟨kb.1 hc, ?_⟩
  cases hf : xV e C N with
  | error j => rw [hf] at hv; cases hv
  | ok r =>
   rw [hf] at hv
   dsimp only at hv ⊢
   by_cases h : 0 ≤ Ko e C N
   ·rw [if_pos h] at hv; cases hv
   ·rw [if_neg h]; exact ⟨⟨r, rfl⟩, by omega, rfl⟩
 ·rw [if_pos (by simpa using hc)] at hv; exact absurd hv hc
theorem Kq (e : Bool) (C : List InsM) (N : List Int) (hv : (wX e C N).1 = 0) {r : LkM × List Nat} (hf : xV e C N = .ok r) :
  yL Try.prog 17 [pG e C N] [] (fun _ : List Int => True) (fun _ => .tup [.ptr 1 23 0 0, vFa (0, 0)]) (fun W => lkR e C N r.1 W) := by
 obtain ⟨hc0, _, hs, _⟩ := vF hv
 have hok := YN hc0
 have hl := hok.len
 have hck := YL e C N (by omega) (by have := hok.lenN; omega)
 rw [hc0] at hck
 have fe := QY e C N hok
 unfold lkO lkV at fe
 simp only [List.length_replicate, List.length_nil] at fe
 have hr1 := W7 C.length
 have hr2 := W8 C.length
 have sec := W6 e C N hok (YW hc0 hf)
 rw [hf] at fe
 have hsp := vE e C N
 generalize Ko e C N = sr at hs hsp
 generalize xf (List.replicate C.length none) = rows1 at fe hr1
 generalize xg (List.replicate C.length none) = rows2 at fe hr2
 have e1 : ((-1 : Int) < 0) = True := eq_true (by decide)
 have e2 : (sr ≥ 0) = False := eq_false (by omega)
 unfold pG at *
 unfold lkR
 refine xT (za _) Try.func17 rfl rfl (by rw [Try.results17]) Try.ntmps17 rfl fun E => ?_
 (repeat' (first | exact trivial | (refine u6 23 5 3 1 15002 (.inr (by decide)) (by decide) rfl rfl ?_) | (with_reducible first | apply awA | apply awC | apply awF) | (refine zn (id := 4) (t := (.node [0, 1, 2, 3, 5, 6, 7] [(.node [4, 8, 9, 10, 11] []), (.node [8, 4, 9, 10, 11] [])])) (drR [1] [] []) zD (by kernel_rfl) (by kernel_rfl) (fun _ _ h => h) ?_) | (refine zx (by simp only [go_sem]; exact rfl) ?_) | (refine zA (by simp only [go_sem]; exact rfl) ?_) | refine ze ?_ | refine zl ?_ ?_ | exact zy | ((with_reducible first | apply awn | apply awo | apply awp | refine awQ ?_); intro r hr; simp only [go_sem, Nat.reduceBEq, Nat.reduceLT, Nat.reduceLeDiff, Nat.reduceAdd, Nat.reduceMul, zd, AState.nilvar, hr1, hr2, Int.cast_ofNat_Int] at hr; subst hr; (first | refine caA (fun _ => hck) rfl ?_ ?_ ?_ | refine awV ?_ ?_ | refine awW ?_ ?_ | (refine zf (fun h => ?_) (fun h => ?_) <;> (try simp only [go_sem, reduceCtorEq] at h) <;> (try (exfalso; omega))))) | (refine zp [(23, 10000), (17, 15000), (21, 15001), (15002, 15002)] [(10000, 23), (15000, 17), (15001, 21), (15002, 15002)] [17, 21, 15002] [23] ?_; intro r hr; simp only [go_sem, Nat.reduceBEq, Nat.reduceLT] at hr; subst hr; refine y4 (fe) rfl rfl (by first | exact .inl rfl | exact .inr rfl) ?_ (.inl rfl) (fun q hq => wl ?_)))) <;> (try omega)
 all_goals
  refine ⟨?_⟩
  obtain ⟨r1, L, W⟩ := q
  obtain ⟨hL, rfl, rfl⟩ := hq
  simp only at hL
  (repeat' (first | exact trivial | (with_reducible first | apply awA | apply awF) | ((with_reducible first | apply awn | apply awo | refine awQ ?_); intro r hr; simp only [go_sem, Nat.reduceBEq, Nat.reduceLT, Nat.reduceLeDiff, Nat.reduceAdd, Nat.reduceMul, e1] at hr; subst hr; (first | refine awV ?_ ?_ | refine awW ?_ ?_ | (refine zf (fun h => ?_) (fun h => ?_) <;> (try simp only [go_sem, reduceCtorEq] at h) <;> (try (exfalso; omega))))) | (refine zp [] [] [] [] ?_; intro r hr; simp only [go_sem, Nat.reduceBEq, Nat.reduceLT] at hr; subst hr; refine y4 (sec) rfl rfl (by first | exact .inl rfl | exact .inr rfl) ?_ (.inl rfl) (fun q hq => wl ?_)))) <;> (try omega)
  refine ⟨?_⟩
  have hqq := hq.uniq hsp
  subst hqq
  (repeat' (first | exact trivial | (with_reducible first | apply awA | apply awC | apply awD | apply awF) | ((with_reducible first | apply awn | apply awo | refine awQ ?_ | refine uh ?_); intro r hr; simp only [go_sem, Nat.reduceBEq, Nat.reduceLT, Nat.reduceLeDiff, Nat.reduceAdd, Nat.reduceMul, e2, hL] at hr; subst hr; (first | refine awV ?_ ?_ | refine xi ?_ ?_ | (refine zf (fun h => ?_) (fun h => ?_) <;> (try simp only [go_sem, reduceCtorEq] at h) <;> (try (exfalso; omega))))))) <;> (try omega)
  all_goals refine ⟨W, trivial, AV.up_rfl _, ?_⟩
  all_goals repeat first | exact zo | refine zh rfl ?_
theorem xy (e : Bool) (C : List InsM) (N : List Int) (hC : C.length ≤ 140737488355328) (hN : N.length ≤ 140737488355328) : zN Try.prog 8 [pG e C N] (fun r => r = vFa (wX e C N)) := by
 have key : yq Try.prog 8 [pG e C N] [] (vFa (wX e C N)) [] := by
  by_cases hv : (wX e C N).1 = 0
  ·obtain ⟨_, ⟨r, hf⟩, _, h4⟩ := vF hv
   have hlk := Kq e C N hv hf
   rw [h4]
   unfold pG lkR at *
   refine zW (za _) Try.func8 rfl rfl (by rw [Try.results8]) Try.ntmps8 rfl fun E => ?_
   (repeat' (first | exact trivial | (with_reducible first | apply awA | apply awD | apply awF) | ((with_reducible first | apply awn | apply awo | refine awT ?_); intro r hr; simp only [go_sem, Nat.reduceBEq, Nat.reduceLT, Nat.reduceLeDiff, Nat.reduceAdd, Nat.reduceMul] at hr; subst hr; (first | refine awV ?_ ?_ | refine awW ?_ ?_ | refine yl ?_ ?_ ?_)) | (refine zp [] [] [] [] ?_; intro r hr; simp only [go_sem, Nat.reduceBEq, Nat.reduceLT] at hr; subst hr; refine y4 (hlk) rfl rfl (by first | exact .inl rfl | exact .inr rfl) ?_ (.inl rfl) (fun q hq => ?_)))) <;> (try omega)
   all_goals first | exact AV.up_rfl _ | exact zo
  ·have hlk := VZ e C N hC hN hv
   generalize wX e C N = f at hlk ⊢
   unfold pG at *
   refine zW (za _) Try.func8 rfl rfl (by rw [Try.results8]) Try.ntmps8 rfl fun E => ?_
   (repeat' (first | exact trivial | (with_reducible first | apply awA | apply awD | apply awF) | ((with_reducible first | apply awn | apply awo | refine awT ?_); intro r hr; simp only [go_sem, Nat.reduceBEq, Nat.reduceLT, Nat.reduceLeDiff, Nat.reduceAdd, Nat.reduceMul] at hr; subst hr; (first | refine awV ?_ ?_ | refine awW ?_ ?_ | refine yl ?_ ?_ ?_)) | (refine zp [] [] [] [] ?_; intro r hr; simp only [go_sem, Nat.reduceBEq, Nat.reduceLT] at hr; subst hr; refine yo (hlk) rfl rfl (by first | exact .inl rfl | exact .inr rfl) ?_ (.inl rfl) ?_))) <;> (try omega)
   all_goals first | exact AV.up_rfl _ | exact zo
 exact key.toP ⟨trivial, trivial, trivial⟩
end
section
open Go.RowKit
theorem vM {e : Bool} {x : InsM} {s : StM} {t t' : Int} (h : (z5 e x s t).2 = true) (ht : t ≤ t') : z5 e x s t' = z5 e x s t := by
 unfold z5 at h ⊢
 cases e with
 | true =>
  rw [if_pos rfl] at h
  rw [if_pos rfl, if_pos rfl]
  unfold Q6 at h ⊢
  dsimp only at h ⊢
  by_cases ho : x.op = 44 ∨ x.op = 45 ∨ x.op = 46
  ·rw [if_pos ho] at h
   rw [if_pos ho, if_pos ho]
   by_cases hc : t ≤ x.c
   ·rw [if_pos hc] at h; cases h
   ·rw [if_neg hc, if_neg (by omega)]
  ·rw [if_neg ho, if_neg ho]
 | false =>
  rw [if_neg (by decide)] at h
  rw [if_neg (by decide), if_neg (by decide)]
  unfold Kv at h ⊢
  dsimp only at h ⊢
  by_cases h16 : x.op = 16
  ·rw [if_pos h16] at h
   rw [if_pos h16, if_pos h16]
   by_cases hc : t ≤ x.c
   ·rw [if_pos hc] at h; cases h
   ·rw [if_neg hc, if_neg (by omega)]
  ·rw [if_neg h16, if_neg h16]
   by_cases h17 : x.op = 17
   ·simp only [h17, Int.reduceEq, or_self, if_false, if_true] at h ⊢
    by_cases hc : t ≤ x.c
    ·rw [if_pos hc] at h; cases h
    ·rw [if_neg hc, if_neg (by omega)]
   ·simp only [h17, if_false]
theorem WG {e : Bool} {C : List InsM} : ∀ {ns : List Int} {B : List Bool} {r : Int}, qQ e C ns B r → r < 0 → r = -1
 | [], _, _, h, _ => h
 | a :: ns, B, r, h, h0 => by
  rcases h with ⟨k, hk, _⟩ | ⟨h1, h2⟩
  ·omega
  ·exact WG h2 h0
end
section
open Go.RowKit
def handT (x : InsM) (E : EfM) (w : Nat) : StM := if w = 1 ∧ YR x = false then E.target else E.next
inductive Hd (e : Bool) (C : List InsM) (N : List Int) : Nat → Nat → StM → Prop
 | entry {i : Nat} {n : Int} : N[i]? = some n → Hd e C N i n.toNat (xh e)
 | way {t k : Nat} {s : StM} {w : Nat} {j : Int} : Hd e C N t k s → (yz C k (zb C k))[w]? = some j → Hd e C N t j.toNat (handT (zb C k) (z5 e (zb C k) s t).1 w)
def vR (e : Bool) (C : List InsM) (N : List Int) : Prop :=
 ∀ t k s, Hd e C N t k s → (z5 e (zb C k) s t).2 = true ∧ (∀ j ∈ yz C k (zb C k), j < C.length) ∧ ∀ t' s', Hd e C N t' k s' → (z5 e (zb C k) s t).1 = (z5 e (zb C k) s' t').1
structure WsI (e : Bool) (C : List InsM) (N : List Int) (t : Nat) (L : LkM) (D : List Nat) : Prop where
 hd : ∀ k s, L.getD k none = some s → ∃ t', t' ≤ t ∧ Hd e C N t' k s ∧ (k ∉ D → t' = t)
theorem Yy {e : Bool} {C : List InsM} {N : List Int} (hG : vR e C N) {t : Nat} {L : LkM} {D : List Nat} {k : Nat} {s : StM} (hW : WsI e C N t L D) (hk : k < L.length) (hs : Hd e C N t k s) : ∃ L', w7 e C L k s t = some L' ∧ WsI e C N t L' D := by
 unfold w7
 cases hL : L.getD k none with
 | none =>
  refine ⟨_, rfl, ⟨fun j r hj => ?_⟩⟩
  by_cases hjk : k = j
  ·subst hjk
   simp [List.getD, hk] at hj
   subst hj
   exact ⟨t, Nat.le_refl _, hs, fun _ => rfl⟩
  ·refine hW.hd j r ?_
   simp only [List.getD, List.getElem?_set_ne hjk] at hj ⊢; exact hj
 | some s0 =>
  dsimp only
  by_cases h0 : s0 = s
  ·rw [if_pos h0]; exact ⟨L, rfl, hW⟩
  ·rw [if_neg h0]
   obtain ⟨t', ht, h1, _⟩ := hW.hd k s0 hL
   obtain ⟨g1, _, g2⟩ := hG t k s hs
   obtain ⟨g3, _, _⟩ := hG t' k s0 h1
   have := g2 t' s0 h1
   rw [if_pos ⟨g1, by rw [vM g3 (by omega : (t' : Int) ≤ t), this]⟩]
   exact ⟨L, rfl, hW⟩
theorem jT {e : Bool} {C : List InsM} {N : List Int} (hG : vR e C N) {t : Nat} {D : List Nat} {E : EfM} {x : InsM} : ∀ {ks : List Int} {w : Nat} {L : LkM}, WsI e C N t L D → (∀ j ∈ ks, j.toNat < L.length) → (∀ i j, ks[i]? = some j → Hd e C N t j.toNat (handT x E (w + i))) →
  ∃ L', uW e C t E (YR x) ks w L = .ok L' ∧ WsI e C N t L' D
 | [], w, L, hW, _, _ => ⟨L, rfl, hW⟩
 | k :: ks, w, L, hW, hlt, hh => by
  unfold uW
  obtain ⟨L1, h1, hW1⟩ := Yy hG hW (hlt k (.head _)) (hh 0 k rfl)
  have h1' : w7 e C L k.toNat (if w = 1 ∧ YR x = false then E.target else E.next) t = some L1 := h1
  rw [h1']
  dsimp only
  obtain ⟨g1, _⟩ := wh (hlt k (.head _)) h1
  exact jT hG hW1 (fun j hj => by rw [g1.1]; exact hlt j (.tail _ hj)) fun i j hi => by
   rw [show w + 1 + i = w + (i + 1) by omega]
   exact hh (i + 1) j (by simpa using hi)
theorem QI {e : Bool} {C : List InsM} {N : List Int} (hp : V4 C) (hG : vR e C N) {t : Nat} {L : LkM} {D : List Nat} {k : Nat} (hW : WsI e C N t L D) (hl : L.length = C.length) (hk : k < C.length) (hs : (L.getD k none).isSome = true) (hD : k ∉ D) : ∃ L', jt e C k L t = .ok L' ∧ WsI e C N t L' (k :: D) := by
 obtain ⟨s, hs⟩ := Option.isSome_iff_exists.1 hs
 obtain ⟨t', _, h1, h2⟩ := hW.hd k s hs
 rw [h2 hD] at h1
 obtain ⟨g1, g2, _⟩ := hG t k s h1
 have hst : jb L k = s := by unfold jb; rw [hs]; rfl
 unfold jt
 dsimp only
 rw [hst]
 have h3 : (yz C k (zb C k)).any (fun j => decide ((C.length : Int) ≤ j)) = false := List.any_eq_false.2 fun j hj => by
  have := g2 j hj
  simp; omega
 rw [if_neg (by rw [g1, h3]; simp)]
 have hW' : WsI e C N t L (k :: D) := ⟨fun j r hj => by
  obtain ⟨t', q1, q2, q3⟩ := hW.hd j r hj
  exact ⟨t', q1, q2, fun hn => q3 fun hm => hn (.tail _ hm)⟩⟩
 exact jT hG hW' (fun j hj => by have := g2 j hj; have := hp k hk j hj; omega) fun i j hi => by
  rw [Nat.zero_add]; exact .way h1 hi
theorem Yz {e : Bool} {C : List InsM} {N : List Int} (hp : V4 C) (hG : vR e C N) {t : Nat} : ∀ {f : Nat} {L : LkM} {D : List Nat}, WsI e C N t L D → FirstI e C t L D → C.length + 1 ≤ f + D.length → ∃ r, qO e C t f L D = .ok r ∧ WsI e C N t r.1 r.2
 | 0, L, D, _, h, hf => by have := h.dlen; omega
 | f + 1, L, D, hW, h, hf => by
  unfold qO
  cases hn : ju L D with
  | none => exact ⟨_, rfl, hW⟩
  | some k =>
   obtain ⟨h1, h2, h3⟩ := qp hn
   rw [h.len] at h1
   obtain ⟨L1, hg, hW1⟩ := QI hp hG hW h.len h1 h2 h3
   dsimp only
   rw [hg]
   exact Yz hp hG hW1 (ZQ hp h h1 h2 h3 hg).1 (by rw [List.length_cons]; omega)
theorem kV {e : Bool} {C : List InsM} {N0 : List Int} (hp : V4 C) (hG : vR e C N0) : ∀ {N : List Int} {t : Nat} {L : LkM} {D : List Nat}, N = N0.drop t → (∀ n ∈ N, 0 ≤ n ∧ n < C.length) → WsI e C N0 t L D → FirstI e C t L D → (∀ k, (L.getD k none).isSome = true → k ∈ D) → ∃ r, xU e C N t L D = .ok r
 | [], t, L, D, _, _, _, _, _ => ⟨_, rfl⟩
 | n :: ns, t, L, D, hN0, hN, hW, h, ha => by
  unfold xU
  have hn := hN n (.head _)
  have hget : N0[t]? = some n := by
   have : (N0.drop t)[0]? = some n := by rw [← hN0]; rfl
   simpa using this
  have hnl : n.toNat < L.length := by rw [h.len]; omega
  obtain ⟨L1, h1, hW1⟩ := Yy hG hW hnl (.entry hget)
  rw [h1]
  dsimp only
  obtain ⟨g1, _⟩ := wh hnl h1
  have hfu : C.length + 1 ≤ (C.length + 1 - D.length) + D.length := by have := h.dlen; omega
  obtain ⟨⟨L2, D2⟩, h2, hW2⟩ := Yz hp hG hW1 (h.hand g1) hfu
  rw [h2]
  obtain ⟨g3, _, g5⟩ := kf hp (h.hand g1) hfu h2
  refine kV hp hG (t := t + 1) ?_ (fun m hm => hN m (.tail _ hm)) ⟨fun k s hk => ?_⟩ (g3.up (by omega)) g5
  ·rw [← List.drop_drop, ← hN0]; rfl
  ·obtain ⟨t', q1, q2, _⟩ := hW2.hd k s hk
   exact ⟨t', by omega, q2, fun hn => absurd (g5 k (by rw [hk]; rfl)) hn⟩
theorem jU {e : Bool} {C : List InsM} {N : List Int} (hc : yK e C N = (0, 0)) (hG : vR e C N) : ∃ r, xV e C N = .ok r := by
 obtain ⟨_, hr, hN⟩ := z9 hc
 have hp : V4 C := fun k hk j hj => (ja hr hk j hj).1
 have hn : ∀ k s, (List.replicate C.length (none : Option StM)).getD k none ≠ some s := fun k s hk => by
  have := u5 C k
  rw [hk] at this; cases this
 exact kV hp hG (t := 0) rfl hN ⟨fun k s hk => absurd hk (hn k s)⟩ (FirstI.init e C) fun k hk => by rw [u5] at hk; cases hk
def zan (e : Bool) (C : List InsM) (T : Nat → Int) (L : LkM) (t : Int) (k : Nat) (s : StM) : Prop :=
 ∃ s0, L.getD k none = some s0 ∧ T k ≤ t ∧ (s0 = s ∨ (z5 e (zb C k) s t).2 = true ∧ (z5 e (zb C k) s0 t).1 = (z5 e (zb C k) s t).1)
def zao (L : LkM) (T T' : Nat → Int) : Prop := ∀ k, (L.getD k none).isSome = true → T' k = T k
theorem zan.ext {e : Bool} {C : List InsM} {T T' : Nat → Int} {L L' : LkM} {t : Int} {k : Nat} {s : StM} (h : zan e C T L t k s) (hx : Ext L L') (hT : zao L T T') : zan e C T' L' t k s := by
 obtain ⟨s0, h1, h2, h3⟩ := h
 exact ⟨s0, hx.2 k s0 h1, by rw [hT k (by rw [h1]; rfl)]; exact h2, h3⟩
structure LkI (e : Bool) (C : List InsM) (T : Nat → Int) (t : Int) (L : LkM) (D : List Nat) : Prop where
 le : ∀ k, (L.getD k none).isSome = true → T k ≤ t ∧ (k ∉ D → T k = t)
 ok : ∀ k ∈ D, (z5 e (zb C k) (jb L k) (T k)).2 = true ∧ (∀ j ∈ yz C k (zb C k), j < C.length) ∧ ∀ w j, (yz C k (zb C k))[w]? = some j → zan e C T L (T k) j.toNat (handT (zb C k) (z5 e (zb C k) (jb L k) (T k)).1 w)
 st : ∀ k ∈ D, (L.getD k none).isSome = true
theorem QJ {e : Bool} {C : List InsM} {T : Nat → Int} {t : Int} {L L1 : LkM} {D : List Nat} {k : Nat} {s : StM} (hI : LkI e C T t L D) (hk : k < L.length) (h : w7 e C L k s t = some L1) : ∃ T1, zao L T T1 ∧ LkI e C T1 t L1 D ∧ zan e C T1 L1 t k s := by
 obtain ⟨hx, _⟩ := wh hk h
 unfold w7 at h
 cases hL : L.getD k none with
 | none =>
  rw [hL] at h
  injection h with h
  have hT : zao L T (fun j => if j = k then t else T j) := fun j hj => by
   by_cases hjk : j = k
   ·rw [hjk, hL] at hj; cases hj
   ·simp [hjk]
  have hself : L1.getD k none = some s := by rw [← h]; simp [List.getD, hk]
  have hother : ∀ j, j ≠ k → L1.getD j none = L.getD j none := fun j hj => by
   rw [← h]
   simp only [List.getD, List.getElem?_set_ne (Ne.symm hj)]
  refine ⟨_, hT, ⟨fun j hj => ?_, fun j hj => ?_, fun j hj => hx.some (hI.st j hj)⟩, s, hself, by simp, .inl rfl⟩
  ·by_cases hjk : j = k
   ·simp [hjk]
   ·rw [hother j hjk] at hj
    simpa [hjk] using hI.le j hj
  ·have hs := hI.st j hj
   obtain ⟨g1, g2, g3⟩ := hI.ok j hj
   have e1 : jb L1 j = jb L j := hx.st hs
   have e2 := hT j hs
   dsimp only at e2 ⊢
   rw [e1, e2]
   exact ⟨g1, g2, fun w i hi => (g3 w i hi).ext hx hT⟩
 | some s0 =>
  rw [hL] at h
  dsimp only at h
  have hT : zao L T T := fun _ _ => rfl
  have hle := (hI.le k (by rw [hL]; rfl)).1
  split at h
  ·rename_i h0
   injection h with h
   subst h
   exact ⟨T, hT, hI, s0, hL, hle, .inl h0⟩
  ·split at h
   ·rename_i h1
    injection h with h
    subst h
    exact ⟨T, hT, hI, s0, hL, hle, .inr h1⟩
   ·cases h
theorem WH {e : Bool} {C : List InsM} {t : Int} {E : EfM} {x : InsM} {D : List Nat} : ∀ {ks : List Int} {w : Nat} {T : Nat → Int} {L L1 : LkM}, LkI e C T t L D → (∀ j ∈ ks, j.toNat < L.length) → uW e C t E (YR x) ks w L = .ok L1 →
  ∃ T1, zao L T T1 ∧ LkI e C T1 t L1 D ∧ ∀ i j, ks[i]? = some j → zan e C T1 L1 t j.toNat (handT x E (w + i))
 | [], w, T, L, L1, hI, _, h => by
  unfold uW at h
  injection h with h
  subst h
  exact ⟨T, fun _ _ => rfl, hI, fun i j hi => by simp at hi⟩
 | k :: ks, w, T, L, L1, hI, hlt, h => by
  unfold uW at h
  split at h
  ·cases h
  ·rename_i L2 h2
   obtain ⟨g1, g2⟩ := wh (hlt k (.head _)) h2
   obtain ⟨T2, q1, q2, q3⟩ := QJ hI (hlt k (.head _)) h2
   have hlt2 : ∀ j ∈ ks, j.toNat < L2.length := fun j hj => by rw [g1.1]; exact hlt j (.tail _ hj)
   obtain ⟨g3, _⟩ := u4 hlt2 h
   obtain ⟨T3, r1, r2, r3⟩ := WH q2 hlt2 h
   refine ⟨T3, fun j hj => (r1 j (g1.some hj)).trans (q1 j hj), r2, fun i j hi => ?_⟩
   cases i with
   | zero =>
    simp only [List.getElem?_cons_zero, Option.some.injEq] at hi
    subst hi
    exact q3.ext g3 r1
   | succ i =>
    have := r3 i j (by simpa using hi)
    rwa [show w + 1 + i = w + (i + 1) by omega] at this
theorem zbw {e : Bool} {C : List InsM} (hp : V4 C) {t : Int} {T : Nat → Int} {L L1 : LkM} {D : List Nat} {k : Nat} (hI : LkI e C T t L D) (hl : L.length = C.length) (hk : k < C.length) (hs : (L.getD k none).isSome = true) (hD : k ∉ D) (h : jt e C k L t = .ok L1) : ∃ T1, zao L T T1 ∧ LkI e C T1 t L1 (k :: D) := by
 unfold jt at h
 dsimp only at h
 split at h
 ·cases h
 ·rename_i hn
  simp only [not_or, Bool.not_eq_false, Bool.not_eq_true] at hn
  obtain ⟨h1, h2⟩ := hn
  have hlt : ∀ j ∈ yz C k (zb C k), j < C.length := fun j hj => by
   have := List.any_eq_false.1 h2 j hj
   simpa using this
  have hlt2 : ∀ j ∈ yz C k (zb C k), j.toNat < L.length := fun j hj => by have := hlt j hj; have := hp k hk j hj; omega
  obtain ⟨g1, _⟩ := u4 hlt2 h
  obtain ⟨T1, q1, q2, q3⟩ := WH hI hlt2 h
  have hTk : T1 k = t := by rw [q1 k hs]; exact (hI.le k hs).2 hD
  have hst : jb L1 k = jb L k := g1.st hs
  refine ⟨T1, q1, ⟨fun j hj => ⟨(q2.le j hj).1, fun hn => (q2.le j hj).2 fun hm => hn (.tail _ hm)⟩, fun j hj => ?_, fun j hj => ?_⟩⟩
  ·rcases List.mem_cons.1 hj with rfl | hj
   ·rw [hTk, hst]
    exact ⟨h1, hlt, fun w i hi => by have := q3 w i hi; rwa [Nat.zero_add] at this⟩
   ·exact q2.ok j hj
  ·rcases List.mem_cons.1 hj with rfl | hj
   ·exact g1.some hs
   ·exact q2.st j hj
theorem QK {e : Bool} {C : List InsM} (hp : V4 C) {t : Int} : ∀ {f : Nat} {T : Nat → Int} {L : LkM} {D : List Nat} {r : LkM × List Nat}, LkI e C T t L D → FirstI e C t L D → C.length + 1 ≤ f + D.length → qO e C t f L D = .ok r → ∃ T1, zao L T T1 ∧ LkI e C T1 t r.1 r.2
 | 0, T, L, D, r, _, h, hf, _ => by have := h.dlen; omega
 | f + 1, T, L, D, r, hI, h, hf, hl => by
  unfold qO at hl
  split at hl
  ·injection hl with hl
   subst hl
   exact ⟨T, fun _ _ => rfl, hI⟩
  ·rename_i k hn
   obtain ⟨h1, h2, h3⟩ := qp hn
   rw [h.len] at h1
   split at hl
   ·cases hl
   ·rename_i L1 hg
    obtain ⟨g1, g2⟩ := ZQ hp h h1 h2 h3 hg
    obtain ⟨T1, q1, q2⟩ := zbw hp hI h.len h1 h2 h3 hg
    obtain ⟨T2, r1, r2⟩ := QK hp q2 g1 (by rw [List.length_cons]; omega) hl
    exact ⟨T2, fun j hj => (r1 j (g2.some hj)).trans (q1 j hj), r2⟩
theorem YA {e : Bool} {C : List InsM} (hp : V4 C) : ∀ {N : List Int} {t : Int} {T : Nat → Int} {L : LkM} {D : List Nat} {r : LkM × List Nat}, (∀ n ∈ N, 0 ≤ n ∧ n < C.length) → LkI e C T t L D → FirstI e C t L D → (∀ k, (L.getD k none).isSome = true → k ∈ D) → xU e C N t L D = .ok r →
  ∃ T1, zao L T T1 ∧ (∃ t1, LkI e C T1 t1 r.1 r.2) ∧ (∀ k, (r.1.getD k none).isSome = true → k ∈ r.2) ∧ ∀ (i : Nat) (n : Int), N[i]? = some n → zan e C T1 r.1 (t + i) n.toNat (xh e)
 | [], t, T, L, D, r, _, hI, _, ha, hf => by
  unfold xU at hf
  injection hf with hf
  subst hf
  exact ⟨T, fun _ _ => rfl, ⟨t, hI⟩, ha, fun i n hi => by simp at hi⟩
 | n :: ns, t, T, L, D, r, hN, hI, h, ha, hf => by
  unfold xU at hf
  have hn := hN n (.head _)
  split at hf
  ·cases hf
  ·rename_i L1 h1
   have hnl : n.toNat < L.length := by rw [h.len]; omega
   obtain ⟨g1, g2⟩ := wh hnl h1
   obtain ⟨T1, q1, q2, q3⟩ := QJ hI hnl h1
   split at hf
   ·cases hf
   ·rename_i L2 D2 h2
    have hfu : C.length + 1 ≤ (C.length + 1 - D.length) + D.length := by have := h.dlen; omega
    obtain ⟨g3, g4, g5⟩ := kf hp (h.hand g1) hfu h2
    obtain ⟨T2, r1, r2⟩ := QK hp q2 (h.hand g1) hfu h2
    have hN' : ∀ m ∈ ns, 0 ≤ m ∧ m < C.length := fun m hm => hN m (.tail _ hm)
    have g3' := g3.up (by omega : t ≤ t + 1)
    have hI2 : LkI e C T2 (t + 1) L2 D2 := ⟨fun k hk => ⟨by have := (r2.le k hk).1; omega, fun hnk => absurd (g5 k hk) hnk⟩, r2.ok, r2.st⟩
    obtain ⟨L', D'⟩ := r
    obtain ⟨_, g7, _⟩ := jg hp hN' g3' g5 hf
    obtain ⟨T3, s1, s2, s3, s4⟩ := YA hp hN' hI2 g3' g5 hf
    refine ⟨T3, fun j hj => ((s1 j (g4.some (g1.some hj))).trans (r1 j (g1.some hj))).trans (q1 j hj), s2, s3, fun i m hi => ?_⟩
    cases i with
    | zero =>
     simp only [List.getElem?_cons_zero, Option.some.injEq] at hi
     subst hi
     have := (q3.ext g4 r1).ext g7 s1
     simpa using this
    | succ i =>
     have := s4 i m (by simpa using hi)
     rwa [show t + ((i + 1 : Nat) : Int) = t + 1 + i by omega]
theorem jV {e : Bool} {C : List InsM} {N : List Int} (hc : yK e C N = (0, 0)) {r : LkM × List Nat} (hf : xV e C N = .ok r) : vR e C N := by
 obtain ⟨_, hr, hN⟩ := z9 hc
 have hp : V4 C := fun k hk j hj => (ja hr hk j hj).1
 have hn : ∀ k, ¬ ((List.replicate C.length (none : Option StM)).getD k none).isSome = true := fun k hk => by rw [u5] at hk; cases hk
 obtain ⟨T, _, ⟨t1, hI⟩, hall, hent⟩ := YA (T := fun _ => 0) hp hN ⟨fun k hk => absurd hk (hn k), fun k hk => (by cases hk), fun k hk => (by cases hk)⟩ (FirstI.init e C) (fun k hk => absurd hk (hn k)) hf
 have acc : ∀ (t t' : Int) k s, t ≤ t' → zan e C T r.1 t k s → k ∈ r.2 ∧ T k ≤ t' ∧ (z5 e (zb C k) s t').2 = true ∧ (z5 e (zb C k) s t').1 = (z5 e (zb C k) (jb r.1 k) (T k)).1 := fun t t' k s htt ⟨s0, h1, h2, h3⟩ => by
  have hD := hall k (by rw [h1]; rfl)
  obtain ⟨g1, _, _⟩ := hI.ok k hD
  have hst : jb r.1 k = s0 := by unfold jb; rw [h1]; rfl
  rw [hst] at g1 ⊢
  refine ⟨hD, by omega, ?_⟩
  rcases h3 with rfl | ⟨h3, h4⟩
  ·have := vM g1 (show T k ≤ t' by omega)
   rw [this]; exact ⟨g1, rfl⟩
  ·have m1 := vM h3 htt
   have m2 := vM g1 h2
   rw [m1]
   exact ⟨h3, by rw [← h4, m2]⟩
 have key : ∀ t k s, Hd e C N t k s → k ∈ r.2 ∧ T k ≤ t ∧ (z5 e (zb C k) s t).2 = true ∧ (z5 e (zb C k) s t).1 = (z5 e (zb C k) (jb r.1 k) (T k)).1 := fun t k s h => by
  induction h with
  | entry hi =>
   have := hent _ _ hi
   rw [Int.zero_add] at this
   exact acc _ _ _ _ (Int.le_refl _) this
  | way _ hw ih =>
   obtain ⟨h1, h2, h3, h4⟩ := ih
   obtain ⟨_, _, g3⟩ := hI.ok _ h1
   rw [h4]
   exact acc _ _ _ _ h2 (g3 _ _ hw)
 intro t k s h
 obtain ⟨h1, h2, h3, h4⟩ := key t k s h
 refine ⟨h3, (hI.ok k h1).2.1, fun t' s' h' => ?_⟩
 obtain ⟨_, _, _, g4⟩ := key t' k s' h'
 rw [h4, g4]
end
end Go.Proofs.Ytfjajlcjifnceaa

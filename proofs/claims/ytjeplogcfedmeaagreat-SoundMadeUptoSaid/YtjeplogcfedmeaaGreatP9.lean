import Derived.Test.YtjeplogcfedmeaaGreatP8
set_option linter.all false
set_option maxRecDepth 100000
set_option maxHeartbeats 8000000
namespace Go.Proofs.YtjeplogcfedmeaaGreat
section
open Go.RowKit
def nL (L : List (Nat × Int × List Nat)) : List (Nat × Int × List Int) := L.map fun e => (e.1, e.2.1, yo e.2.2)
theorem zaS (k : Int) (L : List (Nat × Int × List Nat)) : mf k (nL L) = (mf k L).map yo := by
 induction L with
 | nil => rfl
 | cons e L ih =>
  obtain ⟨b, k', l⟩ := e
  rw [show nL ((b, k', l) :: L) = (b, k', yo l) :: nL L from rfl]
  simp only [mf]
  split
  ·rfl
  ·exact ih
theorem UE (c : Nat) (k : Int) (l : List Nat) (L : List (Nat × Int × List Nat)) : xX c k (yo l) (nL L) = nL (xX c k l L) := by
 induction L with
 | nil => rfl
 | cons e L ih =>
  obtain ⟨b, k', l'⟩ := e
  rw [show nL ((b, k', l') :: L) = (b, k', yo l') :: nL L from rfl]
  simp only [xX]
  split
  ·rfl
  ·rw [ih]; rfl
theorem UF (c : Nat) (k : Int) (L : List (Nat × Int × List Nat)) : vL c k (nL L) = vL c k L := by
 unfold vL
 rw [zaS]
 cases mf k L <;> rfl
theorem zaT (L : List (Nat × Int × List Nat)) : mI (fun l : List Int => .lst 1 (v8 l)) (nL L) = mL L := by
 simp [mI, nL, List.map_map, Function.comp, lsF]
theorem KK (L : List (Nat × Int × List Nat)) (k : Nat) : (mf (k : Int) (nL L)).getD [] = yo (atL L k) := by
 rw [zaS]
 unfold atL
 cases mf (k : Int) L <;> rfl
theorem wG (c : Nat) (k : Nat) (l : List Nat) (L : List (Nat × Int × List Nat)) (y : Nat) : atL (xX c (k : Int) l L) y = if y = k then l else atL L y := by
 unfold atL
 rw [YU]
 by_cases h : y = k
 ·subst h; simp
 ·rw [if_neg (by omega), if_neg h]
theorem Wv (M : List (Nat × Int × Unit)) : (∀ e ∈ mK M, e.2.2.lo = true) = True := eq_true fun e he => by
 obtain ⟨x, _, rfl⟩ := List.mem_map.1 he
 rfl
theorem zbh (L : List (Nat × Int × List Nat)) : (∀ e ∈ mL L, e.2.2.lo = true) = True := eq_true fun e he => by
 obtain ⟨x, _, rfl⟩ := List.mem_map.1 he
 rfl
structure RingsI (C : List InsM) (B : List Bool) (M : List (Nat × Int × Unit)) (q : List Nat) : Prop where
 iff : ∀ k, k ∈ q ↔ k ∈ yU M ∧ Rch (yT C (yp C B)) k k
 len : q.length ≤ 1048576
theorem Ke {C : List InsM} {N : List Int} (hok : CodeOK C N) {x : Nat} (hxC : x < C.length) : (zO C x (zg C x)).length ≤ 10000000 := by
 have hC := hok.len
 unfold zO
 split
 ·simp
 ·split
  ·simp
  ·split
   ·rename_i h8
    have := hok.arms x hxC h8
    simp
    omega
   ·split <;> simp
structure NoteI (C : List InsM) (B : List Bool) (V : List (Nat × Int × Unit)) (cur : Option (Nat × Nat)) (T : Nat) (L1 L2 : List (Nat × Int × List Nat)) : Prop where
 cnt : ∀ x y, (atL L1 x).count y = (atL L2 y).count x
 old : ∀ x ∈ yU V, ∀ y, y ∈ atL L1 x ↔ yT C (yp C B) x y
 new : ∀ x, x ∉ yU V → (∀ j, cur ≠ some (x, j)) → atL L1 x = []
 now : ∀ x j, cur = some (x, j) → ∀ y, y ∈ atL L1 x ↔ ∃ w, w < j ∧ (zO C x (zg C x))[w]? = some (y : Int) ∧ yp C B x w = true
 l1 : ∀ x, (atL L1 x).length ≤ T
 l2 : ∀ x, (atL L2 x).length ≤ T
theorem NoteI.add {C : List InsM} {B : List Bool} {V : List (Nat × Int × Unit)} {x j T c1 c2 m : Nat} {L1 L2 : List (Nat × Int × List Nat)} (h : NoteI C B V (some (x, j)) T L1 L2) (hx : x ∉ yU V) (hm : (zO C x (zg C x))[j]? = some (m : Int)) (hg : yp C B x j = true) :
  NoteI C B V (some (x, j + 1)) (T + 1) (xX c1 (x : Int) (atL L1 x ++ [m]) L1) (xX c2 (m : Int) (atL L2 m ++ [x]) L2) := by
 refine ⟨fun a b => ?_, fun a ha y => ?_, fun a ha hc => ?_, fun a i hi y => ?_, fun a => ?_, fun a => ?_⟩
 ·rw [wG, wG]
  have := h.cnt a b
  by_cases h1 : a = x <;> by_cases h2 : b = m
  ·subst h1; subst h2; simp [this]
  ·subst h1; simp [h2, this, Ne.symm h2]
  ·subst h2; simp [h1, this, Ne.symm h1]
  ·simp [h1, h2, this]
 ·rw [wG, if_neg (by rintro rfl; exact hx ha)]; exact h.old a ha y
 ·rw [wG, if_neg (by rintro rfl; exact hc _ rfl)]
  exact h.new a ha fun i hi => by injection hi with hi; injection hi with h1 h2; subst h1; exact hc _ rfl
 ·injection hi with hi
  injection hi with h1 h2
  subst h1
  subst h2
  rw [wG, if_pos rfl, List.mem_append, List.mem_singleton, h.now x j rfl]
  constructor
  ·rintro (⟨w, h1, h2⟩ | rfl)
   ·exact ⟨w, by omega, h2⟩
   ·exact ⟨j, by omega, hm, hg⟩
  ·rintro ⟨w, h1, h2, h3⟩
   by_cases hw : w = j
   ·subst hw; rw [hm] at h2; injection h2 with h2; exact .inr (by omega)
   ·exact .inl ⟨w, by omega, h2, h3⟩
 ·rw [wG]; have := h.l1 x; have := h.l1 a; split <;> simp <;> omega
 ·rw [wG]; have := h.l2 m; have := h.l2 a; split <;> simp <;> omega
theorem NoteI.skip {C : List InsM} {B : List Bool} {V : List (Nat × Int × Unit)} {x j T : Nat} {L1 L2 : List (Nat × Int × List Nat)} (h : NoteI C B V (some (x, j)) T L1 L2) (hg : yp C B x j = false) : NoteI C B V (some (x, j + 1)) (T + 1) L1 L2 := by
 refine ⟨h.cnt, h.old, fun a ha hc => h.new a ha fun i hi => by injection hi with hi; injection hi with h1 h2; subst h1; exact hc _ rfl, fun a i hi y => ?_, fun a => Nat.le_succ_of_le (h.l1 a), fun a => Nat.le_succ_of_le (h.l2 a)⟩
 injection hi with hi
 injection hi with h1 h2
 subst h1
 subst h2
 rw [h.now x j rfl]
 constructor
 ·rintro ⟨w, h1, h2⟩; exact ⟨w, by omega, h2⟩
 ·rintro ⟨w, h1, h2, h3⟩
  by_cases hw : w = j
  ·subst hw; rw [hg] at h3; cases h3
  ·exact ⟨w, by omega, h2, h3⟩
theorem NoteI.enter {C : List InsM} {B : List Bool} {V : List (Nat × Int × Unit)} {x T : Nat} {L1 L2 : List (Nat × Int × List Nat)} (h : NoteI C B V none T L1 L2) (hx : x ∉ yU V) : NoteI C B V (some (x, 0)) T L1 L2 :=
 ⟨h.cnt, h.old, fun a ha _ => h.new a ha fun _ h => (by cases h), fun a i hi y => by
  injection hi with hi
  injection hi with h1 h2
  subst h1
  subst h2
  rw [h.new x hx fun _ h => (by cases h)]
  exact ⟨fun h => (by cases h), fun ⟨w, hw, _⟩ => by omega⟩, h.l1, h.l2⟩
theorem NoteI.leave {C : List InsM} {B : List Bool} {V : List (Nat × Int × Unit)} {x j T : Nat} {L1 L2 : List (Nat × Int × List Nat)} {e : Nat × Int × Unit} (h : NoteI C B V (some (x, j)) T L1 L2) (hj : (zO C x (zg C x)).length ≤ j) (he : e.2.1 = (x : Int)) : NoteI C B (V ++ [e]) none T L1 L2 := by
 have hk : ∀ y, y ∈ yU (V ++ [e]) ↔ y ∈ yU V ∨ y = x := fun y => by simp [yU, he]
 refine ⟨h.cnt, fun a ha y => ?_, fun a ha _ => h.new a (fun h => ha ((hk a).2 (.inl h))) fun i hi => by injection hi with hi; injection hi with h1 h2; exact ha ((hk a).2 (.inr h1.symm)), fun _ _ h => (by cases h), h.l1, h.l2⟩
 by_cases hax : a = x
 ·subst hax
  rw [h.now a j rfl]
  exact ⟨fun ⟨w, _, h2, h3⟩ => ⟨w, h2, h3⟩, fun ⟨w, h2, h3⟩ => ⟨w, Nat.lt_of_lt_of_le (zG h2) hj, h2, h3⟩⟩
 ·exact h.old a (((hk a).1 ha).resolve_right hax) y
theorem JW (e : Bool) (C : List InsM) (N : List Int) (B : List Bool) (en : Int) (c : Nat) (M : List (Nat × Int × Unit)) (hok : CodeOK C N) (S : Nat → Prop) (hS : ClosedS C B S) (hM : MapOK c M) (hMS : ∀ k ∈ yU M, S k) (hcl : ∀ k ∈ yU M, ∀ j ∈ zO C k (zg C k), j.toNat ∈ yU M) :
  yx Tryz.prog 40 [.ptr 1 10000 0 0] (rtO e C N B en c M) (RingsI C B M) (fun q => .ref 3 1 88 0 q.length) (fun q => rtO e C N B en c M ++ [(88, .row 3 1 (v8 (yo q)))]) := by
 have hC := hok.len
 have hlen := hM.len
 have hre := fun (k : Nat) (hk : S k) => Uy e C N B en c M hok S hS [k] (by simp) (by simpa using hk) (by simp)
 unfold rtO rtV at *
 refine xq (zb _) Tryz.func40 rfl rfl (by rw [Tryz.results40]) Tryz.ntmps40 rfl fun E => ?_
 (repeat' (first | exact trivial | (with_reducible first | apply awA | apply awB | apply awF) | ((with_reducible first | refine awN (zb _) [4000013, 4000014] ?_ | refine awO (zb _) [4000013, 4000014] ?_); intro r hr; simp only [go_sem, Nat.reduceBEq, Nat.reduceLT, Nat.reduceLeDiff, Nat.reduceAdd, Nat.reduceMul, yn] at hr; subst hr; (first | refine awV ?_ ?_ | refine awW ?_ ?_)) | (refine wV (zb _) (u := 19) rfl rfl rfl ⟨by decide, by decide⟩ rfl rfl t78 rfl rfl (by decide) ?_))) <;> (try omega)
 refine VQ 13 3 (by decide) (by simp only [go_sem, Nat.reduceBEq]) ?_
 refine VQ 14 3 (by decide) (by simp only [go_sem, Nat.reduceBEq]) ?_
 refine zI [0, 3, 4, 19] [10000, 10002, 10003, 13, 14, 19] (fun q : List (Nat × Int × Unit) × Nat × List (Nat × Int × List Nat) × Nat × List (Nat × Int × List Nat) => ⟨[(0, true, .ptr 1 10000 0 0), (3, true, .map 13), (4, true, .map 14), (19, true, .ptr 1 19 0 0)],
  [(10000, .var [vB e, .lst 4 (zF C), .lst 1 (v8 N), .ref 4 1 10002 0 B.length, vI en, .map 10003]), (10002, .row 4 1 (xG B)), (10003, .mapr c (mK M)), (13, .mapl 3 q.2.1 (nL q.2.2.1) none), (14, .mapl 3 q.2.2.2.1 (nL q.2.2.2.2) none), (19, .iter 10003 true c (q.1.map (·.1)))]⟩)
  (fun q => (∀ e ∈ q.1, e ∈ M) ∧ (q.1.map (·.1)).Nodup ∧ NoteI C B q.1 none (q.1.length * 10000000) q.2.2.1 q.2.2.2.2) (fun q => M.length - q.1.length) ([], 0, [], 0, [])
  (by simp only [go_sem, Nat.reduceBEq] <;> exact rfl) ⟨fun e he => (by cases he), List.nodup_nil, ⟨fun _ _ => rfl, fun x hx => by simp [yU] at hx, fun _ _ _ => rfl, fun _ _ h => (by cases h), fun _ => Nat.zero_le _, fun _ => Nat.zero_le _⟩⟩ ?_
 intro ⟨V, c1, L1, c2, L2⟩ ⟨hV, hVn, hN⟩
 simp only at hV hVn hN ⊢
 have hVl : V.length ≤ M.length := by
  refine yw ?_ hV
  rw [List.Nodup, List.pairwise_map] at hVn
  exact hVn.imp fun h e => h (by rw [e])
 (repeat' (first | exact trivial | (with_reducible apply awA) | ((with_reducible apply awn); intro r hr; simp only [go_sem, Nat.reduceBEq] at hr; subst hr; (first | refine awW ?_ ?_)) | (refine uj (d := 10003) (u := 19) (L := M) (f := fun _ => AV.dead) rfl rfl ⟨by decide, by decide⟩ rfl rfl rfl rfl hM.lt rfl (fun h0 => xI ?_) (fun x hx hxn => xI ?_)))) <;> (try omega)
 ·refine ⟨?_⟩
  have hVK : ∀ k, k ∈ yU M → k ∈ yU V := fun k h => by
   obtain ⟨e, he, rfl⟩ := List.mem_map.1 h
   obtain ⟨e', he', h2⟩ := List.mem_map.1 (h0 e he)
   have : e' = e := yB hM.nd (hV e' he') he h2
   subst this
   exact List.mem_map.2 ⟨e', he', rfl⟩
  have hon : ∀ x ∈ yU M, ∀ y, y ∈ atL L1 x ↔ yT C (yp C B) x y := fun x hx => hN.old x (hVK x hx)
  have hcn := hN.cnt
  have hl1 : ∀ k, (atL L1 k).length ≤ 17000000000000 := fun k => by have := hN.l1 k; omega
  have hl2 : ∀ k, (atL L2 k).length ≤ 17000000000000 := fun k => by have := hN.l2 k; omega
  have hklt : ∀ k ∈ yU M, k < C.length := fun k hk => hS.lt k (hMS k hk)
  have hp1 := Xy c c1 c2 C.length M hM L1 L2 hC hklt hl1 hl2 hcn
  clear hN hV hVn hVl hVK h0
  (repeat' (first | exact trivial | (refine VR 13 (by decide) rfl (by simp only [go_sem, Nat.reduceLT]) (by simp only [go_sem, Nat.reduceBEq, Nat.reduceLT, Wv]) ?_) | (refine VR 14 (by decide) rfl (by simp only [go_sem, Nat.reduceLT]) (by simp only [go_sem, Nat.reduceBEq, Nat.reduceLT, Wv, zaT, zbh]) ?_) | (with_reducible first | apply awA | apply awE | apply awF | apply awH | apply awK) | ((with_reducible first | apply awn | apply awo | refine awQ ?_); intro r hr; simp only [go_sem, Nat.reduceBEq, Nat.reduceLT, Nat.reduceLeDiff, Nat.reduceAdd, Nat.reduceMul, zaT] at hr; subst hr; (first | refine awV ?_ ?_ | refine awW ?_ ?_ | (refine zh (fun h => ?_) (fun h => ?_) <;> (try simp only [go_sem, reduceCtorEq] at h) <;> (try (exfalso; omega))))) | (refine zz [(10003, 10003), (13, 10006), (14, 10007)] [(21, 63), (10003, 10003), (10006, 13), (10007, 14)] [63] [10003, 13, 14] ?_; intro r hr; simp only [go_sem, Nat.reduceBEq, Nat.reduceLT, z6, Xx] at hr; subst hr; refine yQ (hp1) rfl rfl (by first | exact .inl rfl | exact .inr rfl) ?_ (.inl rfl) (fun q hq => xI ?_)))) <;> (try omega)
  ·refine ⟨?_⟩
   obtain ⟨M1, rfl⟩ : ∃ z, z = q := ⟨_, rfl⟩
   have hq1 := hq
   clear hq
   have hM1 := hM.sub hq1.sub
   have hklt1 : ∀ k ∈ yU M1, k < C.length := fun k hk => hklt k ((hq1.sub.map _).mem hk)
   have hp2 := Xy c c2 c1 C.length M1 hM1 L2 L1 hC hklt1 hl2 hl1 fun x y => (hcn y x).symm
   (repeat' (first | exact trivial | (refine xi 9 3 1 88 (.inl (by decide)) rfl ?_) | (with_reducible first | apply awA | apply awF) | ((with_reducible first | apply awn | apply awo); intro r hr; simp only [go_sem, Nat.reduceBEq, Nat.reduceLT, yn, z6, uV, Xx, AState.nilrow] at hr; subst hr; (first | refine awV ?_ ?_ | refine awW ?_ ?_)) | (refine zz [(63, 10003), (14, 10006), (13, 10007)] [(21, 67), (10003, 63), (10006, 14), (10007, 13)] [67] [63, 14, 13] ?_; intro r hr; simp only [go_sem, Nat.reduceBEq, Nat.reduceLT, z6, Xx] at hr; subst hr; refine yQ (hp2) rfl rfl (by first | exact .inl rfl | exact .inr rfl) ?_ (.inl rfl) (fun q hq => xI ?_)))) <;> (try omega)
   refine ⟨?_⟩
   obtain ⟨M2, rfl⟩ : ∃ z, z = q := ⟨_, rfl⟩
   have hq2 := hq
   clear hq
   have hM2 := hM1.sub hq2.sub
   have hring : ∀ k, k ∈ yU M → Rch (yT C (yp C B)) k k → k ∈ yU M2 := fun k hk hr => by
    have hclR : ∀ x ∈ yU M, ∀ y, yT C (yp C B) x y → y ∈ yU M := fun x hx y ⟨w, h1, _⟩ => by
     have := hcl x hx _ (List.mem_of_getElem? h1)
     rwa [Int.toNat_natCast] at this
    have h1 := zar hon hclR hk
    have hK1 : ∀ y, Rch (yT C (yp C B)) k y → Rch (yT C (yp C B)) y k → y ∈ yU M1 := fun y h2 h3 => by
     obtain ⟨e, he, h4⟩ := List.mem_map.1 (hq1.cy _ h1 y ⟨h2, h3⟩)
     exact List.mem_map.2 ⟨e, he, by omega⟩
    have hsub : ∀ y ∈ yU M1, y ∈ yU M := fun y hy => (hq1.sub.map _).mem hy
    have h2 := Qy (R := yT C (yp C B)) (back := atL L2) (x := k) hK1 fun y hy z hz => by
     rw [← hon z (hsub z hz) y, ← List.count_pos_iff, ← List.count_pos_iff, hcn]
    obtain ⟨e, he, h4⟩ := List.mem_map.1 (hq2.cy _ h2 k ⟨hr, hr⟩)
    exact List.mem_map.2 ⟨e, he, by omega⟩
   have hsub2 : ∀ y ∈ yU M2, y ∈ yU M := fun y hy => ((hq2.sub.trans hq1.sub).map _).mem hy
   have hl2' : M2.length ≤ M.length := (hq2.sub.trans hq1.sub).length_le
   clear hp1 hp2 hq1 hq2 hon hcn hl1 hl2 hklt hklt1 hM1
   (repeat' (first | exact trivial | (with_reducible first | apply awB | apply awF) | ((with_reducible apply awo); intro r hr; simp only [go_sem, Nat.reduceBEq, Nat.reduceLT, yn, uw, z6, uV, Xx] at hr; subst hr; (first | refine awV ?_ ?_ | refine awW ?_ ?_)) | (refine wV (zb _) (u := 68) rfl rfl rfl ⟨by decide, by decide⟩ rfl rfl t78 rfl rfl (by decide) ?_))) <;> (try omega)
   refine zI [0, 9, 68] [10000, 10002, 10003, 67, 68, 88] (fun q : List (Nat × Int × Unit) × List Nat => ⟨[(0, true, .ptr 1 10000 0 0), (9, true, .ref 3 1 88 0 q.2.length), (68, true, .ptr 1 68 0 0)],
    [(10000, .var [vB e, .lst 4 (zF C), .lst 1 (v8 N), .ref 4 1 10002 0 B.length, vI en, .map 10003]), (10002, .row 4 1 (xG B)), (10003, .mapr c (mK M)), (67, .mapr c (mK M2)), (68, .iter 67 true c (q.1.map (·.1))), (88, .row 3 1 (v8 (yo q.2)))]⟩)
    (fun q => (∀ e ∈ q.1, e ∈ M2) ∧ (q.1.map (·.1)).Nodup ∧ (∀ k, k ∈ q.2 ↔ k ∈ yU q.1 ∧ Rch (yT C (yp C B)) k k) ∧ q.2.length ≤ q.1.length) (fun q => M2.length - q.1.length) ([], [])
    (by simp only [go_sem, Nat.reduceBEq] <;> exact rfl) ⟨fun e he => (by cases he), List.nodup_nil, fun k => by simp [yU], Nat.zero_le _⟩ ?_
   intro ⟨V, r⟩ ⟨hV, hVn, hr, hrl⟩
   simp only at hV hVn hr hrl ⊢
   have hVl : V.length ≤ M2.length := by
    refine yw ?_ hV
    rw [List.Nodup, List.pairwise_map] at hVn
    exact hVn.imp fun h e => h (by rw [e])
   (repeat' (first | exact trivial | (with_reducible apply awA) | ((with_reducible apply awn); intro r hr; simp only [go_sem, Nat.reduceBEq] at hr; subst hr; (first | refine awW ?_ ?_)) | (refine uj (d := 67) (u := 68) (L := M2) (f := fun _ => AV.dead) rfl rfl ⟨by decide, by decide⟩ rfl rfl rfl rfl hM2.lt rfl (fun h0 => xI ?_) (fun x hx hxn => xI ?_)))) <;> (try omega)
   ·refine ⟨?_⟩
    (repeat' (first | exact trivial | (with_reducible first | apply awA | apply awD | apply awE | apply awF | apply awH | apply awK) | ((with_reducible first | apply awn | apply awo | refine awQ ?_ | refine wM ?_); intro r hr; simp only [go_sem, Nat.reduceBEq, Nat.reduceLT] at hr; subst hr; (first | refine awV ?_ ?_ | refine y5 ?_ ?_ | (refine zh (fun h => ?_) (fun h => ?_) <;> (try simp only [go_sem, reduceCtorEq] at h) <;> (try (exfalso; omega))))))) <;> (try omega)
    ·refine ⟨r, ⟨fun k => ?_, by omega⟩, AV.up_rfl _, ?_⟩
     ·rw [hr]
      constructor
      ·rintro ⟨h1, h2⟩
       obtain ⟨e, he, rfl⟩ := List.mem_map.1 h1
       exact ⟨hsub2 _ (List.mem_map.2 ⟨e, hV e he, rfl⟩), h2⟩
      ·rintro ⟨h1, h2⟩
       refine ⟨?_, h2⟩
       obtain ⟨e, he, h3⟩ := List.mem_map.1 (hring k h1 h2)
       obtain ⟨e', he', h4⟩ := List.mem_map.1 (h0 e he)
       have : e' = e := yB hM2.nd (hV e' he') he h4
       subst this
       exact List.mem_map.2 ⟨e', he', h3⟩
     ·repeat first | exact zo | refine zn rfl ?_
   ·refine ⟨?_⟩
    obtain ⟨bx, kx, ux⟩ := x
    have hpos := hM2.pos _ hx
    obtain ⟨k, rfl⟩ : ∃ k : Nat, kx = k := ⟨kx.toNat, by simp only at hpos; omega⟩
    have hkM : k ∈ yU M := hsub2 k (List.mem_map.2 ⟨_, hx, by simp⟩)
    have hkV : k ∉ yU V := fun h => by
     obtain ⟨e', he', h2⟩ := List.mem_map.1 h
     have hp' := hM2.pos e' (hV e' he')
     have : e' = (bx, (k : Int), ux) := yB hM2.kd (hV e' he') hx (by show e'.2.1 = (k : Int); omega)
     subst this
     exact hxn (List.mem_map.2 ⟨_, he', rfl⟩)
    have hV2 : ∀ e ∈ V ++ [(bx, (k : Int), ux)], e ∈ M2 := fun e he => by
     rcases List.mem_append.1 he with h | h
     ·exact hV e h
     ·simp at h; subst h; exact hx
    have hVn2 : ((V ++ [(bx, (k : Int), ux)]).map (·.1)).Nodup := by
     rw [List.map_append, List.nodup_append]
     exact ⟨hVn, by simp, fun a ha b hb hab => by simp at hb; subst hb; subst hab; exact hxn ha⟩
    have hVl2 : (V ++ [(bx, (k : Int), ux)]).length ≤ M2.length := by
     refine yw ?_ hV2
     rw [List.Nodup, List.pairwise_map] at hVn2
     exact hVn2.imp fun h e => h (by rw [e])
    have hVs : (V ++ [(bx, (k : Int), ux)]).length = V.length + 1 := by simp
    have hkV2 : ∀ y, y ∈ yU (V ++ [(bx, (k : Int), ux)]) ↔ y ∈ yU V ∨ y = k := fun y => by simp [yU]
    have hVm : (V.map (·.1)) ++ [bx] = (V ++ [(bx, (k : Int), ux)]).map (·.1) := by simp
    have hrk := hre k (hMS k hkM)
    (repeat' (first | exact trivial | (with_reducible first | apply awA | apply awB | apply awC | apply awF) | ((with_reducible first | refine awN (zb _) [76] ?_ | refine awO (zb _) [76] ?_ | refine awQ ?_); intro r hr; simp only [go_sem, Nat.reduceBEq, Nat.reduceLT, Nat.reduceLeDiff, Nat.reduceAdd, Nat.reduceMul, yn] at hr; subst hr; (first | refine awV ?_ ?_ | refine awW ?_ ?_ | (refine zh (fun h => ?_) (fun h => ?_) <;> (try simp only [go_sem, reduceCtorEq] at h) <;> (try (exfalso; omega))))) | (refine xl (d := 67) (u := 68) (L := M2) (f := fun _ => AV.dead) (e := (bx, (k : Int), ux)) rfl rfl ⟨by decide, by decide⟩ rfl rfl rfl rfl hx hM2.nd ?_) | (refine zz [(10000, 10000), (10002, 10002), (10003, 10003), (76, 10004)] [(14, 79), (10000, 10000), (10002, 10002), (10003, 10003), (10004, 76)] [79] [10000, 10002, 10003, 76] ?_; intro r hr; simp only [go_sem, Nat.reduceBEq, Nat.reduceLT, z6] at hr; subst hr; refine yQ (hrk) rfl rfl (by first | exact .inl rfl | exact .inr rfl) ?_ (.inl rfl) (fun q hq => xI ?_)))) <;> (try omega)
    refine ⟨?_⟩
    have hqk : k ∈ q ↔ Rch (yT C (yp C B)) k k := by
     rw [hq.iff]
     exact ⟨fun ⟨a, ha, h⟩ => by simp at ha; subst ha; exact h, fun h => ⟨k, by simp, h⟩⟩
    by_cases hin : k ∈ q
    ·have hf := xw hin
     have ht : (v8 (yo r)).take r.length = v8 (yo r) := by rw [yR, List.take_of_length_le (by rw [zS]; omega)]
     have ha := xy r k
     have hl3 : (r ++ [k]).length = r.length + 1 := by simp
     (repeat' (first | exact trivial | (with_reducible first | apply awA | apply awF | apply awI) | ((with_reducible first | apply awn | apply awo | refine awQ ?_); intro r hr; simp only [go_sem, Nat.reduceBEq, Nat.reduceLT, Nat.reduceLeDiff, Nat.reduceAdd, Nat.reduceMul, Nat.reduceEqDiff, yn, uw, z6, zp, zS, ht, ha, hl3] at hr; subst hr; (first | refine awV ?_ ?_ | refine awW ?_ ?_ | (refine zh (fun h => ?_) (fun h => ?_) <;> (try simp only [go_sem, reduceCtorEq] at h) <;> (try (exfalso; omega))))) | (refine yc (zb _) (d := 79) (L := qL q) (f := fun _ => AV.dead) (key := (k : Int)) (z := .int .i64 0) rfl rfl ⟨by decide, by decide⟩ rfl rfl rfl rfl t78 rfl t3 rfl yd rfl rfl (by rw [hf]) ?_))) <;> (try omega)
     refine ⟨(V ++ [(bx, (k : Int), ux)], r ++ [k]), ?_, ⟨hV2, hVn2, fun y => ?_, by show (r ++ [k]).length ≤ (V ++ [(bx, (k : Int), ux)]).length; rw [hVs, hl3]; omega⟩, by show M2.length - (V ++ [(bx, (k : Int), ux)]).length < M2.length - V.length; omega⟩
     ·simp only [hVm, hl3, go_sem, Nat.reduceBEq]
      try exact rfl
     ·show y ∈ r ++ [k] ↔ y ∈ yU (V ++ [(bx, (k : Int), ux)]) ∧ _
      rw [List.mem_append, List.mem_singleton, hr, hkV2]
      constructor
      ·rintro (⟨h1, h2⟩ | rfl)
       ·exact ⟨.inl h1, h2⟩
       ·exact ⟨.inr rfl, hqk.1 hin⟩
      ·rintro ⟨h1 | h1, h2⟩
       ·exact .inl ⟨h1, h2⟩
       ·exact .inr h1
    ·have hf := xu hin
     (repeat' (first | exact trivial | (with_reducible first | apply awA | apply awC | apply awF | apply awI) | ((with_reducible first | apply awn | apply awo | refine awQ ?_); intro r hr; simp only [go_sem, Nat.reduceBEq, Nat.reduceLT, uw, z6] at hr; subst hr; (first | refine awV ?_ ?_ | refine awW ?_ ?_ | (refine zh (fun h => ?_) (fun h => ?_) <;> (try simp only [go_sem, reduceCtorEq] at h) <;> (try (exfalso; omega))))) | (refine yc (zb _) (d := 79) (L := qL q) (f := fun _ => AV.dead) (key := (k : Int)) (z := .int .i64 0) rfl rfl ⟨by decide, by decide⟩ rfl rfl rfl rfl t78 rfl t3 rfl yd rfl rfl (by rw [hf]) ?_))) <;> (try omega)
     refine ⟨(V ++ [(bx, (k : Int), ux)], r), ?_, ⟨hV2, hVn2, fun y => ?_, by show r.length ≤ (V ++ [(bx, (k : Int), ux)]).length; omega⟩, by show M2.length - (V ++ [(bx, (k : Int), ux)]).length < M2.length - V.length; omega⟩
     ·simp only [hVm, go_sem, Nat.reduceBEq]
      try exact rfl
     ·show y ∈ r ↔ y ∈ yU (V ++ [(bx, (k : Int), ux)]) ∧ _
      rw [hr, hkV2]
      exact ⟨fun h => ⟨.inl h.1, h.2⟩, fun h => ⟨h.1.resolve_right fun e => by subst e; exact hin (hqk.2 h.2), h.2⟩⟩
 ·refine ⟨?_⟩
  obtain ⟨bx, kx, ux⟩ := x
  have hpos := hM.pos _ hx
  obtain ⟨x, rfl⟩ : ∃ k : Nat, kx = k := ⟨kx.toNat, by simp only at hpos; omega⟩
  have hxM : x ∈ yU M := List.mem_map.2 ⟨_, hx, by simp⟩
  have hxV : x ∉ yU V := fun h => by
   obtain ⟨e', he', h2⟩ := List.mem_map.1 h
   have hp' := hM.pos e' (hV e' he')
   have : e' = (bx, (x : Int), ux) := yB hM.kd (hV e' he') hx (by show e'.2.1 = (x : Int); omega)
   subst this
   exact hxn (List.mem_map.2 ⟨_, he', rfl⟩)
  have hV2 : ∀ e ∈ V ++ [(bx, (x : Int), ux)], e ∈ M := fun e he => by
   rcases List.mem_append.1 he with h | h
   ·exact hV e h
   ·simp at h; subst h; exact hx
  have hVn2 : ((V ++ [(bx, (x : Int), ux)]).map (·.1)).Nodup := by
   rw [List.map_append, List.nodup_append]
   exact ⟨hVn, by simp, fun a ha b hb hab => by simp at hb; subst hb; subst hab; exact hxn ha⟩
  have hVl2 : (V ++ [(bx, (x : Int), ux)]).length ≤ M.length := by
   refine yw ?_ hV2
   rw [List.Nodup, List.pairwise_map] at hVn2
   exact hVn2.imp fun h e => h (by rw [e])
  have hVs : (V ++ [(bx, (x : Int), ux)]).length = V.length + 1 := by simp
  have hVm : (V.map (·.1)) ++ [bx] = (V ++ [(bx, (x : Int), ux)]).map (·.1) := by simp
  have hSx := hMS x hxM
  have hxC := hS.lt x hSx
  have hxw := hS.ways x hSx
  have hw := jR e C N (by omega) x hxC (hok.arms x hxC)
  have hwl := Ke hok hxC
  have hN0 := hN.enter hxV
  obtain ⟨T0, hT0⟩ : ∃ T0, T0 = V.length * 10000000 := ⟨_, rfl⟩
  rw [← hT0] at hN0
  generalize hks : zO C x (zg C x) = ks at hw hxw hwl
  unfold pG at hw
  clear hre
  (repeat' (first | exact trivial | (with_reducible first | apply awA | apply awB | apply awC | apply awF) | ((with_reducible first | apply awn | apply awo | refine awQ ?_); intro r hr; simp only [go_sem, Nat.reduceBEq, Nat.reduceLT, Nat.reduceLeDiff, Nat.reduceAdd, Nat.reduceMul, zp] at hr; subst hr; (first | refine caC (hw) rfl ?_ ?_ ?_ | refine awV ?_ ?_ | refine awW ?_ ?_ | (refine zh (fun h => ?_) (fun h => ?_) <;> (try simp only [go_sem, reduceCtorEq] at h) <;> (try (exfalso; omega))))) | (refine xl (d := 10003) (u := 19) (L := M) (f := fun _ => AV.dead) (e := (bx, (x : Int), ux)) rfl rfl ⟨by decide, by decide⟩ rfl rfl rfl rfl hx hM.nd ?_))) <;> (try omega)
  refine zI [0, 3, 4, 19, 5, 29, 30, 31] [10000, 10002, 10003, 13, 14, 19] (fun q : Nat × Nat × List (Nat × Int × List Nat) × Nat × List (Nat × Int × List Nat) => ⟨[(0, true, .ptr 1 10000 0 0), (3, true, .map 13), (4, true, .map 14), (19, true, .ptr 1 19 0 0), (5, true, vI x), (29, true, .lst 1 (v8 ks)), (30, true, vI ks.length), (31, true, vI q.1)],
   [(10000, .var [vB e, .lst 4 (zF C), .lst 1 (v8 N), .ref 4 1 10002 0 B.length, vI en, .map 10003]), (10002, .row 4 1 (xG B)), (10003, .mapr c (mK M)), (13, .mapl 3 q.2.1 (nL q.2.2.1) none), (14, .mapl 3 q.2.2.2.1 (nL q.2.2.2.2) none), (19, .iter 10003 true c (V.map (·.1) ++ [bx]))]⟩)
   (fun q => NoteI C B V (some (x, q.1)) (T0 + q.1) q.2.2.1 q.2.2.2.2 ∧ q.1 ≤ ks.length) (fun q => ks.length - q.1) (0, c1, L1, c2, L2)
   (by simp only [go_sem, Nat.reduceBEq] <;> exact rfl) ⟨hN0, Nat.zero_le _⟩ ?_
  clear hN0 hN c1 L1 c2 L2
  intro ⟨j, c1, L1, c2, L2⟩ ⟨hN, hj⟩
  simp only at hN hj ⊢
  have hwj := zy (n := (j : Int) + 1) (by omega)
  have zj : ((j : Int)).toNat = j := by omega
  by_cases hjl : j < ks.length
  ·have e2 : ((j : Int) < (ks.length : Int)) = True := eq_true (by omega)
   obtain ⟨m, hm⟩ : ∃ m : Nat, ks[j] = m := ⟨ks[j].toNat, by have := (hxw _ (List.getElem_mem hjl)).1; omega⟩
   have hkj : ks[j]? = some (m : Int) := by rw [List.getElem?_eq_getElem hjl, hm]
   have gj := xb hjl
   rw [hm] at gj
   have hb := KJ e C N B en c M x hxC j (hS.calls x hSx)
   rw [show (!wa C B x j) = yp C B x j from rfl] at hb
   unfold rtO rtV at hb
   cases hg : yp C B x j with
   | false =>
    rw [hg] at hb
    have hn := hN.skip hg
    (repeat' (first | exact trivial | (with_reducible first | apply awA | apply awB | apply awC | apply awF | apply awI) | ((with_reducible first | apply awn | apply awo | refine awQ ?_); intro r hr; simp only [go_sem, Nat.reduceBEq, Nat.reduceLT, Nat.reduceLeDiff, e2, zj, hwj, gj, zp, z6] at hr; subst hr; (first | refine awV ?_ ?_ | refine awW ?_ ?_ | (refine zh (fun h => ?_) (fun h => ?_) <;> (try simp only [go_sem, reduceCtorEq] at h) <;> (try (exfalso; omega))))) | (refine zz [(10000, 10000), (10002, 10002), (10003, 10003)] [(10000, 10000), (10002, 10002), (10003, 10003)] [] [10000, 10002, 10003] ?_; intro r hr; simp only [go_sem, Nat.reduceBEq, Nat.reduceLT, z6] at hr; subst hr; refine zR (hb) rfl rfl (by first | exact .inl rfl | exact .inr rfl) ?_ (.inl rfl) ?_))) <;> (try omega)
    refine ⟨(j + 1, c1, L1, c2, L2), ?_, ⟨hn, hjl⟩, by show ks.length - (j + 1) < ks.length - j; omega⟩
    simp only [go_sem, Nat.reduceBEq]
    try exact rfl
   | true =>
    rw [hg] at hb
    have hn := hN.add (c1 := c1) (c2 := c2) hxV (by rw [hks]; exact hkj) hg
    have hb1 := hN.l1 x
    have hb2 := hN.l2 m
    have hq1 := xy (atL L1 x) m
    have hq2 := xy (atL L2 m) x
    have ht1 : (v8 (yo (atL L1 x))).take (yo (atL L1 x)).length = v8 (yo (atL L1 x)) := by rw [yR, List.take_of_length_le (by omega)]
    have ht2 : (v8 (yo (atL L2 m))).take (yo (atL L2 m)).length = v8 (yo (atL L2 m)) := by rw [yR, List.take_of_length_le (by omega)]
    have hr1 : (yo (atL L1 x)).length + 1 = (yo (atL L1 x ++ [m])).length := by simp [yo]
    have hr2 : (yo (atL L2 m)).length + 1 = (yo (atL L2 m ++ [x])).length := by simp [yo]
    have hp1 : 0 < (yo (atL L1 x ++ [m])).length := by omega
    have hp2 : 0 < (yo (atL L2 m ++ [x])).length := by omega
    rw [zS] at ht1 ht2
    (repeat' (first | exact trivial | (with_reducible first | apply awA | apply awB | apply awC | apply awF | apply awI) | ((with_reducible first | apply awn | apply awo | refine awQ ?_); intro r hr; simp only [go_sem, Nat.reduceBEq, Nat.reduceLT, Nat.reduceLeDiff, Nat.reduceAdd, Nat.reduceMul, Nat.reduceEqDiff, e2, zj, hwj, gj, zp, zS, hq1, hq2, ht1, ht2, yn, z6] at hr; subst hr; (first | refine awV ?_ ?_ | refine awW ?_ ?_ | (refine zh (fun h => ?_) (fun h => ?_) <;> (try simp only [go_sem, reduceCtorEq] at h) <;> (try (exfalso; omega))))) | (refine zz [(10000, 10000), (10002, 10002), (10003, 10003)] [(10000, 10000), (10002, 10002), (10003, 10003)] [] [10000, 10002, 10003] ?_; intro r hr; simp only [go_sem, Nat.reduceBEq, Nat.reduceLT, z6] at hr; subst hr; refine zR (hb) rfl rfl (by first | exact .inl rfl | exact .inr rfl) ?_ (.inl rfl) ?_) | (refine Xi (zb _) (d := 13) (te := 3) (u := 44) (es := nL L1) (key := (x : Int)) (l := yo (atL L1 x)) rfl rfl rfl ⟨by decide, by decide⟩ rfl rfl rfl rfl J5 rfl t3 rfl uA rfl (by decide) (by decide) (by simp only [go_sem, Nat.reduceLT]) (by simp only [go_sem, Nat.reduceLT, Wv]) (KK _ _) rfl ?_) | (refine Xi (zb _) (d := 14) (te := 3) (u := 52) (es := nL L2) (key := (m : Int)) (l := yo (atL L2 m)) rfl rfl rfl ⟨by decide, by decide⟩ rfl rfl rfl rfl J5 rfl t3 rfl uA rfl (by decide) (by decide) (by simp only [go_sem, Nat.reduceLT]) (by simp only [go_sem, Nat.reduceLT, Wv]) (KK _ _) rfl ?_) | (refine Xj (zb _) (d := 13) (te := 3) (u := 44) (es := nL L1) (key := (x : Int)) (l := yo (atL L1 x ++ [m])) rfl rfl rfl rfl rfl rfl rfl rfl (by simp only [zS, List.length_append, List.length_singleton]; exact rfl) J5 rfl t3 rfl rfl rfl hp1 (by decide) (by decide) (by decide) (by simp only [go_sem, Nat.reduceLT]) (by simp only [go_sem, Nat.reduceLT, Wv]) rfl (UF _ _ _) (UE _ _ _ _) ?_) | (refine Xj (zb _) (d := 14) (te := 3) (u := 52) (es := nL L2) (key := (m : Int)) (l := yo (atL L2 m ++ [x])) rfl rfl rfl rfl rfl rfl rfl rfl (by simp only [zS, List.length_append, List.length_singleton]; exact rfl) J5 rfl t3 rfl rfl rfl hp2 (by decide) (by decide) (by decide) (by simp only [go_sem, Nat.reduceLT]) (by simp only [go_sem, Nat.reduceLT, Wv]) rfl (UF _ _ _) (UE _ _ _ _) ?_))) <;> (try omega)
    ·refine ⟨Nat.le_refl _, ?_⟩
     rw [List.length_append, List.length_singleton]
     omega
    ·refine ⟨Nat.le_refl _, ?_⟩
     rw [List.length_append, List.length_singleton]
     omega
    ·refine ⟨(j + 1, vL c1 (x : Int) L1, xX c1 (x : Int) (atL L1 x ++ [m]) L1, vL c2 (m : Int) L2, xX c2 (m : Int) (atL L2 m ++ [x]) L2), ?_, ⟨hn, hjl⟩, by show ks.length - (j + 1) < ks.length - j; omega⟩
     simp only [go_sem, Nat.reduceBEq]
     try exact rfl
  ·have e2 : ((j : Int) < (ks.length : Int)) = False := eq_false (by omega)
   have hn := hN.leave (e := (bx, (x : Int), ux)) (by rw [hks]; omega) rfl
   (repeat' (first | exact trivial | (with_reducible first | apply awA | apply awE | apply awF | apply awH | apply awI | apply awK) | ((with_reducible first | apply awn | refine awQ ?_); intro r hr; simp only [go_sem, Nat.reduceBEq, Nat.reduceLT, e2] at hr; subst hr; (first | refine awV ?_ ?_ | (refine zh (fun h => ?_) (fun h => ?_) <;> (try simp only [go_sem, reduceCtorEq] at h) <;> (try (exfalso; omega))))))) <;> (try omega)
   refine ⟨(V ++ [(bx, (x : Int), ux)], c1, L1, c2, L2), ?_, ⟨hV2, hVn2, ?_⟩, by show M.length - (V ++ [(bx, (x : Int), ux)]).length < M.length - V.length; omega⟩
   ·simp only [hVm, go_sem, Nat.reduceBEq]
    try exact rfl
   ·show NoteI C B (V ++ [(bx, (x : Int), ux)]) none ((V ++ [(bx, (x : Int), ux)]).length * 10000000) L1 L2
    rw [hVs]
    exact ⟨hn.cnt, hn.old, hn.new, hn.now, fun a => by have := hn.l1 a; rw [hT0] at this; omega, fun a => by have := hn.l2 a; rw [hT0] at this; omega⟩
end
section
open Go.RowKit
noncomputable def prB (p : Prop) : Bool := @decide p (Classical.propDecidable p)
theorem uB {p : Prop} (h : p) : prB p = true := by unfold prB; exact @decide_eq_true p (Classical.propDecidable p) h
theorem kb {p : Prop} (h : ¬ p) : prB p = false := by unfold prB; exact @decide_eq_false p (Classical.propDecidable p) h
theorem UG {p : Prop} : prB p = true ↔ p :=
   ⟨fun h => Classical.byContradiction fun hn => (by rw [kb hn] at h; cases h), uB⟩
def jb (R : Nat → Nat → Prop) (en k : Nat) : Prop := k = en ∨ Rch R en k
noncomputable def Yd (C : List InsM) (B : List Bool) (en : Nat) : Bool := prB (∀ k, jb (yT C (xU C B)) en k → (zg C k).op ≠ 20)
theorem ZY (Q : List Nat) : (qL Q).map (·.1) = List.range Q.length := by
 apply List.ext_getElem?
 intro i
 simp [qL]
 rcases Nat.lt_or_ge i Q.length with h | h
 ·simp [h]
 ·simp [Nat.not_lt.2 h]
theorem UH (Q : List Nat) : yU (qL Q) = Q := by
 have : yU (qL Q) = (yo Q).map Int.toNat := by rw [← q8]; simp [yU]
 rw [this, yo, List.map_map]
 conv => rhs; rw [← List.map_id Q]
 exact List.map_congr_left fun k _ => by simp
theorem Xz {Q : List Nat} {n : Nat} (hn : Q.Nodup) (hlt : ∀ k ∈ Q, k < n) (hb : n ≤ 1048576) : MapOK Q.length (qL Q) := by
 refine ⟨?_, fun e he => ?_, ?_, fun e he => ?_, ?_⟩
 ·rw [ZY]; exact List.nodup_range
 ·have : e.1 ∈ (qL Q).map (·.1) := List.mem_map.2 ⟨e, he, rfl⟩
  rw [ZY, List.mem_range] at this
  exact this
 ·rw [q8, yo, List.Nodup, List.pairwise_map]
  exact List.Pairwise.imp (fun h => by omega) hn
 ·have : e.2.1 ∈ (qL Q).map (·.2.1) := List.mem_map.2 ⟨e, he, rfl⟩
  rw [q8] at this
  obtain ⟨k, _, hk⟩ := List.mem_map.1 this
  omega
 ·have := yV hn hlt
  simp [qL]; omega
theorem ZZ {c : Nat} {k : Int} : ∀ {L : List (Nat × Int × Unit)}, mf k L = some () → xX c k () L = L
 | [], h => by cases h
 | (b, k', a) :: L, h => by
  unfold mf at h
  unfold xX
  by_cases hk : k' = k
  ·rw [if_pos hk]; subst hk; rfl
  ·rw [if_neg hk] at h ⊢; rw [ZZ h]
def uW (Q : List Nat) (en : Nat) : List Nat := if en ∈ Q then Q else Q ++ [en]
theorem Z1 (Q : List Nat) (en : Nat) : xX Q.length (en : Int) () (qL Q) = qL (uW Q en) := by
 unfold uW
 by_cases h : en ∈ Q
 ·rw [if_pos h]; exact ZZ (xw h)
 ·rw [if_neg h]; exact Uv h
theorem Z2 (Q : List Nat) (en : Nat) : vL Q.length (en : Int) (qL Q) = (uW Q en).length := by
 unfold uW
 by_cases h : en ∈ Q
 ·rw [if_pos h]; simp [vL, xw h]
 ·rw [if_neg h]; exact Uw h
theorem UI (Q : List Nat) (en k : Nat) : k ∈ uW Q en ↔ k ∈ Q ∨ k = en := by
 unfold uW
 by_cases h : en ∈ Q
 ·rw [if_pos h]; exact ⟨.inl, fun g => g.elim id fun e => by rw [e]; exact h⟩
 ·rw [if_neg h]; simp
theorem XA {Q : List Nat} (h : Q.Nodup) (en : Nat) : (uW Q en).Nodup := by
 unfold uW
 by_cases hm : en ∈ Q
 ·rw [if_pos hm]; exact h
 ·rw [if_neg hm, List.nodup_append]
  exact ⟨h, by simp, fun a ha b hb hab => by simp at hb; subst hb; subst hab; exact hm ha⟩
theorem XB {C : List InsM} {g : Nat → Int → Bool} {en : Nat} {Q : List Nat} (h : ReachI C g [en] Q) (k : Nat) : k ∈ uW Q en ↔ jb (yT C g) en k := by
 rw [UI, h.iff, jb]
 constructor
 ·rintro (⟨a, ha, hr⟩ | h)
  ·simp at ha; subst ha; exact .inr hr
  ·exact .inl h
 ·rintro (h | h)
  ·exact .inr h
  ·exact .inl ⟨en, by simp, h⟩
theorem Z3 {C : List InsM} {B : List Bool} {S : Nat → Prop} (hS : ClosedS C B S) {g : Nat → Int → Bool} {en k : Nat} (he : S en) (h : jb (yT C g) en k) : S k := by
 rcases h with rfl | h
 ·exact he
 ·induction h with
  | one h1 =>
   obtain ⟨w, h2, _⟩ := h1
   have := (hS.ways _ he _ (List.mem_of_getElem? h2)).2
   rwa [Int.toNat_natCast] at this
  | more _ h1 ih =>
   obtain ⟨w, h2, _⟩ := h1
   have := (hS.ways _ ih _ (List.mem_of_getElem? h2)).2
   rwa [Int.toNat_natCast] at this
theorem zbi (e : Bool) (C : List InsM) (N : List Int) (B : List Bool) (en : Nat) (c : Nat) (M : List (Nat × Int × Unit)) (hok : CodeOK C N) (S : Nat → Prop) (hS : ClosedS C B S) (hen : S en) :
  yb Tryz.prog 43 [.ptr 1 10000 0 0] (rtO e C N B en c M) (vB (Yd C B en)) (rtO e C N B en c M) := by
 have hC := hok.len
 have hr := zaQ e C N B en c M hok S hS [en] (by simp) (by simpa using hen) (by simp)
 unfold rtO rtV at *
 refine zJ (zb _) Tryz.func43 rfl rfl (by rw [Tryz.results43]) Tryz.ntmps43 rfl fun E => ?_
 (repeat' (first | exact trivial | (with_reducible first | apply awA | apply awF) | (refine zA (id := 1) (t := (.node [0, 1, 2, 3, 4, 6, 5, 7, 8] [])) (drR [] [5, 6, 9] [12]) zH (by kernel_rfl) (by kernel_rfl) (fun _ _ h => h) ?_) | (refine zB (by simp only [go_sem]; exact rfl) ?_) | (refine zD (by simp only [go_sem]; exact rfl) ?_) | refine zl ?_ | refine zq ?_ ?_ | exact zC | ((with_reducible first | refine awN (zb _) [10] ?_ | refine awP (zb _) [10] ?_); intro r hr; simp only [go_sem, Nat.reduceBEq, Nat.reduceLT, Nat.reduceLeDiff, Nat.reduceAdd, Nat.reduceMul, reduceCtorEq, yn] at hr; subst hr; (first | refine awV ?_ ?_ | refine awW ?_ ?_)) | (refine zz [(1, 10005), (10000, 10000), (10002, 10002), (10003, 10003), (10, 10004)] [(14, 12), (10005, 1), (10000, 10000), (10002, 10002), (10003, 10003), (10004, 10)] [12] [1, 10000, 10002, 10003, 10] ?_; intro r hr; simp only [go_sem, Nat.reduceBEq, Nat.reduceLT, z6] at hr; subst hr; refine yQ (hr) rfl rfl (by first | exact .inl rfl | exact .inr rfl) ?_ (.inl rfl) (fun q hq => xI ?_)))) <;> (try omega)
 refine ⟨?_⟩
 have hset := Z1 q en
 have hclk := Z2 q en
 have hmem := XB hq
 have hM := Xz (XA hq.nd en) (fun k hk => hS.lt k (Z3 hS hen ((hmem k).1 hk))) hC
 have hkN := UH (uW q en)
 generalize hQ1 : uW q en = Q1 at *
 (repeat' (first | exact trivial | (with_reducible first | apply awA | apply awB | apply awF) | ((with_reducible first | apply awn | apply awo | apply awp); intro r hr; simp only [go_sem, Nat.reduceBEq, Nat.reduceLT, Nat.reduceLeDiff, Nat.reduceAdd, Nat.reduceMul, reduceCtorEq, yn, z6] at hr; subst hr; (first | refine awV ?_ ?_ | refine awW ?_ ?_)) | (refine uP (zb _) (d := 12) (L := qL q) (f := fun _ => AV.dead) (key := (en : Int)) () rfl rfl rfl rfl rfl rfl rfl rfl (.inr rfl) t78 rfl t3 rfl rfl hclk hset ?_) | (refine wV (zb _) (u := 19) rfl rfl rfl ⟨by decide, by decide⟩ rfl rfl t78 rfl rfl (by decide) ?_))) <;> (try omega)
 refine zI [1, 19] [1, 10000, 10002, 10003, 12, 19] (fun V : List (Nat × Int × Unit) => ⟨[(1, true, .ptr 1 1 0 0), (19, true, .ptr 1 19 0 0)],
  [(1, .var [.ptr 1 10000 0 0]), (10000, .var [vB e, .lst 4 (zF C), .lst 1 (v8 N), .ref 4 1 10002 0 B.length, vI en, .map 10003]), (10002, .row 4 1 (xG B)), (10003, .mapr c (mK M)), (12, .mapr Q1.length (mK (qL Q1))), (19, .iter 12 true Q1.length (V.map (·.1)))]⟩)
  (fun V => (∀ e ∈ V, e ∈ qL Q1) ∧ (V.map (·.1)).Nodup ∧ ∀ k ∈ yU V, (zg C k).op ≠ 20) (fun V => Q1.length - V.length) []
  (by simp only [go_sem, Nat.reduceBEq] <;> exact rfl) ⟨fun e he => (by cases he), List.nodup_nil, fun k hk => by simp [yU] at hk⟩ ?_
 intro V ⟨hV, hVn, hVo⟩
 (repeat' (first | exact trivial | (with_reducible apply awA) | ((with_reducible apply awn); intro r hr; simp only [go_sem, Nat.reduceBEq] at hr; subst hr; (first | refine awW ?_ ?_)) | (refine uj (d := 12) (u := 19) (L := qL Q1) (f := fun _ => AV.dead) rfl rfl ⟨by decide, by decide⟩ rfl rfl rfl rfl hM.lt rfl (fun h0 => xI ?_) (fun x hx hxn => xI ?_)))) <;> (try omega)
 ·refine ⟨?_⟩
  have hp : Yd C B en = true := uB fun k hk => by
   have h1 := (hmem k).2 hk
   rw [← hkN] at h1
   obtain ⟨e, he, rfl⟩ := List.mem_map.1 h1
   obtain ⟨e', he', h2⟩ := List.mem_map.1 (h0 e he)
   have : e' = e := yB hM.nd (hV e' he') he h2
   subst this
   exact hVo _ (List.mem_map.2 ⟨e', he', rfl⟩)
  rw [hp]
  (repeat' (first | exact trivial | (with_reducible first | apply awA | apply awD | apply awE | apply awF | apply awH | apply awK) | ((with_reducible first | apply awn | apply awo | refine awQ ?_ | refine awT ?_); intro r hr; simp only [go_sem, Nat.reduceBEq, Nat.reduceLT] at hr; subst hr; (first | refine awV ?_ ?_ | refine zP ?_ ?_ ?_ | (refine zh (fun h => ?_) (fun h => ?_) <;> (try simp only [go_sem, reduceCtorEq] at h) <;> (try (exfalso; omega))))))) <;> (try omega)
  all_goals first | exact AV.up_rfl _ | (repeat first | exact zo | refine zn rfl ?_)
 ·refine ⟨?_⟩
  obtain ⟨bx, kx, ux⟩ := x
  have hpos := hM.pos _ hx
  obtain ⟨k, rfl⟩ : ∃ k : Nat, kx = k := ⟨kx.toNat, by simp only at hpos; omega⟩
  have hkQ : k ∈ Q1 := by rw [← hkN]; exact List.mem_map.2 ⟨_, hx, by simp⟩
  have hkC := hS.lt k (Z3 hS hen ((hmem k).1 hkQ))
  have zk : ((k : Int)).toNat = k := by omega
  have gk := yC hkC
  by_cases h20 : (zg C k).op = 20
  ·have hp : Yd C B en = false := kb fun h => h k ((hmem k).1 hkQ) h20
   rw [hp]
   have e20 : ((zg C k).op = 20) = True := eq_true h20
   (repeat' (first | exact trivial | (with_reducible first | apply awA | apply awB | apply awC | apply awD | apply awF | apply awG | apply awJ) | ((with_reducible first | apply awn | apply awo | refine awQ ?_ | refine awT ?_); intro r hr; simp only [go_sem, Nat.reduceBEq, Nat.reduceLT, Nat.reduceLeDiff, Nat.reduceAdd, Nat.reduceMul, zk, gk, zd, e20] at hr; subst hr; (first | refine awV ?_ ?_ | refine awW ?_ ?_ | refine zP ?_ ?_ ?_ | (refine zh (fun h => ?_) (fun h => ?_) <;> (try simp only [go_sem, reduceCtorEq] at h) <;> (try (exfalso; omega))))) | (refine xl (d := 12) (u := 19) (L := qL Q1) (f := fun _ => AV.dead) (e := (bx, (k : Int), ux)) rfl rfl ⟨by decide, by decide⟩ rfl rfl rfl rfl hx hM.nd ?_))) <;> (try omega)
   all_goals first | exact AV.up_rfl _ | (repeat first | exact zo | refine zn rfl ?_)
  ·have e20 : ((zg C k).op = 20) = False := eq_false h20
   have hV2 : ∀ e ∈ V ++ [(bx, (k : Int), ux)], e ∈ qL Q1 := fun e he => by
    rcases List.mem_append.1 he with h | h
    ·exact hV e h
    ·simp at h; subst h; exact hx
   have hVn2 : ((V ++ [(bx, (k : Int), ux)]).map (·.1)).Nodup := by
    rw [List.map_append, List.nodup_append]
    exact ⟨hVn, by simp, fun a ha b hb hab => by simp at hb; subst hb; subst hab; exact hxn ha⟩
   have hVl2 : (V ++ [(bx, (k : Int), ux)]).length ≤ Q1.length := by
    have : (qL Q1).length = Q1.length := by simp [qL]
    rw [← this]
    refine yw ?_ hV2
    rw [List.Nodup, List.pairwise_map] at hVn2
    exact hVn2.imp fun h e => h (by rw [e])
   have hVs : (V ++ [(bx, (k : Int), ux)]).length = V.length + 1 := by simp
   have hVm : (V.map (·.1)) ++ [bx] = (V ++ [(bx, (k : Int), ux)]).map (·.1) := by simp
   (repeat' (first | exact trivial | (with_reducible first | apply awA | apply awB | apply awC | apply awF | apply awI) | ((with_reducible first | apply awn | apply awo | refine awQ ?_); intro r hr; simp only [go_sem, Nat.reduceBEq, Nat.reduceLT, Nat.reduceLeDiff, Nat.reduceAdd, Nat.reduceMul, zk, gk, zd, e20] at hr; subst hr; (first | refine awV ?_ ?_ | refine awW ?_ ?_ | (refine zh (fun h => ?_) (fun h => ?_) <;> (try simp only [go_sem, reduceCtorEq] at h) <;> (try (exfalso; omega))))) | (refine xl (d := 12) (u := 19) (L := qL Q1) (f := fun _ => AV.dead) (e := (bx, (k : Int), ux)) rfl rfl ⟨by decide, by decide⟩ rfl rfl rfl rfl hx hM.nd ?_))) <;> (try omega)
   refine ⟨V ++ [(bx, (k : Int), ux)], ?_, ⟨hV2, hVn2, fun y hy => ?_⟩, by show Q1.length - (V ++ [(bx, (k : Int), ux)]).length < Q1.length - V.length; omega⟩
   ·simp only [hVm, go_sem, Nat.reduceBEq]
    try exact rfl
   ·have : y ∈ yU V ∨ y = k := by simpa [yU] using hy
    rcases this with h | rfl
    ·exact hVo y h
    ·exact h20
end
section
open Go.RowKit
def XC (Q1 Q2 : List Nat) (en k : Nat) : Bool := !decide (k ∈ Q1) && !decide (k ∈ Q2) && !decide ((k : Int) = (en : Int))
def unO (e : Bool) (C : List InsM) (N : List Int) (B : List Bool) (en : Nat) (c : Nat) (M : List (Nat × Int × Unit)) (Q1 Q2 : List Nat) : List (Nat × AObj) := [(10006, .var [.map 10008]), (10007, .var [.map 10009]), (10005, .var [.ptr 1 10000 0 0]), (10000, .var [vB e, .lst 4 (zF C), .lst 1 (v8 N), .ref 4 1 10002 0 B.length, vI en, .map 10003]), (10002, .row 4 1 (xG B)), (10003, .mapr c (mK M)), (10008, .mapr Q1.length (mK (qL Q1))), (10009, .mapr Q2.length (mK (qL Q2)))]
theorem zaU (e : Bool) (C : List InsM) (N : List Int) (B : List Bool) (en : Nat) (c : Nat) (M : List (Nat × Int × Unit)) (Q1 Q2 : List Nat) (k : Nat) : yb Tryz.prog 67 [vI k, .ptr 1 10006 0 0, .ptr 1 10007 0 0, .ptr 1 10005 0 0] (unO e C N B en c M Q1 Q2) (vB (XC Q1 Q2 en k)) (unO e C N B en c M Q1 Q2) := by
 unfold unO XC
 by_cases h1 : k ∈ Q1
 ·have f1 := xw h1
  rw [decide_eq_true h1]
  simp only [Bool.not_true, Bool.false_and]
  by_cases h2 : k ∈ Q2
  ·have f2 := xw h2
   refine zJ (zb _) Tryz.func67 rfl rfl (by rw [Tryz.results67]) Tryz.ntmps67 rfl fun E => ?_
   (repeat' (first | exact trivial | (with_reducible first | apply awA | apply awD | apply awF) | ((with_reducible first | apply awn | apply awo | refine awT ?_); intro r hr; simp only [go_sem, Nat.reduceBEq, Nat.reduceLT, Nat.reduceLeDiff, Nat.reduceAdd, Nat.reduceMul, reduceCtorEq] at hr; subst hr; (first | refine awV ?_ ?_ | refine awW ?_ ?_ | refine zP ?_ ?_ ?_)) | (refine yc (zb _) (d := 10008) (L := qL Q1) (f := fun _ => AV.dead) (key := (k : Int)) (z := .int .i64 0) rfl rfl ⟨by decide, by decide⟩ rfl rfl rfl rfl t78 rfl t3 rfl yd rfl rfl (by rw [f1]) ?_) | (refine yc (zb _) (d := 10009) (L := qL Q2) (f := fun _ => AV.dead) (key := (k : Int)) (z := .int .i64 0) rfl rfl ⟨by decide, by decide⟩ rfl rfl rfl rfl t78 rfl t3 rfl yd rfl rfl (by rw [f2]) ?_))) <;> (try omega)
   all_goals first | exact AV.up_rfl _ | (repeat first | exact zo | refine zn rfl ?_)
  ·have f2 := xu h2
   refine zJ (zb _) Tryz.func67 rfl rfl (by rw [Tryz.results67]) Tryz.ntmps67 rfl fun E => ?_
   (repeat' (first | exact trivial | (with_reducible first | apply awA | apply awD | apply awF) | ((with_reducible first | apply awn | apply awo | refine awT ?_); intro r hr; simp only [go_sem, Nat.reduceBEq, Nat.reduceLT, Nat.reduceLeDiff, Nat.reduceAdd, Nat.reduceMul, reduceCtorEq] at hr; subst hr; (first | refine awV ?_ ?_ | refine awW ?_ ?_ | refine zP ?_ ?_ ?_)) | (refine yc (zb _) (d := 10008) (L := qL Q1) (f := fun _ => AV.dead) (key := (k : Int)) (z := .int .i64 0) rfl rfl ⟨by decide, by decide⟩ rfl rfl rfl rfl t78 rfl t3 rfl yd rfl rfl (by rw [f1]) ?_) | (refine yc (zb _) (d := 10009) (L := qL Q2) (f := fun _ => AV.dead) (key := (k : Int)) (z := .int .i64 0) rfl rfl ⟨by decide, by decide⟩ rfl rfl rfl rfl t78 rfl t3 rfl yd rfl rfl (by rw [f2]) ?_))) <;> (try omega)
   all_goals first | exact AV.up_rfl _ | (repeat first | exact zo | refine zn rfl ?_)
 ·have f1 := xu h1
  rw [decide_eq_false h1]
  by_cases h2 : k ∈ Q2
  ·have f2 := xw h2
   rw [decide_eq_true h2]
   simp only [Bool.not_false, Bool.not_true, Bool.true_and, Bool.false_and]
   refine zJ (zb _) Tryz.func67 rfl rfl (by rw [Tryz.results67]) Tryz.ntmps67 rfl fun E => ?_
   (repeat' (first | exact trivial | (with_reducible first | apply awA | apply awD | apply awF) | ((with_reducible first | apply awn | apply awo | refine awT ?_); intro r hr; simp only [go_sem, Nat.reduceBEq, Nat.reduceLT, Nat.reduceLeDiff, Nat.reduceAdd, Nat.reduceMul, reduceCtorEq] at hr; subst hr; (first | refine awV ?_ ?_ | refine awW ?_ ?_ | refine zP ?_ ?_ ?_)) | (refine yc (zb _) (d := 10008) (L := qL Q1) (f := fun _ => AV.dead) (key := (k : Int)) (z := .int .i64 0) rfl rfl ⟨by decide, by decide⟩ rfl rfl rfl rfl t78 rfl t3 rfl yd rfl rfl (by rw [f1]) ?_) | (refine yc (zb _) (d := 10009) (L := qL Q2) (f := fun _ => AV.dead) (key := (k : Int)) (z := .int .i64 0) rfl rfl ⟨by decide, by decide⟩ rfl rfl rfl rfl t78 rfl t3 rfl yd rfl rfl (by rw [f2]) ?_))) <;> (try omega)
   all_goals first | exact AV.up_rfl _ | (repeat first | exact zo | refine zn rfl ?_)
  ·have f2 := xu h2
   rw [decide_eq_false h2]
   simp only [Bool.not_false, Bool.true_and]
   by_cases h3 : (k : Int) = (en : Int)
   ·have e3 : ((k : Int) = (en : Int)) = True := eq_true h3
    simp only [e3, decide_true, Bool.not_true]
    refine zJ (zb _) Tryz.func67 rfl rfl (by rw [Tryz.results67]) Tryz.ntmps67 rfl fun E => ?_
    (repeat' (first | exact trivial | (with_reducible first | apply awA | apply awD | apply awF) | ((with_reducible first | apply awn | apply awo | refine awT ?_); intro r hr; simp only [go_sem, Nat.reduceBEq, Nat.reduceLT, Nat.reduceLeDiff, Nat.reduceAdd, Nat.reduceMul, reduceCtorEq, e3] at hr; subst hr; (first | refine awV ?_ ?_ | refine awW ?_ ?_ | refine zP ?_ ?_ ?_)) | (refine yc (zb _) (d := 10008) (L := qL Q1) (f := fun _ => AV.dead) (key := (k : Int)) (z := .int .i64 0) rfl rfl ⟨by decide, by decide⟩ rfl rfl rfl rfl t78 rfl t3 rfl yd rfl rfl (by rw [f1]) ?_) | (refine yc (zb _) (d := 10009) (L := qL Q2) (f := fun _ => AV.dead) (key := (k : Int)) (z := .int .i64 0) rfl rfl ⟨by decide, by decide⟩ rfl rfl rfl rfl t78 rfl t3 rfl yd rfl rfl (by rw [f2]) ?_))) <;> (try omega)
    all_goals first | exact AV.up_rfl _ | (repeat first | exact zo | refine zn rfl ?_)
   ·have e3 : ((k : Int) = (en : Int)) = False := eq_false h3
    simp only [e3, decide_false, Bool.not_false]
    refine zJ (zb _) Tryz.func67 rfl rfl (by rw [Tryz.results67]) Tryz.ntmps67 rfl fun E => ?_
    (repeat' (first | exact trivial | (with_reducible first | apply awA | apply awD | apply awF) | ((with_reducible first | apply awn | apply awo | refine awT ?_); intro r hr; simp only [go_sem, Nat.reduceBEq, Nat.reduceLT, Nat.reduceLeDiff, Nat.reduceAdd, Nat.reduceMul, reduceCtorEq, e3] at hr; subst hr; (first | refine awV ?_ ?_ | refine awW ?_ ?_ | refine zP ?_ ?_ ?_)) | (refine yc (zb _) (d := 10008) (L := qL Q1) (f := fun _ => AV.dead) (key := (k : Int)) (z := .int .i64 0) rfl rfl ⟨by decide, by decide⟩ rfl rfl rfl rfl t78 rfl t3 rfl yd rfl rfl (by rw [f1]) ?_) | (refine yc (zb _) (d := 10009) (L := qL Q2) (f := fun _ => AV.dead) (key := (k : Int)) (z := .int .i64 0) rfl rfl ⟨by decide, by decide⟩ rfl rfl rfl rfl t78 rfl t3 rfl yd rfl rfl (by rw [f2]) ?_))) <;> (try omega)
    all_goals first | exact AV.up_rfl _ | (repeat first | exact zo | refine zn rfl ?_)
def zbx (p : Nat → Bool) (l : List Nat) (r : Int) : Prop := (r = -1 ∧ ∀ k ∈ l, p k = false) ∨ ∃ (i k : Nat), r = i ∧ l[i]? = some k ∧ p k = true ∧ ∀ j ∈ l.take i, p j = false
theorem Kf (e : Bool) (C : List InsM) (N : List Int) (B : List Bool) (en : Nat) (c : Nat) (M : List (Nat × Int × Unit)) (Q1 Q2 : List Nat) (l : List Nat) (hl : l.length ≤ 1000000000) :
  yx Tryz.prog 81 [.ref 3 1 10010 0 l.length, (.fn 67 [.ptr 1 10006 0 0, .ptr 1 10007 0 0, .ptr 1 10005 0 0])] (unO e C N B en c M Q1 Q2 ++ [(10010, .row 3 1 (v8 (yo l)))]) (zbx (XC Q1 Q2 en) l) (fun r => vI r) (fun _ => unO e C N B en c M Q1 Q2 ++ [(10010, .row 3 1 (v8 (yo l)))]) := by
 have hu := fun k => zaU e C N B en c M Q1 Q2 k
 unfold unO at *
 refine xq (zb _) Tryz.func81 rfl rfl (by rw [Tryz.results81]) Tryz.ntmps81 rfl fun E => ?_
 (repeat' (first | exact trivial | (with_reducible first | apply awA | apply awB | apply awF) | ((with_reducible apply awn); intro r hr; simp only [go_sem, Nat.reduceBEq, Nat.reduceLT] at hr; subst hr; (first | refine awV ?_ ?_)))) <;> (try omega)
 refine zI [0, 1, 6, 7, 8] [10006, 10007, 10005, 10000, 10002, 10003, 10008, 10009, 10010] (fun i : Nat => ⟨[(0, true, .ref 3 1 10010 0 l.length), (1, true, (.fn 67 [.ptr 1 10006 0 0, .ptr 1 10007 0 0, .ptr 1 10005 0 0])), (6, true, .ref 3 1 10010 0 l.length), (7, true, vI l.length), (8, true, vI i)],
  [(10006, .var [.map 10008]), (10007, .var [.map 10009]), (10005, .var [.ptr 1 10000 0 0]), (10000, .var [vB e, .lst 4 (zF C), .lst 1 (v8 N), .ref 4 1 10002 0 B.length, vI en, .map 10003]), (10002, .row 4 1 (xG B)), (10003, .mapr c (mK M)), (10008, .mapr Q1.length (mK (qL Q1))), (10009, .mapr Q2.length (mK (qL Q2))), (10010, .row 3 1 (v8 (yo l)))]⟩) (fun i => i ≤ l.length ∧ ∀ j ∈ l.take i, XC Q1 Q2 en j = false) (fun i => l.length - i) 0 (by simp only [go_sem, Nat.reduceBEq] <;> exact rfl) ⟨Nat.zero_le _, fun j hj => by simp at hj⟩ ?_
 intro i ⟨hi, hall⟩
 have hwi := zy (n := (i : Int) + 1) (by omega)
 have zi : ((i : Int)).toNat = i := by omega
 by_cases hlt : i < l.length
 ·have e1 : ((i : Int) < (l.length : Int)) = True := eq_true (by omega)
  obtain ⟨k, hk⟩ : ∃ k, l[i]? = some k := ⟨_, List.getElem?_eq_getElem hlt⟩
  have gi := yO hk
  have hb := hu k
  cases hc : XC Q1 Q2 en k with
  | true =>
   rw [hc] at hb
   (repeat' (first | exact trivial | (with_reducible first | apply awA | apply awB | apply awC | apply awD | apply awF | apply awG | apply awJ) | ((with_reducible first | apply awn | apply awo | refine awQ ?_ | refine wM ?_); intro r hr; simp only [go_sem, Nat.reduceBEq, Nat.reduceLT, Nat.reduceLeDiff, e1, zi, gi, Nat.zero_add, z6] at hr; subst hr; (first | refine awV ?_ ?_ | refine awW ?_ ?_ | refine y5 ?_ ?_ | (refine zh (fun h => ?_) (fun h => ?_) <;> (try simp only [go_sem, reduceCtorEq] at h) <;> (try (exfalso; omega))))) | (refine yr (zb _) [(10006, 10006), (10007, 10007), (10005, 10005), (10000, 10000), (10002, 10002), (10003, 10003), (10008, 10008), (10009, 10009)] [(10006, 10006), (10007, 10007), (10005, 10005), (10000, 10000), (10002, 10002), (10003, 10003), (10008, 10008), (10009, 10009)] [] [10006, 10007, 10005, 10000, 10002, 10003, 10008, 10009] (by simp only [go_sem, Nat.reduceBEq, Nat.reduceLT, Nat.reduceSub] <;> exact rfl) ?_ rfl rfl (by first | exact .inl rfl | exact .inr rfl) (by simp only [go_sem, Nat.reduceBEq, z6] <;> exact rfl) (hb) (.inl rfl) ?_))) <;> (try omega)
   all_goals refine ⟨(i : Int), .inr ⟨i, k, rfl, hk, hc, hall⟩, AV.up_rfl _, ?_⟩
   all_goals repeat first | exact zo | refine zn rfl ?_
  | false =>
   rw [hc] at hb
   (repeat' (first | exact trivial | (with_reducible first | apply awA | apply awB | apply awC | apply awF | apply awI) | ((with_reducible first | apply awn | apply awo | refine awQ ?_); intro r hr; simp only [go_sem, Nat.reduceBEq, Nat.reduceLT, Nat.reduceLeDiff, e1, zi, hwi, gi, Nat.zero_add, z6] at hr; subst hr; (first | refine awV ?_ ?_ | refine awW ?_ ?_ | (refine zh (fun h => ?_) (fun h => ?_) <;> (try simp only [go_sem, reduceCtorEq] at h) <;> (try (exfalso; omega))))) | (refine yr (zb _) [(10006, 10006), (10007, 10007), (10005, 10005), (10000, 10000), (10002, 10002), (10003, 10003), (10008, 10008), (10009, 10009)] [(10006, 10006), (10007, 10007), (10005, 10005), (10000, 10000), (10002, 10002), (10003, 10003), (10008, 10008), (10009, 10009)] [] [10006, 10007, 10005, 10000, 10002, 10003, 10008, 10009] (by simp only [go_sem, Nat.reduceBEq, Nat.reduceLT, Nat.reduceSub] <;> exact rfl) ?_ rfl rfl (by first | exact .inl rfl | exact .inr rfl) (by simp only [go_sem, Nat.reduceBEq, z6] <;> exact rfl) (hb) (.inl rfl) ?_))) <;> (try omega)
   refine ⟨i + 1, ?_, ⟨hlt, fun j hj => ?_⟩, by omega⟩
   ·simp only [go_sem, Nat.reduceBEq]
    try exact rfl
   ·rw [List.take_succ_eq_append_getElem hlt] at hj
    rw [List.getElem?_eq_getElem hlt] at hk
    injection hk with hk
    rcases List.mem_append.1 hj with hj | hj
    ·exact hall j hj
    ·simp at hj; rw [hj, hk]; exact hc
 ·have e1 : ((i : Int) < (l.length : Int)) = False := eq_false (by omega)
  (repeat' (first | exact trivial | (with_reducible first | apply awA | apply awD | apply awE | apply awF | apply awH | apply awK) | ((with_reducible first | apply awn | refine awQ ?_ | refine wM ?_); intro r hr; simp only [go_sem, Nat.reduceBEq, Nat.reduceLT, e1] at hr; subst hr; (first | refine awV ?_ ?_ | refine y5 ?_ ?_ | (refine zh (fun h => ?_) (fun h => ?_) <;> (try simp only [go_sem, reduceCtorEq] at h) <;> (try (exfalso; omega))))))) <;> (try omega)
  all_goals refine ⟨-1, .inl ⟨rfl, fun k hk => hall k (by rw [List.take_of_length_le (by omega)]; exact hk)⟩, AV.up_rfl _, ?_⟩
  all_goals repeat first | exact zo | refine zn rfl ?_
theorem Kg (l : List Nat) (i k : Nat) : (v8 (yo l)).set i [vI k] = v8 (yo (l.set i k)) := by simp [v8, yo, List.map_set]
theorem UJ (l : List Nat) (i : Nat) : (v8 (yo l)).take i = v8 (yo (l.take i)) := by simp [v8, yo, List.map_take]
theorem Kh (e : Bool) (C : List InsM) (N : List Int) (B : List Bool) (en : Nat) (c : Nat) (M : List (Nat × Int × Unit)) (Q1 Q2 : List Nat) (l : List Nat) (hl : l.length ≤ 1000000000) :
  yb Tryz.prog 66 [.ref 3 1 10010 0 l.length, (.fn 67 [.ptr 1 10006 0 0, .ptr 1 10007 0 0, .ptr 1 10005 0 0])] (unO e C N B en c M Q1 Q2 ++ [(10010, .row 3 1 (v8 (yo l)))]) (.ref 3 1 10010 0 (l.filter fun k => !(XC Q1 Q2 en k)).length) (unO e C N B en c M Q1 Q2 ++ [(10010, .row 3 1 (v8 (yo (l.filter fun k => !(XC Q1 Q2 en k)))))]) := by
 have hu := fun k => zaU e C N B en c M Q1 Q2 k
 have hx := Kf e C N B en c M Q1 Q2 l hl
 unfold unO at *
 refine zJ (zb _) Tryz.func66 rfl rfl (by rw [Tryz.results66]) Tryz.ntmps66 rfl fun E => ?_
 (repeat' (first | exact trivial | (with_reducible first | apply awA | apply awF) | ((with_reducible apply awn); intro r hr; simp only [go_sem, Nat.reduceBEq, Nat.reduceLT, zp, zS] at hr; subst hr; (first | refine awV ?_ ?_ | refine awW ?_ ?_)) | (refine zz [(10006, 10006), (10007, 10007), (10005, 10005), (10000, 10000), (10002, 10002), (10003, 10003), (10008, 10008), (10009, 10009), (10010, 10010)] [(10006, 10006), (10007, 10007), (10005, 10005), (10000, 10000), (10002, 10002), (10003, 10003), (10008, 10008), (10009, 10009), (10010, 10010)] [] [10006, 10007, 10005, 10000, 10002, 10003, 10008, 10009, 10010] ?_; intro r hr; simp only [go_sem, Nat.reduceBEq, Nat.reduceLT, z6] at hr; subst hr; refine yQ (hx) rfl rfl (by first | exact .inl rfl | exact .inr rfl) ?_ (.inl rfl) (fun q hq => xI ?_)))) <;> (try omega)
 refine ⟨?_⟩
 rcases hq with ⟨rfl, hall⟩ | ⟨i0, k0, rfl, hk0, hp0, hall⟩
 ·have hf : (l.filter fun k => !(XC Q1 Q2 en k)) = l := List.filter_eq_self.2 fun k hk => by rw [hall k hk]; rfl
  rw [hf]
  (repeat' (first | exact trivial | (with_reducible first | apply awA | apply awD | apply awF | apply awG) | ((with_reducible first | apply awn | apply awo | refine awQ ?_ | refine awT ?_); intro r hr; simp only [go_sem, Nat.reduceBEq, Nat.reduceLT, z6] at hr; subst hr; (first | refine awV ?_ ?_ | refine zP ?_ ?_ ?_ | (refine zh (fun h => ?_) (fun h => ?_) <;> (try simp only [go_sem, reduceCtorEq] at h) <;> (try (exfalso; omega))))))) <;> (try omega)
  all_goals first | exact AV.up_rfl _ | (repeat first | exact zo | refine zn rfl ?_)
 ·have hi0 := zG hk0
  have en1 : ((i0 : Int) = -1) = False := eq_false (by omega)
  have hw0 := zy (n := (i0 : Int) + 1) (by omega)
  (repeat' (first | exact trivial | (with_reducible first | apply awA | apply awB | apply awC | apply awF) | ((with_reducible first | apply awn | apply awo | refine awQ ?_); intro r hr; simp only [go_sem, Nat.reduceBEq, Nat.reduceLT, z6, en1, hw0] at hr; subst hr; (first | refine awV ?_ ?_ | (refine zh (fun h => ?_) (fun h => ?_) <;> (try simp only [go_sem, reduceCtorEq] at h) <;> (try (exfalso; omega))))))) <;> (try omega)
  refine zI [0, 1, 5, 6] [10006, 10007, 10005, 10000, 10002, 10003, 10008, 10009, 10010] (fun q : Nat × Nat × List Nat => ⟨[(0, true, .ref 3 1 10010 0 l.length), (1, true, (.fn 67 [.ptr 1 10006 0 0, .ptr 1 10007 0 0, .ptr 1 10005 0 0])), (5, true, vI q.1), (6, true, vI q.2.1)],
   [(10006, .var [.map 10008]), (10007, .var [.map 10009]), (10005, .var [.ptr 1 10000 0 0]), (10000, .var [vB e, .lst 4 (zF C), .lst 1 (v8 N), .ref 4 1 10002 0 B.length, vI en, .map 10003]), (10002, .row 4 1 (xG B)), (10003, .mapr c (mK M)), (10008, .mapr Q1.length (mK (qL Q1))), (10009, .mapr Q2.length (mK (qL Q2))), (10010, .row 3 1 (v8 (yo q.2.2)))]⟩) (fun q => q.1 < q.2.1 ∧ q.2.1 ≤ l.length ∧ q.2.2.length = l.length ∧ q.2.2.take q.1 = (l.take q.2.1).filter (fun k => !(XC Q1 Q2 en k)) ∧ ∀ j, q.2.1 ≤ j → q.2.2[j]? = l[j]?) (fun q => l.length - q.2.1) (i0, i0 + 1, l)
   (by simp only [Int.natCast_add, Int.cast_ofNat_Int, go_sem, Nat.reduceBEq] <;> exact rfl) ⟨Nat.lt_succ_self _, hi0, rfl, by
    show l.take i0 = (l.take (i0 + 1)).filter _
    rw [List.take_succ_eq_append_getElem hi0, List.filter_append]
    rw [List.getElem?_eq_getElem hi0] at hk0
    injection hk0 with hk0
    rw [hk0, List.filter_cons_of_neg (by simp [hp0]), List.filter_nil, List.append_nil]
    exact (List.filter_eq_self.2 fun k hk => by rw [hall k hk]; rfl).symm, fun _ _ => rfl⟩ ?_
  clear hk0 hp0 hall en1 hw0 hi0 i0 k0
  intro ⟨i, j, L⟩ ⟨hij, hjl, hL, htk, hdr⟩
  simp only at hij hjl hL htk hdr ⊢
  have hwi := zy (n := (i : Int) + 1) (by omega)
  have hwj := zy (n := (j : Int) + 1) (by omega)
  have zi : ((i : Int)).toNat = i := by omega
  have zj : ((j : Int)).toNat = j := by omega
  by_cases hlt : j < l.length
  ·have e1 : ((j : Int) < (l.length : Int)) = True := eq_true (by omega)
   obtain ⟨k, hk⟩ : ∃ k, l[j]? = some k := ⟨_, List.getElem?_eq_getElem hlt⟩
   have hkL : L[j]? = some k := by rw [hdr j (Nat.le_refl _)]; exact hk
   have gj := yO hkL
   have hb := hu k
   have htk2 : l.take (j + 1) = l.take j ++ [k] := by
    rw [List.take_succ_eq_append_getElem hlt]
    rw [List.getElem?_eq_getElem hlt] at hk
    injection hk with hk
    rw [hk]
   cases hc : XC Q1 Q2 en k with
   | true =>
    rw [hc] at hb
    (repeat' (first | exact trivial | (with_reducible first | apply awA | apply awB | apply awC | apply awF | apply awI) | ((with_reducible first | apply awn | apply awo | refine awQ ?_); intro r hr; simp only [go_sem, Nat.reduceBEq, Nat.reduceLT, Nat.reduceLeDiff, e1, zj, hwj, gj, Nat.zero_add, z6] at hr; subst hr; (first | refine awV ?_ ?_ | refine awW ?_ ?_ | (refine zh (fun h => ?_) (fun h => ?_) <;> (try simp only [go_sem, reduceCtorEq] at h) <;> (try (exfalso; omega))))) | (refine yr (zb _) [(10006, 10006), (10007, 10007), (10005, 10005), (10000, 10000), (10002, 10002), (10003, 10003), (10008, 10008), (10009, 10009)] [(10006, 10006), (10007, 10007), (10005, 10005), (10000, 10000), (10002, 10002), (10003, 10003), (10008, 10008), (10009, 10009)] [] [10006, 10007, 10005, 10000, 10002, 10003, 10008, 10009] (by simp only [go_sem, Nat.reduceBEq, Nat.reduceLT, Nat.reduceSub] <;> exact rfl) ?_ rfl rfl (by first | exact .inl rfl | exact .inr rfl) (by simp only [go_sem, Nat.reduceBEq, z6] <;> exact rfl) (hb) (.inl rfl) ?_))) <;> (try omega)
    refine ⟨(i, j + 1, L), ?_, ⟨by show i < j + 1; omega, hlt, hL, by show L.take i = (l.take (j + 1)).filter _; rw [htk2, List.filter_append, List.filter_cons_of_neg (by simp [hc]), List.filter_nil, List.append_nil]; exact htk, fun m hm => hdr m (by simp only at hm; omega)⟩, by show l.length - (j + 1) < l.length - j; omega⟩
    simp only [go_sem, Nat.reduceBEq]
    try exact rfl
   | false =>
    rw [hc] at hb
    have hset := Kg L i k
    obtain ⟨k', hk'⟩ : ∃ k', L[i]? = some k' := ⟨_, List.getElem?_eq_getElem (by omega)⟩
    have gi := yO hk'
    (repeat' (first | exact trivial | (with_reducible first | apply awA | apply awB | apply awC | apply awF | apply awI) | ((with_reducible first | apply awn | apply awo | refine awQ ?_); intro r hr; simp only [go_sem, Nat.reduceBEq, Nat.reduceLT, Nat.reduceLeDiff, e1, zj, hwj, zi, hwi, gj, gi, zp, zS, hL, hset, Nat.zero_add, z6] at hr; subst hr; (first | refine awV ?_ ?_ | refine awW ?_ ?_ | (refine zh (fun h => ?_) (fun h => ?_) <;> (try simp only [go_sem, reduceCtorEq] at h) <;> (try (exfalso; omega))))) | (refine yr (zb _) [(10006, 10006), (10007, 10007), (10005, 10005), (10000, 10000), (10002, 10002), (10003, 10003), (10008, 10008), (10009, 10009)] [(10006, 10006), (10007, 10007), (10005, 10005), (10000, 10000), (10002, 10002), (10003, 10003), (10008, 10008), (10009, 10009)] [] [10006, 10007, 10005, 10000, 10002, 10003, 10008, 10009] (by simp only [go_sem, Nat.reduceBEq, Nat.reduceLT, Nat.reduceSub] <;> exact rfl) ?_ rfl rfl (by first | exact .inl rfl | exact .inr rfl) (by simp only [go_sem, Nat.reduceBEq, z6] <;> exact rfl) (hb) (.inl rfl) ?_))) <;> (try omega)
    refine ⟨(i + 1, j + 1, L.set i k), ?_, ⟨by show i + 1 < j + 1; omega, hlt, by show (L.set i k).length = l.length; rw [List.length_set]; exact hL, ?_, fun m hm => ?_⟩, by show l.length - (j + 1) < l.length - j; omega⟩
    ·simp only [go_sem, Nat.reduceBEq]
     try exact rfl
    ·show (L.set i k).take (i + 1) = (l.take (j + 1)).filter _
     have hiL : i < (L.set i k).length := by rw [List.length_set]; omega
     rw [htk2, List.filter_append, List.filter_cons_of_pos (by simp [hc]), List.filter_nil, ← htk, List.take_succ_eq_append_getElem hiL, List.getElem_set_self, List.take_set_of_le (Nat.le_refl _)]
    ·simp only at hm
     show (L.set i k)[m]? = l[m]?
     rw [List.getElem?_set_ne (by omega)]
     exact hdr m (by omega)
  ·have e1 : ((j : Int) < (l.length : Int)) = False := eq_false (by omega)
   have hjj : l.take j = l := List.take_of_length_le (by omega)
   rw [hjj] at htk
   have hil : i ≤ L.length := by omega
   have ht : (v8 (yo L)).take i = v8 (yo (L.take i)) := UJ L i
   rw [htk] at ht
   have hfl : (l.filter fun k => !(XC Q1 Q2 en k)).length = i := by rw [← htk, List.length_take]; omega
   rw [hfl]
   generalize (l.filter fun k => !(XC Q1 Q2 en k)) = R at *
   (repeat' (first | exact trivial | (with_reducible first | apply awA | apply awD | apply awE | apply awF | apply awH | apply awK) | ((with_reducible first | apply awn | apply awo | refine awQ ?_ | refine awT ?_); intro r hr; simp only [go_sem, Nat.reduceBEq, Nat.reduceLT, e1, zi, ht, Nat.zero_add, Nat.sub_zero, Int.toNat_zero] at hr; subst hr; (first | refine awV ?_ ?_ | refine awW ?_ ?_ | refine zP ?_ ?_ ?_ | (refine zh (fun h => ?_) (fun h => ?_) <;> (try simp only [go_sem, reduceCtorEq] at h) <;> (try (exfalso; omega))))) | (refine QN (zb _) (d := 10010) rfl rfl rfl rfl rfl t23 rfl t3 rfl rfl ?_))) <;> (try omega)
   all_goals first | exact AV.up_rfl _ | (repeat first | exact zo | refine zn rfl ?_)
end
section
open Go.RowKit
def vX (C : List InsM) (B : List Bool) (k : Nat) : Prop := (zg C k).op = 16 ∧ B.getD (zg C k).c.toNat false = false
def xV (C : List InsM) (B : List Bool) (en : Nat) (K : Nat → Prop) (k : Nat) : Prop :=
 K k ∧ vX C B k ∧ (k = en ∨ Rch (yT C (yp C B)) en k ∨ ∃ a, K a ∧ vX C B a ∧ Rch (yT C (yp C B)) a k)
structure UnpI (C : List InsM) (B : List Bool) (en : Nat) (M : List (Nat × Int × Unit)) (q : List Nat) : Prop where
 iff : ∀ k, k ∈ q ↔ xV C B en (· ∈ yU M) k
 len : q.length ≤ 1048576
theorem Ki (e : Bool) (C : List InsM) (N : List Int) (B : List Bool) (en : Nat) (c : Nat) (M : List (Nat × Int × Unit)) (hok : CodeOK C N) (S : Nat → Prop) (hS : ClosedS C B S) (hM : MapOK c M) (hMS : ∀ k ∈ yU M, S k) (hen : S en) :
  yx Tryz.prog 41 [.ptr 1 10000 0 0] (rtO e C N B en c M) (UnpI C B en M) (fun q => .ref 3 1 42 0 q.length) (fun q => rtO e C N B en c M ++ [(42, .row 3 1 (v8 (yo q)))]) := by
 have hC := hok.len
 have hlen := hM.len
 have hr1 := Uy e C N B en c M hok S hS [en] (by simp) (by simpa using hen) (by simp)
 have hr2 := fun (r : List Nat) (h1 : r ≠ []) (h2 : ∀ k ∈ r, S k) (h3 : r.length ≤ 1048576) => Uy e C N B en c M hok S hS r h1 h2 h3
 have hdel := fun Q1 Q2 r hr => Kh e C N B en c M Q1 Q2 r hr
 unfold unO at hdel
 unfold rtO rtV at *
 refine xq (zb _) Tryz.func41 rfl rfl (by rw [Tryz.results41]) Tryz.ntmps41 rfl fun E => ?_
 (repeat' (first | exact trivial | (with_reducible first | apply awA | apply awB | apply awF) | ((with_reducible first | apply awn | apply awo); intro r hr; simp only [go_sem, Nat.reduceBEq, Nat.reduceLT, Nat.reduceLeDiff, Nat.reduceAdd, Nat.reduceMul, yn] at hr; subst hr; (first | refine awV ?_ ?_ | refine awW ?_ ?_)) | (refine wV (zb _) (u := 12) rfl rfl rfl ⟨by decide, by decide⟩ rfl rfl t78 rfl rfl (by decide) ?_))) <;> (try omega)
 refine xi 3 3 1 42 (.inl (by decide)) (by simp only [go_sem, Nat.reduceBEq]) ?_
 refine zI [1, 3, 12] [1, 10000, 10002, 10003, 12, 42] (fun q : List (Nat × Int × Unit) × List Nat => ⟨[(1, true, .ptr 1 1 0 0), (3, true, .ref 3 1 42 0 q.2.length), (12, true, .ptr 1 12 0 0)],
  [(1, .var [.ptr 1 10000 0 0]), (10000, .var [vB e, .lst 4 (zF C), .lst 1 (v8 N), .ref 4 1 10002 0 B.length, vI en, .map 10003]), (10002, .row 4 1 (xG B)), (10003, .mapr c (mK M)), (12, .iter 10003 true c (q.1.map (·.1))), (42, .row 3 1 (v8 (yo q.2)))]⟩)
  (fun q => (∀ e ∈ q.1, e ∈ M) ∧ (q.1.map (·.1)).Nodup ∧ (∀ k, k ∈ q.2 ↔ k ∈ yU q.1 ∧ vX C B k) ∧ q.2.length ≤ q.1.length) (fun q => M.length - q.1.length) ([], [])
  (by simp only [yn, AState.nilrow, go_sem, Nat.reduceBEq, Nat.reduceLT] <;> exact rfl) ⟨fun e he => (by cases he), List.nodup_nil, fun k => by simp [yU], Nat.zero_le _⟩ ?_
 intro ⟨V, r⟩ ⟨hV, hVn, hr, hrl⟩
 simp only at hV hVn hr hrl ⊢
 have hVl : V.length ≤ M.length := by
  refine yw ?_ hV
  rw [List.Nodup, List.pairwise_map] at hVn
  exact hVn.imp fun h e => h (by rw [e])
 (repeat' (first | exact trivial | (with_reducible apply awA) | ((with_reducible apply awn); intro r hr; simp only [go_sem, Nat.reduceBEq] at hr; subst hr; (first | refine awW ?_ ?_)) | (refine uj (d := 10003) (u := 12) (L := M) (f := fun _ => AV.dead) rfl rfl ⟨by decide, by decide⟩ rfl rfl rfl rfl hM.lt rfl (fun h0 => xI ?_) (fun x hx hxn => xI ?_)))) <;> (try omega)
 ·refine ⟨?_⟩
  have hVK : ∀ k, k ∈ yU V ↔ k ∈ yU M := fun k => by
   constructor
   ·intro h
    obtain ⟨e, he, rfl⟩ := List.mem_map.1 h
    exact List.mem_map.2 ⟨e, hV e he, rfl⟩
   ·intro h
    obtain ⟨e, he, rfl⟩ := List.mem_map.1 h
    obtain ⟨e', he', h2⟩ := List.mem_map.1 (h0 e he)
    have : e' = e := yB hM.nd (hV e' he') he h2
    subst this
    exact List.mem_map.2 ⟨e', he', rfl⟩
  have hr' : ∀ k, k ∈ r ↔ k ∈ yU M ∧ vX C B k := fun k => by rw [hr, hVK]
  clear hr hVK h0 hV hVn
  by_cases hrn : r = []
  ·subst hrn
   have e0 : (((([] : List Nat).length : Nat) : Int) = 0) = True := eq_true rfl
   (repeat' (first | exact trivial | (with_reducible first | apply awA | apply awD | apply awE | apply awF | apply awG | apply awH | apply awK) | ((with_reducible first | apply awn | apply awo | refine awQ ?_ | refine wM ?_); intro r hr; simp only [go_sem, Nat.reduceBEq, Nat.reduceLT] at hr; subst hr; (first | refine awV ?_ ?_ | refine y5 ?_ ?_ | (refine zh (fun h => ?_) (fun h => ?_) <;> (try simp only [go_sem, reduceCtorEq] at h) <;> (try (exfalso; omega))))))) <;> (try omega)
   all_goals refine ⟨[], ⟨fun k => ?_, Nat.zero_le _⟩, AV.up_nilref _ _ _ _, ?_⟩
   ·constructor
    ·intro h; cases h
    ·rintro ⟨h1, h2, _⟩
     exact absurd ((hr' k).2 ⟨h1, h2⟩) (by simp)
   ·repeat first | exact zo | refine zn rfl ?_
  ·have h0 : 0 < r.length := List.length_pos_iff.2 hrn
   have e0 : ((r.length : Int) = 0) = False := eq_false (by omega)
   have hr2' := hr2 r hrn (fun k hk => hMS k ((hr' k).1 hk).1) (by omega)
   have hdel' := fun Q1 Q2 => hdel Q1 Q2 r (by omega)
   clear hr2 hdel
   (repeat' (first | exact trivial | (with_reducible first | apply awA | apply awC | apply awE | apply awF | apply awH | apply awK) | (refine zA (id := 10) (t := (.node [0, 1, 2, 3, 4, 6, 7] [(.node [5] [(.node [8, 9, 10] []), (.node [9, 8, 10] [])]), (.node [9, 5, 8, 10] [])])) (drR [1] [50] [54]) zH (by kernel_rfl) (by kernel_rfl) (fun _ _ h => h) ?_) | (refine zB (by simp only [go_sem]; exact rfl) ?_) | (refine zD (by simp only [go_sem]; exact rfl) ?_) | refine zl ?_ | refine zq ?_ ?_ | exact zC | ((with_reducible first | refine awN (zb _) [51] ?_ | refine awO (zb _) [51] ?_ | refine awP (zb _) [51] ?_ | refine awQ ?_); intro r hr; simp only [go_sem, Nat.reduceBEq, Nat.reduceLT, Nat.reduceLeDiff, Nat.reduceAdd, Nat.reduceMul, reduceCtorEq, yn, e0] at hr; subst hr; (first | refine awV ?_ ?_ | refine awW ?_ ?_ | (refine zh (fun h => ?_) (fun h => ?_) <;> (try simp only [go_sem, reduceCtorEq] at h) <;> (try (exfalso; omega))))) | (refine zz [(10000, 10000), (10002, 10002), (10003, 10003), (51, 10004)] [(14, 54), (10000, 10000), (10002, 10002), (10003, 10003), (10004, 51)] [54] [10000, 10002, 10003, 51] ?_; intro r hr; simp only [go_sem, Nat.reduceBEq, Nat.reduceLT, z6] at hr; subst hr; refine yQ (hr1) rfl rfl (by first | exact .inl rfl | exact .inr rfl) ?_ (.inl rfl) (fun q hq => xI ?_)))) <;> (try omega)
   all_goals
    refine ⟨?_⟩
    obtain ⟨Q1, rfl⟩ : ∃ z, z = q := ⟨_, rfl⟩
    have hq1 := hq
    clear hq
    (repeat' (first | exact trivial | (with_reducible first | apply awA | apply awF) | ((with_reducible first | apply awn | apply awp); intro r hr; simp only [go_sem, Nat.reduceBEq, Nat.reduceLT, Nat.reduceLeDiff, Nat.reduceAdd, Nat.reduceMul, yn, z6] at hr; subst hr; (first | refine awV ?_ ?_ | refine awW ?_ ?_)) | (refine zz [(10000, 10000), (10002, 10002), (10003, 10003), (42, 10004)] [(14, 59), (10000, 10000), (10002, 10002), (10003, 10003), (10004, 42)] [59] [10000, 10002, 10003, 42] ?_; intro r hr; simp only [go_sem, Nat.reduceBEq, Nat.reduceLT, z6] at hr; subst hr; refine yQ (hr2') rfl rfl (by first | exact .inl rfl | exact .inr rfl) ?_ (.inl rfl) (fun q hq => xI ?_)))) <;> (try omega)
    refine ⟨?_⟩
    obtain ⟨Q2, rfl⟩ : ∃ z, z = q := ⟨_, rfl⟩
    have hq2 := hq
    clear hq
    have hd := hdel' Q1 Q2
    (repeat' (first | exact trivial | (with_reducible first | apply awA | apply awD | apply awF) | ((with_reducible first | apply awn | apply awo | refine wM ?_); intro r hr; simp only [go_sem, Nat.reduceBEq, Nat.reduceLT, Nat.reduceLeDiff, Nat.reduceAdd, Nat.reduceMul, yn, uw, z6] at hr; subst hr; (first | refine awV ?_ ?_ | refine awW ?_ ?_ | refine y5 ?_ ?_)) | (refine zz [(6, 10006), (7, 10007), (1, 10005), (10000, 10000), (10002, 10002), (10003, 10003), (54, 10008), (59, 10009), (42, 10010)] [(10006, 6), (10007, 7), (10005, 1), (10000, 10000), (10002, 10002), (10003, 10003), (10008, 54), (10009, 59), (10010, 42)] [] [6, 7, 1, 10000, 10002, 10003, 54, 59, 42] ?_; intro r hr; simp only [go_sem, Nat.reduceBEq, Nat.reduceLT, z6] at hr; subst hr; refine zR (hd) rfl rfl (by first | exact .inl rfl | exact .inr rfl) ?_ (.inl rfl) ?_))) <;> (try omega)
    all_goals refine ⟨r.filter fun k => !(XC Q1 Q2 en k), ⟨fun k => ?_, Nat.le_trans (List.length_filter_le _ _) (by omega)⟩, AV.up_rfl _, ?_⟩
    ·rw [List.mem_filter, hr']
     unfold xV XC
     have h1 : k ∈ Q1 ↔ Rch (yT C (yp C B)) en k := by
      rw [hq1.iff]
      exact ⟨fun ⟨a, ha, h⟩ => by simp at ha; subst ha; exact h, fun h => ⟨en, by simp, h⟩⟩
     have h2 : k ∈ Q2 ↔ ∃ a, a ∈ yU M ∧ vX C B a ∧ Rch (yT C (yp C B)) a k := by
      rw [hq2.iff]
      exact ⟨fun ⟨a, ha, h⟩ => ⟨a, ((hr' a).1 ha).1, ((hr' a).1 ha).2, h⟩, fun ⟨a, h1, h2, h3⟩ => ⟨a, (hr' a).2 ⟨h1, h2⟩, h3⟩⟩
     rw [← h1, ← h2, and_assoc]
     have h3 : ((k : Int) = (en : Int)) ↔ k = en := by omega
     simp only [h3, Bool.not_and, Bool.not_not, Bool.or_eq_true, decide_eq_true_eq]
     constructor
     ·rintro ⟨g1, g2, (g | g) | g⟩
      ·exact ⟨g1, g2, .inr (.inl g)⟩
      ·exact ⟨g1, g2, .inr (.inr g)⟩
      ·exact ⟨g1, g2, .inl g⟩
     ·rintro ⟨g1, g2, g | g | g⟩
      ·exact ⟨g1, g2, .inr g⟩
      ·exact ⟨g1, g2, .inl (.inl g)⟩
      ·exact ⟨g1, g2, .inl (.inr g)⟩
    ·repeat first | exact zo | refine zn rfl ?_
 ·refine ⟨?_⟩
  obtain ⟨bx, kx, ux⟩ := x
  have hpos := hM.pos _ hx
  obtain ⟨k, rfl⟩ : ∃ k : Nat, kx = k := ⟨kx.toNat, by simp only at hpos; omega⟩
  have hkM : k ∈ yU M := List.mem_map.2 ⟨_, hx, by simp⟩
  have hkV : k ∉ yU V := fun h => by
   obtain ⟨e', he', h2⟩ := List.mem_map.1 h
   have hp' := hM.pos e' (hV e' he')
   have : e' = (bx, (k : Int), ux) := yB hM.kd (hV e' he') hx (by show e'.2.1 = (k : Int); omega)
   subst this
   exact hxn (List.mem_map.2 ⟨_, he', rfl⟩)
  have hV2 : ∀ e ∈ V ++ [(bx, (k : Int), ux)], e ∈ M := fun e he => by
   rcases List.mem_append.1 he with h | h
   ·exact hV e h
   ·simp at h; subst h; exact hx
  have hVn2 : ((V ++ [(bx, (k : Int), ux)]).map (·.1)).Nodup := by
   rw [List.map_append, List.nodup_append]
   exact ⟨hVn, by simp, fun a ha b hb hab => by simp at hb; subst hb; subst hab; exact hxn ha⟩
  have hVl2 : (V ++ [(bx, (k : Int), ux)]).length ≤ M.length := by
   refine yw ?_ hV2
   rw [List.Nodup, List.pairwise_map] at hVn2
   exact hVn2.imp fun h e => h (by rw [e])
  have hVs : (V ++ [(bx, (k : Int), ux)]).length = V.length + 1 := by simp
  have hkV2 : ∀ y, y ∈ yU (V ++ [(bx, (k : Int), ux)]) ↔ y ∈ yU V ∨ y = k := fun y => by simp [yU]
  have hVm : (V.map (·.1)) ++ [bx] = (V ++ [(bx, (k : Int), ux)]).map (·.1) := by simp
  have hkC := hS.lt k (hMS k hkM)
  have hcal := hS.calls k (hMS k hkM)
  have zk : ((k : Int)).toNat = k := by omega
  have gk := yC hkC
  clear hr1 hr2 hdel
  have skip : ¬ vX C B k → ∀ y, y ∈ r ↔ y ∈ yU (V ++ [(bx, (k : Int), ux)]) ∧ vX C B y := fun hf y => by
   rw [hr, hkV2]
   exact ⟨fun h => ⟨.inl h.1, h.2⟩, fun h => ⟨h.1.resolve_right fun e => by subst e; exact hf h.2, h.2⟩⟩
  unfold vX at skip hr ⊢
  generalize hx0 : zg C k = x0 at *
  obtain ⟨op, a, b, cc⟩ := x0
  dsimp only at hcal
  by_cases h16 : op = 16
  ·subst h16
   obtain ⟨h1, h2⟩ := hcal rfl
   obtain ⟨m, rfl⟩ : ∃ m : Nat, cc = m := ⟨cc.toNat, by omega⟩
   have zm : ((m : Int)).toNat = m := by omega
   have gb := vv (B := B) (k := m) (by omega)
   cases hp : B.getD m false with
   | true =>
    rw [hp] at gb
    (repeat' (first | exact trivial | (with_reducible first | apply awA | apply awB | apply awC | apply awF | apply awI) | (refine zA (id := 6) (t := (.node [0, 1, 2, 3, 4, 5, 6, 7, 8, 9, 10, 11, 12, 13] [])) (drR [5, 1] [32, 36] []) zH (by kernel_rfl) (by kernel_rfl) (fun _ _ h => h) ?_) | (refine zB (by simp only [go_sem]; exact rfl) ?_) | (refine zD (by simp only [go_sem]; exact rfl) ?_) | refine zl ?_ | refine zq ?_ ?_ | exact zC | ((with_reducible first | apply awn | apply awo | apply awp | refine awQ ?_); intro r hr; simp only [go_sem, Nat.reduceBEq, Nat.reduceLT, Nat.reduceLeDiff, Nat.reduceAdd, Nat.reduceMul, reduceCtorEq, yn, zk, gk, zd, zm, gb] at hr; subst hr; (first | refine awV ?_ ?_ | refine awW ?_ ?_ | (refine zh (fun h => ?_) (fun h => ?_) <;> (try simp only [go_sem, reduceCtorEq] at h) <;> (try (exfalso; omega))))) | (refine xl (d := 10003) (u := 12) (L := M) (f := fun _ => AV.dead) (e := (bx, (k : Int), ux)) rfl rfl ⟨by decide, by decide⟩ rfl rfl rfl rfl hx hM.nd ?_))) <;> (try omega)
    refine ⟨(V ++ [(bx, (k : Int), ux)], r), ?_, ⟨hV2, hVn2, skip (fun h => by have := h.2; rw [zm, hp] at this; cases this), by show r.length ≤ (V ++ [(bx, (k : Int), ux)]).length; omega⟩, by show M.length - (V ++ [(bx, (k : Int), ux)]).length < M.length - V.length; omega⟩
    simp only [hVm, go_sem, Nat.reduceBEq]
    try exact rfl
   | false =>
    rw [hp] at gb
    have ht : (v8 (yo r)).take r.length = v8 (yo r) := by rw [yR, List.take_of_length_le (by rw [zS]; omega)]
    have ha := xy r k
    have hl3 : (r ++ [k]).length = r.length + 1 := by simp
    (repeat' (first | exact trivial | (with_reducible first | apply awA | apply awB | apply awC | apply awF | apply awI) | (refine zA (id := 6) (t := (.node [0, 1, 2, 3, 4, 5, 6, 7, 8, 9, 10, 11, 12, 13] [])) (drR [5, 1] [32, 36] []) zH (by kernel_rfl) (by kernel_rfl) (fun _ _ h => h) ?_) | (refine zB (by simp only [go_sem]; exact rfl) ?_) | (refine zD (by simp only [go_sem]; exact rfl) ?_) | refine zl ?_ | refine zq ?_ ?_ | exact zC | ((with_reducible first | apply awn | apply awo | apply awp | refine awQ ?_); intro r hr; simp only [go_sem, Nat.reduceBEq, Nat.reduceLT, Nat.reduceLeDiff, Nat.reduceAdd, Nat.reduceMul, Nat.reduceEqDiff, reduceCtorEq, yn, zk, gk, zd, zm, gb, zp, zS, ht, ha, hl3] at hr; subst hr; (first | refine awV ?_ ?_ | refine awW ?_ ?_ | (refine zh (fun h => ?_) (fun h => ?_) <;> (try simp only [go_sem, reduceCtorEq] at h) <;> (try (exfalso; omega))))) | (refine xl (d := 10003) (u := 12) (L := M) (f := fun _ => AV.dead) (e := (bx, (k : Int), ux)) rfl rfl ⟨by decide, by decide⟩ rfl rfl rfl rfl hx hM.nd ?_))) <;> (try omega)
    refine ⟨(V ++ [(bx, (k : Int), ux)], r ++ [k]), ?_, ⟨hV2, hVn2, fun y => ?_, by show (r ++ [k]).length ≤ (V ++ [(bx, (k : Int), ux)]).length; omega⟩, by show M.length - (V ++ [(bx, (k : Int), ux)]).length < M.length - V.length; omega⟩
    ·simp only [hVm, hl3, go_sem, Nat.reduceBEq]
     try exact rfl
    ·show y ∈ r ++ [k] ↔ y ∈ yU (V ++ [(bx, (k : Int), ux)]) ∧ _
     rw [List.mem_append, List.mem_singleton, hr, hkV2]
     constructor
     ·rintro (⟨h1, h2⟩ | rfl)
      ·exact ⟨.inl h1, h2⟩
      ·exact ⟨.inr rfl, by rw [hx0], by rw [hx0]; show B.getD ((m : Int)).toNat false = false; rw [zm]; exact hp⟩
     ·rintro ⟨h1 | h1, h2⟩
      ·exact .inl ⟨h1, h2⟩
      ·exact .inr h1
  ·have e16 : (op = 16) = False := eq_false h16
   by_cases hin : cc.toNat < B.length
   ·have gb := vv hin
    (repeat' (first | exact trivial | (with_reducible first | apply awA | apply awB | apply awC | apply awF | apply awI) | (refine zA (id := 6) (t := (.node [0, 1, 2, 3, 4, 5, 6, 7, 8, 9, 10, 11, 12, 13] [])) (drR [5, 1] [32, 36] []) zH (by kernel_rfl) (by kernel_rfl) (fun _ _ h => h) ?_) | (refine zB (by simp only [go_sem]; exact rfl) ?_) | (refine zD (by simp only [go_sem]; exact rfl) ?_) | refine zl ?_ | refine zq ?_ ?_ | exact zC | ((with_reducible first | apply awn | apply awo | apply awp | refine awQ ?_); intro r hr; simp only [go_sem, Nat.reduceBEq, Nat.reduceLT, Nat.reduceLeDiff, Nat.reduceAdd, Nat.reduceMul, reduceCtorEq, yn, zk, gk, zd, e16, gb] at hr; subst hr; (first | refine awV ?_ ?_ | refine awW ?_ ?_ | (refine zh (fun h => ?_) (fun h => ?_) <;> (try simp only [go_sem, reduceCtorEq] at h) <;> (try (exfalso; omega))))) | (refine xl (d := 10003) (u := 12) (L := M) (f := fun _ => AV.dead) (e := (bx, (k : Int), ux)) rfl rfl ⟨by decide, by decide⟩ rfl rfl rfl rfl hx hM.nd ?_) | (refine yD (vB true) rfl rfl ⟨by decide, by decide⟩ ?_))) <;> (try omega)
    refine ⟨(V ++ [(bx, (k : Int), ux)], r), ?_, ⟨hV2, hVn2, skip (fun h => h16 h.1), by show r.length ≤ (V ++ [(bx, (k : Int), ux)]).length; omega⟩, by show M.length - (V ++ [(bx, (k : Int), ux)]).length < M.length - V.length; omega⟩
    simp only [hVm, go_sem, Nat.reduceBEq]
    try exact rfl
   ·have gb : (xG B)[cc.toNat]? = none := List.getElem?_eq_none (by rw [wF]; omega)
    (repeat' (first | exact trivial | (with_reducible first | apply awA | apply awB | apply awC | apply awF | apply awI) | (refine zA (id := 6) (t := (.node [0, 1, 2, 3, 4, 5, 6, 7, 8, 9, 10, 11, 12, 13] [])) (drR [5, 1] [32, 36] []) zH (by kernel_rfl) (by kernel_rfl) (fun _ _ h => h) ?_) | (refine zB (by simp only [go_sem]; exact rfl) ?_) | (refine zD (by simp only [go_sem]; exact rfl) ?_) | refine zl ?_ | refine zq ?_ ?_ | exact zC | ((with_reducible first | apply awn | apply awo | apply awp | refine awQ ?_); intro r hr; simp only [go_sem, Nat.reduceBEq, Nat.reduceLT, Nat.reduceLeDiff, Nat.reduceAdd, Nat.reduceMul, reduceCtorEq, yn, zk, gk, zd, e16, gb] at hr; subst hr; (first | refine awV ?_ ?_ | refine awW ?_ ?_ | (refine zh (fun h => ?_) (fun h => ?_) <;> (try simp only [go_sem, reduceCtorEq] at h) <;> (try (exfalso; omega))))) | (refine xl (d := 10003) (u := 12) (L := M) (f := fun _ => AV.dead) (e := (bx, (k : Int), ux)) rfl rfl ⟨by decide, by decide⟩ rfl rfl rfl rfl hx hM.nd ?_) | (refine yD (vB true) rfl rfl ⟨by decide, by decide⟩ ?_) | (refine ud (vB true) rfl rfl ⟨by decide, by decide⟩ ?_))) <;> (try omega)
    refine ⟨(V ++ [(bx, (k : Int), ux)], r), ?_, ⟨hV2, hVn2, skip (fun h => h16 h.1), by show r.length ≤ (V ++ [(bx, (k : Int), ux)]).length; omega⟩, by show M.length - (V ++ [(bx, (k : Int), ux)]).length < M.length - V.length; omega⟩
    simp only [hVm, go_sem, Nat.reduceBEq]
    try exact rfl
end
section
open Go.RowKit
def KL (l : List Nat) (r : Int) : Prop := ∃ k : Nat, r = k ∧ k ∈ l ∧ ∀ j ∈ l, k ≤ j
theorem zaV (l : List Nat) (h0 : 0 < l.length) (hl : l.length ≤ 1000000000) :
  yx Tryz.prog 42 [.ref 3 1 10004 0 l.length] [(10004, .row 3 1 (v8 (yo l)))] (KL l) (fun r => vI r) (fun _ => [(10004, .row 3 1 (v8 (yo l)))]) := by
 have e0 : ((l.length : Int) < 1) = False := eq_false (by omega)
 obtain ⟨k0, hk0⟩ : ∃ k, l[0]? = some k := ⟨_, List.getElem?_eq_getElem h0⟩
 have g0 := yO hk0
 refine xq (zb _) Tryz.func42 rfl rfl (by rw [Tryz.results42]) Tryz.ntmps42 rfl fun E => ?_
 (repeat' (first | exact trivial | (with_reducible first | apply awA | apply awB | apply awC | apply awF) | ((with_reducible first | apply awn | refine awQ ?_); intro r hr; simp only [go_sem, Nat.reduceBEq, Nat.reduceLT, Nat.reduceLeDiff, e0, g0, Int.toNat_zero, Nat.zero_add, Int.reduceLE] at hr; subst hr; (first | refine awV ?_ ?_ | (refine zh (fun h => ?_) (fun h => ?_) <;> (try simp only [go_sem, reduceCtorEq] at h) <;> (try (exfalso; omega))))))) <;> (try omega)
 refine zI [0, 3, 4] [10004] (fun q : Nat × Nat => ⟨[(0, true, .ref 3 1 10004 0 l.length), (3, true, vI q.2), (4, true, vI q.1)], [(10004, .row 3 1 (v8 (yo l)))]⟩)
  (fun q => 1 ≤ q.1 ∧ q.1 ≤ l.length ∧ q.2 ∈ l ∧ ∀ j ∈ l.take q.1, q.2 ≤ j) (fun q => l.length - q.1) (1, k0) (by simp only [go_sem, Nat.reduceBEq] <;> exact rfl) ⟨Nat.le_refl _, h0, List.mem_of_getElem? hk0, fun j hj => by
   rw [List.take_succ_eq_append_getElem h0, List.take_zero] at hj
   rw [List.getElem?_eq_getElem h0] at hk0
   injection hk0 with hk0
   simp at hj
   omega⟩ ?_
 intro ⟨i, m⟩ ⟨h1, hi, hm, hle⟩
 simp only at h1 hi hm hle ⊢
 have hwi := zy (n := (i : Int) + 1) (by omega)
 have zi : ((i : Int)).toNat = i := by omega
 by_cases hlt : i < l.length
 ·have e1 : ((i : Int) < (l.length : Int)) = True := eq_true (by omega)
  obtain ⟨k, hk⟩ : ∃ k, l[i]? = some k := ⟨_, List.getElem?_eq_getElem hlt⟩
  have gi := yO hk
  have hmin : min (m : Int) (k : Int) = ((min m k : Nat) : Int) := by omega
  (repeat' (first | exact trivial | (with_reducible first | apply awA | apply awB | apply awC | apply awF | apply awI) | ((with_reducible first | apply awn | refine awQ ?_); intro r hr; simp only [go_sem, Nat.reduceBEq, Nat.reduceLT, Nat.reduceLeDiff, e1, zi, hwi, gi, hmin, Nat.zero_add] at hr; subst hr; (first | refine awV ?_ ?_ | (refine zh (fun h => ?_) (fun h => ?_) <;> (try simp only [go_sem, reduceCtorEq] at h) <;> (try (exfalso; omega))))))) <;> (try omega)
  refine ⟨(i + 1, min m k), ?_, ⟨by show 1 ≤ i + 1; omega, hlt, ?_, fun j hj => ?_⟩, by show l.length - (i + 1) < l.length - i; omega⟩
  ·simp only [go_sem, Nat.reduceBEq]
   try exact rfl
  ·show min m k ∈ l
   rcases Nat.le_total m k with h | h
   ·rw [Nat.min_eq_left h]; exact hm
   ·rw [Nat.min_eq_right h]; exact List.mem_of_getElem? hk
  ·rw [List.take_succ_eq_append_getElem hlt] at hj
   rw [List.getElem?_eq_getElem hlt] at hk
   injection hk with hk
   show min m k ≤ j
   rcases List.mem_append.1 hj with hj | hj
   ·have := hle j hj; omega
   ·simp at hj; omega
 ·have e1 : ((i : Int) < (l.length : Int)) = False := eq_false (by omega)
  (repeat' (first | exact trivial | (with_reducible first | apply awA | apply awD | apply awE | apply awF | apply awH | apply awK) | ((with_reducible first | apply awn | refine awQ ?_ | refine wM ?_); intro r hr; simp only [go_sem, Nat.reduceBEq, Nat.reduceLT, e1] at hr; subst hr; (first | refine awV ?_ ?_ | refine y5 ?_ ?_ | (refine zh (fun h => ?_) (fun h => ?_) <;> (try simp only [go_sem, reduceCtorEq] at h) <;> (try (exfalso; omega))))))) <;> (try omega)
  all_goals refine ⟨(m : Int), ⟨m, rfl, hm, fun j hj => hle j (by rw [List.take_of_length_le (by omega)]; exact hj)⟩, AV.up_rfl _, ?_⟩
  all_goals repeat first | exact zo | refine zn rfl ?_
def Kj (p : Nat → Prop) (r : Int) : Prop := ∃ k : Nat, r = k ∧ p k ∧ ∀ j, p j → k ≤ j
def jV (e : Bool) (C : List InsM) (B : List Bool) (en k : Nat) : Prop :=
 jb (yT C ye) en k ∧ (Rch (yT C (yp C B)) k k ∨ e = false ∧ xV C B en (jb (yT C ye) en) k)
def kB (e : Bool) (C : List InsM) : List Int → List Bool → Int → Prop
 | [], _, r => r = -1
 | n :: ns, B, r => Kj (jV e C B n.toNat) r ∨ (¬ ∃ k, jV e C B n.toNat k) ∧ kB e C ns (B ++ [Yd C B n.toNat]) r
theorem Kj.uniq {p : Nat → Prop} {r s : Int} (h : Kj p r) (g : Kj p s) : r = s := by
 obtain ⟨k, rfl, h1, h2⟩ := h
 obtain ⟨j, rfl, g1, g2⟩ := g
 have := h2 j g1
 have := g2 k h1
 omega
theorem Kj.ex {p : Nat → Prop} (h : ∃ k, p k) : ∃ r, Kj p r := by
 obtain ⟨k, hk⟩ := h
 induction k using Nat.strongRecOn with
 | ind k ih =>
  by_cases hj : ∃ j, j < k ∧ p j
  ·obtain ⟨j, h1, h2⟩ := hj; exact ih j h1 h2
  ·exact ⟨k, k, rfl, hk, fun j h => Nat.le_of_not_lt fun hlt => hj ⟨j, hlt, h⟩⟩
theorem kB.uniq {e : Bool} {C : List InsM} : ∀ {ns : List Int} {B : List Bool} {r s : Int}, kB e C ns B r → kB e C ns B s → r = s
 | [], _, _, _, h, g => by rw [show _ = _ from h, show _ = _ from g]
 | n :: ns, B, r, s, h, g => by
  rcases h with h | ⟨h1, h2⟩ <;> rcases g with g | ⟨g1, g2⟩
  ·exact h.uniq g
  ·obtain ⟨k, _, hk, _⟩ := h; exact absurd ⟨k, hk⟩ g1
  ·obtain ⟨k, _, hk, _⟩ := g; exact absurd ⟨k, hk⟩ h1
  ·exact kB.uniq h2 g2
theorem kB.ex (e : Bool) (C : List InsM) : ∀ (ns : List Int) (B : List Bool), ∃ r, kB e C ns B r
 | [], _ => ⟨-1, rfl⟩
 | n :: ns, B => by
  by_cases h : ∃ k, jV e C B n.toNat k
  ·obtain ⟨r, hr⟩ := Kj.ex h; exact ⟨r, .inl hr⟩
  ·obtain ⟨r, hr⟩ := kB.ex e C ns (B ++ [Yd C B n.toNat]); exact ⟨r, .inr ⟨h, hr⟩⟩
noncomputable def YV (e : Bool) (C : List InsM) (N : List Int) : Int := Classical.choose (kB.ex e C N [])
theorem uC (e : Bool) (C : List InsM) (N : List Int) : kB e C N [] (YV e C N) := Classical.choose_spec (kB.ex e C N [])
def uD (C : List InsM) (N : List Int) : Prop := ∀ (t : Nat) (n : Int), N[t]? = some n → ∃ S : Nat → Prop, S n.toNat ∧ ∀ B : List Bool, B.length = t → ClosedS C B S
theorem XD (e : Bool) (C : List InsM) (N : List Int) (hok : CodeOK C N) (hlk : uD C N) : yx Tryz.prog 24 [pG e C N] [] (kB e C N []) (fun r => vI r) (fun _ => []) := by
 have hC := hok.len
 have hNl := hok.lenN
 unfold pG
 refine xq (zb _) Tryz.func24 rfl rfl (by rw [Tryz.results24]) Tryz.ntmps24 rfl fun E => ?_
 (repeat' (first | exact trivial | (with_reducible first | apply awA | apply awB | apply awF) | ((with_reducible apply awn); intro r hr; simp only [go_sem, Nat.reduceBEq, Nat.reduceLT, Nat.reduceLeDiff, Nat.reduceAdd, Nat.reduceMul] at hr; subst hr; (first | refine awV ?_ ?_)))) <;> (try omega)
 refine xi 3 4 1 50 (.inl (by decide)) (by simp only [go_sem, Nat.reduceBEq]) ?_
 (repeat' (first | exact trivial | (with_reducible first | apply awA | apply awB | apply awC | apply awD | apply awE | apply awF | apply awG | apply awH | apply awI | apply awJ | apply awK | apply awL | refine awM (by decide) ?_) | ((with_reducible first | apply awn | apply awo | apply awp | refine awQ ?_ | refine awR ?_ | refine awS ?_ | refine wM ?_ | refine zbn ?_); intro r hr; simp only [go_sem, Nat.reduceBEq, Nat.reduceBneDiff, Nat.reduceLT, Nat.reduceLeDiff, Nat.reduceAdd, Nat.reduceMul, Nat.reduceSub, Nat.reduceEqDiff, reduceCtorEq, AState.nilrow, zp] at hr; subst hr; (first | refine awV ?_ ?_ | refine awW ?_ ?_ | refine zM ?_ ?_ | refine y5 ?_ ?_ | (refine zh (fun h => ?_) (fun h => ?_) <;> (try simp only [go_sem, reduceCtorEq] at h) <;> (try (exfalso; omega))))))) <;> (try omega)
 refine zI [1, 3, 9, 10, 11] [1, 50] (fun q : Nat × List Bool => ⟨[(1, true, .ptr 1 1 0 0), (3, true, .ref 4 1 50 0 q.2.length), (9, true, .lst 1 (v8 N)), (10, true, vI N.length), (11, true, vI q.1)],
  [(1, .var [vB e, .lst 4 (zF C), .lst 1 (v8 N)]), (50, .row 4 1 (xG q.2))]⟩) (fun q => q.1 ≤ N.length ∧ q.2.length = q.1 ∧ ∀ r, kB e C (N.drop q.1) q.2 r → kB e C N [] r) (fun q => N.length - q.1) (0, [])
  (by simp only [AState.nilrow, zp, go_sem, Nat.reduceBEq, Nat.reduceLT] <;> exact rfl) ⟨Nat.zero_le _, rfl, fun r h => h⟩ ?_
 intro ⟨i, B⟩ ⟨hi, hB, hsec⟩
 simp only at hi hB hsec ⊢
 have hwi := zy (n := (i : Int) + 1) (by omega)
 have zi : ((i : Int)).toNat = i := by omega
 by_cases hlt : i < N.length
 ·have e1 : ((i : Int) < (N.length : Int)) = True := eq_true (by omega)
  obtain ⟨en, hen⟩ : ∃ en : Nat, N[i] = en := ⟨N[i].toNat, by have := (hok.entry _ (List.getElem_mem hlt)).1; omega⟩
  have gi := xb hlt
  rw [hen] at gi
  obtain ⟨S, hS0, hS1⟩ := hlk i N[i] (List.getElem?_eq_getElem hlt)
  rw [hen, Int.toNat_natCast] at hS0
  have hS := hS1 B hB
  rw [List.drop_eq_getElem_cons hlt, hen] at hsec
  have hr := zaP e C N B en hok S hS [en] (by simp) (by simpa using hS0) (by simp)
  unfold rtV at hr
  (repeat' (first | exact trivial | (with_reducible first | apply awA | apply awB | apply awC | apply awF) | ((with_reducible first | refine awN (zb _) [23] ?_ | refine awQ ?_); intro r hr; simp only [go_sem, Nat.reduceBEq, Nat.reduceLT, Nat.reduceLeDiff, Nat.reduceAdd, Nat.reduceMul, e1, zi, gi, zp] at hr; subst hr; (first | refine awV ?_ ?_ | refine awW ?_ ?_ | (refine zh (fun h => ?_) (fun h => ?_) <;> (try simp only [go_sem, reduceCtorEq] at h) <;> (try (exfalso; omega))))) | (refine zz [(19, 10000), (50, 10002), (23, 10004)] [(14, 24), (10000, 19), (10002, 50), (10004, 23)] [24] [19, 50, 23] ?_; intro r hr; simp only [go_sem, Nat.reduceBEq, Nat.reduceLT] at hr; subst hr; refine yQ (hr) rfl rfl (by first | exact .inl rfl | exact .inr rfl) ?_ (.inl rfl) (fun q hq => xI ?_)))) <;> (try omega)
  refine ⟨?_⟩
  obtain ⟨Q0, rfl⟩ : ∃ z, z = q := ⟨_, rfl⟩
  have hq0 := hq
  clear hq
  have hset := Z1 Q0 en
  have hclk := Z2 Q0 en
  have hmem := XB hq0
  have hM := Xz (XA hq0.nd en) (fun k hk => hS.lt k (Z3 hS hS0 ((hmem k).1 hk))) hC
  have hkN := UH (uW Q0 en)
  generalize hQ1 : uW Q0 en = Q1 at *
  have hMS : ∀ k ∈ yU (qL Q1), S k := fun k hk => Z3 hS hS0 ((hmem k).1 (by rw [hkN] at hk; exact hk))
  have hcl : ∀ k ∈ yU (qL Q1), ∀ j ∈ zO C k (zg C k), j.toNat ∈ yU (qL Q1) := fun k hk j hj => by
   have h0 := (hS.ways k (hMS k hk) j hj).1
   rw [hkN] at hk ⊢
   rw [hmem] at hk ⊢
   obtain ⟨w, hw⟩ := List.mem_iff_getElem?.1 hj
   have hR : yT C ye k j.toNat := ⟨w, by rw [hw]; congr 1; omega, rfl⟩
   rcases hk with rfl | hk
   ·exact .inr (.one hR)
   ·exact .inr (.more hk hR)
  have hri := JW e C N B en Q1.length (qL Q1) hok S hS hM hMS hcl
  have hun := Ki e C N B en Q1.length (qL Q1) hok S hS hM hMS hS0
  have hpa := zbi e C N B en Q1.length (qL Q1) hok S hS hS0
  have hcome : ∀ k, k ∈ yU (qL Q1) ↔ jb (yT C ye) en k := fun k => by rw [hkN]; exact hmem k
  have hcome2 : (fun k => k ∈ yU (qL Q1)) = jb (yT C ye) en := funext fun k => propext (hcome k)
  unfold rtO rtV at hri hun hpa
  (repeat' (first | exact trivial | (with_reducible first | apply awA | apply awF) | ((with_reducible first | apply awn | apply awo); intro r hr; simp only [go_sem, Nat.reduceBEq, Nat.reduceLT, Nat.reduceLeDiff, Nat.reduceAdd, Nat.reduceMul, z6] at hr; subst hr; (first | refine awV ?_ ?_ | refine awW ?_ ?_)) | (refine uP (zb _) (d := 24) (L := qL Q0) (f := fun _ => AV.dead) (key := (en : Int)) () rfl rfl rfl rfl rfl rfl rfl rfl (.inr rfl) t78 rfl t3 rfl rfl hclk hset ?_) | (refine zz [(19, 10000), (50, 10002), (24, 10003)] [(88, 33), (10000, 19), (10002, 50), (10003, 24)] [33] [19, 50, 24] ?_; intro r hr; simp only [go_sem, Nat.reduceBEq, Nat.reduceLT, z6] at hr; subst hr; refine yQ (hri) rfl rfl (by first | exact .inl rfl | exact .inr rfl) ?_ (.inl rfl) (fun q hq => xI ?_)))) <;> (try omega)
  refine ⟨?_⟩
  obtain ⟨r1, rfl⟩ : ∃ z, z = q := ⟨_, rfl⟩
  have hr1 := hq
  clear hq
  have hr1l := hr1.len
  have hmin : ∀ R : List Nat, (∀ k, k ∈ R ↔ jV e C B en k) → ∀ r, KL R r → kB e C N [] r := fun R hR r ⟨k, h1, h2, h3⟩ => hsec r (.inl ⟨k, h1, by rw [Int.toNat_natCast]; exact (hR k).1 h2, fun j hj => h3 j ((hR j).2 (by rw [Int.toNat_natCast] at hj; exact hj))⟩)
  have hgo : ∀ R : List Nat, (∀ k, k ∈ R ↔ jV e C B en k) → R = [] → ∀ r, kB e C (N.drop (i + 1)) (B ++ [Yd C B en]) r → kB e C N [] r := fun R hR h0 r hr => hsec r (.inr ⟨fun ⟨k, hk⟩ => (by rw [Int.toNat_natCast] at hk; have := (hR k).2 hk; rw [h0] at this; cases this), by rw [Int.toNat_natCast]; exact hr⟩)
  have htB : (xG B).take B.length = xG B := List.take_of_length_le (by rw [wF]; omega)
  have haB := Xt B (Yd C B en)
  have hlB : (B ++ [Yd C B en]).length = B.length + 1 := by simp
  generalize Yd C B en = py at hpa htB haB hlB hgo
  cases e with
  | true =>
   have hR : ∀ k, k ∈ r1 ↔ jV true C B en k := fun k => by
    rw [hr1.iff, hcome]
    unfold jV
    exact ⟨fun h => ⟨h.1, .inl h.2⟩, fun h => ⟨h.1, h.2.resolve_right fun g => by cases g.1⟩⟩
   by_cases hne : r1 = []
   ·have e4 : ((r1.length : Int) > 0) = False := eq_false (by rw [hne]; simp)
    have hg := hgo r1 hR hne
    (repeat' (first | exact trivial | (with_reducible first | apply awA | apply awC | apply awF | apply awI) | ((with_reducible first | apply awn | apply awo | refine awQ ?_); intro r hr; simp only [go_sem, Nat.reduceBEq, Nat.reduceLT, Nat.reduceLeDiff, Nat.reduceAdd, Nat.reduceMul, Nat.reduceEqDiff, yn, z6, e4, wF, htB, haB, hlB] at hr; subst hr; (first | refine awV ?_ ?_ | refine awW ?_ ?_ | (refine zh (fun h => ?_) (fun h => ?_) <;> (try simp only [go_sem, reduceCtorEq] at h) <;> (try (exfalso; omega))))) | (refine zz [(19, 10000), (50, 10002), (24, 10003)] [(10000, 19), (10002, 50), (10003, 24)] [] [19, 50, 24] ?_; intro r hr; simp only [go_sem, Nat.reduceBEq, Nat.reduceLT, z6] at hr; subst hr; refine zR (hpa) rfl rfl (by first | exact .inl rfl | exact .inr rfl) ?_ (.inl rfl) ?_))) <;> (try omega)
    refine ⟨(i + 1, B ++ [py]), ?_, ⟨hlt, by show (B ++ [py]).length = i + 1; omega, hg⟩, by show N.length - (i + 1) < N.length - i; omega⟩
    simp only [hwi, hlB, go_sem, Nat.reduceBEq]
    try exact rfl
   ·have hl0 : 0 < r1.length := List.length_pos_iff.2 hne
    have e4 : ((r1.length : Int) > 0) = True := eq_true (by omega)
    have hmi := zaV r1 hl0 (by omega)
    (repeat' (first | exact trivial | (with_reducible first | apply awA | apply awC | apply awF) | ((with_reducible first | apply awn | apply awo | refine awQ ?_); intro r hr; simp only [go_sem, Nat.reduceBEq, Nat.reduceLT, Nat.reduceLeDiff, Nat.reduceAdd, Nat.reduceMul, z6, e4] at hr; subst hr; (first | refine awV ?_ ?_ | refine awW ?_ ?_ | (refine zh (fun h => ?_) (fun h => ?_) <;> (try simp only [go_sem, reduceCtorEq] at h) <;> (try (exfalso; omega))))) | (refine zz [(33, 10004)] [(10004, 33)] [] [33] ?_; intro r hr; simp only [go_sem, Nat.reduceBEq, Nat.reduceLT] at hr; subst hr; refine yQ (hmi) rfl rfl (by first | exact .inl rfl | exact .inr rfl) ?_ (.inl rfl) (fun q hq => xI ?_)))) <;> (try omega)
    refine ⟨?_⟩
    have hfin := hmin r1 hR q hq
    (repeat' (first | exact trivial | (with_reducible first | apply awD | apply awF | apply awG | apply awJ) | ((with_reducible first | apply awo | refine wM ?_); intro r hr; simp only [go_sem, Nat.reduceBEq, Nat.reduceLT, uw] at hr; subst hr; (first | refine awV ?_ ?_ | refine y5 ?_ ?_)))) <;> (try omega)
    all_goals refine ⟨q, hfin, AV.up_rfl _, ?_⟩
    all_goals repeat first | exact zo | refine zn rfl ?_
  | false =>
   (repeat' (first | exact trivial | (with_reducible first | apply awA | apply awF) | ((with_reducible first | apply awn | apply awo | refine awQ ?_); intro r hr; simp only [go_sem, Nat.reduceBEq, Nat.reduceLT, Nat.reduceLeDiff, Nat.reduceAdd, Nat.reduceMul, z6] at hr; subst hr; (first | refine awV ?_ ?_ | refine awW ?_ ?_ | (refine zh (fun h => ?_) (fun h => ?_) <;> (try simp only [go_sem, reduceCtorEq] at h) <;> (try (exfalso; omega))))) | (refine zz [(19, 10000), (50, 10002), (24, 10003)] [(42, 39), (10000, 19), (10002, 50), (10003, 24)] [39] [19, 50, 24] ?_; intro r hr; simp only [go_sem, Nat.reduceBEq, Nat.reduceLT, z6] at hr; subst hr; refine yQ (hun) rfl rfl (by first | exact .inl rfl | exact .inr rfl) ?_ (.inl rfl) (fun q hq => xI ?_)))) <;> (try omega)
   refine ⟨?_⟩
   obtain ⟨r2, rfl⟩ : ∃ z, z = q := ⟨_, rfl⟩
   have hr2 := hq
   clear hq
   have hr2l := hr2.len
   have hR : ∀ k, k ∈ r1 ++ r2 ↔ jV false C B en k := fun k => by
    rw [List.mem_append, hr1.iff, hr2.iff, hcome2]
    unfold jV
    constructor
    ·rintro (⟨h1, h2⟩ | h)
     ·exact ⟨(hcome k).1 h1, .inl h2⟩
     ·exact ⟨h.1, .inr ⟨rfl, h⟩⟩
    ·rintro ⟨h1, h2 | ⟨_, h2⟩⟩
     ·exact .inl ⟨(hcome k).2 h1, h2⟩
     ·exact .inr h2
   have ht1 : (v8 (yo r1)).take r1.length = v8 (yo r1) := by rw [yR, List.take_of_length_le (by rw [zS]; omega)]
   have ht2 : (v8 (yo r2)).take r2.length = v8 (yo r2) := by rw [yR, List.take_of_length_le (by rw [zS]; omega)]
   have ha2 : v8 (yo r1) ++ v8 (yo r2) = v8 (yo (r1 ++ r2)) := by simp [v8, yo]
   have hl2 : (r1 ++ r2).length = r1.length + r2.length := List.length_append
   by_cases hne : r1 ++ r2 = []
   ·have e4 : (((r1 ++ r2).length : Int) > 0) = False := eq_false (by rw [hne]; simp)
    have hg := hgo (r1 ++ r2) hR hne
    (repeat' (first | exact trivial | (with_reducible first | apply awA | apply awC | apply awF | apply awI) | ((with_reducible first | apply awn | apply awo | refine awQ ?_); intro r hr; simp only [go_sem, Nat.reduceBEq, Nat.reduceLT, Nat.reduceLeDiff, Nat.reduceAdd, Nat.reduceMul, Nat.reduceEqDiff, yn, z6, e4, zp, zS, ht1, ht2, ha2, Nat.zero_add, wF, htB, haB, hlB] at hr; subst hr; (first | refine awV ?_ ?_ | refine awW ?_ ?_ | (refine zh (fun h => ?_) (fun h => ?_) <;> (try simp only [go_sem, reduceCtorEq] at h) <;> (try (exfalso; omega))))) | (refine zz [(19, 10000), (50, 10002), (24, 10003)] [(10000, 19), (10002, 50), (10003, 24)] [] [19, 50, 24] ?_; intro r hr; simp only [go_sem, Nat.reduceBEq, Nat.reduceLT, z6] at hr; subst hr; refine zR (hpa) rfl rfl (by first | exact .inl rfl | exact .inr rfl) ?_ (.inl rfl) ?_))) <;> (try omega)
    refine ⟨(i + 1, B ++ [py]), ?_, ⟨hlt, by show (B ++ [py]).length = i + 1; omega, hg⟩, by show N.length - (i + 1) < N.length - i; omega⟩
    simp only [hwi, hlB, go_sem, Nat.reduceBEq]
    try exact rfl
   ·have hl0 : 0 < (r1 ++ r2).length := List.length_pos_iff.2 hne
    have e4 : (((r1 ++ r2).length : Int) > 0) = True := eq_true (by omega)
    have hmi := zaV (r1 ++ r2) hl0 (by omega)
    (repeat' (first | exact trivial | (with_reducible first | apply awA | apply awF) | ((with_reducible first | apply awn | apply awo | refine awQ ?_); intro r hr; simp only [go_sem, Nat.reduceBEq, Nat.reduceLT, Nat.reduceLeDiff, Nat.reduceAdd, Nat.reduceEqDiff, yn, z6, e4, zp, zS, ht1, ht2, ha2, Nat.zero_add] at hr; subst hr; (first | refine awV ?_ ?_ | refine awW ?_ ?_ | (refine zh (fun h => ?_) (fun h => ?_) <;> (try simp only [go_sem, reduceCtorEq] at h) <;> (try (exfalso; omega))))) | (refine zz [(33, 10004)] [(10004, 33)] [] [33] ?_; intro r hr; simp only [go_sem, Nat.reduceBEq, Nat.reduceLT] at hr; subst hr; refine yQ (hmi) rfl rfl (by first | exact .inl rfl | exact .inr rfl) ?_ (.inl rfl) (fun q hq => xI ?_)))) <;> (try omega)
    refine ⟨?_⟩
    have hfin := hmin (r1 ++ r2) hR q hq
    (repeat' (first | exact trivial | (with_reducible first | apply awD | apply awF | apply awG | apply awJ) | ((with_reducible first | apply awo | refine wM ?_); intro r hr; simp only [go_sem, Nat.reduceBEq, Nat.reduceLT, uw] at hr; subst hr; (first | refine awV ?_ ?_ | refine y5 ?_ ?_)))) <;> (try omega)
    all_goals refine ⟨q, hfin, AV.up_rfl _, ?_⟩
    all_goals repeat first | exact zo | refine zn rfl ?_
 ·have e1 : ((i : Int) < (N.length : Int)) = False := eq_false (by omega)
  (repeat' (first | exact trivial | (with_reducible first | apply awA | apply awD | apply awE | apply awF | apply awH | apply awK) | ((with_reducible first | apply awn | refine awQ ?_ | refine wM ?_); intro r hr; simp only [go_sem, Nat.reduceBEq, Nat.reduceLT, e1] at hr; subst hr; (first | refine awV ?_ ?_ | refine y5 ?_ ?_ | (refine zh (fun h => ?_) (fun h => ?_) <;> (try simp only [go_sem, reduceCtorEq] at h) <;> (try (exfalso; omega))))))) <;> (try omega)
  all_goals refine ⟨-1, hsec _ (by rw [List.drop_of_length_le (by omega)]; rfl), AV.up_rfl _, ?_⟩
  all_goals repeat first | exact zo | refine zn rfl ?_
end
section
open Go.RowKit
def Dok (L : LkM) (D : List Nat) : Prop := ∀ d ∈ D, (L.getD d none).isSome = true
theorem WtH.len {L : LkM} {D : List Nat} {W : List Int} (h : WtH L D W) : W.length ≤ L.length := by
 have h1 : (W.map Int.toNat).Nodup := by
  rw [List.Nodup, List.pairwise_map]
  refine List.Pairwise.imp_of_mem (fun {a b} ha hb hab => ?_) h.nd
  have := ((h.mem a).1 ha).1
  have := ((h.mem b).1 hb).1
  omega
 have h2 := yV h1 (n := L.length) fun k hk => by
  obtain ⟨a, ha, rfl⟩ := List.mem_map.1 hk
  exact qy ((h.mem a).1 ha).2
 simpa using h2
def lkP (e : Bool) (C : List InsM) (N : List Int) (L : LkM) (W : List Int) : List (Nat × AObj) := (10001, .var [.ptr 1 10000 0 0]) :: lkO e C N L W
theorem Q8 (e : Bool) (C : List InsM) (N : List Int) (L : LkM) (W : List Int) (k : Int) : yb Tryz.prog 61 [vI k, .ptr 1 10001 0 0] (lkP e C N L W) (vB (decide ((C.length : Int) ≤ k))) (lkP e C N L W) := by
 unfold lkP lkO lkV
 refine zJ (zb _) Tryz.func61 rfl rfl (by rw [Tryz.results61]) Tryz.ntmps61 rfl fun E => ?_
 (repeat' (first | exact trivial | (with_reducible first | apply awA | apply awD | apply awF) | ((with_reducible first | apply awn | refine awT ?_); intro r hr; simp only [go_sem, Nat.reduceBEq, Nat.reduceLT, Nat.reduceLeDiff, Nat.reduceAdd, Nat.reduceMul, zd] at hr; subst hr; (first | refine awV ?_ ?_ | refine zP ?_ ?_ ?_)))) <;> (try omega)
 all_goals first | exact AV.up_rfl _ | exact AV.up_dead _ | (repeat first | exact zo | refine zn rfl ?_)
theorem JQ (e : Bool) (C : List InsM) (N : List Int) (L : LkM) (W : List Int) (ks : List Int) (hks : ks.length ≤ 1000000000) :
  yx Tryz.prog 81 [.lst 1 (v8 ks), .fn 61 [.ptr 1 10001 0 0]] (lkP e C N L W) (fun r : Int => decide (0 ≤ r) = ks.any fun j => decide ((C.length : Int) ≤ j)) (fun r => vI r) (fun _ => lkP e C N L W) := by
 unfold lkP lkO lkV
 refine xq (zb _) Tryz.func81 rfl rfl (by rw [Tryz.results81]) Tryz.ntmps81 rfl fun E => ?_
 (repeat' (first | exact trivial | (with_reducible first | apply awA | apply awB | apply awF) | ((with_reducible apply awn); intro r hr; simp only [go_sem, Nat.reduceBEq, Nat.reduceLT, zp] at hr; subst hr; (first | refine awV ?_ ?_)))) <;> (try omega)
 refine zI [0, 1, 6, 7, 8] [10001, 10000, 15000, 15001, 15002] (fun i : Nat => ⟨[(0, true, .lst 1 (v8 ks)), (1, true, .fn 61 [.ptr 1 10001 0 0]), (6, true, .lst 1 (v8 ks)), (7, true, vI ks.length), (8, true, vI i)],
  [(10001, .var [.ptr 1 10000 0 0]), (10000, .var [vB e, .lst 4 (zF C), .lst 1 (v8 N), .ref 52 6 15000 0 L.length, .ref 4 1 15001 0 L.length, .ref 3 1 15002 0 W.length]), (15000, .row 52 6 (yk L)), (15001, .row 4 1 (yl L)), (15002, .row 3 1 (v8 W))]⟩) (fun i => i ≤ ks.length ∧ ∀ j ∈ ks.take i, ¬ (C.length : Int) ≤ j) (fun i => ks.length - i) 0 (by simp only [go_sem, Nat.reduceBEq] <;> exact rfl) ⟨Nat.zero_le _, fun j hj => by simp at hj⟩ ?_
 intro i ⟨hi, hall⟩
 have hwi := zy (n := (i : Int) + 1) (by omega)
 have zi : ((i : Int)).toNat = i := by omega
 by_cases hlt : i < ks.length
 ·have e1 : ((i : Int) < (ks.length : Int)) = True := eq_true (by omega)
  have gi := xb hlt
  have hb := Q8 e C N L W ks[i]
  unfold lkP lkO lkV at hb
  by_cases hc : (C.length : Int) ≤ ks[i]
  ·rw [decide_eq_true hc] at hb
   (repeat' (first | exact trivial | (with_reducible first | apply awA | apply awB | apply awC | apply awD | apply awF | apply awG | apply awJ) | ((with_reducible first | apply awn | apply awo | refine awQ ?_ | refine wM ?_); intro r hr; simp only [go_sem, Nat.reduceBEq, Nat.reduceLT, Nat.reduceLeDiff, e1, zi, gi, zp] at hr; subst hr; (first | refine awV ?_ ?_ | refine awW ?_ ?_ | refine y5 ?_ ?_ | (refine zh (fun h => ?_) (fun h => ?_) <;> (try simp only [go_sem, reduceCtorEq] at h) <;> (try (exfalso; omega))))) | (refine yr (zb _) [(10001, 10001), (10000, 10000), (15000, 15000), (15001, 15001), (15002, 15002)] [(10001, 10001), (10000, 10000), (15000, 15000), (15001, 15001), (15002, 15002)] [15000, 15001, 15002] [10001, 10000] (by simp only [go_sem, Nat.reduceBEq, Nat.reduceLT, Nat.reduceSub] <;> exact rfl) ?_ rfl rfl (by first | exact .inl rfl | exact .inr rfl) (by simp only [go_sem, Nat.reduceBEq] <;> exact rfl) (hb) (.inl rfl) ?_))) <;> (try omega)
   all_goals refine ⟨(i : Int), ?_, AV.up_rfl _, ?_⟩
   all_goals first | (repeat first | exact zo | refine zn rfl ?_) | skip
   all_goals rw [decide_eq_true (show (0 : Int) ≤ (i : Int) by omega)]
   all_goals exact (List.any_eq_true.2 ⟨_, List.getElem_mem hlt, decide_eq_true hc⟩).symm
  ·rw [decide_eq_false hc] at hb
   (repeat' (first | exact trivial | (with_reducible first | apply awA | apply awB | apply awC | apply awF | apply awI) | ((with_reducible first | apply awn | apply awo | refine awQ ?_); intro r hr; simp only [go_sem, Nat.reduceBEq, Nat.reduceLT, Nat.reduceLeDiff, e1, zi, hwi, gi, zp] at hr; subst hr; (first | refine awV ?_ ?_ | refine awW ?_ ?_ | (refine zh (fun h => ?_) (fun h => ?_) <;> (try simp only [go_sem, reduceCtorEq] at h) <;> (try (exfalso; omega))))) | (refine yr (zb _) [(10001, 10001), (10000, 10000), (15000, 15000), (15001, 15001), (15002, 15002)] [(10001, 10001), (10000, 10000), (15000, 15000), (15001, 15001), (15002, 15002)] [15000, 15001, 15002] [10001, 10000] (by simp only [go_sem, Nat.reduceBEq, Nat.reduceLT, Nat.reduceSub] <;> exact rfl) ?_ rfl rfl (by first | exact .inl rfl | exact .inr rfl) (by simp only [go_sem, Nat.reduceBEq] <;> exact rfl) (hb) (.inl rfl) ?_))) <;> (try omega)
   refine ⟨i + 1, ?_, ⟨hlt, fun j hj => ?_⟩, by omega⟩
   ·simp only [go_sem, Nat.reduceBEq]
    try exact rfl
   ·rw [List.take_succ_eq_append_getElem hlt] at hj
    rcases List.mem_append.1 hj with hj | hj
    ·exact hall j hj
    ·simp at hj; subst hj; exact hc
 ·have e1 : ((i : Int) < (ks.length : Int)) = False := eq_false (by omega)
  (repeat' (first | exact trivial | (with_reducible first | apply awA | apply awD | apply awE | apply awF | apply awH | apply awK) | ((with_reducible first | apply awn | refine awQ ?_ | refine wM ?_); intro r hr; simp only [go_sem, Nat.reduceBEq, Nat.reduceLT, e1] at hr; subst hr; (first | refine awV ?_ ?_ | refine y5 ?_ ?_ | (refine zh (fun h => ?_) (fun h => ?_) <;> (try simp only [go_sem, reduceCtorEq] at h) <;> (try (exfalso; omega))))))) <;> (try omega)
  all_goals refine ⟨-1, ?_, AV.up_rfl _, ?_⟩
  all_goals first | (repeat first | exact zo | refine zn rfl ?_) | skip
  all_goals rw [List.take_of_length_le (by omega)] at hall
  all_goals exact (List.any_eq_false.2 fun j hj => by simpa using hall j hj).symm
theorem Wm (e : Bool) (C : List InsM) (N : List Int) (L : LkM) (W : List Int) (ks : List Int) (hks : ks.length ≤ 1000000000) :
  yb Tryz.prog 60 [.lst 1 (v8 ks), .fn 61 [.ptr 1 10001 0 0]] (lkP e C N L W) (vB (ks.any fun j => decide ((C.length : Int) ≤ j))) (lkP e C N L W) := by
 have hi := JQ e C N L W ks hks
 unfold lkP lkO lkV at *
 refine zJ (zb _) Tryz.func60 rfl rfl (by rw [Tryz.results60]) Tryz.ntmps60 rfl fun E => ?_
 (repeat' (first | exact trivial | (with_reducible first | apply awA | apply awD | apply awF) | ((with_reducible first | apply awn | apply awo | refine awT ?_); intro r hr; simp only [go_sem, Nat.reduceBEq, Nat.reduceLT] at hr; subst hr; (first | refine awV ?_ ?_ | refine awW ?_ ?_ | refine zP ?_ ?_ ?_)) | (refine zz [(10001, 10001), (10000, 10000), (15000, 15000), (15001, 15001), (15002, 15002)] [(10001, 10001), (10000, 10000), (15000, 15000), (15001, 15001), (15002, 15002)] [15000, 15001, 15002] [10001, 10000] ?_; intro r hr; simp only [go_sem, Nat.reduceBEq, Nat.reduceLT] at hr; subst hr; refine yQ (hi) rfl rfl (by first | exact .inl rfl | exact .inr rfl) ?_ (.inl rfl) (fun q hq => ?_)))) <;> (try omega)
 all_goals first | (rw [← hq]; exact AV.up_rfl _) | exact AV.up_rfl _ | (repeat first | exact zo | refine zn rfl ?_)
def zaI (C : List InsM) (D : List Nat) (R : Except Int LkM) (q : Int × LkM × List Int) : Prop :=
 q.2.1.length = C.length ∧ match R with
 | .ok L1 => q.1 = -1 ∧ q.2.1 = L1 ∧ WtH L1 D q.2.2 ∧ Dok L1 D
 | .error j => q.1 = j ∧ 0 ≤ j
theorem ur {e : Bool} {C : List InsM} {L : LkM} {k : Nat} {s : StM} {t : Int} (h : L.getD k none = none) : xF e C L k s t = some (L.set k (some s)) := by unfold xF; rw [h]
theorem ut {e : Bool} {C : List InsM} {L : LkM} {k : Nat} {s s0 : StM} {t : Int} (h : L.getD k none = some s0) : xF e C L k s t = none ∨ xF e C L k s t = some L := by
 unfold xF
 rw [h]
 simp only
 split
 ·exact .inr rfl
 ·split
  ·exact .inr rfl
  ·exact .inl rfl
theorem Dok.set {L : LkM} {D : List Nat} (h : Dok L D) (k : Nat) (s : StM) : Dok (L.set k (some s)) D := fun d hd => by
 have h1 := h d hd
 by_cases hk : k = d
 ·subst hk
  have : k < L.length := by
   rcases Nat.lt_or_ge k L.length with h' | h'
   ·exact h'
   ·simp [List.getD, List.getElem?_eq_none h'] at h1
  simp [List.getD, this]
 ·simp only [List.getD, List.getElem?_set_ne hk] at h1 ⊢
  exact h1
theorem Dok.none {L : LkM} {D : List Nat} (h : Dok L D) {k : Nat} (hk : L.getD k none = Option.none) : k ∉ D := fun hm => by
 have := h k hm
 rw [hk] at this
 cases this
end
end Go.Proofs.YtjeplogcfedmeaaGreat

import Derived.Test.YtjeplogcfedmeaaP8
set_option linter.all false
section
namespace Go.Proofs.Ytjeplogcfedmeaa
open Go.RowKit
set_option maxRecDepth 100000
set_option maxHeartbeats 8000000
def nL (L : List (Nat × Int × List Nat)) : List (Nat × Int × List Int) := L.map fun e => (e.1, e.2.1, natI e.2.2)
theorem mf_nL (k : Int) (L : List (Nat × Int × List Nat)) : mf k (nL L) = (mf k L).map natI := by
 induction L with
 | nil => rfl
 | cons e L ih =>
  obtain ⟨b, k', l⟩ := e
  rw [show nL ((b, k', l) :: L) = (b, k', natI l) :: nL L from rfl]
  simp only [mf]
  split
  ·rfl
  ·exact ih
theorem mset_nL (c : Nat) (k : Int) (l : List Nat) (L : List (Nat × Int × List Nat)) : mset c k (natI l) (nL L) = nL (mset c k l L) := by
 induction L with
 | nil => rfl
 | cons e L ih =>
  obtain ⟨b, k', l'⟩ := e
  rw [show nL ((b, k', l') :: L) = (b, k', natI l') :: nL L from rfl]
  simp only [mset]
  split
  ·rfl
  ·rw [ih]; rfl
theorem mclk_nL (c : Nat) (k : Int) (L : List (Nat × Int × List Nat)) : mclk c k (nL L) = mclk c k L := by
 unfold mclk
 rw [mf_nL]
 cases mf k L <;> rfl
theorem mI_nL (L : List (Nat × Int × List Nat)) : mI (fun l : List Int => .lst 1 (v8 l)) (nL L) = mL L := by
 simp [mI, nL, List.map_map, Function.comp, lsF]
theorem atL_nL (L : List (Nat × Int × List Nat)) (k : Nat) : (mf (k : Int) (nL L)).getD [] = natI (atL L k) := by
 rw [mf_nL]
 unfold atL
 cases mf (k : Int) L <;> rfl
theorem atL_mset (c : Nat) (k : Nat) (l : List Nat) (L : List (Nat × Int × List Nat)) (y : Nat) : atL (mset c (k : Int) l L) y = if y = k then l else atL L y := by
 unfold atL
 rw [mf_mset]
 by_cases h : y = k
 ·subst h; simp
 ·rw [if_neg (by omega), if_neg h]
theorem mK_lo (M : List (Nat × Int × Unit)) : (∀ e ∈ mK M, e.2.2.lo = true) = True := eq_true fun e he => by
 obtain ⟨x, _, rfl⟩ := List.mem_map.1 he
 rfl
theorem mL_lo (L : List (Nat × Int × List Nat)) : (∀ e ∈ mL L, e.2.2.lo = true) = True := eq_true fun e he => by
 obtain ⟨x, _, rfl⟩ := List.mem_map.1 he
 rfl
structure RingsI (C : List InsM) (B : List Bool) (M : List (Nat × Int × Unit)) (q : List Nat) : Prop where
 iff : ∀ k, k ∈ q ↔ k ∈ keyN M ∧ Rch (wayR C (bareF C B)) k k
 len : q.length ≤ 1048576
theorem ways_len {C : List InsM} {N : List Int} (hok : CodeOK C N) {x : Nat} (hxC : x < C.length) : (waysF C x (insAt C x)).length ≤ 10000000 := by
 have hC := hok.len
 unfold waysF
 split
 ·simp
 ·split
  ·simp
  ·split
   ·rename_i h8
    have := hok.arms x hxC h8
    simp
    omega
   ·split <;> simp
structure NoteI (C : List InsM) (B : List Bool) (V : List (Nat × Int × Unit)) (cur : Option (Nat × Nat)) (T : Nat) (L1 L2 : List (Nat × Int × List Nat)) : Prop where
 cnt : ∀ x y, (atL L1 x).count y = (atL L2 y).count x
 old : ∀ x ∈ keyN V, ∀ y, y ∈ atL L1 x ↔ wayR C (bareF C B) x y
 new : ∀ x, x ∉ keyN V → (∀ j, cur ≠ some (x, j)) → atL L1 x = []
 now : ∀ x j, cur = some (x, j) → ∀ y, y ∈ atL L1 x ↔ ∃ w, w < j ∧ (waysF C x (insAt C x))[w]? = some (y : Int) ∧ bareF C B x w = true
 l1 : ∀ x, (atL L1 x).length ≤ T
 l2 : ∀ x, (atL L2 x).length ≤ T
theorem NoteI.add {C : List InsM} {B : List Bool} {V : List (Nat × Int × Unit)} {x j T c1 c2 m : Nat} {L1 L2 : List (Nat × Int × List Nat)} (h : NoteI C B V (some (x, j)) T L1 L2) (hx : x ∉ keyN V) (hm : (waysF C x (insAt C x))[j]? = some (m : Int)) (hg : bareF C B x j = true) :
  NoteI C B V (some (x, j + 1)) (T + 1) (mset c1 (x : Int) (atL L1 x ++ [m]) L1) (mset c2 (m : Int) (atL L2 m ++ [x]) L2) := by
 refine ⟨fun a b => ?_, fun a ha y => ?_, fun a ha hc => ?_, fun a i hi y => ?_, fun a => ?_, fun a => ?_⟩
 ·rw [atL_mset, atL_mset]
  have := h.cnt a b
  by_cases h1 : a = x <;> by_cases h2 : b = m
  ·subst h1; subst h2; simp [this]
  ·subst h1; simp [h2, this, Ne.symm h2]
  ·subst h2; simp [h1, this, Ne.symm h1]
  ·simp [h1, h2, this]
 ·rw [atL_mset, if_neg (by rintro rfl; exact hx ha)]; exact h.old a ha y
 ·rw [atL_mset, if_neg (by rintro rfl; exact hc _ rfl)]
  exact h.new a ha fun i hi => by injection hi with hi; injection hi with h1 h2; subst h1; exact hc _ rfl
 ·injection hi with hi
  injection hi with h1 h2
  subst h1
  subst h2
  rw [atL_mset, if_pos rfl, List.mem_append, List.mem_singleton, h.now x j rfl]
  constructor
  ·rintro (⟨w, h1, h2⟩ | rfl)
   ·exact ⟨w, by omega, h2⟩
   ·exact ⟨j, by omega, hm, hg⟩
  ·rintro ⟨w, h1, h2, h3⟩
   by_cases hw : w = j
   ·subst hw; rw [hm] at h2; injection h2 with h2; exact .inr (by omega)
   ·exact .inl ⟨w, by omega, h2, h3⟩
 ·rw [atL_mset]; have := h.l1 x; have := h.l1 a; split <;> simp <;> omega
 ·rw [atL_mset]; have := h.l2 m; have := h.l2 a; split <;> simp <;> omega
theorem NoteI.skip {C : List InsM} {B : List Bool} {V : List (Nat × Int × Unit)} {x j T : Nat} {L1 L2 : List (Nat × Int × List Nat)} (h : NoteI C B V (some (x, j)) T L1 L2) (hg : bareF C B x j = false) : NoteI C B V (some (x, j + 1)) (T + 1) L1 L2 := by
 refine ⟨h.cnt, h.old, fun a ha hc => h.new a ha fun i hi => by injection hi with hi; injection hi with h1 h2; subst h1; exact hc _ rfl, fun a i hi y => ?_, fun a => Nat.le_succ_of_le (h.l1 a), fun a => Nat.le_succ_of_le (h.l2 a)⟩
 injection hi with hi
 injection hi with h1 h2
 subst h1
 subst h2
 rw [h.now x j rfl]
 constructor
 ·rintro ⟨w, h1, h2⟩; exact ⟨w, by omega, h2⟩
 ·rintro ⟨w, h1, h2, h3⟩
  by_cases hw : w = j
  ·subst hw; rw [hg] at h3; cases h3
  ·exact ⟨w, by omega, h2, h3⟩
theorem NoteI.enter {C : List InsM} {B : List Bool} {V : List (Nat × Int × Unit)} {x T : Nat} {L1 L2 : List (Nat × Int × List Nat)} (h : NoteI C B V none T L1 L2) (hx : x ∉ keyN V) : NoteI C B V (some (x, 0)) T L1 L2 :=
 ⟨h.cnt, h.old, fun a ha _ => h.new a ha fun _ h => (by cases h), fun a i hi y => by
  injection hi with hi
  injection hi with h1 h2
  subst h1
  subst h2
  rw [h.new x hx fun _ h => (by cases h)]
  exact ⟨fun h => (by cases h), fun ⟨w, hw, _⟩ => by omega⟩, h.l1, h.l2⟩
theorem NoteI.leave {C : List InsM} {B : List Bool} {V : List (Nat × Int × Unit)} {x j T : Nat} {L1 L2 : List (Nat × Int × List Nat)} {e : Nat × Int × Unit} (h : NoteI C B V (some (x, j)) T L1 L2) (hj : (waysF C x (insAt C x)).length ≤ j) (he : e.2.1 = (x : Int)) : NoteI C B (V ++ [e]) none T L1 L2 := by
 have hk : ∀ y, y ∈ keyN (V ++ [e]) ↔ y ∈ keyN V ∨ y = x := fun y => by simp [keyN, he]
 refine ⟨h.cnt, fun a ha y => ?_, fun a ha _ => h.new a (fun h => ha ((hk a).2 (.inl h))) fun i hi => by injection hi with hi; injection hi with h1 h2; exact ha ((hk a).2 (.inr h1.symm)), fun _ _ h => (by cases h), h.l1, h.l2⟩
 by_cases hax : a = x
 ·subst hax
  rw [h.now a j rfl]
  exact ⟨fun ⟨w, _, h2, h3⟩ => ⟨w, h2, h3⟩, fun ⟨w, h2, h3⟩ => ⟨w, Nat.lt_of_lt_of_le (lt_of_get h2) hj, h2, h3⟩⟩
 ·exact h.old a (((hk a).1 ha).resolve_right hax) y
theorem rings_E (e : Bool) (C : List InsM) (N : List Int) (B : List Bool) (en : Int) (c : Nat) (M : List (Nat × Int × Unit)) (hok : CodeOK C N) (S : Nat → Prop) (hS : ClosedS C B S) (hM : MapOK c M) (hMS : ∀ k ∈ keyN M, S k) (hcl : ∀ k ∈ keyN M, ∀ j ∈ waysF C k (insAt C k), j.toNat ∈ keyN M) :
  GCallE Try.prog 39 [.ptr 1 10000 0 0] (rtO e C N B en c M) (RingsI C B M) (fun q => .ref 3 1 88 0 q.length) (fun q => rtO e C N B en c M ++ [(88, .row 3 1 (v8 (natI q)))]) := by
 have hC := hok.len
 have hlen := hM.len
 have hre := fun (k : Nat) (hk : S k) => reach2 e C N B en c M hok S hS [k] (by simp) (by simpa using hk) (by simp)
 unfold rtO rtV at *
 refine go_fnE (tyOf_ok _) Try.func39 rfl rfl (by rw [Try.results39]) Try.ntmps39 rfl fun E => ?_
 (repeat' (first | exact trivial | (with_reducible first | apply awA | apply awB | apply awF) | ((with_reducible first | refine awN (tyOf_ok _) [4000013, 4000014] ?_ | refine awO (tyOf_ok _) [4000013, 4000014] ?_); intro r hr; simp only [go_sem, Nat.reduceBEq, Nat.reduceLT, Nat.reduceLeDiff, Nat.reduceAdd, Nat.reduceMul, mK_kill] at hr; subst hr; (first | refine awV ?_ ?_ | refine awW ?_ ?_)) | (refine al_mrange (tyOf_ok _) (u := 19) rfl rfl rfl ⟨by decide, by decide⟩ rfl rfl t74 rfl rfl (by decide) ?_))) <;> (try omega)
 refine aw_mapl 13 3 (by decide) (by simp only [go_sem, Nat.reduceBEq]) ?_
 refine aw_mapl 14 3 (by decide) (by simp only [go_sem, Nat.reduceBEq]) ?_
 refine go_loop [0, 3, 4, 19] [10000, 10002, 10003, 13, 14, 19] (fun q : List (Nat × Int × Unit) × Nat × List (Nat × Int × List Nat) × Nat × List (Nat × Int × List Nat) => ⟨[(0, true, .ptr 1 10000 0 0), (3, true, .map 13), (4, true, .map 14), (19, true, .ptr 1 19 0 0)],
  [(10000, .var [vB e, .lst 4 (encIs C), .lst 1 (v8 N), .ref 4 1 10002 0 B.length, vI en, .map 10003]), (10002, .row 4 1 (encT B)), (10003, .mapr c (mK M)), (13, .mapl 3 q.2.1 (nL q.2.2.1) none), (14, .mapl 3 q.2.2.2.1 (nL q.2.2.2.2) none), (19, .iter 10003 true c (q.1.map (·.1)))]⟩)
  (fun q => (∀ e ∈ q.1, e ∈ M) ∧ (q.1.map (·.1)).Nodup ∧ NoteI C B q.1 none (q.1.length * 10000000) q.2.2.1 q.2.2.2.2) (fun q => M.length - q.1.length) ([], 0, [], 0, [])
  (by simp only [go_sem, Nat.reduceBEq] <;> exact rfl) ⟨fun e he => (by cases he), List.nodup_nil, ⟨fun _ _ => rfl, fun x hx => by simp [keyN] at hx, fun _ _ _ => rfl, fun _ _ h => (by cases h), fun _ => Nat.zero_le _, fun _ => Nat.zero_le _⟩⟩ ?_
 intro ⟨V, c1, L1, c2, L2⟩ ⟨hV, hVn, hN⟩
 simp only at hV hVn hN ⊢
 have hVl : V.length ≤ M.length := by
  refine nodup_sub_len ?_ hV
  rw [List.Nodup, List.pairwise_map] at hVn
  exact hVn.imp fun h e => h (by rw [e])
 (repeat' (first | exact trivial | (with_reducible apply awA) | ((with_reducible apply awn); intro r hr; simp only [go_sem, Nat.reduceBEq] at hr; subst hr; (first | refine awW ?_ ?_)) | (refine al_mnext (d := 10003) (u := 19) (L := M) (f := fun _ => AV.dead) rfl rfl ⟨by decide, by decide⟩ rfl rfl rfl rfl hM.lt rfl (fun h0 => hold ?_) (fun x hx hxn => hold ?_)))) <;> (try omega)
 ·refine ⟨?_⟩
  have hVK : ∀ k, k ∈ keyN M → k ∈ keyN V := fun k h => by
   obtain ⟨e, he, rfl⟩ := List.mem_map.1 h
   obtain ⟨e', he', h2⟩ := List.mem_map.1 (h0 e he)
   have : e' = e := nodup_map_inj hM.nd (hV e' he') he h2
   subst this
   exact List.mem_map.2 ⟨e', he', rfl⟩
  have hon : ∀ x ∈ keyN M, ∀ y, y ∈ atL L1 x ↔ wayR C (bareF C B) x y := fun x hx => hN.old x (hVK x hx)
  have hcn := hN.cnt
  have hl1 : ∀ k, (atL L1 k).length ≤ 17000000000000 := fun k => by have := hN.l1 k; omega
  have hl2 : ∀ k, (atL L2 k).length ≤ 17000000000000 := fun k => by have := hN.l2 k; omega
  have hklt : ∀ k ∈ keyN M, k < C.length := fun k hk => hS.lt k (hMS k hk)
  have hp1 := peeled_E c c1 c2 C.length M hM L1 L2 hC hklt hl1 hl2 hcn
  clear hN hV hVn hVl hVK h0
  (repeat' (first | exact trivial | (refine aw_lfrz 13 (by decide) rfl (by simp only [go_sem, Nat.reduceLT]) (by simp only [go_sem, Nat.reduceBEq, Nat.reduceLT, mK_lo]) ?_) | (refine aw_lfrz 14 (by decide) rfl (by simp only [go_sem, Nat.reduceLT]) (by simp only [go_sem, Nat.reduceBEq, Nat.reduceLT, mK_lo, mI_nL, mL_lo]) ?_) | (with_reducible first | apply awA | apply awE | apply awF | apply awH | apply awK) | ((with_reducible first | apply awn | apply awo | refine awQ ?_); intro r hr; simp only [go_sem, Nat.reduceBEq, Nat.reduceLT, Nat.reduceLeDiff, Nat.reduceAdd, Nat.reduceMul, mI_nL] at hr; subst hr; (first | refine awV ?_ ?_ | refine awW ?_ ?_ | (refine condK (fun h => ?_) (fun h => ?_) <;> (try simp only [go_sem, reduceCtorEq] at h) <;> (try (exfalso; omega))))) | (refine go_callGE [(10003, 10003), (13, 10006), (14, 10007)] [(21, 63), (10003, 10003), (10006, 13), (10007, 14)] [63] [10003, 13, 14] ?_; intro r hr; simp only [go_sem, Nat.reduceBEq, Nat.reduceLT, mK_ren, mL_ren] at hr; subst hr; refine callGV (hp1) rfl rfl (by first | exact .inl rfl | exact .inr rfl) ?_ (.inl rfl) (fun q hq => hold ?_)))) <;> (try omega)
  ·refine ⟨?_⟩
   obtain ⟨M1, rfl⟩ : ∃ z, z = q := ⟨_, rfl⟩
   have hq1 := hq
   clear hq
   have hM1 := hM.sub hq1.sub
   have hklt1 : ∀ k ∈ keyN M1, k < C.length := fun k hk => hklt k ((hq1.sub.map _).mem hk)
   have hp2 := peeled_E c c2 c1 C.length M1 hM1 L2 L1 hC hklt1 hl2 hl1 fun x y => (hcn y x).symm
   (repeat' (first | exact trivial | (refine aw_nilrow 9 3 1 88 (.inl (by decide)) rfl ?_) | (with_reducible first | apply awA | apply awF) | ((with_reducible first | apply awn | apply awo); intro r hr; simp only [go_sem, Nat.reduceBEq, Nat.reduceLT, mK_kill, mK_ren, mL_kill, mL_ren, AState.nilrow] at hr; subst hr; (first | refine awV ?_ ?_ | refine awW ?_ ?_)) | (refine go_callGE [(63, 10003), (14, 10006), (13, 10007)] [(21, 67), (10003, 63), (10006, 14), (10007, 13)] [67] [63, 14, 13] ?_; intro r hr; simp only [go_sem, Nat.reduceBEq, Nat.reduceLT, mK_ren, mL_ren] at hr; subst hr; refine callGV (hp2) rfl rfl (by first | exact .inl rfl | exact .inr rfl) ?_ (.inl rfl) (fun q hq => hold ?_)))) <;> (try omega)
   refine ⟨?_⟩
   obtain ⟨M2, rfl⟩ : ∃ z, z = q := ⟨_, rfl⟩
   have hq2 := hq
   clear hq
   have hM2 := hM1.sub hq2.sub
   have hring : ∀ k, k ∈ keyN M → Rch (wayR C (bareF C B)) k k → k ∈ keyN M2 := fun k hk hr => by
    have hclR : ∀ x ∈ keyN M, ∀ y, wayR C (bareF C B) x y → y ∈ keyN M := fun x hx y ⟨w, h1, _⟩ => by
     have := hcl x hx _ (List.mem_of_getElem? h1)
     rwa [Int.toNat_natCast] at this
    have h1 := cyc_on hon hclR hk
    have hK1 : ∀ y, Rch (wayR C (bareF C B)) k y → Rch (wayR C (bareF C B)) y k → y ∈ keyN M1 := fun y h2 h3 => by
     obtain ⟨e, he, h4⟩ := List.mem_map.1 (hq1.cy _ h1 y ⟨h2, h3⟩)
     exact List.mem_map.2 ⟨e, he, by omega⟩
    have hsub : ∀ y ∈ keyN M1, y ∈ keyN M := fun y hy => (hq1.sub.map _).mem hy
    have h2 := cyc_back (R := wayR C (bareF C B)) (back := atL L2) (x := k) hK1 fun y hy z hz => by
     rw [← hon z (hsub z hz) y, ← List.count_pos_iff, ← List.count_pos_iff, hcn]
    obtain ⟨e, he, h4⟩ := List.mem_map.1 (hq2.cy _ h2 k ⟨hr, hr⟩)
    exact List.mem_map.2 ⟨e, he, by omega⟩
   have hsub2 : ∀ y ∈ keyN M2, y ∈ keyN M := fun y hy => ((hq2.sub.trans hq1.sub).map _).mem hy
   have hl2' : M2.length ≤ M.length := (hq2.sub.trans hq1.sub).length_le
   clear hp1 hp2 hq1 hq2 hon hcn hl1 hl2 hklt hklt1 hM1
   (repeat' (first | exact trivial | (with_reducible first | apply awB | apply awF) | ((with_reducible apply awo); intro r hr; simp only [go_sem, Nat.reduceBEq, Nat.reduceLT, mK_kill, mK_cut, mK_ren, mL_kill, mL_ren] at hr; subst hr; (first | refine awV ?_ ?_ | refine awW ?_ ?_)) | (refine al_mrange (tyOf_ok _) (u := 68) rfl rfl rfl ⟨by decide, by decide⟩ rfl rfl t74 rfl rfl (by decide) ?_))) <;> (try omega)
   refine go_loop [0, 9, 68] [10000, 10002, 10003, 67, 68, 88] (fun q : List (Nat × Int × Unit) × List Nat => ⟨[(0, true, .ptr 1 10000 0 0), (9, true, .ref 3 1 88 0 q.2.length), (68, true, .ptr 1 68 0 0)],
    [(10000, .var [vB e, .lst 4 (encIs C), .lst 1 (v8 N), .ref 4 1 10002 0 B.length, vI en, .map 10003]), (10002, .row 4 1 (encT B)), (10003, .mapr c (mK M)), (67, .mapr c (mK M2)), (68, .iter 67 true c (q.1.map (·.1))), (88, .row 3 1 (v8 (natI q.2)))]⟩)
    (fun q => (∀ e ∈ q.1, e ∈ M2) ∧ (q.1.map (·.1)).Nodup ∧ (∀ k, k ∈ q.2 ↔ k ∈ keyN q.1 ∧ Rch (wayR C (bareF C B)) k k) ∧ q.2.length ≤ q.1.length) (fun q => M2.length - q.1.length) ([], [])
    (by simp only [go_sem, Nat.reduceBEq] <;> exact rfl) ⟨fun e he => (by cases he), List.nodup_nil, fun k => by simp [keyN], Nat.zero_le _⟩ ?_
   intro ⟨V, r⟩ ⟨hV, hVn, hr, hrl⟩
   simp only at hV hVn hr hrl ⊢
   have hVl : V.length ≤ M2.length := by
    refine nodup_sub_len ?_ hV
    rw [List.Nodup, List.pairwise_map] at hVn
    exact hVn.imp fun h e => h (by rw [e])
   (repeat' (first | exact trivial | (with_reducible apply awA) | ((with_reducible apply awn); intro r hr; simp only [go_sem, Nat.reduceBEq] at hr; subst hr; (first | refine awW ?_ ?_)) | (refine al_mnext (d := 67) (u := 68) (L := M2) (f := fun _ => AV.dead) rfl rfl ⟨by decide, by decide⟩ rfl rfl rfl rfl hM2.lt rfl (fun h0 => hold ?_) (fun x hx hxn => hold ?_)))) <;> (try omega)
   ·refine ⟨?_⟩
    (repeat' (first | exact trivial | (with_reducible first | apply awA | apply awD | apply awE | apply awF | apply awH | apply awK) | ((with_reducible first | apply awn | apply awo | refine awQ ?_ | refine aweR ?_); intro r hr; simp only [go_sem, Nat.reduceBEq, Nat.reduceLT] at hr; subst hr; (first | refine awV ?_ ?_ | refine endEK ?_ ?_ | (refine condK (fun h => ?_) (fun h => ?_) <;> (try simp only [go_sem, reduceCtorEq] at h) <;> (try (exfalso; omega))))))) <;> (try omega)
    ·refine ⟨r, ⟨fun k => ?_, by omega⟩, AV.up_rfl _, ?_⟩
     ·rw [hr]
      constructor
      ·rintro ⟨h1, h2⟩
       obtain ⟨e, he, rfl⟩ := List.mem_map.1 h1
       exact ⟨hsub2 _ (List.mem_map.2 ⟨e, hV e he, rfl⟩), h2⟩
      ·rintro ⟨h1, h2⟩
       refine ⟨?_, h2⟩
       obtain ⟨e, he, h3⟩ := List.mem_map.1 (hring k h1 h2)
       obtain ⟨e', he', h4⟩ := List.mem_map.1 (h0 e he)
       have : e' = e := nodup_map_inj hM2.nd (hV e' he') he h4
       subst this
       exact List.mem_map.2 ⟨e', he', h3⟩
     ·repeat first | exact obUp_nil | refine obUp_cons rfl ?_
   ·refine ⟨?_⟩
    obtain ⟨bx, kx, ux⟩ := x
    have hpos := hM2.pos _ hx
    obtain ⟨k, rfl⟩ : ∃ k : Nat, kx = k := ⟨kx.toNat, by simp only at hpos; omega⟩
    have hkM : k ∈ keyN M := hsub2 k (List.mem_map.2 ⟨_, hx, by simp⟩)
    have hkV : k ∉ keyN V := fun h => by
     obtain ⟨e', he', h2⟩ := List.mem_map.1 h
     have hp' := hM2.pos e' (hV e' he')
     have : e' = (bx, (k : Int), ux) := nodup_map_inj hM2.kd (hV e' he') hx (by show e'.2.1 = (k : Int); omega)
     subst this
     exact hxn (List.mem_map.2 ⟨_, he', rfl⟩)
    have hV2 : ∀ e ∈ V ++ [(bx, (k : Int), ux)], e ∈ M2 := fun e he => by
     rcases List.mem_append.1 he with h | h
     ·exact hV e h
     ·simp at h; subst h; exact hx
    have hVn2 : ((V ++ [(bx, (k : Int), ux)]).map (·.1)).Nodup := by
     rw [List.map_append, List.nodup_append]
     exact ⟨hVn, by simp, fun a ha b hb hab => by simp at hb; subst hb; subst hab; exact hxn ha⟩
    have hVl2 : (V ++ [(bx, (k : Int), ux)]).length ≤ M2.length := by
     refine nodup_sub_len ?_ hV2
     rw [List.Nodup, List.pairwise_map] at hVn2
     exact hVn2.imp fun h e => h (by rw [e])
    have hVs : (V ++ [(bx, (k : Int), ux)]).length = V.length + 1 := by simp
    have hkV2 : ∀ y, y ∈ keyN (V ++ [(bx, (k : Int), ux)]) ↔ y ∈ keyN V ∨ y = k := fun y => by simp [keyN]
    have hVm : (V.map (·.1)) ++ [bx] = (V ++ [(bx, (k : Int), ux)]).map (·.1) := by simp
    have hrk := hre k (hMS k hkM)
    (repeat' (first | exact trivial | (with_reducible first | apply awA | apply awB | apply awC | apply awF) | ((with_reducible first | refine awN (tyOf_ok _) [76] ?_ | refine awO (tyOf_ok _) [76] ?_ | refine awQ ?_); intro r hr; simp only [go_sem, Nat.reduceBEq, Nat.reduceLT, Nat.reduceLeDiff, Nat.reduceAdd, Nat.reduceMul, mK_kill] at hr; subst hr; (first | refine awV ?_ ?_ | refine awW ?_ ?_ | (refine condK (fun h => ?_) (fun h => ?_) <;> (try simp only [go_sem, reduceCtorEq] at h) <;> (try (exfalso; omega))))) | (refine al_mentry (d := 67) (u := 68) (L := M2) (f := fun _ => AV.dead) (e := (bx, (k : Int), ux)) rfl rfl ⟨by decide, by decide⟩ rfl rfl rfl rfl hx hM2.nd ?_) | (refine go_callGE [(10000, 10000), (10002, 10002), (10003, 10003), (76, 10004)] [(14, 79), (10000, 10000), (10002, 10002), (10003, 10003), (10004, 76)] [79] [10000, 10002, 10003, 76] ?_; intro r hr; simp only [go_sem, Nat.reduceBEq, Nat.reduceLT, mK_ren] at hr; subst hr; refine callGV (hrk) rfl rfl (by first | exact .inl rfl | exact .inr rfl) ?_ (.inl rfl) (fun q hq => hold ?_)))) <;> (try omega)
    refine ⟨?_⟩
    have hqk : k ∈ q ↔ Rch (wayR C (bareF C B)) k k := by
     rw [hq.iff]
     exact ⟨fun ⟨a, ha, h⟩ => by simp at ha; subst ha; exact h, fun h => ⟨k, by simp, h⟩⟩
    by_cases hin : k ∈ q
    ·have hf := mf_qL_some hin
     have ht : (v8 (natI r)).take r.length = v8 (natI r) := by rw [v8_take, List.take_of_length_le (by rw [natI_len]; omega)]
     have ha := natI_app r k
     have hl3 : (r ++ [k]).length = r.length + 1 := by simp
     (repeat' (first | exact trivial | (with_reducible first | apply awA | apply awF | apply awI) | ((with_reducible first | apply awn | apply awo | refine awQ ?_); intro r hr; simp only [go_sem, Nat.reduceBEq, Nat.reduceLT, Nat.reduceLeDiff, Nat.reduceAdd, Nat.reduceMul, Nat.reduceEqDiff, mK_kill, mK_cut, mK_ren, v8_len, natI_len, ht, ha, hl3] at hr; subst hr; (first | refine awV ?_ ?_ | refine awW ?_ ?_ | (refine condK (fun h => ?_) (fun h => ?_) <;> (try simp only [go_sem, reduceCtorEq] at h) <;> (try (exfalso; omega))))) | (refine al_mlook (tyOf_ok _) (d := 79) (L := qL q) (f := fun _ => AV.dead) (key := (k : Int)) (z := .int .i64 0) rfl rfl ⟨by decide, by decide⟩ rfl rfl rfl rfl t74 rfl t3 rfl zero_int rfl rfl (by rw [hf]) ?_))) <;> (try omega)
     refine ⟨(V ++ [(bx, (k : Int), ux)], r ++ [k]), ?_, ⟨hV2, hVn2, fun y => ?_, by show (r ++ [k]).length ≤ (V ++ [(bx, (k : Int), ux)]).length; rw [hVs, hl3]; omega⟩, by show M2.length - (V ++ [(bx, (k : Int), ux)]).length < M2.length - V.length; omega⟩
     ·simp only [hVm, hl3, go_sem, Nat.reduceBEq]
      try exact rfl
     ·show y ∈ r ++ [k] ↔ y ∈ keyN (V ++ [(bx, (k : Int), ux)]) ∧ _
      rw [List.mem_append, List.mem_singleton, hr, hkV2]
      constructor
      ·rintro (⟨h1, h2⟩ | rfl)
       ·exact ⟨.inl h1, h2⟩
       ·exact ⟨.inr rfl, hqk.1 hin⟩
      ·rintro ⟨h1 | h1, h2⟩
       ·exact .inl ⟨h1, h2⟩
       ·exact .inr h1
    ·have hf := mf_qL_none hin
     (repeat' (first | exact trivial | (with_reducible first | apply awA | apply awC | apply awF | apply awI) | ((with_reducible first | apply awn | apply awo | refine awQ ?_); intro r hr; simp only [go_sem, Nat.reduceBEq, Nat.reduceLT, mK_cut, mK_ren] at hr; subst hr; (first | refine awV ?_ ?_ | refine awW ?_ ?_ | (refine condK (fun h => ?_) (fun h => ?_) <;> (try simp only [go_sem, reduceCtorEq] at h) <;> (try (exfalso; omega))))) | (refine al_mlook (tyOf_ok _) (d := 79) (L := qL q) (f := fun _ => AV.dead) (key := (k : Int)) (z := .int .i64 0) rfl rfl ⟨by decide, by decide⟩ rfl rfl rfl rfl t74 rfl t3 rfl zero_int rfl rfl (by rw [hf]) ?_))) <;> (try omega)
     refine ⟨(V ++ [(bx, (k : Int), ux)], r), ?_, ⟨hV2, hVn2, fun y => ?_, by show r.length ≤ (V ++ [(bx, (k : Int), ux)]).length; omega⟩, by show M2.length - (V ++ [(bx, (k : Int), ux)]).length < M2.length - V.length; omega⟩
     ·simp only [hVm, go_sem, Nat.reduceBEq]
      try exact rfl
     ·show y ∈ r ↔ y ∈ keyN (V ++ [(bx, (k : Int), ux)]) ∧ _
      rw [hr, hkV2]
      exact ⟨fun h => ⟨.inl h.1, h.2⟩, fun h => ⟨h.1.resolve_right fun e => by subst e; exact hin (hqk.2 h.2), h.2⟩⟩
 ·refine ⟨?_⟩
  obtain ⟨bx, kx, ux⟩ := x
  have hpos := hM.pos _ hx
  obtain ⟨x, rfl⟩ : ∃ k : Nat, kx = k := ⟨kx.toNat, by simp only at hpos; omega⟩
  have hxM : x ∈ keyN M := List.mem_map.2 ⟨_, hx, by simp⟩
  have hxV : x ∉ keyN V := fun h => by
   obtain ⟨e', he', h2⟩ := List.mem_map.1 h
   have hp' := hM.pos e' (hV e' he')
   have : e' = (bx, (x : Int), ux) := nodup_map_inj hM.kd (hV e' he') hx (by show e'.2.1 = (x : Int); omega)
   subst this
   exact hxn (List.mem_map.2 ⟨_, he', rfl⟩)
  have hV2 : ∀ e ∈ V ++ [(bx, (x : Int), ux)], e ∈ M := fun e he => by
   rcases List.mem_append.1 he with h | h
   ·exact hV e h
   ·simp at h; subst h; exact hx
  have hVn2 : ((V ++ [(bx, (x : Int), ux)]).map (·.1)).Nodup := by
   rw [List.map_append, List.nodup_append]
   exact ⟨hVn, by simp, fun a ha b hb hab => by simp at hb; subst hb; subst hab; exact hxn ha⟩
  have hVl2 : (V ++ [(bx, (x : Int), ux)]).length ≤ M.length := by
   refine nodup_sub_len ?_ hV2
   rw [List.Nodup, List.pairwise_map] at hVn2
   exact hVn2.imp fun h e => h (by rw [e])
  have hVs : (V ++ [(bx, (x : Int), ux)]).length = V.length + 1 := by simp
  have hVm : (V.map (·.1)) ++ [bx] = (V ++ [(bx, (x : Int), ux)]).map (·.1) := by simp
  have hSx := hMS x hxM
  have hxC := hS.lt x hSx
  have hxw := hS.ways x hSx
  have hw := ways_any e C N (by omega) x hxC (hok.arms x hxC)
  have hwl := ways_len hok hxC
  have hN0 := hN.enter hxV
  obtain ⟨T0, hT0⟩ : ∃ T0, T0 = V.length * 10000000 := ⟨_, rfl⟩
  rw [← hT0] at hN0
  generalize hks : waysF C x (insAt C x) = ks at hw hxw hwl
  unfold pG at hw
  clear hre
  (repeat' (first | exact trivial | (with_reducible first | apply awA | apply awB | apply awC | apply awF) | ((with_reducible first | apply awn | apply awo | refine awQ ?_); intro r hr; simp only [go_sem, Nat.reduceBEq, Nat.reduceLT, Nat.reduceLeDiff, Nat.reduceAdd, Nat.reduceMul, v8_len] at hr; subst hr; (first | refine caC (hw) rfl ?_ ?_ ?_ | refine awV ?_ ?_ | refine awW ?_ ?_ | (refine condK (fun h => ?_) (fun h => ?_) <;> (try simp only [go_sem, reduceCtorEq] at h) <;> (try (exfalso; omega))))) | (refine al_mentry (d := 10003) (u := 19) (L := M) (f := fun _ => AV.dead) (e := (bx, (x : Int), ux)) rfl rfl ⟨by decide, by decide⟩ rfl rfl rfl rfl hx hM.nd ?_))) <;> (try omega)
  refine go_loop [0, 3, 4, 19, 5, 29, 30, 31] [10000, 10002, 10003, 13, 14, 19] (fun q : Nat × Nat × List (Nat × Int × List Nat) × Nat × List (Nat × Int × List Nat) => ⟨[(0, true, .ptr 1 10000 0 0), (3, true, .map 13), (4, true, .map 14), (19, true, .ptr 1 19 0 0), (5, true, vI x), (29, true, .lst 1 (v8 ks)), (30, true, vI ks.length), (31, true, vI q.1)],
   [(10000, .var [vB e, .lst 4 (encIs C), .lst 1 (v8 N), .ref 4 1 10002 0 B.length, vI en, .map 10003]), (10002, .row 4 1 (encT B)), (10003, .mapr c (mK M)), (13, .mapl 3 q.2.1 (nL q.2.2.1) none), (14, .mapl 3 q.2.2.2.1 (nL q.2.2.2.2) none), (19, .iter 10003 true c (V.map (·.1) ++ [bx]))]⟩)
   (fun q => NoteI C B V (some (x, q.1)) (T0 + q.1) q.2.2.1 q.2.2.2.2 ∧ q.1 ≤ ks.length) (fun q => ks.length - q.1) (0, c1, L1, c2, L2)
   (by simp only [go_sem, Nat.reduceBEq] <;> exact rfl) ⟨hN0, Nat.zero_le _⟩ ?_
  clear hN0 hN c1 L1 c2 L2
  intro ⟨j, c1, L1, c2, L2⟩ ⟨hN, hj⟩
  simp only at hN hj ⊢
  have hwj := wrap_i64 (n := (j : Int) + 1) (by omega)
  have zj : ((j : Int)).toNat = j := by omega
  by_cases hjl : j < ks.length
  ·have e2 : ((j : Int) < (ks.length : Int)) = True := eq_true (by omega)
   obtain ⟨m, hm⟩ : ∃ m : Nat, ks[j] = m := ⟨ks[j].toNat, by have := (hxw _ (List.getElem_mem hjl)).1; omega⟩
   have hkj : ks[j]? = some (m : Int) := by rw [List.getElem?_eq_getElem hjl, hm]
   have gj := v8_get hjl
   rw [hm] at gj
   have hb := bare_G e C N B en c M x hxC j (hS.calls x hSx)
   rw [show (!takesF C B x j) = bareF C B x j from rfl] at hb
   unfold rtO rtV at hb
   cases hg : bareF C B x j with
   | false =>
    rw [hg] at hb
    have hn := hN.skip hg
    (repeat' (first | exact trivial | (with_reducible first | apply awA | apply awB | apply awC | apply awF | apply awI) | ((with_reducible first | apply awn | apply awo | refine awQ ?_); intro r hr; simp only [go_sem, Nat.reduceBEq, Nat.reduceLT, Nat.reduceLeDiff, e2, zj, hwj, gj, v8_len, mK_ren] at hr; subst hr; (first | refine awV ?_ ?_ | refine awW ?_ ?_ | (refine condK (fun h => ?_) (fun h => ?_) <;> (try simp only [go_sem, reduceCtorEq] at h) <;> (try (exfalso; omega))))) | (refine go_callGE [(10000, 10000), (10002, 10002), (10003, 10003)] [(10000, 10000), (10002, 10002), (10003, 10003)] [] [10000, 10002, 10003] ?_; intro r hr; simp only [go_sem, Nat.reduceBEq, Nat.reduceLT, mK_ren] at hr; subst hr; refine callGK (hb) rfl rfl (by first | exact .inl rfl | exact .inr rfl) ?_ (.inl rfl) ?_))) <;> (try omega)
    refine ⟨(j + 1, c1, L1, c2, L2), ?_, ⟨hn, hjl⟩, by show ks.length - (j + 1) < ks.length - j; omega⟩
    simp only [go_sem, Nat.reduceBEq]
    try exact rfl
   | true =>
    rw [hg] at hb
    have hn := hN.add (c1 := c1) (c2 := c2) hxV (by rw [hks]; exact hkj) hg
    have hb1 := hN.l1 x
    have hb2 := hN.l2 m
    have hq1 := natI_app (atL L1 x) m
    have hq2 := natI_app (atL L2 m) x
    have ht1 : (v8 (natI (atL L1 x))).take (natI (atL L1 x)).length = v8 (natI (atL L1 x)) := by rw [v8_take, List.take_of_length_le (by omega)]
    have ht2 : (v8 (natI (atL L2 m))).take (natI (atL L2 m)).length = v8 (natI (atL L2 m)) := by rw [v8_take, List.take_of_length_le (by omega)]
    have hr1 : (natI (atL L1 x)).length + 1 = (natI (atL L1 x ++ [m])).length := by simp [natI]
    have hr2 : (natI (atL L2 m)).length + 1 = (natI (atL L2 m ++ [x])).length := by simp [natI]
    have hp1 : 0 < (natI (atL L1 x ++ [m])).length := by omega
    have hp2 : 0 < (natI (atL L2 m ++ [x])).length := by omega
    rw [natI_len] at ht1 ht2
    (repeat' (first | exact trivial | (with_reducible first | apply awA | apply awB | apply awC | apply awF | apply awI) | ((with_reducible first | apply awn | apply awo | refine awQ ?_); intro r hr; simp only [go_sem, Nat.reduceBEq, Nat.reduceLT, Nat.reduceLeDiff, Nat.reduceAdd, Nat.reduceMul, Nat.reduceEqDiff, e2, zj, hwj, gj, v8_len, natI_len, hq1, hq2, ht1, ht2, mK_kill, mK_ren] at hr; subst hr; (first | refine awV ?_ ?_ | refine awW ?_ ?_ | (refine condK (fun h => ?_) (fun h => ?_) <;> (try simp only [go_sem, reduceCtorEq] at h) <;> (try (exfalso; omega))))) | (refine go_callGE [(10000, 10000), (10002, 10002), (10003, 10003)] [(10000, 10000), (10002, 10002), (10003, 10003)] [] [10000, 10002, 10003] ?_; intro r hr; simp only [go_sem, Nat.reduceBEq, Nat.reduceLT, mK_ren] at hr; subst hr; refine callGK (hb) rfl rfl (by first | exact .inl rfl | exact .inr rfl) ?_ (.inl rfl) ?_) | (refine al_ltake (tyOf_ok _) (d := 13) (te := 3) (u := 44) (es := nL L1) (key := (x : Int)) (l := natI (atL L1 x)) rfl rfl rfl ⟨by decide, by decide⟩ rfl rfl rfl rfl t101 rfl t3 rfl zero_ints rfl (by decide) (by decide) (by simp only [go_sem, Nat.reduceLT]) (by simp only [go_sem, Nat.reduceLT, mK_lo]) (atL_nL _ _) rfl ?_) | (refine al_ltake (tyOf_ok _) (d := 14) (te := 3) (u := 52) (es := nL L2) (key := (m : Int)) (l := natI (atL L2 m)) rfl rfl rfl ⟨by decide, by decide⟩ rfl rfl rfl rfl t101 rfl t3 rfl zero_ints rfl (by decide) (by decide) (by simp only [go_sem, Nat.reduceLT]) (by simp only [go_sem, Nat.reduceLT, mK_lo]) (atL_nL _ _) rfl ?_) | (refine al_lgive (tyOf_ok _) (d := 13) (te := 3) (u := 44) (es := nL L1) (key := (x : Int)) (l := natI (atL L1 x ++ [m])) rfl rfl rfl rfl rfl rfl rfl rfl (by simp only [natI_len, List.length_append, List.length_singleton]; exact rfl) t101 rfl t3 rfl rfl rfl hp1 (by decide) (by decide) (by decide) (by simp only [go_sem, Nat.reduceLT]) (by simp only [go_sem, Nat.reduceLT, mK_lo]) rfl (mclk_nL _ _ _) (mset_nL _ _ _ _) ?_) | (refine al_lgive (tyOf_ok _) (d := 14) (te := 3) (u := 52) (es := nL L2) (key := (m : Int)) (l := natI (atL L2 m ++ [x])) rfl rfl rfl rfl rfl rfl rfl rfl (by simp only [natI_len, List.length_append, List.length_singleton]; exact rfl) t101 rfl t3 rfl rfl rfl hp2 (by decide) (by decide) (by decide) (by simp only [go_sem, Nat.reduceLT]) (by simp only [go_sem, Nat.reduceLT, mK_lo]) rfl (mclk_nL _ _ _) (mset_nL _ _ _ _) ?_))) <;> (try omega)
    ·refine ⟨Nat.le_refl _, ?_⟩
     rw [List.length_append, List.length_singleton]
     omega
    ·refine ⟨Nat.le_refl _, ?_⟩
     rw [List.length_append, List.length_singleton]
     omega
    ·refine ⟨(j + 1, mclk c1 (x : Int) L1, mset c1 (x : Int) (atL L1 x ++ [m]) L1, mclk c2 (m : Int) L2, mset c2 (m : Int) (atL L2 m ++ [x]) L2), ?_, ⟨hn, hjl⟩, by show ks.length - (j + 1) < ks.length - j; omega⟩
     simp only [go_sem, Nat.reduceBEq]
     try exact rfl
  ·have e2 : ((j : Int) < (ks.length : Int)) = False := eq_false (by omega)
   have hn := hN.leave (e := (bx, (x : Int), ux)) (by rw [hks]; omega) rfl
   (repeat' (first | exact trivial | (with_reducible first | apply awA | apply awE | apply awF | apply awH | apply awI | apply awK) | ((with_reducible first | apply awn | refine awQ ?_); intro r hr; simp only [go_sem, Nat.reduceBEq, Nat.reduceLT, e2] at hr; subst hr; (first | refine awV ?_ ?_ | (refine condK (fun h => ?_) (fun h => ?_) <;> (try simp only [go_sem, reduceCtorEq] at h) <;> (try (exfalso; omega))))))) <;> (try omega)
   refine ⟨(V ++ [(bx, (x : Int), ux)], c1, L1, c2, L2), ?_, ⟨hV2, hVn2, ?_⟩, by show M.length - (V ++ [(bx, (x : Int), ux)]).length < M.length - V.length; omega⟩
   ·simp only [hVm, go_sem, Nat.reduceBEq]
    try exact rfl
   ·show NoteI C B (V ++ [(bx, (x : Int), ux)]) none ((V ++ [(bx, (x : Int), ux)]).length * 10000000) L1 L2
    rw [hVs]
    exact ⟨hn.cnt, hn.old, hn.new, hn.now, fun a => by have := hn.l1 a; rw [hT0] at this; omega, fun a => by have := hn.l2 a; rw [hT0] at this; omega⟩
end Go.Proofs.Ytjeplogcfedmeaa
end
section
namespace Go.Proofs.Ytjeplogcfedmeaa
open Go.RowKit
set_option maxRecDepth 100000
set_option maxHeartbeats 8000000
noncomputable def prB (p : Prop) : Bool := @decide p (Classical.propDecidable p)
theorem prB_t {p : Prop} (h : p) : prB p = true := by unfold prB; exact @decide_eq_true p (Classical.propDecidable p) h
theorem prB_f {p : Prop} (h : ¬ p) : prB p = false := by unfold prB; exact @decide_eq_false p (Classical.propDecidable p) h
def Come (R : Nat → Nat → Prop) (en k : Nat) : Prop := k = en ∨ Rch R en k
noncomputable def payF (C : List InsM) (B : List Bool) (en : Nat) : Bool := prB (∀ k, Come (wayR C (paysF C B)) en k → (insAt C k).op ≠ 20)
theorem qL_births (Q : List Nat) : (qL Q).map (·.1) = List.range Q.length := by
 apply List.ext_getElem?
 intro i
 simp [qL]
 rcases Nat.lt_or_ge i Q.length with h | h
 ·simp [h]
 ·simp [Nat.not_lt.2 h]
theorem qL_keyN (Q : List Nat) : keyN (qL Q) = Q := by
 have : keyN (qL Q) = (natI Q).map Int.toNat := by rw [← qL_keys]; simp [keyN]
 rw [this, natI, List.map_map]
 conv => rhs; rw [← List.map_id Q]
 exact List.map_congr_left fun k _ => by simp
theorem MapOK_qL {Q : List Nat} {n : Nat} (hn : Q.Nodup) (hlt : ∀ k ∈ Q, k < n) (hb : n ≤ 1048576) : MapOK Q.length (qL Q) := by
 refine ⟨?_, fun e he => ?_, ?_, fun e he => ?_, ?_⟩
 ·rw [qL_births]; exact List.nodup_range
 ·have : e.1 ∈ (qL Q).map (·.1) := List.mem_map.2 ⟨e, he, rfl⟩
  rw [qL_births, List.mem_range] at this
  exact this
 ·rw [qL_keys, natI, List.Nodup, List.pairwise_map]
  exact List.Pairwise.imp (fun h => by omega) hn
 ·have : e.2.1 ∈ (qL Q).map (·.2.1) := List.mem_map.2 ⟨e, he, rfl⟩
  rw [qL_keys] at this
  obtain ⟨k, _, hk⟩ := List.mem_map.1 this
  omega
 ·have := nodup_le hn hlt
  simp [qL]; omega
theorem mset_same {c : Nat} {k : Int} : ∀ {L : List (Nat × Int × Unit)}, mf k L = some () → mset c k () L = L
 | [], h => by cases h
 | (b, k', a) :: L, h => by
  unfold mf at h
  unfold mset
  by_cases hk : k' = k
  ·rw [if_pos hk]; subst hk; rfl
  ·rw [if_neg hk] at h ⊢; rw [mset_same h]
def withE (Q : List Nat) (en : Nat) : List Nat := if en ∈ Q then Q else Q ++ [en]
theorem mset_with (Q : List Nat) (en : Nat) : mset Q.length (en : Int) () (qL Q) = qL (withE Q en) := by
 unfold withE
 by_cases h : en ∈ Q
 ·rw [if_pos h]; exact mset_same (mf_qL_some h)
 ·rw [if_neg h]; exact mset_qL h
theorem mclk_with (Q : List Nat) (en : Nat) : mclk Q.length (en : Int) (qL Q) = (withE Q en).length := by
 unfold withE
 by_cases h : en ∈ Q
 ·rw [if_pos h]; simp [mclk, mf_qL_some h]
 ·rw [if_neg h]; exact mclk_qL h
theorem withE_mem (Q : List Nat) (en k : Nat) : k ∈ withE Q en ↔ k ∈ Q ∨ k = en := by
 unfold withE
 by_cases h : en ∈ Q
 ·rw [if_pos h]; exact ⟨.inl, fun g => g.elim id fun e => by rw [e]; exact h⟩
 ·rw [if_neg h]; simp
theorem withE_nd {Q : List Nat} (h : Q.Nodup) (en : Nat) : (withE Q en).Nodup := by
 unfold withE
 by_cases hm : en ∈ Q
 ·rw [if_pos hm]; exact h
 ·rw [if_neg hm, List.nodup_append]
  exact ⟨h, by simp, fun a ha b hb hab => by simp at hb; subst hb; subst hab; exact hm ha⟩
theorem come_iff {C : List InsM} {g : Nat → Int → Bool} {en : Nat} {Q : List Nat} (h : ReachI C g [en] Q) (k : Nat) : k ∈ withE Q en ↔ Come (wayR C g) en k := by
 rw [withE_mem, h.iff, Come]
 constructor
 ·rintro (⟨a, ha, hr⟩ | h)
  ·simp at ha; subst ha; exact .inr hr
  ·exact .inl h
 ·rintro (h | h)
  ·exact .inr h
  ·exact .inl ⟨en, by simp, h⟩
theorem come_S {C : List InsM} {B : List Bool} {S : Nat → Prop} (hS : ClosedS C B S) {g : Nat → Int → Bool} {en k : Nat} (he : S en) (h : Come (wayR C g) en k) : S k := by
 rcases h with rfl | h
 ·exact he
 ·induction h with
  | one h1 =>
   obtain ⟨w, h2, _⟩ := h1
   have := (hS.ways _ he _ (List.mem_of_getElem? h2)).2
   rwa [Int.toNat_natCast] at this
  | more _ h1 ih =>
   obtain ⟨w, h2, _⟩ := h1
   have := (hS.ways _ ih _ (List.mem_of_getElem? h2)).2
   rwa [Int.toNat_natCast] at this
theorem pay_G (e : Bool) (C : List InsM) (N : List Int) (B : List Bool) (en : Nat) (c : Nat) (M : List (Nat × Int × Unit)) (hok : CodeOK C N) (S : Nat → Prop) (hS : ClosedS C B S) (hen : S en) :
  GCall Try.prog 42 [.ptr 1 10000 0 0] (rtO e C N B en c M) (vB (payF C B en)) (rtO e C N B en c M) := by
 have hC := hok.len
 have hr := reach3 e C N B en c M hok S hS [en] (by simp) (by simpa using hen) (by simp)
 unfold rtO rtV at *
 refine go_fnG (tyOf_ok _) Try.func42 rfl rfl (by rw [Try.results42]) Try.ntmps42 rfl fun E => ?_
 (repeat' (first | exact trivial | (with_reducible first | apply awA | apply awF) | (refine aw_draw (id := 1) (t := (.node [0, 1, 2, 3, 4, 6, 5, 7, 8] [])) (drR [] [5, 6, 9] [12]) mixed (by kernel_rfl) (by kernel_rfl) (fun _ _ h => h) ?_) | (refine at_done (by simp only [go_sem]; exact rfl) ?_) | (refine at_alt (by simp only [go_sem]; exact rfl) ?_) | refine qalt_normal ?_ | refine ats_cons ?_ ?_ | exact ats_nil | ((with_reducible first | refine awN (tyOf_ok _) [10] ?_ | refine awP (tyOf_ok _) [10] ?_); intro r hr; simp only [go_sem, Nat.reduceBEq, Nat.reduceLT, Nat.reduceLeDiff, Nat.reduceAdd, Nat.reduceMul, reduceCtorEq, mK_kill] at hr; subst hr; (first | refine awV ?_ ?_ | refine awW ?_ ?_)) | (refine go_callGE [(1, 10005), (10000, 10000), (10002, 10002), (10003, 10003), (10, 10004)] [(14, 12), (10005, 1), (10000, 10000), (10002, 10002), (10003, 10003), (10004, 10)] [12] [1, 10000, 10002, 10003, 10] ?_; intro r hr; simp only [go_sem, Nat.reduceBEq, Nat.reduceLT, mK_ren] at hr; subst hr; refine callGV (hr) rfl rfl (by first | exact .inl rfl | exact .inr rfl) ?_ (.inl rfl) (fun q hq => hold ?_)))) <;> (try omega)
 refine ⟨?_⟩
 have hset := mset_with q en
 have hclk := mclk_with q en
 have hmem := come_iff hq
 have hM := MapOK_qL (withE_nd hq.nd en) (fun k hk => hS.lt k (come_S hS hen ((hmem k).1 hk))) hC
 have hkN := qL_keyN (withE q en)
 generalize hQ1 : withE q en = Q1 at *
 (repeat' (first | exact trivial | (with_reducible first | apply awA | apply awB | apply awF) | ((with_reducible first | apply awn | apply awo | apply awp); intro r hr; simp only [go_sem, Nat.reduceBEq, Nat.reduceLT, Nat.reduceLeDiff, Nat.reduceAdd, Nat.reduceMul, reduceCtorEq, mK_kill, mK_ren] at hr; subst hr; (first | refine awV ?_ ?_ | refine awW ?_ ?_)) | (refine al_mput (tyOf_ok _) (d := 12) (L := qL q) (f := fun _ => AV.dead) (key := (en : Int)) () rfl rfl rfl rfl rfl rfl rfl rfl (.inr rfl) t74 rfl t3 rfl rfl hclk hset ?_) | (refine al_mrange (tyOf_ok _) (u := 19) rfl rfl rfl ⟨by decide, by decide⟩ rfl rfl t74 rfl rfl (by decide) ?_))) <;> (try omega)
 refine go_loop [1, 19] [1, 10000, 10002, 10003, 12, 19] (fun V : List (Nat × Int × Unit) => ⟨[(1, true, .ptr 1 1 0 0), (19, true, .ptr 1 19 0 0)],
  [(1, .var [.ptr 1 10000 0 0]), (10000, .var [vB e, .lst 4 (encIs C), .lst 1 (v8 N), .ref 4 1 10002 0 B.length, vI en, .map 10003]), (10002, .row 4 1 (encT B)), (10003, .mapr c (mK M)), (12, .mapr Q1.length (mK (qL Q1))), (19, .iter 12 true Q1.length (V.map (·.1)))]⟩)
  (fun V => (∀ e ∈ V, e ∈ qL Q1) ∧ (V.map (·.1)).Nodup ∧ ∀ k ∈ keyN V, (insAt C k).op ≠ 20) (fun V => Q1.length - V.length) []
  (by simp only [go_sem, Nat.reduceBEq] <;> exact rfl) ⟨fun e he => (by cases he), List.nodup_nil, fun k hk => by simp [keyN] at hk⟩ ?_
 intro V ⟨hV, hVn, hVo⟩
 (repeat' (first | exact trivial | (with_reducible apply awA) | ((with_reducible apply awn); intro r hr; simp only [go_sem, Nat.reduceBEq] at hr; subst hr; (first | refine awW ?_ ?_)) | (refine al_mnext (d := 12) (u := 19) (L := qL Q1) (f := fun _ => AV.dead) rfl rfl ⟨by decide, by decide⟩ rfl rfl rfl rfl hM.lt rfl (fun h0 => hold ?_) (fun x hx hxn => hold ?_)))) <;> (try omega)
 ·refine ⟨?_⟩
  have hp : payF C B en = true := prB_t fun k hk => by
   have h1 := (hmem k).2 hk
   rw [← hkN] at h1
   obtain ⟨e, he, rfl⟩ := List.mem_map.1 h1
   obtain ⟨e', he', h2⟩ := List.mem_map.1 (h0 e he)
   have : e' = e := nodup_map_inj hM.nd (hV e' he') he h2
   subst this
   exact hVo _ (List.mem_map.2 ⟨e', he', rfl⟩)
  rw [hp]
  (repeat' (first | exact trivial | (with_reducible first | apply awA | apply awD | apply awE | apply awF | apply awH | apply awK) | ((with_reducible first | apply awn | apply awo | refine awQ ?_ | refine awT ?_); intro r hr; simp only [go_sem, Nat.reduceBEq, Nat.reduceLT] at hr; subst hr; (first | refine awV ?_ ?_ | refine endGK ?_ ?_ ?_ | (refine condK (fun h => ?_) (fun h => ?_) <;> (try simp only [go_sem, reduceCtorEq] at h) <;> (try (exfalso; omega))))))) <;> (try omega)
  all_goals first | exact AV.up_rfl _ | (repeat first | exact obUp_nil | refine obUp_cons rfl ?_)
 ·refine ⟨?_⟩
  obtain ⟨bx, kx, ux⟩ := x
  have hpos := hM.pos _ hx
  obtain ⟨k, rfl⟩ : ∃ k : Nat, kx = k := ⟨kx.toNat, by simp only at hpos; omega⟩
  have hkQ : k ∈ Q1 := by rw [← hkN]; exact List.mem_map.2 ⟨_, hx, by simp⟩
  have hkC := hS.lt k (come_S hS hen ((hmem k).1 hkQ))
  have zk : ((k : Int)).toNat = k := by omega
  have gk := insAt_get hkC
  by_cases h20 : (insAt C k).op = 20
  ·have hp : payF C B en = false := prB_f fun h => h k ((hmem k).1 hkQ) h20
   rw [hp]
   have e20 : ((insAt C k).op = 20) = True := eq_true h20
   (repeat' (first | exact trivial | (with_reducible first | apply awA | apply awB | apply awC | apply awD | apply awF | apply awG | apply awJ) | ((with_reducible first | apply awn | apply awo | refine awQ ?_ | refine awT ?_); intro r hr; simp only [go_sem, Nat.reduceBEq, Nat.reduceLT, Nat.reduceLeDiff, Nat.reduceAdd, Nat.reduceMul, zk, gk, encIs_len, e20] at hr; subst hr; (first | refine awV ?_ ?_ | refine awW ?_ ?_ | refine endGK ?_ ?_ ?_ | (refine condK (fun h => ?_) (fun h => ?_) <;> (try simp only [go_sem, reduceCtorEq] at h) <;> (try (exfalso; omega))))) | (refine al_mentry (d := 12) (u := 19) (L := qL Q1) (f := fun _ => AV.dead) (e := (bx, (k : Int), ux)) rfl rfl ⟨by decide, by decide⟩ rfl rfl rfl rfl hx hM.nd ?_))) <;> (try omega)
   all_goals first | exact AV.up_rfl _ | (repeat first | exact obUp_nil | refine obUp_cons rfl ?_)
  ·have e20 : ((insAt C k).op = 20) = False := eq_false h20
   have hV2 : ∀ e ∈ V ++ [(bx, (k : Int), ux)], e ∈ qL Q1 := fun e he => by
    rcases List.mem_append.1 he with h | h
    ·exact hV e h
    ·simp at h; subst h; exact hx
   have hVn2 : ((V ++ [(bx, (k : Int), ux)]).map (·.1)).Nodup := by
    rw [List.map_append, List.nodup_append]
    exact ⟨hVn, by simp, fun a ha b hb hab => by simp at hb; subst hb; subst hab; exact hxn ha⟩
   have hVl2 : (V ++ [(bx, (k : Int), ux)]).length ≤ Q1.length := by
    have : (qL Q1).length = Q1.length := by simp [qL]
    rw [← this]
    refine nodup_sub_len ?_ hV2
    rw [List.Nodup, List.pairwise_map] at hVn2
    exact hVn2.imp fun h e => h (by rw [e])
   have hVs : (V ++ [(bx, (k : Int), ux)]).length = V.length + 1 := by simp
   have hVm : (V.map (·.1)) ++ [bx] = (V ++ [(bx, (k : Int), ux)]).map (·.1) := by simp
   (repeat' (first | exact trivial | (with_reducible first | apply awA | apply awB | apply awC | apply awF | apply awI) | ((with_reducible first | apply awn | apply awo | refine awQ ?_); intro r hr; simp only [go_sem, Nat.reduceBEq, Nat.reduceLT, Nat.reduceLeDiff, Nat.reduceAdd, Nat.reduceMul, zk, gk, encIs_len, e20] at hr; subst hr; (first | refine awV ?_ ?_ | refine awW ?_ ?_ | (refine condK (fun h => ?_) (fun h => ?_) <;> (try simp only [go_sem, reduceCtorEq] at h) <;> (try (exfalso; omega))))) | (refine al_mentry (d := 12) (u := 19) (L := qL Q1) (f := fun _ => AV.dead) (e := (bx, (k : Int), ux)) rfl rfl ⟨by decide, by decide⟩ rfl rfl rfl rfl hx hM.nd ?_))) <;> (try omega)
   refine ⟨V ++ [(bx, (k : Int), ux)], ?_, ⟨hV2, hVn2, fun y hy => ?_⟩, by show Q1.length - (V ++ [(bx, (k : Int), ux)]).length < Q1.length - V.length; omega⟩
   ·simp only [hVm, go_sem, Nat.reduceBEq]
    try exact rfl
   ·have : y ∈ keyN V ∨ y = k := by simpa [keyN] using hy
    rcases this with h | rfl
    ·exact hVo y h
    ·exact h20
end Go.Proofs.Ytjeplogcfedmeaa
end
section
namespace Go.Proofs.Ytjeplogcfedmeaa
open Go.RowKit
set_option maxRecDepth 100000
set_option maxHeartbeats 8000000
def delF (Q1 Q2 : List Nat) (en k : Nat) : Bool := !decide (k ∈ Q1) && !decide (k ∈ Q2) && !decide ((k : Int) = (en : Int))
def unO (e : Bool) (C : List InsM) (N : List Int) (B : List Bool) (en : Nat) (c : Nat) (M : List (Nat × Int × Unit)) (Q1 Q2 : List Nat) : List (Nat × AObj) := [(10006, .var [.map 10008]), (10007, .var [.map 10009]), (10005, .var [.ptr 1 10000 0 0]), (10000, .var [vB e, .lst 4 (encIs C), .lst 1 (v8 N), .ref 4 1 10002 0 B.length, vI en, .map 10003]), (10002, .row 4 1 (encT B)), (10003, .mapr c (mK M)), (10008, .mapr Q1.length (mK (qL Q1))), (10009, .mapr Q2.length (mK (qL Q2)))]
theorem unp_G (e : Bool) (C : List InsM) (N : List Int) (B : List Bool) (en : Nat) (c : Nat) (M : List (Nat × Int × Unit)) (Q1 Q2 : List Nat) (k : Nat) : GCall Try.prog 57 [vI k, .ptr 1 10006 0 0, .ptr 1 10007 0 0, .ptr 1 10005 0 0] (unO e C N B en c M Q1 Q2) (vB (delF Q1 Q2 en k)) (unO e C N B en c M Q1 Q2) := by
 unfold unO delF
 by_cases h1 : k ∈ Q1
 ·have f1 := mf_qL_some h1
  rw [decide_eq_true h1]
  simp only [Bool.not_true, Bool.false_and]
  by_cases h2 : k ∈ Q2
  ·have f2 := mf_qL_some h2
   refine go_fnG (tyOf_ok _) Try.func57 rfl rfl (by rw [Try.results57]) Try.ntmps57 rfl fun E => ?_
   (repeat' (first | exact trivial | (with_reducible first | apply awA | apply awD | apply awF) | ((with_reducible first | apply awn | apply awo | refine awT ?_); intro r hr; simp only [go_sem, Nat.reduceBEq, Nat.reduceLT, Nat.reduceLeDiff, Nat.reduceAdd, Nat.reduceMul, reduceCtorEq] at hr; subst hr; (first | refine awV ?_ ?_ | refine awW ?_ ?_ | refine endGK ?_ ?_ ?_)) | (refine al_mlook (tyOf_ok _) (d := 10008) (L := qL Q1) (f := fun _ => AV.dead) (key := (k : Int)) (z := .int .i64 0) rfl rfl ⟨by decide, by decide⟩ rfl rfl rfl rfl t74 rfl t3 rfl zero_int rfl rfl (by rw [f1]) ?_) | (refine al_mlook (tyOf_ok _) (d := 10009) (L := qL Q2) (f := fun _ => AV.dead) (key := (k : Int)) (z := .int .i64 0) rfl rfl ⟨by decide, by decide⟩ rfl rfl rfl rfl t74 rfl t3 rfl zero_int rfl rfl (by rw [f2]) ?_))) <;> (try omega)
   all_goals first | exact AV.up_rfl _ | (repeat first | exact obUp_nil | refine obUp_cons rfl ?_)
  ·have f2 := mf_qL_none h2
   refine go_fnG (tyOf_ok _) Try.func57 rfl rfl (by rw [Try.results57]) Try.ntmps57 rfl fun E => ?_
   (repeat' (first | exact trivial | (with_reducible first | apply awA | apply awD | apply awF) | ((with_reducible first | apply awn | apply awo | refine awT ?_); intro r hr; simp only [go_sem, Nat.reduceBEq, Nat.reduceLT, Nat.reduceLeDiff, Nat.reduceAdd, Nat.reduceMul, reduceCtorEq] at hr; subst hr; (first | refine awV ?_ ?_ | refine awW ?_ ?_ | refine endGK ?_ ?_ ?_)) | (refine al_mlook (tyOf_ok _) (d := 10008) (L := qL Q1) (f := fun _ => AV.dead) (key := (k : Int)) (z := .int .i64 0) rfl rfl ⟨by decide, by decide⟩ rfl rfl rfl rfl t74 rfl t3 rfl zero_int rfl rfl (by rw [f1]) ?_) | (refine al_mlook (tyOf_ok _) (d := 10009) (L := qL Q2) (f := fun _ => AV.dead) (key := (k : Int)) (z := .int .i64 0) rfl rfl ⟨by decide, by decide⟩ rfl rfl rfl rfl t74 rfl t3 rfl zero_int rfl rfl (by rw [f2]) ?_))) <;> (try omega)
   all_goals first | exact AV.up_rfl _ | (repeat first | exact obUp_nil | refine obUp_cons rfl ?_)
 ·have f1 := mf_qL_none h1
  rw [decide_eq_false h1]
  by_cases h2 : k ∈ Q2
  ·have f2 := mf_qL_some h2
   rw [decide_eq_true h2]
   simp only [Bool.not_false, Bool.not_true, Bool.true_and, Bool.false_and]
   refine go_fnG (tyOf_ok _) Try.func57 rfl rfl (by rw [Try.results57]) Try.ntmps57 rfl fun E => ?_
   (repeat' (first | exact trivial | (with_reducible first | apply awA | apply awD | apply awF) | ((with_reducible first | apply awn | apply awo | refine awT ?_); intro r hr; simp only [go_sem, Nat.reduceBEq, Nat.reduceLT, Nat.reduceLeDiff, Nat.reduceAdd, Nat.reduceMul, reduceCtorEq] at hr; subst hr; (first | refine awV ?_ ?_ | refine awW ?_ ?_ | refine endGK ?_ ?_ ?_)) | (refine al_mlook (tyOf_ok _) (d := 10008) (L := qL Q1) (f := fun _ => AV.dead) (key := (k : Int)) (z := .int .i64 0) rfl rfl ⟨by decide, by decide⟩ rfl rfl rfl rfl t74 rfl t3 rfl zero_int rfl rfl (by rw [f1]) ?_) | (refine al_mlook (tyOf_ok _) (d := 10009) (L := qL Q2) (f := fun _ => AV.dead) (key := (k : Int)) (z := .int .i64 0) rfl rfl ⟨by decide, by decide⟩ rfl rfl rfl rfl t74 rfl t3 rfl zero_int rfl rfl (by rw [f2]) ?_))) <;> (try omega)
   all_goals first | exact AV.up_rfl _ | (repeat first | exact obUp_nil | refine obUp_cons rfl ?_)
  ·have f2 := mf_qL_none h2
   rw [decide_eq_false h2]
   simp only [Bool.not_false, Bool.true_and]
   by_cases h3 : (k : Int) = (en : Int)
   ·have e3 : ((k : Int) = (en : Int)) = True := eq_true h3
    simp only [e3, decide_true, Bool.not_true]
    refine go_fnG (tyOf_ok _) Try.func57 rfl rfl (by rw [Try.results57]) Try.ntmps57 rfl fun E => ?_
    (repeat' (first | exact trivial | (with_reducible first | apply awA | apply awD | apply awF) | ((with_reducible first | apply awn | apply awo | refine awT ?_); intro r hr; simp only [go_sem, Nat.reduceBEq, Nat.reduceLT, Nat.reduceLeDiff, Nat.reduceAdd, Nat.reduceMul, reduceCtorEq, e3] at hr; subst hr; (first | refine awV ?_ ?_ | refine awW ?_ ?_ | refine endGK ?_ ?_ ?_)) | (refine al_mlook (tyOf_ok _) (d := 10008) (L := qL Q1) (f := fun _ => AV.dead) (key := (k : Int)) (z := .int .i64 0) rfl rfl ⟨by decide, by decide⟩ rfl rfl rfl rfl t74 rfl t3 rfl zero_int rfl rfl (by rw [f1]) ?_) | (refine al_mlook (tyOf_ok _) (d := 10009) (L := qL Q2) (f := fun _ => AV.dead) (key := (k : Int)) (z := .int .i64 0) rfl rfl ⟨by decide, by decide⟩ rfl rfl rfl rfl t74 rfl t3 rfl zero_int rfl rfl (by rw [f2]) ?_))) <;> (try omega)
    all_goals first | exact AV.up_rfl _ | (repeat first | exact obUp_nil | refine obUp_cons rfl ?_)
   ·have e3 : ((k : Int) = (en : Int)) = False := eq_false h3
    simp only [e3, decide_false, Bool.not_false]
    refine go_fnG (tyOf_ok _) Try.func57 rfl rfl (by rw [Try.results57]) Try.ntmps57 rfl fun E => ?_
    (repeat' (first | exact trivial | (with_reducible first | apply awA | apply awD | apply awF) | ((with_reducible first | apply awn | apply awo | refine awT ?_); intro r hr; simp only [go_sem, Nat.reduceBEq, Nat.reduceLT, Nat.reduceLeDiff, Nat.reduceAdd, Nat.reduceMul, reduceCtorEq, e3] at hr; subst hr; (first | refine awV ?_ ?_ | refine awW ?_ ?_ | refine endGK ?_ ?_ ?_)) | (refine al_mlook (tyOf_ok _) (d := 10008) (L := qL Q1) (f := fun _ => AV.dead) (key := (k : Int)) (z := .int .i64 0) rfl rfl ⟨by decide, by decide⟩ rfl rfl rfl rfl t74 rfl t3 rfl zero_int rfl rfl (by rw [f1]) ?_) | (refine al_mlook (tyOf_ok _) (d := 10009) (L := qL Q2) (f := fun _ => AV.dead) (key := (k : Int)) (z := .int .i64 0) rfl rfl ⟨by decide, by decide⟩ rfl rfl rfl rfl t74 rfl t3 rfl zero_int rfl rfl (by rw [f2]) ?_))) <;> (try omega)
    all_goals first | exact AV.up_rfl _ | (repeat first | exact obUp_nil | refine obUp_cons rfl ?_)
def IdxI (p : Nat → Bool) (l : List Nat) (r : Int) : Prop := (r = -1 ∧ ∀ k ∈ l, p k = false) ∨ ∃ (i k : Nat), r = i ∧ l[i]? = some k ∧ p k = true ∧ ∀ j ∈ l.take i, p j = false
theorem index2_E (e : Bool) (C : List InsM) (N : List Int) (B : List Bool) (en : Nat) (c : Nat) (M : List (Nat × Int × Unit)) (Q1 Q2 : List Nat) (l : List Nat) (hl : l.length ≤ 1000000000) :
  GCallE Try.prog 66 [.ref 3 1 10010 0 l.length, (.fn 57 [.ptr 1 10006 0 0, .ptr 1 10007 0 0, .ptr 1 10005 0 0])] (unO e C N B en c M Q1 Q2 ++ [(10010, .row 3 1 (v8 (natI l)))]) (IdxI (delF Q1 Q2 en) l) (fun r => vI r) (fun _ => unO e C N B en c M Q1 Q2 ++ [(10010, .row 3 1 (v8 (natI l)))]) := by
 have hu := fun k => unp_G e C N B en c M Q1 Q2 k
 unfold unO at *
 refine go_fnE (tyOf_ok _) Try.func66 rfl rfl (by rw [Try.results66]) Try.ntmps66 rfl fun E => ?_
 (repeat' (first | exact trivial | (with_reducible first | apply awA | apply awB | apply awF) | ((with_reducible apply awn); intro r hr; simp only [go_sem, Nat.reduceBEq, Nat.reduceLT] at hr; subst hr; (first | refine awV ?_ ?_)))) <;> (try omega)
 refine go_loop [0, 1, 6, 7, 8] [10006, 10007, 10005, 10000, 10002, 10003, 10008, 10009, 10010] (fun i : Nat => ⟨[(0, true, .ref 3 1 10010 0 l.length), (1, true, (.fn 57 [.ptr 1 10006 0 0, .ptr 1 10007 0 0, .ptr 1 10005 0 0])), (6, true, .ref 3 1 10010 0 l.length), (7, true, vI l.length), (8, true, vI i)],
  [(10006, .var [.map 10008]), (10007, .var [.map 10009]), (10005, .var [.ptr 1 10000 0 0]), (10000, .var [vB e, .lst 4 (encIs C), .lst 1 (v8 N), .ref 4 1 10002 0 B.length, vI en, .map 10003]), (10002, .row 4 1 (encT B)), (10003, .mapr c (mK M)), (10008, .mapr Q1.length (mK (qL Q1))), (10009, .mapr Q2.length (mK (qL Q2))), (10010, .row 3 1 (v8 (natI l)))]⟩) (fun i => i ≤ l.length ∧ ∀ j ∈ l.take i, delF Q1 Q2 en j = false) (fun i => l.length - i) 0 (by simp only [go_sem, Nat.reduceBEq] <;> exact rfl) ⟨Nat.zero_le _, fun j hj => by simp at hj⟩ ?_
 intro i ⟨hi, hall⟩
 have hwi := wrap_i64 (n := (i : Int) + 1) (by omega)
 have zi : ((i : Int)).toNat = i := by omega
 by_cases hlt : i < l.length
 ·have e1 : ((i : Int) < (l.length : Int)) = True := eq_true (by omega)
  obtain ⟨k, hk⟩ : ∃ k, l[i]? = some k := ⟨_, List.getElem?_eq_getElem hlt⟩
  have gi := natI_get hk
  have hb := hu k
  cases hc : delF Q1 Q2 en k with
  | true =>
   rw [hc] at hb
   (repeat' (first | exact trivial | (with_reducible first | apply awA | apply awB | apply awC | apply awD | apply awF | apply awG | apply awJ) | ((with_reducible first | apply awn | apply awo | refine awQ ?_ | refine aweR ?_); intro r hr; simp only [go_sem, Nat.reduceBEq, Nat.reduceLT, Nat.reduceLeDiff, e1, zi, gi, Nat.zero_add, mK_ren] at hr; subst hr; (first | refine awV ?_ ?_ | refine awW ?_ ?_ | refine endEK ?_ ?_ | (refine condK (fun h => ?_) (fun h => ?_) <;> (try simp only [go_sem, reduceCtorEq] at h) <;> (try (exfalso; omega))))) | (refine go_callI (tyOf_ok _) [(10006, 10006), (10007, 10007), (10005, 10005), (10000, 10000), (10002, 10002), (10003, 10003), (10008, 10008), (10009, 10009)] [(10006, 10006), (10007, 10007), (10005, 10005), (10000, 10000), (10002, 10002), (10003, 10003), (10008, 10008), (10009, 10009)] [] [10006, 10007, 10005, 10000, 10002, 10003, 10008, 10009] (by simp only [go_sem, Nat.reduceBEq, Nat.reduceLT, Nat.reduceSub] <;> exact rfl) ?_ rfl rfl (by first | exact .inl rfl | exact .inr rfl) (by simp only [go_sem, Nat.reduceBEq, mK_ren] <;> exact rfl) (hb) (.inl rfl) ?_))) <;> (try omega)
   all_goals refine ⟨(i : Int), .inr ⟨i, k, rfl, hk, hc, hall⟩, AV.up_rfl _, ?_⟩
   all_goals repeat first | exact obUp_nil | refine obUp_cons rfl ?_
  | false =>
   rw [hc] at hb
   (repeat' (first | exact trivial | (with_reducible first | apply awA | apply awB | apply awC | apply awF | apply awI) | ((with_reducible first | apply awn | apply awo | refine awQ ?_); intro r hr; simp only [go_sem, Nat.reduceBEq, Nat.reduceLT, Nat.reduceLeDiff, e1, zi, hwi, gi, Nat.zero_add, mK_ren] at hr; subst hr; (first | refine awV ?_ ?_ | refine awW ?_ ?_ | (refine condK (fun h => ?_) (fun h => ?_) <;> (try simp only [go_sem, reduceCtorEq] at h) <;> (try (exfalso; omega))))) | (refine go_callI (tyOf_ok _) [(10006, 10006), (10007, 10007), (10005, 10005), (10000, 10000), (10002, 10002), (10003, 10003), (10008, 10008), (10009, 10009)] [(10006, 10006), (10007, 10007), (10005, 10005), (10000, 10000), (10002, 10002), (10003, 10003), (10008, 10008), (10009, 10009)] [] [10006, 10007, 10005, 10000, 10002, 10003, 10008, 10009] (by simp only [go_sem, Nat.reduceBEq, Nat.reduceLT, Nat.reduceSub] <;> exact rfl) ?_ rfl rfl (by first | exact .inl rfl | exact .inr rfl) (by simp only [go_sem, Nat.reduceBEq, mK_ren] <;> exact rfl) (hb) (.inl rfl) ?_))) <;> (try omega)
   refine ⟨i + 1, ?_, ⟨hlt, fun j hj => ?_⟩, by omega⟩
   ·simp only [go_sem, Nat.reduceBEq]
    try exact rfl
   ·rw [List.take_succ_eq_append_getElem hlt] at hj
    rw [List.getElem?_eq_getElem hlt] at hk
    injection hk with hk
    rcases List.mem_append.1 hj with hj | hj
    ·exact hall j hj
    ·simp at hj; rw [hj, hk]; exact hc
 ·have e1 : ((i : Int) < (l.length : Int)) = False := eq_false (by omega)
  (repeat' (first | exact trivial | (with_reducible first | apply awA | apply awD | apply awE | apply awF | apply awH | apply awK) | ((with_reducible first | apply awn | refine awQ ?_ | refine aweR ?_); intro r hr; simp only [go_sem, Nat.reduceBEq, Nat.reduceLT, e1] at hr; subst hr; (first | refine awV ?_ ?_ | refine endEK ?_ ?_ | (refine condK (fun h => ?_) (fun h => ?_) <;> (try simp only [go_sem, reduceCtorEq] at h) <;> (try (exfalso; omega))))))) <;> (try omega)
  all_goals refine ⟨-1, .inl ⟨rfl, fun k hk => hall k (by rw [List.take_of_length_le (by omega)]; exact hk)⟩, AV.up_rfl _, ?_⟩
  all_goals repeat first | exact obUp_nil | refine obUp_cons rfl ?_
theorem natI_set (l : List Nat) (i k : Nat) : (v8 (natI l)).set i [vI k] = v8 (natI (l.set i k)) := by simp [v8, natI, List.map_set]
theorem natI_take (l : List Nat) (i : Nat) : (v8 (natI l)).take i = v8 (natI (l.take i)) := by simp [v8, natI, List.map_take]
theorem delete_G (e : Bool) (C : List InsM) (N : List Int) (B : List Bool) (en : Nat) (c : Nat) (M : List (Nat × Int × Unit)) (Q1 Q2 : List Nat) (l : List Nat) (hl : l.length ≤ 1000000000) :
  GCall Try.prog 56 [.ref 3 1 10010 0 l.length, (.fn 57 [.ptr 1 10006 0 0, .ptr 1 10007 0 0, .ptr 1 10005 0 0])] (unO e C N B en c M Q1 Q2 ++ [(10010, .row 3 1 (v8 (natI l)))]) (.ref 3 1 10010 0 (l.filter fun k => !(delF Q1 Q2 en k)).length) (unO e C N B en c M Q1 Q2 ++ [(10010, .row 3 1 (v8 (natI (l.filter fun k => !(delF Q1 Q2 en k)))))]) := by
 have hu := fun k => unp_G e C N B en c M Q1 Q2 k
 have hx := index2_E e C N B en c M Q1 Q2 l hl
 unfold unO at *
 refine go_fnG (tyOf_ok _) Try.func56 rfl rfl (by rw [Try.results56]) Try.ntmps56 rfl fun E => ?_
 (repeat' (first | exact trivial | (with_reducible first | apply awA | apply awF) | ((with_reducible apply awn); intro r hr; simp only [go_sem, Nat.reduceBEq, Nat.reduceLT, v8_len, natI_len] at hr; subst hr; (first | refine awV ?_ ?_ | refine awW ?_ ?_)) | (refine go_callGE [(10006, 10006), (10007, 10007), (10005, 10005), (10000, 10000), (10002, 10002), (10003, 10003), (10008, 10008), (10009, 10009), (10010, 10010)] [(10006, 10006), (10007, 10007), (10005, 10005), (10000, 10000), (10002, 10002), (10003, 10003), (10008, 10008), (10009, 10009), (10010, 10010)] [] [10006, 10007, 10005, 10000, 10002, 10003, 10008, 10009, 10010] ?_; intro r hr; simp only [go_sem, Nat.reduceBEq, Nat.reduceLT, mK_ren] at hr; subst hr; refine callGV (hx) rfl rfl (by first | exact .inl rfl | exact .inr rfl) ?_ (.inl rfl) (fun q hq => hold ?_)))) <;> (try omega)
 refine ⟨?_⟩
 rcases hq with ⟨rfl, hall⟩ | ⟨i0, k0, rfl, hk0, hp0, hall⟩
 ·have hf : (l.filter fun k => !(delF Q1 Q2 en k)) = l := List.filter_eq_self.2 fun k hk => by rw [hall k hk]; rfl
  rw [hf]
  (repeat' (first | exact trivial | (with_reducible first | apply awA | apply awD | apply awF | apply awG) | ((with_reducible first | apply awn | apply awo | refine awQ ?_ | refine awT ?_); intro r hr; simp only [go_sem, Nat.reduceBEq, Nat.reduceLT, mK_ren] at hr; subst hr; (first | refine awV ?_ ?_ | refine endGK ?_ ?_ ?_ | (refine condK (fun h => ?_) (fun h => ?_) <;> (try simp only [go_sem, reduceCtorEq] at h) <;> (try (exfalso; omega))))))) <;> (try omega)
  all_goals first | exact AV.up_rfl _ | (repeat first | exact obUp_nil | refine obUp_cons rfl ?_)
 ·have hi0 := lt_of_get hk0
  have en1 : ((i0 : Int) = -1) = False := eq_false (by omega)
  have hw0 := wrap_i64 (n := (i0 : Int) + 1) (by omega)
  (repeat' (first | exact trivial | (with_reducible first | apply awA | apply awB | apply awC | apply awF) | ((with_reducible first | apply awn | apply awo | refine awQ ?_); intro r hr; simp only [go_sem, Nat.reduceBEq, Nat.reduceLT, mK_ren, en1, hw0] at hr; subst hr; (first | refine awV ?_ ?_ | (refine condK (fun h => ?_) (fun h => ?_) <;> (try simp only [go_sem, reduceCtorEq] at h) <;> (try (exfalso; omega))))))) <;> (try omega)
  refine go_loop [0, 1, 5, 6] [10006, 10007, 10005, 10000, 10002, 10003, 10008, 10009, 10010] (fun q : Nat × Nat × List Nat => ⟨[(0, true, .ref 3 1 10010 0 l.length), (1, true, (.fn 57 [.ptr 1 10006 0 0, .ptr 1 10007 0 0, .ptr 1 10005 0 0])), (5, true, vI q.1), (6, true, vI q.2.1)],
   [(10006, .var [.map 10008]), (10007, .var [.map 10009]), (10005, .var [.ptr 1 10000 0 0]), (10000, .var [vB e, .lst 4 (encIs C), .lst 1 (v8 N), .ref 4 1 10002 0 B.length, vI en, .map 10003]), (10002, .row 4 1 (encT B)), (10003, .mapr c (mK M)), (10008, .mapr Q1.length (mK (qL Q1))), (10009, .mapr Q2.length (mK (qL Q2))), (10010, .row 3 1 (v8 (natI q.2.2)))]⟩) (fun q => q.1 < q.2.1 ∧ q.2.1 ≤ l.length ∧ q.2.2.length = l.length ∧ q.2.2.take q.1 = (l.take q.2.1).filter (fun k => !(delF Q1 Q2 en k)) ∧ ∀ j, q.2.1 ≤ j → q.2.2[j]? = l[j]?) (fun q => l.length - q.2.1) (i0, i0 + 1, l)
   (by simp only [Int.natCast_add, Int.cast_ofNat_Int, go_sem, Nat.reduceBEq] <;> exact rfl) ⟨Nat.lt_succ_self _, hi0, rfl, by
    show l.take i0 = (l.take (i0 + 1)).filter _
    rw [List.take_succ_eq_append_getElem hi0, List.filter_append]
    rw [List.getElem?_eq_getElem hi0] at hk0
    injection hk0 with hk0
    rw [hk0, List.filter_cons_of_neg (by simp [hp0]), List.filter_nil, List.append_nil]
    exact (List.filter_eq_self.2 fun k hk => by rw [hall k hk]; rfl).symm, fun _ _ => rfl⟩ ?_
  clear hk0 hp0 hall en1 hw0 hi0 i0 k0
  intro ⟨i, j, L⟩ ⟨hij, hjl, hL, htk, hdr⟩
  simp only at hij hjl hL htk hdr ⊢
  have hwi := wrap_i64 (n := (i : Int) + 1) (by omega)
  have hwj := wrap_i64 (n := (j : Int) + 1) (by omega)
  have zi : ((i : Int)).toNat = i := by omega
  have zj : ((j : Int)).toNat = j := by omega
  by_cases hlt : j < l.length
  ·have e1 : ((j : Int) < (l.length : Int)) = True := eq_true (by omega)
   obtain ⟨k, hk⟩ : ∃ k, l[j]? = some k := ⟨_, List.getElem?_eq_getElem hlt⟩
   have hkL : L[j]? = some k := by rw [hdr j (Nat.le_refl _)]; exact hk
   have gj := natI_get hkL
   have hb := hu k
   have htk2 : l.take (j + 1) = l.take j ++ [k] := by
    rw [List.take_succ_eq_append_getElem hlt]
    rw [List.getElem?_eq_getElem hlt] at hk
    injection hk with hk
    rw [hk]
   cases hc : delF Q1 Q2 en k with
   | true =>
    rw [hc] at hb
    (repeat' (first | exact trivial | (with_reducible first | apply awA | apply awB | apply awC | apply awF | apply awI) | ((with_reducible first | apply awn | apply awo | refine awQ ?_); intro r hr; simp only [go_sem, Nat.reduceBEq, Nat.reduceLT, Nat.reduceLeDiff, e1, zj, hwj, gj, Nat.zero_add, mK_ren] at hr; subst hr; (first | refine awV ?_ ?_ | refine awW ?_ ?_ | (refine condK (fun h => ?_) (fun h => ?_) <;> (try simp only [go_sem, reduceCtorEq] at h) <;> (try (exfalso; omega))))) | (refine go_callI (tyOf_ok _) [(10006, 10006), (10007, 10007), (10005, 10005), (10000, 10000), (10002, 10002), (10003, 10003), (10008, 10008), (10009, 10009)] [(10006, 10006), (10007, 10007), (10005, 10005), (10000, 10000), (10002, 10002), (10003, 10003), (10008, 10008), (10009, 10009)] [] [10006, 10007, 10005, 10000, 10002, 10003, 10008, 10009] (by simp only [go_sem, Nat.reduceBEq, Nat.reduceLT, Nat.reduceSub] <;> exact rfl) ?_ rfl rfl (by first | exact .inl rfl | exact .inr rfl) (by simp only [go_sem, Nat.reduceBEq, mK_ren] <;> exact rfl) (hb) (.inl rfl) ?_))) <;> (try omega)
    refine ⟨(i, j + 1, L), ?_, ⟨by show i < j + 1; omega, hlt, hL, by show L.take i = (l.take (j + 1)).filter _; rw [htk2, List.filter_append, List.filter_cons_of_neg (by simp [hc]), List.filter_nil, List.append_nil]; exact htk, fun m hm => hdr m (by simp only at hm; omega)⟩, by show l.length - (j + 1) < l.length - j; omega⟩
    simp only [go_sem, Nat.reduceBEq]
    try exact rfl
   | false =>
    rw [hc] at hb
    have hset := natI_set L i k
    obtain ⟨k', hk'⟩ : ∃ k', L[i]? = some k' := ⟨_, List.getElem?_eq_getElem (by omega)⟩
    have gi := natI_get hk'
    (repeat' (first | exact trivial | (with_reducible first | apply awA | apply awB | apply awC | apply awF | apply awI) | ((with_reducible first | apply awn | apply awo | refine awQ ?_); intro r hr; simp only [go_sem, Nat.reduceBEq, Nat.reduceLT, Nat.reduceLeDiff, e1, zj, hwj, zi, hwi, gj, gi, v8_len, natI_len, hL, hset, Nat.zero_add, mK_ren] at hr; subst hr; (first | refine awV ?_ ?_ | refine awW ?_ ?_ | (refine condK (fun h => ?_) (fun h => ?_) <;> (try simp only [go_sem, reduceCtorEq] at h) <;> (try (exfalso; omega))))) | (refine go_callI (tyOf_ok _) [(10006, 10006), (10007, 10007), (10005, 10005), (10000, 10000), (10002, 10002), (10003, 10003), (10008, 10008), (10009, 10009)] [(10006, 10006), (10007, 10007), (10005, 10005), (10000, 10000), (10002, 10002), (10003, 10003), (10008, 10008), (10009, 10009)] [] [10006, 10007, 10005, 10000, 10002, 10003, 10008, 10009] (by simp only [go_sem, Nat.reduceBEq, Nat.reduceLT, Nat.reduceSub] <;> exact rfl) ?_ rfl rfl (by first | exact .inl rfl | exact .inr rfl) (by simp only [go_sem, Nat.reduceBEq, mK_ren] <;> exact rfl) (hb) (.inl rfl) ?_))) <;> (try omega)
    refine ⟨(i + 1, j + 1, L.set i k), ?_, ⟨by show i + 1 < j + 1; omega, hlt, by show (L.set i k).length = l.length; rw [List.length_set]; exact hL, ?_, fun m hm => ?_⟩, by show l.length - (j + 1) < l.length - j; omega⟩
    ·simp only [go_sem, Nat.reduceBEq]
     try exact rfl
    ·show (L.set i k).take (i + 1) = (l.take (j + 1)).filter _
     have hiL : i < (L.set i k).length := by rw [List.length_set]; omega
     rw [htk2, List.filter_append, List.filter_cons_of_pos (by simp [hc]), List.filter_nil, ← htk, List.take_succ_eq_append_getElem hiL, List.getElem_set_self, List.take_set_of_le (Nat.le_refl _)]
    ·simp only at hm
     show (L.set i k)[m]? = l[m]?
     rw [List.getElem?_set_ne (by omega)]
     exact hdr m (by omega)
  ·have e1 : ((j : Int) < (l.length : Int)) = False := eq_false (by omega)
   have hjj : l.take j = l := List.take_of_length_le (by omega)
   rw [hjj] at htk
   have hil : i ≤ L.length := by omega
   have ht : (v8 (natI L)).take i = v8 (natI (L.take i)) := natI_take L i
   rw [htk] at ht
   have hfl : (l.filter fun k => !(delF Q1 Q2 en k)).length = i := by rw [← htk, List.length_take]; omega
   rw [hfl]
   generalize (l.filter fun k => !(delF Q1 Q2 en k)) = R at *
   (repeat' (first | exact trivial | (with_reducible first | apply awA | apply awD | apply awE | apply awF | apply awH | apply awK) | ((with_reducible first | apply awn | apply awo | refine awQ ?_ | refine awT ?_); intro r hr; simp only [go_sem, Nat.reduceBEq, Nat.reduceLT, e1, zi, ht, Nat.zero_add, Nat.sub_zero, Int.toNat_zero] at hr; subst hr; (first | refine awV ?_ ?_ | refine awW ?_ ?_ | refine endGK ?_ ?_ ?_ | (refine condK (fun h => ?_) (fun h => ?_) <;> (try simp only [go_sem, reduceCtorEq] at h) <;> (try (exfalso; omega))))) | (refine al_clear (tyOf_ok _) (d := 10010) rfl rfl rfl rfl rfl t23 rfl t3 rfl rfl ?_))) <;> (try omega)
   all_goals first | exact AV.up_rfl _ | (repeat first | exact obUp_nil | refine obUp_cons rfl ?_)
end Go.Proofs.Ytjeplogcfedmeaa
end
section
namespace Go.Proofs.Ytjeplogcfedmeaa
open Go.RowKit
set_option maxRecDepth 100000
set_option maxHeartbeats 8000000
def freeI (C : List InsM) (B : List Bool) (k : Nat) : Prop := (insAt C k).op = 16 ∧ B.getD (insAt C k).c.toNat false = false
def unpaidP (C : List InsM) (B : List Bool) (en : Nat) (K : Nat → Prop) (k : Nat) : Prop :=
 K k ∧ freeI C B k ∧ (k = en ∨ Rch (wayR C (bareF C B)) en k ∨ ∃ a, K a ∧ freeI C B a ∧ Rch (wayR C (bareF C B)) a k)
structure UnpI (C : List InsM) (B : List Bool) (en : Nat) (M : List (Nat × Int × Unit)) (q : List Nat) : Prop where
 iff : ∀ k, k ∈ q ↔ unpaidP C B en (· ∈ keyN M) k
 len : q.length ≤ 1048576
theorem unpaid_E (e : Bool) (C : List InsM) (N : List Int) (B : List Bool) (en : Nat) (c : Nat) (M : List (Nat × Int × Unit)) (hok : CodeOK C N) (S : Nat → Prop) (hS : ClosedS C B S) (hM : MapOK c M) (hMS : ∀ k ∈ keyN M, S k) (hen : S en) :
  GCallE Try.prog 40 [.ptr 1 10000 0 0] (rtO e C N B en c M) (UnpI C B en M) (fun q => .ref 3 1 42 0 q.length) (fun q => rtO e C N B en c M ++ [(42, .row 3 1 (v8 (natI q)))]) := by
 have hC := hok.len
 have hlen := hM.len
 have hr1 := reach2 e C N B en c M hok S hS [en] (by simp) (by simpa using hen) (by simp)
 have hr2 := fun (r : List Nat) (h1 : r ≠ []) (h2 : ∀ k ∈ r, S k) (h3 : r.length ≤ 1048576) => reach2 e C N B en c M hok S hS r h1 h2 h3
 have hdel := fun Q1 Q2 r hr => delete_G e C N B en c M Q1 Q2 r hr
 unfold unO at hdel
 unfold rtO rtV at *
 refine go_fnE (tyOf_ok _) Try.func40 rfl rfl (by rw [Try.results40]) Try.ntmps40 rfl fun E => ?_
 (repeat' (first | exact trivial | (with_reducible first | apply awA | apply awB | apply awF) | ((with_reducible first | apply awn | apply awo); intro r hr; simp only [go_sem, Nat.reduceBEq, Nat.reduceLT, Nat.reduceLeDiff, Nat.reduceAdd, Nat.reduceMul, mK_kill] at hr; subst hr; (first | refine awV ?_ ?_ | refine awW ?_ ?_)) | (refine al_mrange (tyOf_ok _) (u := 12) rfl rfl rfl ⟨by decide, by decide⟩ rfl rfl t74 rfl rfl (by decide) ?_))) <;> (try omega)
 refine aw_nilrow 3 3 1 42 (.inl (by decide)) (by simp only [go_sem, Nat.reduceBEq]) ?_
 refine go_loop [1, 3, 12] [1, 10000, 10002, 10003, 12, 42] (fun q : List (Nat × Int × Unit) × List Nat => ⟨[(1, true, .ptr 1 1 0 0), (3, true, .ref 3 1 42 0 q.2.length), (12, true, .ptr 1 12 0 0)],
  [(1, .var [.ptr 1 10000 0 0]), (10000, .var [vB e, .lst 4 (encIs C), .lst 1 (v8 N), .ref 4 1 10002 0 B.length, vI en, .map 10003]), (10002, .row 4 1 (encT B)), (10003, .mapr c (mK M)), (12, .iter 10003 true c (q.1.map (·.1))), (42, .row 3 1 (v8 (natI q.2)))]⟩)
  (fun q => (∀ e ∈ q.1, e ∈ M) ∧ (q.1.map (·.1)).Nodup ∧ (∀ k, k ∈ q.2 ↔ k ∈ keyN q.1 ∧ freeI C B k) ∧ q.2.length ≤ q.1.length) (fun q => M.length - q.1.length) ([], [])
  (by simp only [mK_kill, AState.nilrow, go_sem, Nat.reduceBEq, Nat.reduceLT] <;> exact rfl) ⟨fun e he => (by cases he), List.nodup_nil, fun k => by simp [keyN], Nat.zero_le _⟩ ?_
 intro ⟨V, r⟩ ⟨hV, hVn, hr, hrl⟩
 simp only at hV hVn hr hrl ⊢
 have hVl : V.length ≤ M.length := by
  refine nodup_sub_len ?_ hV
  rw [List.Nodup, List.pairwise_map] at hVn
  exact hVn.imp fun h e => h (by rw [e])
 (repeat' (first | exact trivial | (with_reducible apply awA) | ((with_reducible apply awn); intro r hr; simp only [go_sem, Nat.reduceBEq] at hr; subst hr; (first | refine awW ?_ ?_)) | (refine al_mnext (d := 10003) (u := 12) (L := M) (f := fun _ => AV.dead) rfl rfl ⟨by decide, by decide⟩ rfl rfl rfl rfl hM.lt rfl (fun h0 => hold ?_) (fun x hx hxn => hold ?_)))) <;> (try omega)
 ·refine ⟨?_⟩
  have hVK : ∀ k, k ∈ keyN V ↔ k ∈ keyN M := fun k => by
   constructor
   ·intro h
    obtain ⟨e, he, rfl⟩ := List.mem_map.1 h
    exact List.mem_map.2 ⟨e, hV e he, rfl⟩
   ·intro h
    obtain ⟨e, he, rfl⟩ := List.mem_map.1 h
    obtain ⟨e', he', h2⟩ := List.mem_map.1 (h0 e he)
    have : e' = e := nodup_map_inj hM.nd (hV e' he') he h2
    subst this
    exact List.mem_map.2 ⟨e', he', rfl⟩
  have hr' : ∀ k, k ∈ r ↔ k ∈ keyN M ∧ freeI C B k := fun k => by rw [hr, hVK]
  clear hr hVK h0 hV hVn
  by_cases hrn : r = []
  ·subst hrn
   have e0 : (((([] : List Nat).length : Nat) : Int) = 0) = True := eq_true rfl
   (repeat' (first | exact trivial | (with_reducible first | apply awA | apply awD | apply awE | apply awF | apply awG | apply awH | apply awK) | ((with_reducible first | apply awn | apply awo | refine awQ ?_ | refine aweR ?_); intro r hr; simp only [go_sem, Nat.reduceBEq, Nat.reduceLT] at hr; subst hr; (first | refine awV ?_ ?_ | refine endEK ?_ ?_ | (refine condK (fun h => ?_) (fun h => ?_) <;> (try simp only [go_sem, reduceCtorEq] at h) <;> (try (exfalso; omega))))))) <;> (try omega)
   all_goals refine ⟨[], ⟨fun k => ?_, Nat.zero_le _⟩, AV.up_nilref _ _ _ _, ?_⟩
   ·constructor
    ·intro h; cases h
    ·rintro ⟨h1, h2, _⟩
     exact absurd ((hr' k).2 ⟨h1, h2⟩) (by simp)
   ·repeat first | exact obUp_nil | refine obUp_cons rfl ?_
  ·have h0 : 0 < r.length := List.length_pos_iff.2 hrn
   have e0 : ((r.length : Int) = 0) = False := eq_false (by omega)
   have hr2' := hr2 r hrn (fun k hk => hMS k ((hr' k).1 hk).1) (by omega)
   have hdel' := fun Q1 Q2 => hdel Q1 Q2 r (by omega)
   clear hr2 hdel
   (repeat' (first | exact trivial | (with_reducible first | apply awA | apply awC | apply awE | apply awF | apply awH | apply awK) | (refine aw_draw (id := 10) (t := (.node [0, 1, 2, 3, 4, 6, 7] [(.node [5] [(.node [8, 9, 10] []), (.node [9, 8, 10] [])]), (.node [9, 5, 8, 10] [])])) (drR [1] [50] [54]) mixed (by kernel_rfl) (by kernel_rfl) (fun _ _ h => h) ?_) | (refine at_done (by simp only [go_sem]; exact rfl) ?_) | (refine at_alt (by simp only [go_sem]; exact rfl) ?_) | refine qalt_normal ?_ | refine ats_cons ?_ ?_ | exact ats_nil | ((with_reducible first | refine awN (tyOf_ok _) [51] ?_ | refine awO (tyOf_ok _) [51] ?_ | refine awP (tyOf_ok _) [51] ?_ | refine awQ ?_); intro r hr; simp only [go_sem, Nat.reduceBEq, Nat.reduceLT, Nat.reduceLeDiff, Nat.reduceAdd, Nat.reduceMul, reduceCtorEq, mK_kill, e0] at hr; subst hr; (first | refine awV ?_ ?_ | refine awW ?_ ?_ | (refine condK (fun h => ?_) (fun h => ?_) <;> (try simp only [go_sem, reduceCtorEq] at h) <;> (try (exfalso; omega))))) | (refine go_callGE [(10000, 10000), (10002, 10002), (10003, 10003), (51, 10004)] [(14, 54), (10000, 10000), (10002, 10002), (10003, 10003), (10004, 51)] [54] [10000, 10002, 10003, 51] ?_; intro r hr; simp only [go_sem, Nat.reduceBEq, Nat.reduceLT, mK_ren] at hr; subst hr; refine callGV (hr1) rfl rfl (by first | exact .inl rfl | exact .inr rfl) ?_ (.inl rfl) (fun q hq => hold ?_)))) <;> (try omega)
   all_goals
    refine ⟨?_⟩
    obtain ⟨Q1, rfl⟩ : ∃ z, z = q := ⟨_, rfl⟩
    have hq1 := hq
    clear hq
    (repeat' (first | exact trivial | (with_reducible first | apply awA | apply awF) | ((with_reducible first | apply awn | apply awp); intro r hr; simp only [go_sem, Nat.reduceBEq, Nat.reduceLT, Nat.reduceLeDiff, Nat.reduceAdd, Nat.reduceMul, mK_kill, mK_ren] at hr; subst hr; (first | refine awV ?_ ?_ | refine awW ?_ ?_)) | (refine go_callGE [(10000, 10000), (10002, 10002), (10003, 10003), (42, 10004)] [(14, 59), (10000, 10000), (10002, 10002), (10003, 10003), (10004, 42)] [59] [10000, 10002, 10003, 42] ?_; intro r hr; simp only [go_sem, Nat.reduceBEq, Nat.reduceLT, mK_ren] at hr; subst hr; refine callGV (hr2') rfl rfl (by first | exact .inl rfl | exact .inr rfl) ?_ (.inl rfl) (fun q hq => hold ?_)))) <;> (try omega)
    refine ⟨?_⟩
    obtain ⟨Q2, rfl⟩ : ∃ z, z = q := ⟨_, rfl⟩
    have hq2 := hq
    clear hq
    have hd := hdel' Q1 Q2
    (repeat' (first | exact trivial | (with_reducible first | apply awA | apply awD | apply awF) | ((with_reducible first | apply awn | apply awo | refine aweR ?_); intro r hr; simp only [go_sem, Nat.reduceBEq, Nat.reduceLT, Nat.reduceLeDiff, Nat.reduceAdd, Nat.reduceMul, mK_kill, mK_cut, mK_ren] at hr; subst hr; (first | refine awV ?_ ?_ | refine awW ?_ ?_ | refine endEK ?_ ?_)) | (refine go_callGE [(6, 10006), (7, 10007), (1, 10005), (10000, 10000), (10002, 10002), (10003, 10003), (54, 10008), (59, 10009), (42, 10010)] [(10006, 6), (10007, 7), (10005, 1), (10000, 10000), (10002, 10002), (10003, 10003), (10008, 54), (10009, 59), (10010, 42)] [] [6, 7, 1, 10000, 10002, 10003, 54, 59, 42] ?_; intro r hr; simp only [go_sem, Nat.reduceBEq, Nat.reduceLT, mK_ren] at hr; subst hr; refine callGK (hd) rfl rfl (by first | exact .inl rfl | exact .inr rfl) ?_ (.inl rfl) ?_))) <;> (try omega)
    all_goals refine ⟨r.filter fun k => !(delF Q1 Q2 en k), ⟨fun k => ?_, Nat.le_trans (List.length_filter_le _ _) (by omega)⟩, AV.up_rfl _, ?_⟩
    ·rw [List.mem_filter, hr']
     unfold unpaidP delF
     have h1 : k ∈ Q1 ↔ Rch (wayR C (bareF C B)) en k := by
      rw [hq1.iff]
      exact ⟨fun ⟨a, ha, h⟩ => by simp at ha; subst ha; exact h, fun h => ⟨en, by simp, h⟩⟩
     have h2 : k ∈ Q2 ↔ ∃ a, a ∈ keyN M ∧ freeI C B a ∧ Rch (wayR C (bareF C B)) a k := by
      rw [hq2.iff]
      exact ⟨fun ⟨a, ha, h⟩ => ⟨a, ((hr' a).1 ha).1, ((hr' a).1 ha).2, h⟩, fun ⟨a, h1, h2, h3⟩ => ⟨a, (hr' a).2 ⟨h1, h2⟩, h3⟩⟩
     rw [← h1, ← h2, and_assoc]
     have h3 : ((k : Int) = (en : Int)) ↔ k = en := by omega
     simp only [h3, Bool.not_and, Bool.not_not, Bool.or_eq_true, decide_eq_true_eq]
     constructor
     ·rintro ⟨g1, g2, (g | g) | g⟩
      ·exact ⟨g1, g2, .inr (.inl g)⟩
      ·exact ⟨g1, g2, .inr (.inr g)⟩
      ·exact ⟨g1, g2, .inl g⟩
     ·rintro ⟨g1, g2, g | g | g⟩
      ·exact ⟨g1, g2, .inr g⟩
      ·exact ⟨g1, g2, .inl (.inl g)⟩
      ·exact ⟨g1, g2, .inl (.inr g)⟩
    ·repeat first | exact obUp_nil | refine obUp_cons rfl ?_
 ·refine ⟨?_⟩
  obtain ⟨bx, kx, ux⟩ := x
  have hpos := hM.pos _ hx
  obtain ⟨k, rfl⟩ : ∃ k : Nat, kx = k := ⟨kx.toNat, by simp only at hpos; omega⟩
  have hkM : k ∈ keyN M := List.mem_map.2 ⟨_, hx, by simp⟩
  have hkV : k ∉ keyN V := fun h => by
   obtain ⟨e', he', h2⟩ := List.mem_map.1 h
   have hp' := hM.pos e' (hV e' he')
   have : e' = (bx, (k : Int), ux) := nodup_map_inj hM.kd (hV e' he') hx (by show e'.2.1 = (k : Int); omega)
   subst this
   exact hxn (List.mem_map.2 ⟨_, he', rfl⟩)
  have hV2 : ∀ e ∈ V ++ [(bx, (k : Int), ux)], e ∈ M := fun e he => by
   rcases List.mem_append.1 he with h | h
   ·exact hV e h
   ·simp at h; subst h; exact hx
  have hVn2 : ((V ++ [(bx, (k : Int), ux)]).map (·.1)).Nodup := by
   rw [List.map_append, List.nodup_append]
   exact ⟨hVn, by simp, fun a ha b hb hab => by simp at hb; subst hb; subst hab; exact hxn ha⟩
  have hVl2 : (V ++ [(bx, (k : Int), ux)]).length ≤ M.length := by
   refine nodup_sub_len ?_ hV2
   rw [List.Nodup, List.pairwise_map] at hVn2
   exact hVn2.imp fun h e => h (by rw [e])
  have hVs : (V ++ [(bx, (k : Int), ux)]).length = V.length + 1 := by simp
  have hkV2 : ∀ y, y ∈ keyN (V ++ [(bx, (k : Int), ux)]) ↔ y ∈ keyN V ∨ y = k := fun y => by simp [keyN]
  have hVm : (V.map (·.1)) ++ [bx] = (V ++ [(bx, (k : Int), ux)]).map (·.1) := by simp
  have hkC := hS.lt k (hMS k hkM)
  have hcal := hS.calls k (hMS k hkM)
  have zk : ((k : Int)).toNat = k := by omega
  have gk := insAt_get hkC
  clear hr1 hr2 hdel
  have skip : ¬ freeI C B k → ∀ y, y ∈ r ↔ y ∈ keyN (V ++ [(bx, (k : Int), ux)]) ∧ freeI C B y := fun hf y => by
   rw [hr, hkV2]
   exact ⟨fun h => ⟨.inl h.1, h.2⟩, fun h => ⟨h.1.resolve_right fun e => by subst e; exact hf h.2, h.2⟩⟩
  unfold freeI at skip hr ⊢
  generalize hx0 : insAt C k = x0 at *
  obtain ⟨op, a, b, cc⟩ := x0
  dsimp only at hcal
  by_cases h16 : op = 16
  ·subst h16
   obtain ⟨h1, h2⟩ := hcal rfl
   obtain ⟨m, rfl⟩ : ∃ m : Nat, cc = m := ⟨cc.toNat, by omega⟩
   have zm : ((m : Int)).toNat = m := by omega
   have gb := encT_get (B := B) (k := m) (by omega)
   cases hp : B.getD m false with
   | true =>
    rw [hp] at gb
    (repeat' (first | exact trivial | (with_reducible first | apply awA | apply awB | apply awC | apply awF | apply awI) | (refine aw_draw (id := 6) (t := (.node [0, 1, 2, 3, 4, 5, 6, 7, 8, 9, 10, 11, 12, 13] [])) (drR [5, 1] [32, 36] []) mixed (by kernel_rfl) (by kernel_rfl) (fun _ _ h => h) ?_) | (refine at_done (by simp only [go_sem]; exact rfl) ?_) | (refine at_alt (by simp only [go_sem]; exact rfl) ?_) | refine qalt_normal ?_ | refine ats_cons ?_ ?_ | exact ats_nil | ((with_reducible first | apply awn | apply awo | apply awp | refine awQ ?_); intro r hr; simp only [go_sem, Nat.reduceBEq, Nat.reduceLT, Nat.reduceLeDiff, Nat.reduceAdd, Nat.reduceMul, reduceCtorEq, mK_kill, zk, gk, encIs_len, zm, gb] at hr; subst hr; (first | refine awV ?_ ?_ | refine awW ?_ ?_ | (refine condK (fun h => ?_) (fun h => ?_) <;> (try simp only [go_sem, reduceCtorEq] at h) <;> (try (exfalso; omega))))) | (refine al_mentry (d := 10003) (u := 12) (L := M) (f := fun _ => AV.dead) (e := (bx, (k : Int), ux)) rfl rfl ⟨by decide, by decide⟩ rfl rfl rfl rfl hx hM.nd ?_))) <;> (try omega)
    refine ⟨(V ++ [(bx, (k : Int), ux)], r), ?_, ⟨hV2, hVn2, skip (fun h => by have := h.2; rw [zm, hp] at this; cases this), by show r.length ≤ (V ++ [(bx, (k : Int), ux)]).length; omega⟩, by show M.length - (V ++ [(bx, (k : Int), ux)]).length < M.length - V.length; omega⟩
    simp only [hVm, go_sem, Nat.reduceBEq]
    try exact rfl
   | false =>
    rw [hp] at gb
    have ht : (v8 (natI r)).take r.length = v8 (natI r) := by rw [v8_take, List.take_of_length_le (by rw [natI_len]; omega)]
    have ha := natI_app r k
    have hl3 : (r ++ [k]).length = r.length + 1 := by simp
    (repeat' (first | exact trivial | (with_reducible first | apply awA | apply awB | apply awC | apply awF | apply awI) | (refine aw_draw (id := 6) (t := (.node [0, 1, 2, 3, 4, 5, 6, 7, 8, 9, 10, 11, 12, 13] [])) (drR [5, 1] [32, 36] []) mixed (by kernel_rfl) (by kernel_rfl) (fun _ _ h => h) ?_) | (refine at_done (by simp only [go_sem]; exact rfl) ?_) | (refine at_alt (by simp only [go_sem]; exact rfl) ?_) | refine qalt_normal ?_ | refine ats_cons ?_ ?_ | exact ats_nil | ((with_reducible first | apply awn | apply awo | apply awp | refine awQ ?_); intro r hr; simp only [go_sem, Nat.reduceBEq, Nat.reduceLT, Nat.reduceLeDiff, Nat.reduceAdd, Nat.reduceMul, Nat.reduceEqDiff, reduceCtorEq, mK_kill, zk, gk, encIs_len, zm, gb, v8_len, natI_len, ht, ha, hl3] at hr; subst hr; (first | refine awV ?_ ?_ | refine awW ?_ ?_ | (refine condK (fun h => ?_) (fun h => ?_) <;> (try simp only [go_sem, reduceCtorEq] at h) <;> (try (exfalso; omega))))) | (refine al_mentry (d := 10003) (u := 12) (L := M) (f := fun _ => AV.dead) (e := (bx, (k : Int), ux)) rfl rfl ⟨by decide, by decide⟩ rfl rfl rfl rfl hx hM.nd ?_))) <;> (try omega)
    refine ⟨(V ++ [(bx, (k : Int), ux)], r ++ [k]), ?_, ⟨hV2, hVn2, fun y => ?_, by show (r ++ [k]).length ≤ (V ++ [(bx, (k : Int), ux)]).length; omega⟩, by show M.length - (V ++ [(bx, (k : Int), ux)]).length < M.length - V.length; omega⟩
    ·simp only [hVm, hl3, go_sem, Nat.reduceBEq]
     try exact rfl
    ·show y ∈ r ++ [k] ↔ y ∈ keyN (V ++ [(bx, (k : Int), ux)]) ∧ _
     rw [List.mem_append, List.mem_singleton, hr, hkV2]
     constructor
     ·rintro (⟨h1, h2⟩ | rfl)
      ·exact ⟨.inl h1, h2⟩
      ·exact ⟨.inr rfl, by rw [hx0], by rw [hx0]; show B.getD ((m : Int)).toNat false = false; rw [zm]; exact hp⟩
     ·rintro ⟨h1 | h1, h2⟩
      ·exact .inl ⟨h1, h2⟩
      ·exact .inr h1
  ·have e16 : (op = 16) = False := eq_false h16
   by_cases hin : cc.toNat < B.length
   ·have gb := encT_get hin
    (repeat' (first | exact trivial | (with_reducible first | apply awA | apply awB | apply awC | apply awF | apply awI) | (refine aw_draw (id := 6) (t := (.node [0, 1, 2, 3, 4, 5, 6, 7, 8, 9, 10, 11, 12, 13] [])) (drR [5, 1] [32, 36] []) mixed (by kernel_rfl) (by kernel_rfl) (fun _ _ h => h) ?_) | (refine at_done (by simp only [go_sem]; exact rfl) ?_) | (refine at_alt (by simp only [go_sem]; exact rfl) ?_) | refine qalt_normal ?_ | refine ats_cons ?_ ?_ | exact ats_nil | ((with_reducible first | apply awn | apply awo | apply awp | refine awQ ?_); intro r hr; simp only [go_sem, Nat.reduceBEq, Nat.reduceLT, Nat.reduceLeDiff, Nat.reduceAdd, Nat.reduceMul, reduceCtorEq, mK_kill, zk, gk, encIs_len, e16, gb] at hr; subst hr; (first | refine awV ?_ ?_ | refine awW ?_ ?_ | (refine condK (fun h => ?_) (fun h => ?_) <;> (try simp only [go_sem, reduceCtorEq] at h) <;> (try (exfalso; omega))))) | (refine al_mentry (d := 10003) (u := 12) (L := M) (f := fun _ => AV.dead) (e := (bx, (k : Int), ux)) rfl rfl ⟨by decide, by decide⟩ rfl rfl rfl rfl hx hM.nd ?_) | (refine al_skipC (vB true) rfl rfl ⟨by decide, by decide⟩ ?_))) <;> (try omega)
    refine ⟨(V ++ [(bx, (k : Int), ux)], r), ?_, ⟨hV2, hVn2, skip (fun h => h16 h.1), by show r.length ≤ (V ++ [(bx, (k : Int), ux)]).length; omega⟩, by show M.length - (V ++ [(bx, (k : Int), ux)]).length < M.length - V.length; omega⟩
    simp only [hVm, go_sem, Nat.reduceBEq]
    try exact rfl
   ·have gb : (encT B)[cc.toNat]? = none := List.getElem?_eq_none (by rw [encT_len]; omega)
    (repeat' (first | exact trivial | (with_reducible first | apply awA | apply awB | apply awC | apply awF | apply awI) | (refine aw_draw (id := 6) (t := (.node [0, 1, 2, 3, 4, 5, 6, 7, 8, 9, 10, 11, 12, 13] [])) (drR [5, 1] [32, 36] []) mixed (by kernel_rfl) (by kernel_rfl) (fun _ _ h => h) ?_) | (refine at_done (by simp only [go_sem]; exact rfl) ?_) | (refine at_alt (by simp only [go_sem]; exact rfl) ?_) | refine qalt_normal ?_ | refine ats_cons ?_ ?_ | exact ats_nil | ((with_reducible first | apply awn | apply awo | apply awp | refine awQ ?_); intro r hr; simp only [go_sem, Nat.reduceBEq, Nat.reduceLT, Nat.reduceLeDiff, Nat.reduceAdd, Nat.reduceMul, reduceCtorEq, mK_kill, zk, gk, encIs_len, e16, gb] at hr; subst hr; (first | refine awV ?_ ?_ | refine awW ?_ ?_ | (refine condK (fun h => ?_) (fun h => ?_) <;> (try simp only [go_sem, reduceCtorEq] at h) <;> (try (exfalso; omega))))) | (refine al_mentry (d := 10003) (u := 12) (L := M) (f := fun _ => AV.dead) (e := (bx, (k : Int), ux)) rfl rfl ⟨by decide, by decide⟩ rfl rfl rfl rfl hx hM.nd ?_) | (refine al_skipC (vB true) rfl rfl ⟨by decide, by decide⟩ ?_) | (refine al_skipN (vB true) rfl rfl ⟨by decide, by decide⟩ ?_))) <;> (try omega)
    refine ⟨(V ++ [(bx, (k : Int), ux)], r), ?_, ⟨hV2, hVn2, skip (fun h => h16 h.1), by show r.length ≤ (V ++ [(bx, (k : Int), ux)]).length; omega⟩, by show M.length - (V ++ [(bx, (k : Int), ux)]).length < M.length - V.length; omega⟩
    simp only [hVm, go_sem, Nat.reduceBEq]
    try exact rfl
end Go.Proofs.Ytjeplogcfedmeaa
end
section
namespace Go.Proofs.Ytjeplogcfedmeaa
open Go.RowKit
set_option maxRecDepth 100000
set_option maxHeartbeats 8000000
def LeastI (l : List Nat) (r : Int) : Prop := ∃ k : Nat, r = k ∧ k ∈ l ∧ ∀ j ∈ l, k ≤ j
theorem min_E (l : List Nat) (h0 : 0 < l.length) (hl : l.length ≤ 1000000000) :
  GCallE Try.prog 41 [.ref 3 1 10004 0 l.length] [(10004, .row 3 1 (v8 (natI l)))] (LeastI l) (fun r => vI r) (fun _ => [(10004, .row 3 1 (v8 (natI l)))]) := by
 have e0 : ((l.length : Int) < 1) = False := eq_false (by omega)
 obtain ⟨k0, hk0⟩ : ∃ k, l[0]? = some k := ⟨_, List.getElem?_eq_getElem h0⟩
 have g0 := natI_get hk0
 refine go_fnE (tyOf_ok _) Try.func41 rfl rfl (by rw [Try.results41]) Try.ntmps41 rfl fun E => ?_
 (repeat' (first | exact trivial | (with_reducible first | apply awA | apply awB | apply awC | apply awF) | ((with_reducible first | apply awn | refine awQ ?_); intro r hr; simp only [go_sem, Nat.reduceBEq, Nat.reduceLT, Nat.reduceLeDiff, e0, g0, Int.toNat_zero, Nat.zero_add, Int.reduceLE] at hr; subst hr; (first | refine awV ?_ ?_ | (refine condK (fun h => ?_) (fun h => ?_) <;> (try simp only [go_sem, reduceCtorEq] at h) <;> (try (exfalso; omega))))))) <;> (try omega)
 refine go_loop [0, 3, 4] [10004] (fun q : Nat × Nat => ⟨[(0, true, .ref 3 1 10004 0 l.length), (3, true, vI q.2), (4, true, vI q.1)], [(10004, .row 3 1 (v8 (natI l)))]⟩)
  (fun q => 1 ≤ q.1 ∧ q.1 ≤ l.length ∧ q.2 ∈ l ∧ ∀ j ∈ l.take q.1, q.2 ≤ j) (fun q => l.length - q.1) (1, k0) (by simp only [go_sem, Nat.reduceBEq] <;> exact rfl) ⟨Nat.le_refl _, h0, List.mem_of_getElem? hk0, fun j hj => by
   rw [List.take_succ_eq_append_getElem h0, List.take_zero] at hj
   rw [List.getElem?_eq_getElem h0] at hk0
   injection hk0 with hk0
   simp at hj
   omega⟩ ?_
 intro ⟨i, m⟩ ⟨h1, hi, hm, hle⟩
 simp only at h1 hi hm hle ⊢
 have hwi := wrap_i64 (n := (i : Int) + 1) (by omega)
 have zi : ((i : Int)).toNat = i := by omega
 by_cases hlt : i < l.length
 ·have e1 : ((i : Int) < (l.length : Int)) = True := eq_true (by omega)
  obtain ⟨k, hk⟩ : ∃ k, l[i]? = some k := ⟨_, List.getElem?_eq_getElem hlt⟩
  have gi := natI_get hk
  have hmin : min (m : Int) (k : Int) = ((min m k : Nat) : Int) := by omega
  (repeat' (first | exact trivial | (with_reducible first | apply awA | apply awB | apply awC | apply awF | apply awI) | ((with_reducible first | apply awn | refine awQ ?_); intro r hr; simp only [go_sem, Nat.reduceBEq, Nat.reduceLT, Nat.reduceLeDiff, e1, zi, hwi, gi, hmin, Nat.zero_add] at hr; subst hr; (first | refine awV ?_ ?_ | (refine condK (fun h => ?_) (fun h => ?_) <;> (try simp only [go_sem, reduceCtorEq] at h) <;> (try (exfalso; omega))))))) <;> (try omega)
  refine ⟨(i + 1, min m k), ?_, ⟨by show 1 ≤ i + 1; omega, hlt, ?_, fun j hj => ?_⟩, by show l.length - (i + 1) < l.length - i; omega⟩
  ·simp only [go_sem, Nat.reduceBEq]
   try exact rfl
  ·show min m k ∈ l
   rcases Nat.le_total m k with h | h
   ·rw [Nat.min_eq_left h]; exact hm
   ·rw [Nat.min_eq_right h]; exact List.mem_of_getElem? hk
  ·rw [List.take_succ_eq_append_getElem hlt] at hj
   rw [List.getElem?_eq_getElem hlt] at hk
   injection hk with hk
   show min m k ≤ j
   rcases List.mem_append.1 hj with hj | hj
   ·have := hle j hj; omega
   ·simp at hj; omega
 ·have e1 : ((i : Int) < (l.length : Int)) = False := eq_false (by omega)
  (repeat' (first | exact trivial | (with_reducible first | apply awA | apply awD | apply awE | apply awF | apply awH | apply awK) | ((with_reducible first | apply awn | refine awQ ?_ | refine aweR ?_); intro r hr; simp only [go_sem, Nat.reduceBEq, Nat.reduceLT, e1] at hr; subst hr; (first | refine awV ?_ ?_ | refine endEK ?_ ?_ | (refine condK (fun h => ?_) (fun h => ?_) <;> (try simp only [go_sem, reduceCtorEq] at h) <;> (try (exfalso; omega))))))) <;> (try omega)
  all_goals refine ⟨(m : Int), ⟨m, rfl, hm, fun j hj => hle j (by rw [List.take_of_length_le (by omega)]; exact hj)⟩, AV.up_rfl _, ?_⟩
  all_goals repeat first | exact obUp_nil | refine obUp_cons rfl ?_
def MinP (p : Nat → Prop) (r : Int) : Prop := ∃ k : Nat, r = k ∧ p k ∧ ∀ j, p j → k ≤ j
def BadP (e : Bool) (C : List InsM) (B : List Bool) (en k : Nat) : Prop :=
 Come (wayR C alwaysF) en k ∧ (Rch (wayR C (bareF C B)) k k ∨ e = false ∧ unpaidP C B en (Come (wayR C alwaysF) en) k)
def SecI (e : Bool) (C : List InsM) : List Int → List Bool → Int → Prop
 | [], _, r => r = -1
 | n :: ns, B, r => MinP (BadP e C B n.toNat) r ∨ (¬ ∃ k, BadP e C B n.toNat k) ∧ SecI e C ns (B ++ [payF C B n.toNat]) r
theorem MinP.uniq {p : Nat → Prop} {r s : Int} (h : MinP p r) (g : MinP p s) : r = s := by
 obtain ⟨k, rfl, h1, h2⟩ := h
 obtain ⟨j, rfl, g1, g2⟩ := g
 have := h2 j g1
 have := g2 k h1
 omega
theorem MinP.ex {p : Nat → Prop} (h : ∃ k, p k) : ∃ r, MinP p r := by
 obtain ⟨k, hk⟩ := h
 induction k using Nat.strongRecOn with
 | ind k ih =>
  by_cases hj : ∃ j, j < k ∧ p j
  ·obtain ⟨j, h1, h2⟩ := hj; exact ih j h1 h2
  ·exact ⟨k, k, rfl, hk, fun j h => Nat.le_of_not_lt fun hlt => hj ⟨j, hlt, h⟩⟩
theorem SecI.uniq {e : Bool} {C : List InsM} : ∀ {ns : List Int} {B : List Bool} {r s : Int}, SecI e C ns B r → SecI e C ns B s → r = s
 | [], _, _, _, h, g => by rw [show _ = _ from h, show _ = _ from g]
 | n :: ns, B, r, s, h, g => by
  rcases h with h | ⟨h1, h2⟩ <;> rcases g with g | ⟨g1, g2⟩
  ·exact h.uniq g
  ·obtain ⟨k, _, hk, _⟩ := h; exact absurd ⟨k, hk⟩ g1
  ·obtain ⟨k, _, hk, _⟩ := g; exact absurd ⟨k, hk⟩ h1
  ·exact SecI.uniq h2 g2
theorem SecI.ex (e : Bool) (C : List InsM) : ∀ (ns : List Int) (B : List Bool), ∃ r, SecI e C ns B r
 | [], _ => ⟨-1, rfl⟩
 | n :: ns, B => by
  by_cases h : ∃ k, BadP e C B n.toNat k
  ·obtain ⟨r, hr⟩ := MinP.ex h; exact ⟨r, .inl hr⟩
  ·obtain ⟨r, hr⟩ := SecI.ex e C ns (B ++ [payF C B n.toNat]); exact ⟨r, .inr ⟨h, hr⟩⟩
noncomputable def secF (e : Bool) (C : List InsM) (N : List Int) : Int := Classical.choose (SecI.ex e C N [])
theorem secF_spec (e : Bool) (C : List InsM) (N : List Int) : SecI e C N [] (secF e C N) := Classical.choose_spec (SecI.ex e C N [])
def LookedOK (C : List InsM) (N : List Int) : Prop := ∀ (t : Nat) (n : Int), N[t]? = some n → ∃ S : Nat → Prop, S n.toNat ∧ ∀ B : List Bool, B.length = t → ClosedS C B S
theorem second_E (e : Bool) (C : List InsM) (N : List Int) (hok : CodeOK C N) (hlk : LookedOK C N) : GCallE Try.prog 30 [pG e C N] [] (SecI e C N []) (fun r => vI r) (fun _ => []) := by
 have hC := hok.len
 have hNl := hok.lenN
 unfold pG
 refine go_fnE (tyOf_ok _) Try.func30 rfl rfl (by rw [Try.results30]) Try.ntmps30 rfl fun E => ?_
 (repeat' (first | exact trivial | (with_reducible first | apply awA | apply awB | apply awF) | ((with_reducible apply awn); intro r hr; simp only [go_sem, Nat.reduceBEq, Nat.reduceLT, Nat.reduceLeDiff, Nat.reduceAdd, Nat.reduceMul] at hr; subst hr; (first | refine awV ?_ ?_)))) <;> (try omega)
 refine aw_nilrow 3 4 1 50 (.inl (by decide)) (by simp only [go_sem, Nat.reduceBEq]) ?_
 (repeat' (first | exact trivial | (with_reducible first | apply awA | apply awB | apply awC | apply awD | apply awE | apply awF | apply awG | apply awH | apply awI | apply awJ | apply awK | apply awL | refine awM (by decide) ?_) | ((with_reducible first | apply awn | apply awo | apply awp | refine awQ ?_ | refine awR ?_ | refine awS ?_ | refine aweR ?_ | refine aweN ?_); intro r hr; simp only [go_sem, Nat.reduceBEq, Nat.reduceBneDiff, Nat.reduceLT, Nat.reduceLeDiff, Nat.reduceAdd, Nat.reduceMul, Nat.reduceSub, Nat.reduceEqDiff, reduceCtorEq, AState.nilrow, v8_len] at hr; subst hr; (first | refine awV ?_ ?_ | refine awW ?_ ?_ | refine endK ?_ ?_ | refine endEK ?_ ?_ | (refine condK (fun h => ?_) (fun h => ?_) <;> (try simp only [go_sem, reduceCtorEq] at h) <;> (try (exfalso; omega))))))) <;> (try omega)
 refine go_loop [1, 3, 9, 10, 11] [1, 50] (fun q : Nat × List Bool => ⟨[(1, true, .ptr 1 1 0 0), (3, true, .ref 4 1 50 0 q.2.length), (9, true, .lst 1 (v8 N)), (10, true, vI N.length), (11, true, vI q.1)],
  [(1, .var [vB e, .lst 4 (encIs C), .lst 1 (v8 N)]), (50, .row 4 1 (encT q.2))]⟩) (fun q => q.1 ≤ N.length ∧ q.2.length = q.1 ∧ ∀ r, SecI e C (N.drop q.1) q.2 r → SecI e C N [] r) (fun q => N.length - q.1) (0, [])
  (by simp only [AState.nilrow, v8_len, go_sem, Nat.reduceBEq, Nat.reduceLT] <;> exact rfl) ⟨Nat.zero_le _, rfl, fun r h => h⟩ ?_
 intro ⟨i, B⟩ ⟨hi, hB, hsec⟩
 simp only at hi hB hsec ⊢
 have hwi := wrap_i64 (n := (i : Int) + 1) (by omega)
 have zi : ((i : Int)).toNat = i := by omega
 by_cases hlt : i < N.length
 ·have e1 : ((i : Int) < (N.length : Int)) = True := eq_true (by omega)
  obtain ⟨en, hen⟩ : ∃ en : Nat, N[i] = en := ⟨N[i].toNat, by have := (hok.entry _ (List.getElem_mem hlt)).1; omega⟩
  have gi := v8_get hlt
  rw [hen] at gi
  obtain ⟨S, hS0, hS1⟩ := hlk i N[i] (List.getElem?_eq_getElem hlt)
  rw [hen, Int.toNat_natCast] at hS0
  have hS := hS1 B hB
  rw [List.drop_eq_getElem_cons hlt, hen] at hsec
  have hr := reach1 e C N B en hok S hS [en] (by simp) (by simpa using hS0) (by simp)
  unfold rtV at hr
  (repeat' (first | exact trivial | (with_reducible first | apply awA | apply awB | apply awC | apply awF) | ((with_reducible first | refine awN (tyOf_ok _) [23] ?_ | refine awQ ?_); intro r hr; simp only [go_sem, Nat.reduceBEq, Nat.reduceLT, Nat.reduceLeDiff, Nat.reduceAdd, Nat.reduceMul, e1, zi, gi, v8_len] at hr; subst hr; (first | refine awV ?_ ?_ | refine awW ?_ ?_ | (refine condK (fun h => ?_) (fun h => ?_) <;> (try simp only [go_sem, reduceCtorEq] at h) <;> (try (exfalso; omega))))) | (refine go_callGE [(19, 10000), (50, 10002), (23, 10004)] [(14, 24), (10000, 19), (10002, 50), (10004, 23)] [24] [19, 50, 23] ?_; intro r hr; simp only [go_sem, Nat.reduceBEq, Nat.reduceLT] at hr; subst hr; refine callGV (hr) rfl rfl (by first | exact .inl rfl | exact .inr rfl) ?_ (.inl rfl) (fun q hq => hold ?_)))) <;> (try omega)
  refine ⟨?_⟩
  obtain ⟨Q0, rfl⟩ : ∃ z, z = q := ⟨_, rfl⟩
  have hq0 := hq
  clear hq
  have hset := mset_with Q0 en
  have hclk := mclk_with Q0 en
  have hmem := come_iff hq0
  have hM := MapOK_qL (withE_nd hq0.nd en) (fun k hk => hS.lt k (come_S hS hS0 ((hmem k).1 hk))) hC
  have hkN := qL_keyN (withE Q0 en)
  generalize hQ1 : withE Q0 en = Q1 at *
  have hMS : ∀ k ∈ keyN (qL Q1), S k := fun k hk => come_S hS hS0 ((hmem k).1 (by rw [hkN] at hk; exact hk))
  have hcl : ∀ k ∈ keyN (qL Q1), ∀ j ∈ waysF C k (insAt C k), j.toNat ∈ keyN (qL Q1) := fun k hk j hj => by
   have h0 := (hS.ways k (hMS k hk) j hj).1
   rw [hkN] at hk ⊢
   rw [hmem] at hk ⊢
   obtain ⟨w, hw⟩ := List.mem_iff_getElem?.1 hj
   have hR : wayR C alwaysF k j.toNat := ⟨w, by rw [hw]; congr 1; omega, rfl⟩
   rcases hk with rfl | hk
   ·exact .inr (.one hR)
   ·exact .inr (.more hk hR)
  have hri := rings_E e C N B en Q1.length (qL Q1) hok S hS hM hMS hcl
  have hun := unpaid_E e C N B en Q1.length (qL Q1) hok S hS hM hMS hS0
  have hpa := pay_G e C N B en Q1.length (qL Q1) hok S hS hS0
  have hcome : ∀ k, k ∈ keyN (qL Q1) ↔ Come (wayR C alwaysF) en k := fun k => by rw [hkN]; exact hmem k
  have hcome2 : (fun k => k ∈ keyN (qL Q1)) = Come (wayR C alwaysF) en := funext fun k => propext (hcome k)
  unfold rtO rtV at hri hun hpa
  (repeat' (first | exact trivial | (with_reducible first | apply awA | apply awF) | ((with_reducible first | apply awn | apply awo); intro r hr; simp only [go_sem, Nat.reduceBEq, Nat.reduceLT, Nat.reduceLeDiff, Nat.reduceAdd, Nat.reduceMul, mK_ren] at hr; subst hr; (first | refine awV ?_ ?_ | refine awW ?_ ?_)) | (refine al_mput (tyOf_ok _) (d := 24) (L := qL Q0) (f := fun _ => AV.dead) (key := (en : Int)) () rfl rfl rfl rfl rfl rfl rfl rfl (.inr rfl) t74 rfl t3 rfl rfl hclk hset ?_) | (refine go_callGE [(19, 10000), (50, 10002), (24, 10003)] [(88, 33), (10000, 19), (10002, 50), (10003, 24)] [33] [19, 50, 24] ?_; intro r hr; simp only [go_sem, Nat.reduceBEq, Nat.reduceLT, mK_ren] at hr; subst hr; refine callGV (hri) rfl rfl (by first | exact .inl rfl | exact .inr rfl) ?_ (.inl rfl) (fun q hq => hold ?_)))) <;> (try omega)
  refine ⟨?_⟩
  obtain ⟨r1, rfl⟩ : ∃ z, z = q := ⟨_, rfl⟩
  have hr1 := hq
  clear hq
  have hr1l := hr1.len
  have hmin : ∀ R : List Nat, (∀ k, k ∈ R ↔ BadP e C B en k) → ∀ r, LeastI R r → SecI e C N [] r := fun R hR r ⟨k, h1, h2, h3⟩ => hsec r (.inl ⟨k, h1, by rw [Int.toNat_natCast]; exact (hR k).1 h2, fun j hj => h3 j ((hR j).2 (by rw [Int.toNat_natCast] at hj; exact hj))⟩)
  have hgo : ∀ R : List Nat, (∀ k, k ∈ R ↔ BadP e C B en k) → R = [] → ∀ r, SecI e C (N.drop (i + 1)) (B ++ [payF C B en]) r → SecI e C N [] r := fun R hR h0 r hr => hsec r (.inr ⟨fun ⟨k, hk⟩ => (by rw [Int.toNat_natCast] at hk; have := (hR k).2 hk; rw [h0] at this; cases this), by rw [Int.toNat_natCast]; exact hr⟩)
  have htB : (encT B).take B.length = encT B := List.take_of_length_le (by rw [encT_len]; omega)
  have haB := encT_app B (payF C B en)
  have hlB : (B ++ [payF C B en]).length = B.length + 1 := by simp
  generalize payF C B en = py at hpa htB haB hlB hgo
  cases e with
  | true =>
   have hR : ∀ k, k ∈ r1 ↔ BadP true C B en k := fun k => by
    rw [hr1.iff, hcome]
    unfold BadP
    exact ⟨fun h => ⟨h.1, .inl h.2⟩, fun h => ⟨h.1, h.2.resolve_right fun g => by cases g.1⟩⟩
   by_cases hne : r1 = []
   ·have e4 : ((r1.length : Int) > 0) = False := eq_false (by rw [hne]; simp)
    have hg := hgo r1 hR hne
    (repeat' (first | exact trivial | (with_reducible first | apply awA | apply awC | apply awF | apply awI) | ((with_reducible first | apply awn | apply awo | refine awQ ?_); intro r hr; simp only [go_sem, Nat.reduceBEq, Nat.reduceLT, Nat.reduceLeDiff, Nat.reduceAdd, Nat.reduceMul, Nat.reduceEqDiff, mK_kill, mK_ren, e4, encT_len, htB, haB, hlB] at hr; subst hr; (first | refine awV ?_ ?_ | refine awW ?_ ?_ | (refine condK (fun h => ?_) (fun h => ?_) <;> (try simp only [go_sem, reduceCtorEq] at h) <;> (try (exfalso; omega))))) | (refine go_callGE [(19, 10000), (50, 10002), (24, 10003)] [(10000, 19), (10002, 50), (10003, 24)] [] [19, 50, 24] ?_; intro r hr; simp only [go_sem, Nat.reduceBEq, Nat.reduceLT, mK_ren] at hr; subst hr; refine callGK (hpa) rfl rfl (by first | exact .inl rfl | exact .inr rfl) ?_ (.inl rfl) ?_))) <;> (try omega)
    refine ⟨(i + 1, B ++ [py]), ?_, ⟨hlt, by show (B ++ [py]).length = i + 1; omega, hg⟩, by show N.length - (i + 1) < N.length - i; omega⟩
    simp only [hwi, hlB, go_sem, Nat.reduceBEq]
    try exact rfl
   ·have hl0 : 0 < r1.length := List.length_pos_iff.2 hne
    have e4 : ((r1.length : Int) > 0) = True := eq_true (by omega)
    have hmi := min_E r1 hl0 (by omega)
    (repeat' (first | exact trivial | (with_reducible first | apply awA | apply awC | apply awF) | ((with_reducible first | apply awn | apply awo | refine awQ ?_); intro r hr; simp only [go_sem, Nat.reduceBEq, Nat.reduceLT, Nat.reduceLeDiff, Nat.reduceAdd, Nat.reduceMul, mK_ren, e4] at hr; subst hr; (first | refine awV ?_ ?_ | refine awW ?_ ?_ | (refine condK (fun h => ?_) (fun h => ?_) <;> (try simp only [go_sem, reduceCtorEq] at h) <;> (try (exfalso; omega))))) | (refine go_callGE [(33, 10004)] [(10004, 33)] [] [33] ?_; intro r hr; simp only [go_sem, Nat.reduceBEq, Nat.reduceLT] at hr; subst hr; refine callGV (hmi) rfl rfl (by first | exact .inl rfl | exact .inr rfl) ?_ (.inl rfl) (fun q hq => hold ?_)))) <;> (try omega)
    refine ⟨?_⟩
    have hfin := hmin r1 hR q hq
    (repeat' (first | exact trivial | (with_reducible first | apply awD | apply awF | apply awG | apply awJ) | ((with_reducible first | apply awo | refine aweR ?_); intro r hr; simp only [go_sem, Nat.reduceBEq, Nat.reduceLT, mK_cut] at hr; subst hr; (first | refine awV ?_ ?_ | refine endEK ?_ ?_)))) <;> (try omega)
    all_goals refine ⟨q, hfin, AV.up_rfl _, ?_⟩
    all_goals repeat first | exact obUp_nil | refine obUp_cons rfl ?_
  | false =>
   (repeat' (first | exact trivial | (with_reducible first | apply awA | apply awF) | ((with_reducible first | apply awn | apply awo | refine awQ ?_); intro r hr; simp only [go_sem, Nat.reduceBEq, Nat.reduceLT, Nat.reduceLeDiff, Nat.reduceAdd, Nat.reduceMul, mK_ren] at hr; subst hr; (first | refine awV ?_ ?_ | refine awW ?_ ?_ | (refine condK (fun h => ?_) (fun h => ?_) <;> (try simp only [go_sem, reduceCtorEq] at h) <;> (try (exfalso; omega))))) | (refine go_callGE [(19, 10000), (50, 10002), (24, 10003)] [(42, 39), (10000, 19), (10002, 50), (10003, 24)] [39] [19, 50, 24] ?_; intro r hr; simp only [go_sem, Nat.reduceBEq, Nat.reduceLT, mK_ren] at hr; subst hr; refine callGV (hun) rfl rfl (by first | exact .inl rfl | exact .inr rfl) ?_ (.inl rfl) (fun q hq => hold ?_)))) <;> (try omega)
   refine ⟨?_⟩
   obtain ⟨r2, rfl⟩ : ∃ z, z = q := ⟨_, rfl⟩
   have hr2 := hq
   clear hq
   have hr2l := hr2.len
   have hR : ∀ k, k ∈ r1 ++ r2 ↔ BadP false C B en k := fun k => by
    rw [List.mem_append, hr1.iff, hr2.iff, hcome2]
    unfold BadP
    constructor
    ·rintro (⟨h1, h2⟩ | h)
     ·exact ⟨(hcome k).1 h1, .inl h2⟩
     ·exact ⟨h.1, .inr ⟨rfl, h⟩⟩
    ·rintro ⟨h1, h2 | ⟨_, h2⟩⟩
     ·exact .inl ⟨(hcome k).2 h1, h2⟩
     ·exact .inr h2
   have ht1 : (v8 (natI r1)).take r1.length = v8 (natI r1) := by rw [v8_take, List.take_of_length_le (by rw [natI_len]; omega)]
   have ht2 : (v8 (natI r2)).take r2.length = v8 (natI r2) := by rw [v8_take, List.take_of_length_le (by rw [natI_len]; omega)]
   have ha2 : v8 (natI r1) ++ v8 (natI r2) = v8 (natI (r1 ++ r2)) := by simp [v8, natI]
   have hl2 : (r1 ++ r2).length = r1.length + r2.length := List.length_append
   by_cases hne : r1 ++ r2 = []
   ·have e4 : (((r1 ++ r2).length : Int) > 0) = False := eq_false (by rw [hne]; simp)
    have hg := hgo (r1 ++ r2) hR hne
    (repeat' (first | exact trivial | (with_reducible first | apply awA | apply awC | apply awF | apply awI) | ((with_reducible first | apply awn | apply awo | refine awQ ?_); intro r hr; simp only [go_sem, Nat.reduceBEq, Nat.reduceLT, Nat.reduceLeDiff, Nat.reduceAdd, Nat.reduceMul, Nat.reduceEqDiff, mK_kill, mK_ren, e4, v8_len, natI_len, ht1, ht2, ha2, Nat.zero_add, encT_len, htB, haB, hlB] at hr; subst hr; (first | refine awV ?_ ?_ | refine awW ?_ ?_ | (refine condK (fun h => ?_) (fun h => ?_) <;> (try simp only [go_sem, reduceCtorEq] at h) <;> (try (exfalso; omega))))) | (refine go_callGE [(19, 10000), (50, 10002), (24, 10003)] [(10000, 19), (10002, 50), (10003, 24)] [] [19, 50, 24] ?_; intro r hr; simp only [go_sem, Nat.reduceBEq, Nat.reduceLT, mK_ren] at hr; subst hr; refine callGK (hpa) rfl rfl (by first | exact .inl rfl | exact .inr rfl) ?_ (.inl rfl) ?_))) <;> (try omega)
    refine ⟨(i + 1, B ++ [py]), ?_, ⟨hlt, by show (B ++ [py]).length = i + 1; omega, hg⟩, by show N.length - (i + 1) < N.length - i; omega⟩
    simp only [hwi, hlB, go_sem, Nat.reduceBEq]
    try exact rfl
   ·have hl0 : 0 < (r1 ++ r2).length := List.length_pos_iff.2 hne
    have e4 : (((r1 ++ r2).length : Int) > 0) = True := eq_true (by omega)
    have hmi := min_E (r1 ++ r2) hl0 (by omega)
    (repeat' (first | exact trivial | (with_reducible first | apply awA | apply awF) | ((with_reducible first | apply awn | apply awo | refine awQ ?_); intro r hr; simp only [go_sem, Nat.reduceBEq, Nat.reduceLT, Nat.reduceLeDiff, Nat.reduceAdd, Nat.reduceEqDiff, mK_kill, mK_ren, e4, v8_len, natI_len, ht1, ht2, ha2, Nat.zero_add] at hr; subst hr; (first | refine awV ?_ ?_ | refine awW ?_ ?_ | (refine condK (fun h => ?_) (fun h => ?_) <;> (try simp only [go_sem, reduceCtorEq] at h) <;> (try (exfalso; omega))))) | (refine go_callGE [(33, 10004)] [(10004, 33)] [] [33] ?_; intro r hr; simp only [go_sem, Nat.reduceBEq, Nat.reduceLT] at hr; subst hr; refine callGV (hmi) rfl rfl (by first | exact .inl rfl | exact .inr rfl) ?_ (.inl rfl) (fun q hq => hold ?_)))) <;> (try omega)
    refine ⟨?_⟩
    have hfin := hmin (r1 ++ r2) hR q hq
    (repeat' (first | exact trivial | (with_reducible first | apply awD | apply awF | apply awG | apply awJ) | ((with_reducible first | apply awo | refine aweR ?_); intro r hr; simp only [go_sem, Nat.reduceBEq, Nat.reduceLT, mK_cut] at hr; subst hr; (first | refine awV ?_ ?_ | refine endEK ?_ ?_)))) <;> (try omega)
    all_goals refine ⟨q, hfin, AV.up_rfl _, ?_⟩
    all_goals repeat first | exact obUp_nil | refine obUp_cons rfl ?_
 ·have e1 : ((i : Int) < (N.length : Int)) = False := eq_false (by omega)
  (repeat' (first | exact trivial | (with_reducible first | apply awA | apply awD | apply awE | apply awF | apply awH | apply awK) | ((with_reducible first | apply awn | refine awQ ?_ | refine aweR ?_); intro r hr; simp only [go_sem, Nat.reduceBEq, Nat.reduceLT, e1] at hr; subst hr; (first | refine awV ?_ ?_ | refine endEK ?_ ?_ | (refine condK (fun h => ?_) (fun h => ?_) <;> (try simp only [go_sem, reduceCtorEq] at h) <;> (try (exfalso; omega))))))) <;> (try omega)
  all_goals refine ⟨-1, hsec _ (by rw [List.drop_of_length_le (by omega)]; rfl), AV.up_rfl _, ?_⟩
  all_goals repeat first | exact obUp_nil | refine obUp_cons rfl ?_
end Go.Proofs.Ytjeplogcfedmeaa
end
section
namespace Go.Proofs.Ytjeplogcfedmeaa
open Go.RowKit
set_option maxRecDepth 100000
set_option maxHeartbeats 8000000
def Dok (L : LkM) (D : List Nat) : Prop := ∀ d ∈ D, (L.getD d none).isSome = true
theorem WtH.len {L : LkM} {D : List Nat} {W : List Int} (h : WtH L D W) : W.length ≤ L.length := by
 have h1 : (W.map Int.toNat).Nodup := by
  rw [List.Nodup, List.pairwise_map]
  refine List.Pairwise.imp_of_mem (fun {a b} ha hb hab => ?_) h.nd
  have := ((h.mem a).1 ha).1
  have := ((h.mem b).1 hb).1
  omega
 have h2 := nodup_le h1 (n := L.length) fun k hk => by
  obtain ⟨a, ha, rfl⟩ := List.mem_map.1 hk
  exact waits_lt ((h.mem a).1 ha).2
 simpa using h2
def lkP (e : Bool) (C : List InsM) (N : List Int) (L : LkM) (W : List Int) : List (Nat × AObj) := (10001, .var [.ptr 1 10000 0 0]) :: lkO e C N L W
theorem beyond_G (e : Bool) (C : List InsM) (N : List Int) (L : LkM) (W : List Int) (k : Int) : GCall Try.prog 51 [vI k, .ptr 1 10001 0 0] (lkP e C N L W) (vB (decide ((C.length : Int) ≤ k))) (lkP e C N L W) := by
 unfold lkP lkO lkV
 refine go_fnG (tyOf_ok _) Try.func51 rfl rfl (by rw [Try.results51]) Try.ntmps51 rfl fun E => ?_
 (repeat' (first | exact trivial | (with_reducible first | apply awA | apply awD | apply awF) | ((with_reducible first | apply awn | refine awT ?_); intro r hr; simp only [go_sem, Nat.reduceBEq, Nat.reduceLT, Nat.reduceLeDiff, Nat.reduceAdd, Nat.reduceMul, encIs_len] at hr; subst hr; (first | refine awV ?_ ?_ | refine endGK ?_ ?_ ?_)))) <;> (try omega)
 all_goals first | exact AV.up_rfl _ | exact AV.up_dead _ | (repeat first | exact obUp_nil | refine obUp_cons rfl ?_)
theorem index_E (e : Bool) (C : List InsM) (N : List Int) (L : LkM) (W : List Int) (ks : List Int) (hks : ks.length ≤ 1000000000) :
  GCallE Try.prog 66 [.lst 1 (v8 ks), .fn 51 [.ptr 1 10001 0 0]] (lkP e C N L W) (fun r : Int => decide (0 ≤ r) = ks.any fun j => decide ((C.length : Int) ≤ j)) (fun r => vI r) (fun _ => lkP e C N L W) := by
 unfold lkP lkO lkV
 refine go_fnE (tyOf_ok _) Try.func66 rfl rfl (by rw [Try.results66]) Try.ntmps66 rfl fun E => ?_
 (repeat' (first | exact trivial | (with_reducible first | apply awA | apply awB | apply awF) | ((with_reducible apply awn); intro r hr; simp only [go_sem, Nat.reduceBEq, Nat.reduceLT, v8_len] at hr; subst hr; (first | refine awV ?_ ?_)))) <;> (try omega)
 refine go_loop [0, 1, 6, 7, 8] [10001, 10000, 15000, 15001, 15002] (fun i : Nat => ⟨[(0, true, .lst 1 (v8 ks)), (1, true, .fn 51 [.ptr 1 10001 0 0]), (6, true, .lst 1 (v8 ks)), (7, true, vI ks.length), (8, true, vI i)],
  [(10001, .var [.ptr 1 10000 0 0]), (10000, .var [vB e, .lst 4 (encIs C), .lst 1 (v8 N), .ref 62 6 15000 0 L.length, .ref 4 1 15001 0 L.length, .ref 3 1 15002 0 W.length]), (15000, .row 62 6 (encSts L)), (15001, .row 4 1 (encHas L)), (15002, .row 3 1 (v8 W))]⟩) (fun i => i ≤ ks.length ∧ ∀ j ∈ ks.take i, ¬ (C.length : Int) ≤ j) (fun i => ks.length - i) 0 (by simp only [go_sem, Nat.reduceBEq] <;> exact rfl) ⟨Nat.zero_le _, fun j hj => by simp at hj⟩ ?_
 intro i ⟨hi, hall⟩
 have hwi := wrap_i64 (n := (i : Int) + 1) (by omega)
 have zi : ((i : Int)).toNat = i := by omega
 by_cases hlt : i < ks.length
 ·have e1 : ((i : Int) < (ks.length : Int)) = True := eq_true (by omega)
  have gi := v8_get hlt
  have hb := beyond_G e C N L W ks[i]
  unfold lkP lkO lkV at hb
  by_cases hc : (C.length : Int) ≤ ks[i]
  ·rw [decide_eq_true hc] at hb
   (repeat' (first | exact trivial | (with_reducible first | apply awA | apply awB | apply awC | apply awD | apply awF | apply awG | apply awJ) | ((with_reducible first | apply awn | apply awo | refine awQ ?_ | refine aweR ?_); intro r hr; simp only [go_sem, Nat.reduceBEq, Nat.reduceLT, Nat.reduceLeDiff, e1, zi, gi, v8_len] at hr; subst hr; (first | refine awV ?_ ?_ | refine awW ?_ ?_ | refine endEK ?_ ?_ | (refine condK (fun h => ?_) (fun h => ?_) <;> (try simp only [go_sem, reduceCtorEq] at h) <;> (try (exfalso; omega))))) | (refine go_callI (tyOf_ok _) [(10001, 10001), (10000, 10000), (15000, 15000), (15001, 15001), (15002, 15002)] [(10001, 10001), (10000, 10000), (15000, 15000), (15001, 15001), (15002, 15002)] [15000, 15001, 15002] [10001, 10000] (by simp only [go_sem, Nat.reduceBEq, Nat.reduceLT, Nat.reduceSub] <;> exact rfl) ?_ rfl rfl (by first | exact .inl rfl | exact .inr rfl) (by simp only [go_sem, Nat.reduceBEq] <;> exact rfl) (hb) (.inl rfl) ?_))) <;> (try omega)
   all_goals refine ⟨(i : Int), ?_, AV.up_rfl _, ?_⟩
   all_goals first | (repeat first | exact obUp_nil | refine obUp_cons rfl ?_) | skip
   all_goals rw [decide_eq_true (show (0 : Int) ≤ (i : Int) by omega)]
   all_goals exact (List.any_eq_true.2 ⟨_, List.getElem_mem hlt, decide_eq_true hc⟩).symm
  ·rw [decide_eq_false hc] at hb
   (repeat' (first | exact trivial | (with_reducible first | apply awA | apply awB | apply awC | apply awF | apply awI) | ((with_reducible first | apply awn | apply awo | refine awQ ?_); intro r hr; simp only [go_sem, Nat.reduceBEq, Nat.reduceLT, Nat.reduceLeDiff, e1, zi, hwi, gi, v8_len] at hr; subst hr; (first | refine awV ?_ ?_ | refine awW ?_ ?_ | (refine condK (fun h => ?_) (fun h => ?_) <;> (try simp only [go_sem, reduceCtorEq] at h) <;> (try (exfalso; omega))))) | (refine go_callI (tyOf_ok _) [(10001, 10001), (10000, 10000), (15000, 15000), (15001, 15001), (15002, 15002)] [(10001, 10001), (10000, 10000), (15000, 15000), (15001, 15001), (15002, 15002)] [15000, 15001, 15002] [10001, 10000] (by simp only [go_sem, Nat.reduceBEq, Nat.reduceLT, Nat.reduceSub] <;> exact rfl) ?_ rfl rfl (by first | exact .inl rfl | exact .inr rfl) (by simp only [go_sem, Nat.reduceBEq] <;> exact rfl) (hb) (.inl rfl) ?_))) <;> (try omega)
   refine ⟨i + 1, ?_, ⟨hlt, fun j hj => ?_⟩, by omega⟩
   ·simp only [go_sem, Nat.reduceBEq]
    try exact rfl
   ·rw [List.take_succ_eq_append_getElem hlt] at hj
    rcases List.mem_append.1 hj with hj | hj
    ·exact hall j hj
    ·simp at hj; subst hj; exact hc
 ·have e1 : ((i : Int) < (ks.length : Int)) = False := eq_false (by omega)
  (repeat' (first | exact trivial | (with_reducible first | apply awA | apply awD | apply awE | apply awF | apply awH | apply awK) | ((with_reducible first | apply awn | refine awQ ?_ | refine aweR ?_); intro r hr; simp only [go_sem, Nat.reduceBEq, Nat.reduceLT, e1] at hr; subst hr; (first | refine awV ?_ ?_ | refine endEK ?_ ?_ | (refine condK (fun h => ?_) (fun h => ?_) <;> (try simp only [go_sem, reduceCtorEq] at h) <;> (try (exfalso; omega))))))) <;> (try omega)
  all_goals refine ⟨-1, ?_, AV.up_rfl _, ?_⟩
  all_goals first | (repeat first | exact obUp_nil | refine obUp_cons rfl ?_) | skip
  all_goals rw [List.take_of_length_le (by omega)] at hall
  all_goals exact (List.any_eq_false.2 fun j hj => by simpa using hall j hj).symm
theorem contains_G (e : Bool) (C : List InsM) (N : List Int) (L : LkM) (W : List Int) (ks : List Int) (hks : ks.length ≤ 1000000000) :
  GCall Try.prog 50 [.lst 1 (v8 ks), .fn 51 [.ptr 1 10001 0 0]] (lkP e C N L W) (vB (ks.any fun j => decide ((C.length : Int) ≤ j))) (lkP e C N L W) := by
 have hi := index_E e C N L W ks hks
 unfold lkP lkO lkV at *
 refine go_fnG (tyOf_ok _) Try.func50 rfl rfl (by rw [Try.results50]) Try.ntmps50 rfl fun E => ?_
 (repeat' (first | exact trivial | (with_reducible first | apply awA | apply awD | apply awF) | ((with_reducible first | apply awn | apply awo | refine awT ?_); intro r hr; simp only [go_sem, Nat.reduceBEq, Nat.reduceLT] at hr; subst hr; (first | refine awV ?_ ?_ | refine awW ?_ ?_ | refine endGK ?_ ?_ ?_)) | (refine go_callGE [(10001, 10001), (10000, 10000), (15000, 15000), (15001, 15001), (15002, 15002)] [(10001, 10001), (10000, 10000), (15000, 15000), (15001, 15001), (15002, 15002)] [15000, 15001, 15002] [10001, 10000] ?_; intro r hr; simp only [go_sem, Nat.reduceBEq, Nat.reduceLT] at hr; subst hr; refine callGV (hi) rfl rfl (by first | exact .inl rfl | exact .inr rfl) ?_ (.inl rfl) (fun q hq => ?_)))) <;> (try omega)
 all_goals first | (rw [← hq]; exact AV.up_rfl _) | exact AV.up_rfl _ | (repeat first | exact obUp_nil | refine obUp_cons rfl ?_)
def goesI (C : List InsM) (D : List Nat) (R : Except Int LkM) (q : Int × LkM × List Int) : Prop :=
 q.2.1.length = C.length ∧ match R with
 | .ok L1 => q.1 = -1 ∧ q.2.1 = L1 ∧ WtH L1 D q.2.2 ∧ Dok L1 D
 | .error j => q.1 = j ∧ 0 ≤ j
theorem handF_new {e : Bool} {C : List InsM} {L : LkM} {k : Nat} {s : StM} {t : Int} (h : L.getD k none = none) : handF e C L k s t = some (L.set k (some s)) := by unfold handF; rw [h]
theorem handF_old {e : Bool} {C : List InsM} {L : LkM} {k : Nat} {s s0 : StM} {t : Int} (h : L.getD k none = some s0) : handF e C L k s t = none ∨ handF e C L k s t = some L := by
 unfold handF
 rw [h]
 simp only
 split
 ·exact .inr rfl
 ·split
  ·exact .inr rfl
  ·exact .inl rfl
theorem Dok.set {L : LkM} {D : List Nat} (h : Dok L D) (k : Nat) (s : StM) : Dok (L.set k (some s)) D := fun d hd => by
 have h1 := h d hd
 by_cases hk : k = d
 ·subst hk
  have : k < L.length := by
   rcases Nat.lt_or_ge k L.length with h' | h'
   ·exact h'
   ·simp [List.getD, List.getElem?_eq_none h'] at h1
  simp [List.getD, this]
 ·simp only [List.getD, List.getElem?_set_ne hk] at h1 ⊢
  exact h1
theorem Dok.none {L : LkM} {D : List Nat} (h : Dok L D) {k : Nat} (hk : L.getD k none = Option.none) : k ∉ D := fun hm => by
 have := h k hm
 rw [hk] at this
 cases this
end Go.Proofs.Ytjeplogcfedmeaa
end

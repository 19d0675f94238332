import Derived.Test.YtjeplogcfedmeaaP8
set_option linter.all false
section
namespace Go.Proofs.Ytjeplogcfedmeaa
open Go.RowKit
set_option maxRecDepth 100000
set_option maxHeartbeats 8000000
theorem dcnt_take {K l : List Nat} {j m : Nat} (h : l[j]? = some m) : dcnt K [] (l.take (j + 1)) = dcnt K [] (l.take j) + if m ∈ K then 1 else 0 := by
 have hlt := lt_of_get h
 have hm : l[j] = m := by rw [List.getElem?_eq_getElem hlt] at h; injection h
 unfold dcnt
 rw [List.take_succ_eq_append_getElem hlt, List.filter_append, List.length_append, hm]
 by_cases hk : m ∈ K <;> simp [hk]
theorem dcnt_le (K g l : List Nat) : dcnt K g l ≤ l.length := List.length_filter_le _ _
theorem cntW_mset (c : Nat) (k : Nat) (a : Int) (W : List (Nat × Int × Int)) (y : Nat) : cntW (mset c (k : Int) a W) y = if y = k then a else cntW W y := by
 unfold cntW
 rw [mf_mset]
 by_cases h : y = k
 ·subst h; simp
 ·rw [if_neg (by omega), if_neg h]
theorem nodup_sub_len {α : Type} [DecidableEq α] : ∀ {V M : List α}, V.Nodup → (∀ e ∈ V, e ∈ M) → V.length ≤ M.length
 | [], M, _, _ => Nat.zero_le _
 | a :: V, M, hn, h => by
  rw [List.nodup_cons] at hn
  have ha := h a (.head _)
  have h1 := nodup_sub_len (V := V) (M := M.erase a) hn.2 fun e he => (List.mem_erase_of_ne (by rintro rfl; exact hn.1 he)).2 (h e (.tail _ he))
  have h2 := List.length_erase_of_mem ha
  have h3 := List.length_pos_of_mem ha
  rw [List.length_cons]
  omega
theorem nodup_map_inj {α β : Type} {f : α → β} {l : List α} (h : (l.map f).Nodup) {a b : α} (ha : a ∈ l) (hb : b ∈ l) (he : f a = f b) : a = b := by
 induction l with
 | nil => cases ha
 | cons x l ih =>
  rw [List.map_cons, List.nodup_cons] at h
  rcases List.mem_cons.1 ha with e1 | h1
  ·rcases List.mem_cons.1 hb with e2 | h2
   ·rw [e1, e2]
   ·exact absurd (by rw [← e1, he]; exact List.mem_map.2 ⟨b, h2, rfl⟩) h.1
  ·rcases List.mem_cons.1 hb with e2 | h2
   ·exact absurd (by rw [← e2, ← he]; exact List.mem_map.2 ⟨a, h1, rfl⟩) h.1
   ·exact ih h.2 h1 h2
theorem peeled_E (c c1 c2 nn : Nat) (M : List (Nat × Int × Unit)) (hM : MapOK c M) (LO LB : List (Nat × Int × List Nat)) (hnn : nn ≤ 1048576) (hlt : ∀ k ∈ keyN M, k < nn) (hLO : ∀ k, (atL LO k).length ≤ 17000000000000) (hLB : ∀ k, (atL LB k).length ≤ 17000000000000)
  (hc : ∀ x y, (atL LO x).count y = (atL LB y).count x) :
  GCallE Try.prog 55 [.map 10003, .map 10006, .map 10007] [(10003, .mapr c (mK M)), (10006, .mapr c1 (mL LO)), (10007, .mapr c2 (mL LB))] (PeeledI M (atL LO)) (fun _ => .map 21)
   (fun M' => [(10003, .mapr c (mK M)), (10006, .mapr c1 (mL LO)), (10007, .mapr c2 (mL LB)), (21, .mapr c (mK M'))]) := by
 have hcl := mclone_G c M
 generalize hK : keyN M = K at hlt
 have hlen := hM.len
 refine go_fnE (tyOf_ok _) Try.func55 rfl rfl (by rw [Try.results55]) Try.ntmps55 rfl fun E => ?_
 (repeat' (first | exact trivial | (with_reducible first | apply awA | apply awB | apply awF) | ((with_reducible first | refine awN (tyOf_ok _) [4000022] ?_ | refine awO (tyOf_ok _) [4000022] ?_); intro r hr; simp only [go_sem, Nat.reduceBEq, Nat.reduceBneDiff, Nat.reduceLT, Nat.reduceLeDiff, Nat.reduceAdd, Nat.reduceMul, Nat.reduceSub, Nat.reduceEqDiff, reduceCtorEq, mK_kill, mK_cut, mK_ren, mL_kill, mL_cut, mL_ren, mW_kill, mW_cut, mW_ren] at hr; subst hr; (first | refine awV ?_ ?_ | refine awW ?_ ?_)) | (refine go_callGE [(10003, 10003)] [(7, 21), (10003, 10003)] [21] [10003] ?_; intro r hr; simp only [go_sem, Nat.reduceBEq, Nat.reduceBneDiff, Nat.reduceLT, Nat.reduceLeDiff, Nat.reduceAdd, Nat.reduceMul, Nat.reduceSub, Nat.reduceEqDiff, reduceCtorEq, mK_kill, mK_cut, mK_ren, mL_kill, mL_cut, mL_ren, mW_kill, mW_cut, mW_ren] at hr; subst hr; refine callGK (hcl) rfl rfl (by first | exact .inl rfl | exact .inr rfl) ?_ (.inl rfl) ?_) | (refine al_mrange (tyOf_ok _) (u := 24) rfl rfl rfl ⟨by decide, by decide⟩ rfl rfl t74 rfl rfl (by decide) ?_))) <;> (try omega)
 refine aw_nilrow 9 3 1 56 (.inl (by decide)) (by simp only [go_sem, Nat.reduceBEq, Nat.reduceBneDiff, Nat.reduceLT, Nat.reduceLeDiff, Nat.reduceAdd, Nat.reduceMul, Nat.reduceSub, Nat.reduceEqDiff, reduceCtorEq]) ?_
 refine go_loop [1, 2, 7, 8, 9, 24] [10003, 10006, 10007, 21, 22, 24, 56] (fun q : List (Nat × Int × Unit) × Nat × List (Nat × Int × Int) × List Nat => ⟨[(1, true, .map 10006), (2, true, .map 10007), (7, true, .map 21), (8, true, .map 22), (9, true, .ref 3 1 56 0 q.2.2.2.length), (24, true, .ptr 1 24 0 0)],
  [(10003, .mapr c (mK M)), (10006, .mapr c1 (mL LO)), (10007, .mapr c2 (mL LB)), (21, .mapr c (mK M)), (22, .mapr q.2.1 (mW q.2.2.1)), (24, .iter 21 true c (q.1.map (·.1))), (56, .row 3 1 (v8 (natI q.2.2.2)))]⟩)
  (fun q => (∀ e ∈ q.1, e ∈ M) ∧ (q.1.map (·.1)).Nodup ∧ (∀ k, cntW q.2.2.1 k = if k ∈ keyN q.1 then (dcnt K [] (atL LO k) : Int) else 0) ∧ q.2.2.2.Nodup ∧ ∀ k, k ∈ q.2.2.2 ↔ k ∈ keyN q.1 ∧ dcnt K [] (atL LO k) = 0) (fun q => M.length - q.1.length) ([], 0, [], [])
  (by simp only [mK_kill, mK_cut, mK_ren, mL_kill, mL_cut, mL_ren, mW_kill, mW_cut, mW_ren, AState.nilrow, go_sem, Nat.reduceBEq, Nat.reduceBneDiff, Nat.reduceLT, Nat.reduceLeDiff, Nat.reduceAdd, Nat.reduceMul, Nat.reduceSub, Nat.reduceEqDiff, reduceCtorEq] <;> exact rfl) ⟨fun e he => (by cases he), List.nodup_nil, fun k => rfl, List.nodup_nil, fun k => by simp [keyN]⟩ ?_
 intro ⟨V, cw, W, b⟩ ⟨hV, hVn, hW, hbn, hb⟩
 simp only at hV hVn hW hbn hb ⊢
 have hVl : V.length ≤ M.length := by
  refine nodup_sub_len ?_ hV
  rw [List.Nodup, List.pairwise_map] at hVn
  exact hVn.imp fun h e => h (by rw [e])
 have hbK : ∀ k ∈ b, k ∈ K := fun k hk => by
  obtain ⟨e, he, rfl⟩ := List.mem_map.1 ((hb k).1 hk).1
  rw [← hK]
  exact List.mem_map.2 ⟨e, hV e he, rfl⟩
 have hbl : b.length ≤ nn := nodup_le hbn fun k hk => hlt k (hbK k hk)
 (repeat' (first | exact trivial | (with_reducible apply awA) | ((with_reducible apply awn); intro r hr; simp only [go_sem, Nat.reduceBEq, Nat.reduceBneDiff, Nat.reduceLT, Nat.reduceLeDiff, Nat.reduceAdd, Nat.reduceMul, Nat.reduceSub, Nat.reduceEqDiff, reduceCtorEq, mK_kill, mL_kill, mW_kill] at hr; subst hr; (first | refine awW ?_ ?_)) | (refine al_mnext (d := 21) (u := 24) (L := M) (f := fun _ => AV.dead) rfl rfl ⟨by decide, by decide⟩ rfl rfl rfl rfl hM.lt rfl (fun h0 => hold ?_) (fun x hx hxn => hold ?_)))) <;> (try omega)
 ·refine ⟨?_⟩
  have hVK : ∀ k, k ∈ keyN V ↔ k ∈ K := fun k => by
   rw [← hK]
   constructor
   ·intro h
    obtain ⟨e, he, rfl⟩ := List.mem_map.1 h
    exact List.mem_map.2 ⟨e, hV e he, rfl⟩
   ·intro h
    obtain ⟨e, he, rfl⟩ := List.mem_map.1 h
    obtain ⟨e', he', h2⟩ := List.mem_map.1 (h0 e he)
    have : e' = e := nodup_map_inj hM.nd (hV e' he') he h2
    subst this
    exact List.mem_map.2 ⟨e', he', rfl⟩
  have hp : Peel K (atL LO) b 0 (cntW W) := Peel.init hbn (fun x => by rw [hb, hVK]) fun x hx => by rw [hW, if_pos ((hVK x).2 hx)]
  have hL0 : ∀ k : Nat, mf (k : Int) M = if k ∈ K ∧ k ∉ b.take 0 then some () else none := fun k => by
   rw [List.take_zero]
   by_cases hk : k ∈ K
   ·rw [if_pos ⟨hk, by simp⟩]; exact (hM.mem k).1 (by rw [hK]; exact hk)
   ·rw [if_neg (fun h => hk h.1)]
    cases hq : mf (k : Int) M with
    | none => rfl
    | some a => exact absurd (by rw [← hK]; exact (hM.mem k).2 hq) hk
  clear hW hb hV hVn h0 hVK hVl hbK hbl hbn
  (repeat' (first | exact trivial | (with_reducible first | apply awA | apply awB | apply awE | apply awF | apply awH | apply awK) | ((with_reducible first | apply awn | apply awo | refine awQ ?_); intro r hr; simp only [go_sem, Nat.reduceBEq, Nat.reduceBneDiff, Nat.reduceLT, Nat.reduceLeDiff, Nat.reduceAdd, Nat.reduceMul, Nat.reduceSub, Nat.reduceEqDiff, reduceCtorEq, mK_kill, mK_cut, mK_ren, mL_kill, mL_cut, mL_ren, mW_kill, mW_cut, mW_ren] at hr; subst hr; (first | refine awV ?_ ?_ | (refine condK (fun h => ?_) (fun h => ?_) <;> (try simp only [go_sem, reduceCtorEq] at h) <;> (try (exfalso; omega))))))) <;> (try omega)
  refine go_loop [2, 7, 8, 9, 15] [10003, 10006, 10007, 21, 22, 56] (fun q : Nat × List (Nat × Int × Unit) × Nat × List (Nat × Int × Int) × List Nat => ⟨[(2, true, .map 10007), (7, true, .map 21), (8, true, .map 22), (9, true, .ref 3 1 56 0 q.2.2.2.2.length), (15, true, vI q.1)],
   [(10003, .mapr c (mK M)), (10006, .mapr c1 (mL LO)), (10007, .mapr c2 (mL LB)), (21, .mapr c (mK q.2.1)), (22, .mapr q.2.2.1 (mW q.2.2.2.1)), (56, .row 3 1 (v8 (natI q.2.2.2.2)))]⟩)
   (fun q => Peel K (atL LO) q.2.2.2.2 q.1 (cntW q.2.2.2.1) ∧ q.1 ≤ q.2.2.2.2.length ∧ q.2.1.Sublist M ∧ ∀ k : Nat, mf (k : Int) q.2.1 = if k ∈ K ∧ k ∉ q.2.2.2.2.take q.1 then some () else none) (fun q => nn - q.1) (0, M, cw, W, b)
   (by simp only [mK_kill, mK_cut, mK_ren, mL_kill, mL_cut, mL_ren, mW_kill, mW_cut, mW_ren, go_sem, Nat.reduceBEq, Nat.reduceBneDiff, Nat.reduceLT, Nat.reduceLeDiff, Nat.reduceAdd, Nat.reduceMul, Nat.reduceSub, Nat.reduceEqDiff, reduceCtorEq] <;> exact rfl) ⟨hp, Nat.zero_le _, List.Sublist.refl _, hL0⟩ ?_
  clear hp hL0 W cw b V
  intro ⟨i, L, cw, W, b⟩ ⟨hp, hi, hLs, hL⟩
  simp only at hp hi hLs hL ⊢
  have hbl : b.length ≤ nn := nodup_le hp.nd fun k hk => hlt k (hp.sub k hk)
  have hwi := wrap_i64 (n := (i : Int) + 1) (by omega)
  have zi : ((i : Int)).toNat = i := by omega
  have hLd := (hM.sub hLs).kd
  by_cases hib : i < b.length
  ·have e1 : ((i : Int) < (b.length : Int)) = True := eq_true (by omega)
   obtain ⟨x, hx⟩ : ∃ x, b[i]? = some x := ⟨_, List.getElem?_eq_getElem hib⟩
   have gi := natI_get hx
   have hin := hp.enter (back := atL LB) hx
   have hLd2 : ∀ k : Nat, mf (k : Int) (mdel (x : Int) L) = if k ∈ K ∧ k ∉ b.take (i + 1) then some () else none := fun k => by
    rw [mf_mdel _ _ hLd, hL]
    have ht : b.take (i + 1) = b.take i ++ [x] := by
     rw [List.take_succ_eq_append_getElem hib]
     rw [List.getElem?_eq_getElem hib] at hx
     injection hx with hx
     rw [hx]
    rw [ht]
    by_cases hkx : k = x
    ·subst hkx; simp
    ·rw [if_neg (by omega)]; simp [hkx]
   have hLs2 := (mdel_sub (x : Int) L).trans hLs
   generalize hL2 : mdel (x : Int) L = L2 at hLd2 hLs2
   have hbx := hLB x
   (repeat' (first | exact trivial | (with_reducible first | apply awA | apply awB | apply awC | apply awF) | ((with_reducible first | apply awn | apply awo | refine awQ ?_); intro r hr; simp only [go_sem, Nat.reduceBEq, Nat.reduceBneDiff, Nat.reduceLT, Nat.reduceLeDiff, Nat.reduceAdd, Nat.reduceMul, Nat.reduceSub, Nat.reduceEqDiff, reduceCtorEq, e1, zi, gi, v8_len, natI_len, Nat.zero_add, hL2, mK_kill, mK_cut, mK_ren, mL_kill, mL_cut, mL_ren, mW_kill, mW_cut, mW_ren] at hr; subst hr; (first | refine awV ?_ ?_ | refine awW ?_ ?_ | (refine condK (fun h => ?_) (fun h => ?_) <;> (try simp only [go_sem, reduceCtorEq] at h) <;> (try (exfalso; omega))))) | (refine al_mdel (tyOf_ok _) (d := 21) (L := L) (f := fun _ => AV.dead) (key := (x : Int)) rfl rfl rfl rfl rfl rfl rfl t74 rfl t3 rfl rfl ?_) | (refine al_mlookU (tyOf_ok _) (d := 10007) (L := LB) (f := lsF) (key := (x : Int)) (z := .slice none 0 0) (r := .lst 1 (v8 (natI (atL LB x)))) rfl rfl ⟨by decide, by decide⟩ rfl rfl rfl rfl t101 rfl t3 rfl zero_ints rfl rfl (look_ls _) ?_))) <;> (try omega)
   refine go_loop [2, 7, 8, 9, 15, 73, 74, 75] [10003, 10006, 10007, 21, 22, 56] (fun q : Nat × Nat × List (Nat × Int × Int) × List Nat => ⟨[(2, true, .map 10007), (7, true, .map 21), (8, true, .map 22), (9, true, .ref 3 1 56 0 q.2.2.2.length), (15, true, vI i), (73, true, .lst 1 (v8 (natI (atL LB x)))), (74, true, vI (atL LB x).length), (75, true, vI q.1)],
    [(10003, .mapr c (mK M)), (10006, .mapr c1 (mL LO)), (10007, .mapr c2 (mL LB)), (21, .mapr c (mK L2)), (22, .mapr q.2.1 (mW q.2.2.1)), (56, .row 3 1 (v8 (natI q.2.2.2)))]⟩)
    (fun q => PeelIn K (atL LO) (atL LB) b q.2.2.2 i q.1 x (cntW q.2.2.1) ∧ q.1 ≤ (atL LB x).length) (fun q => (atL LB x).length - q.1) (0, cw, W, b)
    (by simp only [v8_len, natI_len, hL2, mK_kill, mK_cut, mK_ren, mL_kill, mL_cut, mL_ren, mW_kill, mW_cut, mW_ren, go_sem, Nat.reduceBEq, Nat.reduceBneDiff, Nat.reduceLT, Nat.reduceLeDiff, Nat.reduceAdd, Nat.reduceMul, Nat.reduceSub, Nat.reduceEqDiff, reduceCtorEq] <;> exact rfl) ⟨hin, Nat.zero_le _⟩ ?_
   clear hin hp cw hL W
   intro ⟨j, cw, W, b'⟩ ⟨hin, hj⟩
   simp only at hin hj ⊢
   have hbl' : b'.length ≤ nn := nodup_le hin.nd fun k hk => hlt k (hin.sub k hk)
   have hwj := wrap_i64 (n := (j : Int) + 1) (by omega)
   have zj : ((j : Int)).toNat = j := by omega
   by_cases hjl : j < (atL LB x).length
   ·have e2 : ((j : Int) < ((atL LB x).length : Int)) = True := eq_true (by omega)
    obtain ⟨y, hy⟩ : ∃ y, (atL LB x)[j]? = some y := ⟨_, List.getElem?_eq_getElem hjl⟩
    have gj := natI_get hy
    by_cases hyK : y ∈ K
    ·have hf : mf (y : Int) L2 = some () := by rw [hLd2, if_pos ⟨hyK, hin.left hc hy hyK⟩]
     have hcy := hin.cn y hyK
     have h1 := dcnt_le K (b.take i) (atL LO y)
     have h2 := hLO y
     have h3 : ((atL LB x).take j).count y ≤ (atL LB x).length := Nat.le_trans (List.count_le_length) (by rw [List.length_take]; omega)
     have hwy : IntKind.i64.wrap (cntW W y - 1) = cntW W y - 1 := wrap_i64 (by omega)
     have hst := hin.step hc hy hyK (cnt' := cntW (mset cw (y : Int) (cntW W y - 1) W)) fun z => by rw [cntW_mset]
     have hcy2 : cntW (mset cw (y : Int) (cntW W y - 1) W) y = cntW W y - 1 := by rw [cntW_mset, if_pos rfl]
     generalize hW2 : mset cw (y : Int) (cntW W y - 1) W = W2 at hst hcy2
     by_cases hz : cntW W y - 1 = 0
     ·rw [if_pos hz] at hst
      have ez : (cntW W y - 1 = 0) = True := eq_true hz
      have ht : (v8 (natI b')).take b'.length = v8 (natI b') := by rw [v8_take, List.take_of_length_le (by rw [natI_len]; omega)]
      have ha := natI_app b' y
      have hl2 : (b' ++ [y]).length = b'.length + 1 := by simp
      (repeat' (first | exact trivial | (with_reducible first | apply awA | apply awB | apply awC | apply awF | apply awI) | ((with_reducible first | apply awn | apply awo | refine awQ ?_); intro r hr; simp only [go_sem, Nat.reduceBEq, Nat.reduceBneDiff, Nat.reduceLT, Nat.reduceLeDiff, Nat.reduceAdd, Nat.reduceMul, Nat.reduceSub, Nat.reduceEqDiff, reduceCtorEq, e2, zj, gj, hwj, hwy, ez, hcy2, v8_len, natI_len, Nat.zero_add, ht, ha, hl2, mK_kill, mK_cut, mK_ren, mL_kill, mL_cut, mL_ren, mW_kill, mW_cut, mW_ren] at hr; subst hr; (first | refine awV ?_ ?_ | refine awW ?_ ?_ | (refine condK (fun h => ?_) (fun h => ?_) <;> (try simp only [go_sem, reduceCtorEq] at h) <;> (try (exfalso; omega))))) | (refine al_mlook (tyOf_ok _) (d := 21) (L := L2) (f := fun _ => AV.dead) (key := (y : Int)) (z := .int .i64 0) rfl rfl ⟨by decide, by decide⟩ rfl rfl rfl rfl t74 rfl t3 rfl zero_int rfl rfl (by rw [hf]) ?_) | (refine al_mlook (tyOf_ok _) (d := 22) (L := W) (f := fun z => vI z) (key := (y : Int)) (z := .int .i64 0) (r := vI (cntW W y)) rfl rfl ⟨by decide, by decide⟩ rfl rfl rfl rfl t74 rfl t3 rfl zero_int rfl rfl (look_w _) ?_) | (refine al_mlook (tyOf_ok _) (d := 22) (L := W2) (f := fun z => vI z) (key := (y : Int)) (z := .int .i64 0) (r := vI (cntW W2 y)) rfl rfl ⟨by decide, by decide⟩ rfl rfl rfl rfl t74 rfl t3 rfl zero_int rfl rfl (look_w _) ?_) | (refine al_mput (tyOf_ok _) (d := 22) (L := W) (f := fun z => vI z) (key := (y : Int)) (cntW W y - 1) rfl rfl rfl rfl rfl rfl rfl rfl (.inl rfl) t74 rfl t3 rfl rfl rfl hW2 ?_))) <;> (try omega)
      refine ⟨(j + 1, mclk cw (y : Int) W, W2, b' ++ [y]), ?_, ⟨hst, hjl⟩, by show (atL LB x).length - (j + 1) < (atL LB x).length - j; omega⟩
      simp only [hwj, v8_len, natI_len, ht, ha, hl2, mK_kill, mK_cut, mK_ren, mL_kill, mL_cut, mL_ren, mW_kill, mW_cut, mW_ren, go_sem, Nat.reduceBEq, Nat.reduceBneDiff, Nat.reduceLT, Nat.reduceLeDiff, Nat.reduceAdd, Nat.reduceMul, Nat.reduceSub, Nat.reduceEqDiff, reduceCtorEq]
      try exact rfl
     ·rw [if_neg hz] at hst
      have ez : (cntW W y - 1 = 0) = False := eq_false hz
      (repeat' (first | exact trivial | (with_reducible first | apply awA | apply awB | apply awC | apply awF | apply awI) | ((with_reducible first | apply awn | apply awo | refine awQ ?_); intro r hr; simp only [go_sem, Nat.reduceBEq, Nat.reduceBneDiff, Nat.reduceLT, Nat.reduceLeDiff, Nat.reduceAdd, Nat.reduceMul, Nat.reduceSub, Nat.reduceEqDiff, reduceCtorEq, e2, zj, gj, hwj, hwy, ez, hcy2, v8_len, natI_len, Nat.zero_add, mK_kill, mK_cut, mK_ren, mL_kill, mL_cut, mL_ren, mW_kill, mW_cut, mW_ren] at hr; subst hr; (first | refine awV ?_ ?_ | refine awW ?_ ?_ | (refine condK (fun h => ?_) (fun h => ?_) <;> (try simp only [go_sem, reduceCtorEq] at h) <;> (try (exfalso; omega))))) | (refine al_mlook (tyOf_ok _) (d := 21) (L := L2) (f := fun _ => AV.dead) (key := (y : Int)) (z := .int .i64 0) rfl rfl ⟨by decide, by decide⟩ rfl rfl rfl rfl t74 rfl t3 rfl zero_int rfl rfl (by rw [hf]) ?_) | (refine al_mlook (tyOf_ok _) (d := 22) (L := W) (f := fun z => vI z) (key := (y : Int)) (z := .int .i64 0) (r := vI (cntW W y)) rfl rfl ⟨by decide, by decide⟩ rfl rfl rfl rfl t74 rfl t3 rfl zero_int rfl rfl (look_w _) ?_) | (refine al_mlook (tyOf_ok _) (d := 22) (L := W2) (f := fun z => vI z) (key := (y : Int)) (z := .int .i64 0) (r := vI (cntW W2 y)) rfl rfl ⟨by decide, by decide⟩ rfl rfl rfl rfl t74 rfl t3 rfl zero_int rfl rfl (look_w _) ?_) | (refine al_mput (tyOf_ok _) (d := 22) (L := W) (f := fun z => vI z) (key := (y : Int)) (cntW W y - 1) rfl rfl rfl rfl rfl rfl rfl rfl (.inl rfl) t74 rfl t3 rfl rfl rfl hW2 ?_))) <;> (try omega)
      refine ⟨(j + 1, mclk cw (y : Int) W, W2, b'), ?_, ⟨hst, hjl⟩, by show (atL LB x).length - (j + 1) < (atL LB x).length - j; omega⟩
      simp only [hwj, mK_kill, mK_cut, mK_ren, mL_kill, mL_cut, mL_ren, mW_kill, mW_cut, mW_ren, go_sem, Nat.reduceBEq, Nat.reduceBneDiff, Nat.reduceLT, Nat.reduceLeDiff, Nat.reduceAdd, Nat.reduceMul, Nat.reduceSub, Nat.reduceEqDiff, reduceCtorEq]
      try exact rfl
    ·have hf : mf (y : Int) L2 = none := by rw [hLd2, if_neg (fun h => hyK h.1)]
     (repeat' (first | exact trivial | (with_reducible first | apply awA | apply awB | apply awC | apply awE | apply awF | apply awH | apply awK) | ((with_reducible first | apply awn | apply awo | refine awQ ?_); intro r hr; simp only [go_sem, Nat.reduceBEq, Nat.reduceBneDiff, Nat.reduceLT, Nat.reduceLeDiff, Nat.reduceAdd, Nat.reduceMul, Nat.reduceSub, Nat.reduceEqDiff, reduceCtorEq, e2, zj, gj, hwj, v8_len, natI_len, Nat.zero_add, mK_kill, mK_cut, mK_ren, mL_kill, mL_cut, mL_ren, mW_kill, mW_cut, mW_ren] at hr; subst hr; (first | refine awV ?_ ?_ | refine awW ?_ ?_ | (refine condK (fun h => ?_) (fun h => ?_) <;> (try simp only [go_sem, reduceCtorEq] at h) <;> (try (exfalso; omega))))) | (refine al_mlook (tyOf_ok _) (d := 21) (L := L2) (f := fun _ => AV.dead) (key := (y : Int)) (z := .int .i64 0) rfl rfl ⟨by decide, by decide⟩ rfl rfl rfl rfl t74 rfl t3 rfl zero_int rfl rfl (by rw [hf]) ?_))) <;> (try omega)
     refine ⟨(j + 1, cw, W, b'), ?_, ⟨hin.skip hy hyK, hjl⟩, by show (atL LB x).length - (j + 1) < (atL LB x).length - j; omega⟩
     simp only [hwj, mK_kill, mK_cut, mK_ren, mL_kill, mL_cut, mL_ren, mW_kill, mW_cut, mW_ren, go_sem, Nat.reduceBEq, Nat.reduceBneDiff, Nat.reduceLT, Nat.reduceLeDiff, Nat.reduceAdd, Nat.reduceMul, Nat.reduceSub, Nat.reduceEqDiff, reduceCtorEq]
     try exact rfl
   ·have e2 : ((j : Int) < ((atL LB x).length : Int)) = False := eq_false (by omega)
    (repeat' (first | exact trivial | (with_reducible first | apply awA | apply awE | apply awF | apply awH | apply awI | apply awK) | ((with_reducible first | apply awn | refine awQ ?_); intro r hr; simp only [go_sem, Nat.reduceBEq, Nat.reduceBneDiff, Nat.reduceLT, Nat.reduceLeDiff, Nat.reduceAdd, Nat.reduceMul, Nat.reduceSub, Nat.reduceEqDiff, reduceCtorEq, e2, hwi, mK_kill, mK_cut, mK_ren, mL_kill, mL_cut, mL_ren, mW_kill, mW_cut, mW_ren] at hr; subst hr; (first | refine awV ?_ ?_ | (refine condK (fun h => ?_) (fun h => ?_) <;> (try simp only [go_sem, reduceCtorEq] at h) <;> (try (exfalso; omega))))))) <;> (try omega)
    have hlv := hin.leave hc (by omega)
    obtain ⟨m, hm⟩ := hin.pre
    refine ⟨(i + 1, L2, cw, W, b'), ?_, ⟨hlv, by rw [hm, List.length_append]; show i + 1 ≤ _; omega, hLs2, fun k => by show mf (k : Int) L2 = if k ∈ K ∧ k ∉ b'.take (i + 1) then some () else none; rw [hLd2, hm, List.take_append_of_le_length (by omega)]⟩, by show nn - (i + 1) < nn - i; omega⟩
    simp only [hwi, mK_kill, mK_cut, mK_ren, mL_kill, mL_cut, mL_ren, mW_kill, mW_cut, mW_ren, go_sem, Nat.reduceBEq, Nat.reduceBneDiff, Nat.reduceLT, Nat.reduceLeDiff, Nat.reduceAdd, Nat.reduceMul, Nat.reduceSub, Nat.reduceEqDiff, reduceCtorEq]
    try exact rfl
  ·have e1 : ((i : Int) < (b.length : Int)) = False := eq_false (by omega)
   (repeat' (first | exact trivial | (with_reducible first | apply awA | apply awD | apply awE | apply awF | apply awH | apply awK) | ((with_reducible first | apply awn | refine awQ ?_ | refine aweR ?_); intro r hr; simp only [go_sem, Nat.reduceBEq, Nat.reduceBneDiff, Nat.reduceLT, Nat.reduceLeDiff, Nat.reduceAdd, Nat.reduceMul, Nat.reduceSub, Nat.reduceEqDiff, reduceCtorEq, e1, mK_kill, mK_cut, mK_ren, mL_kill, mL_cut, mL_ren, mW_kill, mW_cut, mW_ren] at hr; subst hr; (first | refine awV ?_ ?_ | refine endEK ?_ ?_ | (refine condK (fun h => ?_) (fun h => ?_) <;> (try simp only [go_sem, reduceCtorEq] at h) <;> (try (exfalso; omega))))))) <;> (try omega)
   all_goals first | (refine ⟨L, ⟨hLs, fun C hC x hx => ?_⟩, AV.up_rfl _, ?_⟩) | skip
   ·have h1 := hp.cy C (by rw [← hK]; exact hC) x hx
    have h2 := (hC x hx).1
    rw [hK] at h2
    have h3 := hL x
    rw [if_pos ⟨h2, fun hm => h1 (List.mem_of_mem_take hm)⟩] at h3
    obtain ⟨bb, hbb⟩ := mf_some_mem h3
    exact List.mem_map.2 ⟨_, hbb, rfl⟩
   ·repeat first | exact obUp_nil | refine obUp_cons rfl ?_
 ·refine ⟨?_⟩
  obtain ⟨bx, kx, ux⟩ := x
  have hpos := hM.pos _ hx
  obtain ⟨k, rfl⟩ : ∃ k : Nat, kx = k := ⟨kx.toNat, by simp only at hpos; omega⟩
  have hkK : k ∈ K := by rw [← hK]; exact List.mem_map.2 ⟨_, hx, by simp⟩
  have hkV : k ∉ keyN V := fun h => by
   obtain ⟨e', he', h2⟩ := List.mem_map.1 h
   have hp' := hM.pos e' (hV e' he')
   have : e' = (bx, (k : Int), ux) := nodup_map_inj hM.kd (hV e' he') hx (by show e'.2.1 = (k : Int); omega)
   subst this
   exact hxn (List.mem_map.2 ⟨_, he', rfl⟩)
  have hV2 : ∀ e ∈ V ++ [(bx, (k : Int), ux)], e ∈ M := fun e he => by
   rcases List.mem_append.1 he with h | h
   ·exact hV e h
   ·simp at h; subst h; exact hx
  have hVn2 : ((V ++ [(bx, (k : Int), ux)]).map (·.1)).Nodup := by
   rw [List.map_append, List.nodup_append]
   exact ⟨hVn, by simp, fun a ha b hb hab => by simp at hb; subst hb; subst hab; exact hxn ha⟩
  have hVl2 : (V ++ [(bx, (k : Int), ux)]).length ≤ M.length := by
   refine nodup_sub_len ?_ hV2
   rw [List.Nodup, List.pairwise_map] at hVn2
   exact hVn2.imp fun h e => h (by rw [e])
  have hkV2 : ∀ y, y ∈ keyN (V ++ [(bx, (k : Int), ux)]) ↔ y ∈ keyN V ∨ y = k := fun y => by simp [keyN]
  have hVm : (V.map (·.1)) ++ [bx] = (V ++ [(bx, (k : Int), ux)]).map (·.1) := by simp
  have hcl0 := hLO k
  have hW0 := hW k
  rw [if_neg hkV] at hW0
  (repeat' (first | exact trivial | (with_reducible first | apply awA | apply awB | apply awC | apply awF) | ((with_reducible first | apply awn | apply awo | refine awQ ?_); intro r hr; simp only [go_sem, Nat.reduceBEq, Nat.reduceBneDiff, Nat.reduceLT, Nat.reduceLeDiff, Nat.reduceAdd, Nat.reduceMul, Nat.reduceSub, Nat.reduceEqDiff, reduceCtorEq, mK_kill, mK_cut, mK_ren, mL_kill, mL_cut, mL_ren, mW_kill, mW_cut, mW_ren] at hr; subst hr; (first | refine awV ?_ ?_ | refine awW ?_ ?_ | (refine condK (fun h => ?_) (fun h => ?_) <;> (try simp only [go_sem, reduceCtorEq] at h) <;> (try (exfalso; omega))))) | (refine al_mentry (d := 21) (u := 24) (L := M) (f := fun _ => AV.dead) (e := (bx, (k : Int), ux)) rfl rfl ⟨by decide, by decide⟩ rfl rfl rfl rfl hx hM.nd ?_) | (refine al_mlookU (tyOf_ok _) (d := 10006) (L := LO) (f := lsF) (key := (k : Int)) (z := .slice none 0 0) (r := .lst 1 (v8 (natI (atL LO k)))) rfl rfl ⟨by decide, by decide⟩ rfl rfl rfl rfl t101 rfl t3 rfl zero_ints rfl rfl (look_ls _) ?_))) <;> (try omega)
  refine go_loop [1, 2, 7, 8, 9, 24, 10, 31, 32, 33] [10003, 10006, 10007, 21, 22, 24, 56] (fun q : Nat × Nat × List (Nat × Int × Int) => ⟨[(1, true, .map 10006), (2, true, .map 10007), (7, true, .map 21), (8, true, .map 22), (9, true, .ref 3 1 56 0 b.length), (24, true, .ptr 1 24 0 0), (10, true, vI k), (31, true, .lst 1 (v8 (natI (atL LO k)))), (32, true, vI (atL LO k).length), (33, true, vI q.1)],
   [(10003, .mapr c (mK M)), (10006, .mapr c1 (mL LO)), (10007, .mapr c2 (mL LB)), (21, .mapr c (mK M)), (22, .mapr q.2.1 (mW q.2.2)), (24, .iter 21 true c (V.map (·.1) ++ [bx])), (56, .row 3 1 (v8 (natI b)))]⟩)
   (fun q => q.1 ≤ (atL LO k).length ∧ ∀ y, cntW q.2.2 y = if y = k then (dcnt K [] ((atL LO k).take q.1) : Int) else cntW W y) (fun q => (atL LO k).length - q.1) (0, cw, W)
   (by simp only [v8_len, natI_len, mK_kill, mK_cut, mK_ren, mL_kill, mL_cut, mL_ren, mW_kill, mW_cut, mW_ren, go_sem, Nat.reduceBEq, Nat.reduceBneDiff, Nat.reduceLT, Nat.reduceLeDiff, Nat.reduceAdd, Nat.reduceMul, Nat.reduceSub, Nat.reduceEqDiff, reduceCtorEq] <;> exact rfl) ⟨Nat.zero_le _, fun y => by
    by_cases hy : y = k
    ·subst hy; rw [if_pos rfl, hW0]; simp [dcnt]
    ·rw [if_neg hy]⟩ ?_
  intro ⟨j, cw', W'⟩ ⟨hj, hW'⟩
  simp only at hj hW' ⊢
  have hwj := wrap_i64 (n := (j : Int) + 1) (by omega)
  have zj : ((j : Int)).toNat = j := by omega
  have hck := hW' k
  rw [if_pos rfl] at hck
  have hdl := dcnt_le K [] ((atL LO k).take j)
  rw [List.length_take] at hdl
  have hwk : IntKind.i64.wrap (cntW W' k + 1) = cntW W' k + 1 := wrap_i64 (by omega)
  by_cases hjl : j < (atL LO k).length
  ·have e2 : ((j : Int) < ((atL LO k).length : Int)) = True := eq_true (by omega)
   obtain ⟨y, hy⟩ : ∃ y, (atL LO k)[j]? = some y := ⟨_, List.getElem?_eq_getElem hjl⟩
   have gj := natI_get hy
   have hdt := dcnt_take (K := K) hy
   by_cases hyK : y ∈ K
   ·have hf : mf (y : Int) M = some () := (hM.mem y).1 (by rw [hK]; exact hyK)
    rw [if_pos hyK] at hdt
    (repeat' (first | exact trivial | (with_reducible first | apply awA | apply awB | apply awC | apply awF | apply awI) | ((with_reducible first | apply awn | apply awo | refine awQ ?_); intro r hr; simp only [go_sem, Nat.reduceBEq, Nat.reduceBneDiff, Nat.reduceLT, Nat.reduceLeDiff, Nat.reduceAdd, Nat.reduceMul, Nat.reduceSub, Nat.reduceEqDiff, reduceCtorEq, e2, zj, gj, hwj, hwk, v8_len, natI_len, Nat.zero_add, mK_kill, mK_cut, mK_ren, mL_kill, mL_cut, mL_ren, mW_kill, mW_cut, mW_ren] at hr; subst hr; (first | refine awV ?_ ?_ | refine awW ?_ ?_ | (refine condK (fun h => ?_) (fun h => ?_) <;> (try simp only [go_sem, reduceCtorEq] at h) <;> (try (exfalso; omega))))) | (refine al_mlook (tyOf_ok _) (d := 21) (L := M) (f := fun _ => AV.dead) (key := (y : Int)) (z := .int .i64 0) rfl rfl ⟨by decide, by decide⟩ rfl rfl rfl rfl t74 rfl t3 rfl zero_int rfl rfl (by rw [hf]) ?_) | (refine al_mlook (tyOf_ok _) (d := 22) (L := W') (f := fun z => vI z) (key := (k : Int)) (z := .int .i64 0) (r := vI (cntW W' k)) rfl rfl ⟨by decide, by decide⟩ rfl rfl rfl rfl t74 rfl t3 rfl zero_int rfl rfl (look_w _) ?_) | (refine al_mput (tyOf_ok _) (d := 22) (L := W') (f := fun z => vI z) (key := (k : Int)) (cntW W' k + 1) rfl rfl rfl rfl rfl rfl rfl rfl (.inl rfl) t74 rfl t3 rfl rfl rfl rfl ?_))) <;> (try omega)
    refine ⟨(j + 1, mclk cw' (k : Int) W', mset cw' (k : Int) (cntW W' k + 1) W'), ?_, ⟨hjl, fun z => ?_⟩, by show (atL LO k).length - (j + 1) < (atL LO k).length - j; omega⟩
    ·simp only [hwj, mK_kill, mK_cut, mK_ren, mL_kill, mL_cut, mL_ren, mW_kill, mW_cut, mW_ren, go_sem, Nat.reduceBEq, Nat.reduceBneDiff, Nat.reduceLT, Nat.reduceLeDiff, Nat.reduceAdd, Nat.reduceMul, Nat.reduceSub, Nat.reduceEqDiff, reduceCtorEq]
     try exact rfl
    ·show cntW (mset cw' (k : Int) (cntW W' k + 1) W') z = if z = k then (dcnt K [] ((atL LO k).take (j + 1)) : Int) else cntW W z
     rw [cntW_mset, hdt, hck]
     by_cases hz : z = k
     ·rw [if_pos hz, if_pos hz]; omega
     ·rw [if_neg hz, if_neg hz, hW', if_neg hz]
   ·have hf : mf (y : Int) M = none := by
     cases hq : mf (y : Int) M with
     | none => rfl
     | some a => exact absurd (by rw [← hK]; exact (hM.mem y).2 hq) hyK
    rw [if_neg hyK] at hdt
    (repeat' (first | exact trivial | (with_reducible first | apply awA | apply awB | apply awC | apply awF | apply awI) | ((with_reducible first | apply awn | apply awo | refine awQ ?_); intro r hr; simp only [go_sem, Nat.reduceBEq, Nat.reduceBneDiff, Nat.reduceLT, Nat.reduceLeDiff, Nat.reduceAdd, Nat.reduceMul, Nat.reduceSub, Nat.reduceEqDiff, reduceCtorEq, e2, zj, gj, hwj, v8_len, natI_len, Nat.zero_add, mK_kill, mK_cut, mK_ren, mL_kill, mL_cut, mL_ren, mW_kill, mW_cut, mW_ren] at hr; subst hr; (first | refine awV ?_ ?_ | refine awW ?_ ?_ | (refine condK (fun h => ?_) (fun h => ?_) <;> (try simp only [go_sem, reduceCtorEq] at h) <;> (try (exfalso; omega))))) | (refine al_mlook (tyOf_ok _) (d := 21) (L := M) (f := fun _ => AV.dead) (key := (y : Int)) (z := .int .i64 0) rfl rfl ⟨by decide, by decide⟩ rfl rfl rfl rfl t74 rfl t3 rfl zero_int rfl rfl (by rw [hf]) ?_))) <;> (try omega)
    refine ⟨(j + 1, cw', W'), ?_, ⟨hjl, fun z => ?_⟩, by show (atL LO k).length - (j + 1) < (atL LO k).length - j; omega⟩
    ·simp only [hwj, mK_kill, mK_cut, mK_ren, mL_kill, mL_cut, mL_ren, mW_kill, mW_cut, mW_ren, go_sem, Nat.reduceBEq, Nat.reduceBneDiff, Nat.reduceLT, Nat.reduceLeDiff, Nat.reduceAdd, Nat.reduceMul, Nat.reduceSub, Nat.reduceEqDiff, reduceCtorEq]
     try exact rfl
    ·show cntW W' z = if z = k then (dcnt K [] ((atL LO k).take (j + 1)) : Int) else cntW W z
     rw [hdt, hW', Nat.add_zero]
  ·have e2 : ((j : Int) < ((atL LO k).length : Int)) = False := eq_false (by omega)
   have hjt : (atL LO k).take j = atL LO k := List.take_of_length_le (by omega)
   rw [hjt] at hck hW'
   have hW3 : ∀ y, cntW W' y = if y ∈ keyN (V ++ [(bx, (k : Int), ux)]) then (dcnt K [] (atL LO y) : Int) else 0 := fun y => by
    rw [hW']
    by_cases hy : y = k
    ·subst hy; rw [if_pos rfl, if_pos ((hkV2 y).2 (.inr rfl))]
    ·rw [if_neg hy, hW]
     by_cases hyV : y ∈ keyN V
     ·rw [if_pos hyV, if_pos ((hkV2 y).2 (.inl hyV))]
     ·rw [if_neg hyV, if_neg (fun h => by rcases (hkV2 y).1 h with h | h; (· exact hyV h); exact hy h)]
   by_cases hz : dcnt K [] (atL LO k) = 0
   ·have ez : (cntW W' k = 0) = True := eq_true (by rw [hck, hz]; rfl)
    have ht : (v8 (natI b)).take b.length = v8 (natI b) := by rw [v8_take, List.take_of_length_le (by rw [natI_len]; omega)]
    have ha := natI_app b k
    have hl2 : (b ++ [k]).length = b.length + 1 := by simp
    (repeat' (first | exact trivial | (with_reducible first | apply awA | apply awE | apply awF | apply awH | apply awI | apply awK) | ((with_reducible first | apply awn | apply awo | refine awQ ?_); intro r hr; simp only [go_sem, Nat.reduceBEq, Nat.reduceBneDiff, Nat.reduceLT, Nat.reduceLeDiff, Nat.reduceAdd, Nat.reduceMul, Nat.reduceSub, Nat.reduceEqDiff, reduceCtorEq, e2, ez, v8_len, natI_len, ht, ha, hl2, mK_kill, mK_cut, mK_ren, mL_kill, mL_cut, mL_ren, mW_kill, mW_cut, mW_ren] at hr; subst hr; (first | refine awV ?_ ?_ | refine awW ?_ ?_ | (refine condK (fun h => ?_) (fun h => ?_) <;> (try simp only [go_sem, reduceCtorEq] at h) <;> (try (exfalso; omega))))) | (refine al_mlook (tyOf_ok _) (d := 22) (L := W') (f := fun z => vI z) (key := (k : Int)) (z := .int .i64 0) (r := vI (cntW W' k)) rfl rfl ⟨by decide, by decide⟩ rfl rfl rfl rfl t74 rfl t3 rfl zero_int rfl rfl (look_w _) ?_))) <;> (try omega)
    refine ⟨(V ++ [(bx, (k : Int), ux)], cw', W', b ++ [k]), ?_, ⟨hV2, hVn2, hW3, ?_, fun y => ?_⟩, by show M.length - (V ++ [(bx, (k : Int), ux)]).length < M.length - V.length; rw [List.length_append] at hVl2 ⊢; simp only [List.length_singleton] at hVl2 ⊢; omega⟩
    ·simp only [hVm, v8_len, natI_len, ht, ha, hl2, mK_kill, mK_cut, mK_ren, mL_kill, mL_cut, mL_ren, mW_kill, mW_cut, mW_ren, go_sem, Nat.reduceBEq, Nat.reduceBneDiff, Nat.reduceLT, Nat.reduceLeDiff, Nat.reduceAdd, Nat.reduceMul, Nat.reduceSub, Nat.reduceEqDiff, reduceCtorEq]
     try exact rfl
    ·show (b ++ [k]).Nodup
     rw [List.nodup_append]
     exact ⟨hbn, by simp, fun z hz' b' hb' hab => by rw [List.mem_singleton] at hb'; rw [hab, hb'] at hz'; exact hkV ((hb k).1 hz').1⟩
    ·show y ∈ b ++ [k] ↔ y ∈ keyN (V ++ [(bx, (k : Int), ux)]) ∧ dcnt K [] (atL LO y) = 0
     rw [List.mem_append, hb, hkV2, List.mem_singleton]
     constructor
     ·rintro (⟨h1, h2⟩ | rfl)
      ·exact ⟨.inl h1, h2⟩
      ·exact ⟨.inr rfl, hz⟩
     ·rintro ⟨h1 | h1, h2⟩
      ·exact .inl ⟨h1, h2⟩
      ·exact .inr h1
   ·have ez : (cntW W' k = 0) = False := eq_false (by rw [hck]; omega)
    (repeat' (first | exact trivial | (with_reducible first | apply awA | apply awC | apply awE | apply awF | apply awH | apply awI | apply awK) | ((with_reducible first | apply awn | apply awo | refine awQ ?_); intro r hr; simp only [go_sem, Nat.reduceBEq, Nat.reduceBneDiff, Nat.reduceLT, Nat.reduceLeDiff, Nat.reduceAdd, Nat.reduceMul, Nat.reduceSub, Nat.reduceEqDiff, reduceCtorEq, e2, ez, v8_len, natI_len, mK_kill, mK_cut, mK_ren, mL_kill, mL_cut, mL_ren, mW_kill, mW_cut, mW_ren] at hr; subst hr; (first | refine awV ?_ ?_ | refine awW ?_ ?_ | (refine condK (fun h => ?_) (fun h => ?_) <;> (try simp only [go_sem, reduceCtorEq] at h) <;> (try (exfalso; omega))))) | (refine al_mlook (tyOf_ok _) (d := 22) (L := W') (f := fun z => vI z) (key := (k : Int)) (z := .int .i64 0) (r := vI (cntW W' k)) rfl rfl ⟨by decide, by decide⟩ rfl rfl rfl rfl t74 rfl t3 rfl zero_int rfl rfl (look_w _) ?_))) <;> (try omega)
    refine ⟨(V ++ [(bx, (k : Int), ux)], cw', W', b), ?_, ⟨hV2, hVn2, hW3, hbn, fun y => ?_⟩, by show M.length - (V ++ [(bx, (k : Int), ux)]).length < M.length - V.length; rw [List.length_append] at hVl2 ⊢; simp only [List.length_singleton] at hVl2 ⊢; omega⟩
    ·simp only [hVm, mK_kill, mK_cut, mK_ren, mL_kill, mL_cut, mL_ren, mW_kill, mW_cut, mW_ren, go_sem, Nat.reduceBEq, Nat.reduceBneDiff, Nat.reduceLT, Nat.reduceLeDiff, Nat.reduceAdd, Nat.reduceMul, Nat.reduceSub, Nat.reduceEqDiff, reduceCtorEq]
     try exact rfl
    ·show y ∈ b ↔ y ∈ keyN (V ++ [(bx, (k : Int), ux)]) ∧ dcnt K [] (atL LO y) = 0
     rw [hb, hkV2]
     exact ⟨fun h => ⟨.inl h.1, h.2⟩, fun h => ⟨h.1.resolve_right fun e => by subst e; exact hz h.2, h.2⟩⟩
end Go.Proofs.Ytjeplogcfedmeaa
end
section
namespace Go.Proofs.Ytjeplogcfedmeaa
open Go.RowKit Go.MapKept
open Go.ChangeMaps (setBlock)
def AV.lo : AV → Bool
 | .agg cs => loL cs
 | .tup cs => loL cs
 | .ref _ _ e _ _ => decide (e < 20000)
 | .rfx _ _ e _ _ _ => decide (e < 20000)
 | .ptr _ e _ _ => decide (e < 20000)
 | .map e => decide (e < 20000)
 | .v _ => true
 | .lst .. => true
 | .lsx .. => true
 | .elt .. => true
 | .slen _ => true
 | .fn _ cs => loL cs
 | .ifc _ a => a.lo
 | .dead => true
where
 loL : List AV → Bool
 | [] => true
 | c :: cs => c.lo && loL cs
theorem AV.loL_mem {cs : List AV} (h : AV.lo.loL cs = true) : ∀ c ∈ cs, c.lo = true := by
 induction cs with
 | nil => intro c hc; cases hc
 | cons c cs ih =>
  simp only [AV.lo.loL, Bool.and_eq_true] at h
  intro x hx
  rcases List.mem_cons.1 hx with rfl | hx
  ·exact h.1
  ·exact ih h.2 x hx
def AObj.lo : AObj → Prop
 | .row .. => True
 | .var cs => AV.lo.loL cs = true
 | .mapo _ => True
 | .mapr _ es => ∀ e ∈ es, e.2.2.lo = true
 | .mapl .. => True
 | .iter e .. => e < 20000
def loO : List (Nat × AObj) → Prop
 | [] => True
 | p :: l => (p.1 < 20000 ∧ p.2.lo) ∧ loO l
def loF : List (Nat × Bool × AV) → Prop
 | [] => True
 | p :: l => p.2.2.lo = true ∧ loF l
theorem loO_lk {l : List (Nat × AObj)} (h : loO l) {d : Nat} {o : AObj} (hd : lk l d = some o) : d < 20000 ∧ o.lo := by
 induction l with
 | nil => cases hd
 | cons p l ih =>
  obtain ⟨k, a⟩ := p
  rw [lk_cons] at hd
  by_cases hk : k = d
  ·rw [bif_eq hk] at hd; injection hd with hd; subst hd; subst hk; exact h.1
  ·rw [bif_ne hk] at hd; exact ih h.2 hd
theorem loF_lk {l : List (Nat × Bool × AV)} (h : loF l) {t : Nat} {p : Bool × AV} (hd : lk l t = some p) : p.2.lo = true := by
 induction l with
 | nil => cases hd
 | cons q l ih =>
  obtain ⟨k, a⟩ := q
  rw [lk_cons] at hd
  by_cases hk : k = t
  ·rw [bif_eq hk] at hd; injection hd with hd; subst hd; exact h.1
  ·rw [bif_ne hk] at hd; exact ih h.2 hd
section
variable {F F' : Nat → Prop} {β β' : Nat → Option Nat} {w w' : World}
theorem AVR.klo {a : AV} {x : Value} (u : Nat) (h : AVR F β w a x) (hlo : a.lo = true) (hF : ∀ b, F b → F' b) (hβ : ∀ e b, e < 20000 → e ≠ u → β e = some b → β' e = some b) : AVR F' β' w (a.kill u) x := by
 induction h with
 | s h =>
  cases h with
  | v h => exact .s (.v h)
  | lst g h1 h2 h3 h4 h5 h6 h7 => exact .s ((SVR.lst g h1 h2 h3 h4 h5 h6 h7).mono hF fun _ _ => rfl)
  | lsx h => exact .s ((SVR.lsx h).mono hF fun _ _ => rfl)
 | agg h1 h2 _ ih =>
  simp only [AV.kill, AV.killL_eq]
  refine .agg (by simpa using h1) h2 fun i c u' hc hu => ?_
  rw [List.getElem?_map] at hc
  rename_i cs vs _
  cases hci : cs[i]? with
  | none => rw [hci] at hc; cases hc
  | some c' => rw [hci] at hc; injection hc with hc; subst hc; exact ih i c' u' hci hu (AV.loL_mem (by simpa only [AV.lo] using hlo) c' (List.mem_of_getElem? hci))
 | tup h1 _ ih =>
  simp only [AV.kill, AV.killL_eq]
  refine .tup (by simpa using h1) fun i c u' hc hu => ?_
  rw [List.getElem?_map] at hc
  rename_i cs vs _
  cases hci : cs[i]? with
  | none => rw [hci] at hc; cases hc
  | some c' => rw [hci] at hc; injection hc with hc; subst hc; exact ih i c' u' hci hu (AV.loL_mem (by simpa only [AV.lo] using hlo) c' (List.mem_of_getElem? hci))
 | @nil t k e off =>
  by_cases he : e = u
  ·simp only [AV.kill, bif_eq he]; exact .slen
  ·simp only [AV.kill, bif_ne he]; exact .nil
 | @ref t k e off len c b A h1 h2 h3 h5 h6 =>
  by_cases he : e = u
  ·simp only [AV.kill, bif_eq he]; exact .slen
  ·simp only [AV.kill, bif_ne he]
   exact .ref (hβ e b (by simpa [AV.lo] using hlo) he h1) h2 h3 h5 h6
 | @empty t k e off A h1 =>
  by_cases he : e = u
  ·simp only [AV.kill, bif_eq he]; exact .slen
  ·simp only [AV.kill, bif_ne he]; exact .empty h1
 | @rfx t k e off len ext c A h ih =>
  by_cases he : e = u
  ·simp only [AV.kill, bif_eq he]; exact .slen
  ·simp only [AV.kill, bif_ne he] at ih ⊢; exact .rfx (ih (by simpa only [AV.lo] using hlo))
 | @ptr k e i j b h1 =>
  by_cases he : e = u
  ·simp only [AV.kill, bif_eq he]; exact .dead
  ·simp only [AV.kill, bif_ne he]; exact .ptr (hβ e b (by simpa [AV.lo] using hlo) he h1)
 | elt g h1 h2 h3 h4 h5 =>
  simp only [AV.kill]
  exact .elt g (hF _ h1) h2 h3 h4 (fun i j cs u hc hu => (h5 i j cs u hc hu).mono hF fun _ _ => rfl)
 | @map e b h1 =>
  by_cases he : e = u
  ·simp only [AV.kill, bif_eq he]; exact .dead
  ·simp only [AV.kill, bif_ne he]; exact .map (hβ e b (by simpa [AV.lo] using hlo) he h1)
 | slen => exact .slen
 | fn h0 h1 _ ih =>
  simp only [AV.kill, AV.killL_eq]
  refine .fn h0 (by simpa using h1) fun i c u' hc hu => ?_
  rw [List.getElem?_map] at hc
  rename_i f g cs vs _ _ _
  cases hci : cs[i]? with
  | none => rw [hci] at hc; cases hc
  | some c' => rw [hci] at hc; injection hc with hc; subst hc; exact ih i c' u' hci hu (AV.loL_mem (by simpa only [AV.lo] using hlo) c' (List.mem_of_getElem? hci))
 | ifc _ ih => exact .ifc (ih (by simpa only [AV.lo] using hlo))
 | dead => exact .dead
theorem ObjR.klo {d u : Nat} {o : AObj} (h : ObjR F β w d o) (hlo : o.lo) (hu : u < 20000) (hd : d < 20000) (hdu : d ≠ u) (hF : ∀ b, F b → F' b) (hβ : ∀ e b, e < 20000 → e ≠ u → β e = some b → β' e = some b) (hkid : ∀ i b, (∃ t clk es q, o = .mapl t clk es q) → β (kn d i) = some b → β' (kn d i) = some b) : ObjR F' β' w d (o.kill u) := by
 cases o with
 | row t k xs =>
  obtain ⟨hk, h⟩ := h
  refine ⟨hk, ?_⟩
  rcases h with h | ⟨b, arr, h1, h2, h3, h4⟩
  ·exact .inl h
  ·exact .inr ⟨b, arr, hβ d b hd hdu h1, h2, h3, fun i j cs u hc hu => by
    obtain ⟨x, hx, hr⟩ := h4 i j cs u hc hu
    exact ⟨x, hx, hr.mono hF fun _ _ => rfl⟩⟩
 | var cs =>
  obtain ⟨b, arr, t, h1, h2, h3, h4⟩ := h
  refine ⟨b, arr, t, hβ d b hd hdu h1, h2, by simpa [AV.killL_eq] using h3, fun j u hu => ?_⟩
  rw [AV.killL_eq, List.getElem?_map] at hu
  cases hc : cs[j]? with
  | none => rw [hc] at hu; cases hu
  | some u' =>
   rw [hc] at hu
   injection hu with hu
   subst hu
   obtain ⟨x, hx, hr, ho⟩ := h4 j u' hc
   exact ⟨x, hx, hr.klo _ (AV.loL_mem hlo u' (List.mem_of_getElem? hc)) hF hβ, ho⟩
 | mapo es =>
  obtain ⟨b, arr, clk, h1, h2, h3, h4⟩ := h
  exact ⟨b, arr, clk, hβ d b hd hdu h1, h2, h3, fun i e m he hm => ⟨(h4 i e m he hm).1.mono hF fun _ _ => rfl, (h4 i e m he hm).2.mono hF fun _ _ => rfl⟩⟩
 | mapr clk es =>
  obtain ⟨b, arr, h1, h2, h3, h4⟩ := h
  refine ⟨b, arr, hβ d b hd hdu h1, h2, by rw [mapM_len]; exact h3, fun i e' m he hm => ?_⟩
  obtain ⟨e0, he0, rfl⟩ := mapM_get he
  obtain ⟨g1, g2, g3⟩ := h4 i e0 m he0 hm
  exact ⟨g1, g2.mono hF fun _ _ => rfl, g3.klo _ (hlo e0 (List.mem_of_getElem? he0)) hF hβ⟩
 | mapl t clk es q =>
  obtain ⟨b, arr, h1, h2, h3, h4⟩ := h
  simp only [AObj.kill]
  rw [decide_eq_true hu]
  exact ⟨b, arr, hβ d b hd hdu h1, h2, h3, fun i x m hx hm => ⟨(h4 i x m hx hm).1, (h4 i x m hx hm).2.1, fun hq => ((h4 i x m hx hm).2.2 hq).step (fun c hc => hkid i c ⟨_, _, _, _, rfl⟩ hc) fun _ _ => rfl⟩⟩
 | iter e' ok since seen =>
  obtain ⟨r, b, last, h1, h2, h3⟩ := h
  refine ⟨r, b, last, hβ d r hd hdu h1, h2, fun hok => ?_⟩
  simp only [Bool.and_eq_true, Bool.not_eq_true', beq_eq_false_iff_ne] at hok
  exact hβ e' b hlo hok.2 (h3 hok.1)
end
section
variable {P : Program} {T : Nat → Option TyD} {E : Env} {s : AState} {tm : Array Value} {w w' : World} {β β' : Nat → Option Nat} {n : Nat} {ops : Array Oper} {Q : Exit → AState → Prop} {rest : List Oper} {o : Oper} {F : Nat → Prop}
theorem SRel.owners (hs : SRel E s tm w β) (d u : Nat) (hu : u < 10000) (hlF : loF s.fr) (hlO : loO s.ob) (hinj : ∀ e f b, β' e = some b → β' f = some b → e = f) (hsub : ∀ e b, β' e = some b → ∃ e', β e' = some b ∧ (e' = e ∨ e < 15000 ∨ 20000 ≤ e) ∧ (e = e' ∨ e' < 10000 ∨ 20000 ≤ e'))
  (hkeep : ∀ e b, e < 20000 → e ≠ u → β e = some b → β' e = some b) (hkid : ∀ e i b, e ≠ d → e < 20000 → β (kn e i) = some b → β' (kn e i) = some b) :
  SRel E { fr := (s.drop u).fr, ob := rm d (s.drop u).ob } tm w β' := by
 have hF : ∀ b, FF E β w b → FF E β' w b := fun b ⟨h1, h2, h3⟩ => ⟨h1, h2, fun e he => by obtain ⟨e', h, _⟩ := hsub e b he; exact h3 e' h⟩
 have hE : ∀ e b, E.β0 e = some b → 10000 ≤ e ∧ e < 20000 := E.hβ
 refine ⟨hinj, fun e b h => ?_, hs.old, fun e o ho => ?_, fun t g a ht hg => ?_, fun t a ht => ?_, fun e b hlt he => hkeep e b (by omega) (by have := hE e b he; omega) (hs.fx e b hlt he), hs.fs⟩
 ·obtain ⟨e', h1, h2, h3⟩ := hsub e b h
  have h4 := hs.rng e' b h1
  refine ⟨?_, h4.2⟩
  rcases h4.1 with h5 | h5
  ·exact .inl h5
  ·have h6 := hE e' b h5
   have : e = e' := by omega
   rw [this]
   exact .inr h5
 ·have ho' : lk (rm d (s.drop u).ob) e = some o := ho
  rw [lk_rm] at ho'
  by_cases hed : e = d
  ·rw [bif_eq hed] at ho'; cases ho'
  ·rw [bif_ne hed, lk_drop_ob] at ho'
   by_cases heu : e = u
   ·rw [bif_eq heu] at ho'; cases ho'
   ·rw [bif_ne heu] at ho'
    cases hl : lk s.ob e with
    | none => rw [hl] at ho'; cases ho'
    | some o' =>
     rw [hl] at ho'
     injection ho' with ho'
     subst ho'
     obtain ⟨g1, g2⟩ := loO_lk hlO hl
     exact (hs.ob e o' hl).klo g2 (by omega) g1 heu hF hkeep fun i b _ h => hkid e i b hed g1 h
 ·have ht' : lk (s.drop u).fr t = some (g, a) := ht
  rw [lk_drop_fr] at ht'
  cases hl : lk s.fr t with
  | none => rw [hl] at ht'; cases ht'
  | some p =>
   obtain ⟨g', a'⟩ := p
   rw [hl] at ht'
   injection ht' with ht'
   injection ht' with h1 h2
   subst h1
   subst h2
   exact (hs.fr t g' a' hl hg).klo u (loF_lk hlF hl) hF hkeep
 ·have ht' : lk (s.drop u).fr t = some (false, a) := ht
  rw [lk_drop_fr] at ht'
  cases hl : lk s.fr t with
  | none => rw [hl] at ht'; cases ht'
  | some p =>
   obtain ⟨g', a'⟩ := p
   rw [hl] at ht'
   injection ht' with ht'
   injection ht' with h1 h2
   subst h1
   exact hs.un t a' hl
def mfi {α : Type} (k : Int) : List (Nat × Int × α) → Option Nat
 | [] => none
 | (_, k', _) :: L => if k' = k then some 0 else (mfi k L).map (· + 1)
theorem lfind {key : Int} : ∀ (es : List (Nat × Int × List Int)) (ms : List MapEntry) (i : Nat), ms.length = es.length → (∀ (i : Nat) (e : Nat × Int × List Int) (m : MapEntry), es[i]? = some e → ms[i]? = some m → m.born = e.1 ∧ m.key = .int .i64 e.2.1) →
  (∃ q e m, es[q]? = some e ∧ ms[q]? = some m ∧ e.2.1 = key ∧ mf key es = some e.2.2 ∧ mfi key es = some q ∧ (∀ c v, mset c key v es = es.set q (e.1, key, v)) ∧ Instr.findNow (.int .i64) (.int .i64 key) ms i = some (some (i + q, m.val))) ∨
  (mf key es = none ∧ mfi key es = none ∧ (∀ c v, mset c key v es = es ++ [(c, key, v)]) ∧ Instr.findNow (.int .i64) (.int .i64 key) ms i = some none) := by
 intro es
 induction es with
 | nil =>
  intro ms i hl _
  have : ms = [] := List.eq_nil_of_length_eq_zero (by simpa using hl)
  subst this
  exact .inr ⟨rfl, rfl, fun _ _ => rfl, rfl⟩
 | cons e es ih =>
  intro ms i hl h
  obtain ⟨b, k, a⟩ := e
  cases ms with
  | nil => simp at hl
  | cons m ms =>
   have h0 := h 0 (b, k, a) m rfl rfl
   have hn : Instr.sameNow (.int .i64) (.int .i64 key) m.key = some (decide (key = k)) := by rw [h0.2]; simp [Instr.sameNow, int_beq]
   by_cases hkk : k = key
   ·subst hkk
    refine .inl ⟨0, _, m, rfl, rfl, rfl, by simp [mf], by simp [mfi], fun c v => by simp [mset], ?_⟩
    rw [decide_eq_true rfl] at hn
    simp [Instr.findNow, hn]
   ·rw [decide_eq_false (Ne.symm hkk)] at hn
    rcases ih ms (i + 1) (by simpa using hl) (fun i e m h1 h2 => h (i + 1) e m (by simpa using h1) (by simpa using h2)) with ⟨q, e, m', g1, g2, g3, g4, g5, g6, g7⟩ | ⟨g4, g5, g6, g7⟩
    ·exact .inl ⟨q + 1, e, m', by simpa using g1, by simpa using g2, g3, by simp [mf, hkk, g4], by simp [mfi, hkk, g5], fun c v => by simp [mset, hkk, g6 c v], by simp [Instr.findNow, hn, g7]; omega⟩
    ·exact .inr ⟨by simp [mf, hkk, g4], by simp [mfi, hkk, g5], fun c v => by simp [mset, hkk, g6 c v], by simp [Instr.findNow, hn, g7]⟩
theorem kn_inj2 {d e i j : Nat} (hd : d < 20000) (he : e < 20000) (h : kn d i = kn e j) : d = e ∧ i = j := by unfold kn at h; omega
end
end Go.Proofs.Ytjeplogcfedmeaa
end
section
namespace Go.Proofs.Ytjeplogcfedmeaa
open Go.RowKit Go.MapKept
open Go.ChangeMaps (setBlock)
section
variable {P : Program} {T : Nat → Option TyD} {E : Env} {s : AState} {tm : Array Value} {w w' : World} {β β' : Nat → Option Nat} {n : Nat} {ops : Array Oper} {Q : Exit → AState → Prop} {rest : List Oper} {o : Oper} {F : Nat → Prop}
theorem mapl_obj {t clk d : Nat} {es : List (Nat × Int × List Int)} {h : Option Nat} (ho : ObjR F β w d (.mapl t clk es h)) : ∃ b arr, β d = some b ∧ w.heap[b]? = some (.map arr clk) ∧ arr.toList.length = es.length ∧
  (∀ (i : Nat) (e : Nat × Int × List Int) (m : MapEntry), es[i]? = some e → arr.toList[i]? = some m → m.born = e.1 ∧ m.key = .int .i64 e.2.1) ∧
  ∀ (i : Nat) (e : Nat × Int × List Int) (m : MapEntry), es[i]? = some e → arr.toList[i]? = some m → h ≠ some i → KidR β w t (kn d i) e.2.2 m.val := by
 obtain ⟨b, arr, h1, h2, h3, h4⟩ := ho
 exact ⟨b, arr, h1, h2, by simpa using h3, fun i e m he hm => ⟨(h4 i e m he (by simpa using hm)).1, (h4 i e m he (by simpa using hm)).2.1⟩, fun i e m he hm => (h4 i e m he (by simpa using hm)).2.2⟩
theorem al_ltake (hT : TOK P T) {m k : Operand} {t d kt vt te clk u : Nat} {es : List (Nat × Int × List Int)} {key : Int} {dt dk : TyD} {l : List Int} {h' : Option Nat} (hG : guardAV ops s o.guard = some true) (ho : o.op = .lookup t m k false) (hdst : o.dst = some u) (hdo : dstOK n (some u)) (hgm : s.gd m = true) (hgk : s.gd k = true)
  (hm : s.ev m = .map d) (hk : s.ev k = vI key) (hTt : T t = some dt) (hsh : dt.sh = .map kt vt) (hTk : T kt = some dk) (hsk : dk.sh = .int .i64) (hz : ∀ w, (zeroValue vt).run P w = .ok (.slice none 0 0) w)
  (hob : lk s.ob d = some (.mapl te clk es none)) (hd2 : d < 20000) (hdu : d ≠ u) (hlF : loF s.fr) (hlO : loO s.ob) (hl : (mf key es).getD [] = l) (hh : mfi key es = h')
  (hr : AListD P E n ops seqD rest Q { fr := (u, true, .ref te 1 u 0 l.length) :: (s.drop u).fr, ob := (u, .row te 1 (v8 l)) :: (d, .mapl te clk es h') :: rm d (s.drop u).ob }) : AListR P E n ops seqD (o :: rest) Q s := by
 intro a w β hn hd hs
 have hw := guard_ok (ops := ops) hs hG
 have vm := hs.ev m hgm (a := a) rfl
 have vk := hs.ev k hgk (a := a) rfl
 rw [hm] at vm
 rw [hk] at vk
 obtain ⟨b, hmb, hb⟩ := map_rel vm
 have hkv := int_rel vk
 obtain ⟨b', arr, hb', harr, hlen, hent, hkid⟩ := mapl_obj (hs.ob d _ hob)
 rw [hb] at hb'
 injection hb' with hb'
 subst hb'
 have hu10 : u < 10000 := hdo.2
 have hu := T_map hT hTt hsh
 have hku := T_int hT hTk hsk
 have hget := run_getObj_at (P := P) harr (fun _ _ _ h => by cases h)
 have hcheck : ∀ em, (Instr.checkKey em 10000 kt (.int .i64 key)).run P w = .ok () w := fun em => run_checkKey (P := P) (w := w) hku (show IsKey (.int .i64) (.int .i64 key) from rfl) em 9999
 have fin : ∀ (β' : Nat → Option Nat) (v : Value), (Instr.lookup t (.map (some b)) (.int .i64 key) false).run P w = .ok v w → (∀ e f b, β' e = some b → β' f = some b → e = f) → (∀ e b, β' e = some b → ∃ e', β e' = some b ∧ (e' = e ∨ e < 15000 ∨ 20000 ≤ e) ∧ (e = e' ∨ e' < 10000 ∨ 20000 ≤ e')) →
   (∀ e b, e < 20000 → e ≠ u → β e = some b → β' e = some b) → (∀ e i b, e ≠ d → e < 20000 → β (kn e i) = some b → β' (kn e i) = some b) → ObjR (FF E β' w) β' w d (.mapl te clk es h') → ObjR (FF E β' w) β' w u (.row te 1 (v8 l)) → AVR (FF E β' w) β' w (.ref te 1 u 0 l.length) v →
   o.wp P a w (fun a' w' => ∃ X', StepX (seqD.dst o) (XW seqD β) w X' w' ∧ wpListS P ops seqD (lift E n Q) (nrm E n seqD (Q .normal)) rest X' a' w') (lift E n Q) := fun β' v hrun h1 h2 h3 h4 h5 h6 h7 => by
  have hS := ((hs.owners d u hu10 hlF hlO h1 h2 h3 h4).add d _ h5).add u _ h6
  obtain ⟨g1, g2, g3⟩ := putRel (dst := some u) hn hd hS hdo true (.ref te 1 u 0 l.length) (v := v) (fun _ => h7) (fun h => by cases h)
  refine wp_value (w' := w) (v := v) (by simp [execOp, ho, hmb, hkv, hrun]) ⟨XW seqD β', ⟨fun _ => ⟨Nat.le_refl _, fun _ _ _ => rfl⟩, ⟨Nat.le_refl _, fun _ _ _ => rfl⟩, fun b _ ⟨e, _, he⟩ => by obtain ⟨e', g, _⟩ := h2 e b he; exact ⟨e', rfl, g⟩⟩, hr _ _ _ ?_ ?_ ?_⟩
  ·rw [hdst]; exact g1
  ·rw [hdst]; exact g2
  ·rw [hdst]; exact g3
 refine step_list (by rw [ho]; rfl) hw (fun _ => ?_) (fun hGf => by cases hGf)
 rcases lfind (key := key) es arr.toList 0 hlen hent with ⟨q, e, me, g1, g2, g3, g4, g5, g6, g7⟩ | ⟨g4, g5, g6, g7⟩
 ·rw [g4] at hl
  rw [g5] at hh
  simp only [Option.getD_some] at hl
  subst hl
  subst hh
  obtain ⟨bi, c, ai, k1, k2, k3, k4, k5, k6, k7⟩ := hkid q e me g1 g2 (by simp)
  have hkn : kn d q ≠ u := by unfold kn; omega
  have hkn2 : 20000 ≤ kn d q := by unfold kn; omega
  refine fin (fun e => if e = u then some bi else if e = kn d q then none else β e) me.val ?_ (fun x y z hx hy => ?_) (fun x z hx => ?_) (fun x z hx hxu hxz => ?_) (fun x i z hxd hx hxz => ?_) ?_ ?_ ?_
  ·simp only [Instr.lookup, Sem.run_bind, run_underlying hu, Result.andThen_ok, hget, Sem.run_pure, hcheck, run_findKey hku g7]
   rfl
  ·have key : ∀ x, (if x = u then some bi else if x = kn d q then none else β x) = some z → (x = u ∧ bi = z) ∨ (x ≠ u ∧ x ≠ kn d q ∧ β x = some z) := fun x hx => by
    by_cases h1 : x = u
    ·rw [if_pos h1] at hx; injection hx with hx; exact .inl ⟨h1, hx⟩
    ·rw [if_neg h1] at hx
     by_cases h2 : x = kn d q
     ·rw [if_pos h2] at hx; cases hx
     ·rw [if_neg h2] at hx; exact .inr ⟨h1, h2, hx⟩
   rcases key x hx with ⟨h1, h2⟩ | ⟨h1, h2, h3⟩ <;> rcases key y hy with ⟨h4, h5⟩ | ⟨h4, h5, h6⟩
   ·rw [h1, h4]
   ·subst h2; exact absurd (hs.inj _ _ _ h6 k1) h5
   ·subst h5; exact absurd (hs.inj _ _ _ h3 k1) h2
   ·exact hs.inj _ _ _ h3 h6
  ·by_cases h1 : x = u
   ·rw [if_pos h1] at hx; injection hx with hx; subst hx
    exact ⟨kn d q, k1, .inr (.inl (by omega)), .inr (.inr hkn2)⟩
   ·rw [if_neg h1] at hx
    by_cases h2 : x = kn d q
    ·rw [if_pos h2] at hx; cases hx
    ·rw [if_neg h2] at hx; exact ⟨x, hx, .inl rfl, .inl rfl⟩
  ·rw [if_neg hxu, if_neg (by omega)]; exact hxz
  ·rw [if_neg (by unfold kn; omega), if_neg (fun h => hxd (kn_inj2 hx hd2 h).1)]; exact hxz
  ·refine ⟨b, arr, by show (if d = u then some bi else if d = kn d q then none else β d) = some b; rw [if_neg hdu, if_neg (by omega)]; exact hb, harr, by simpa using hlen, fun i x m hx hm => ?_⟩
   have hm' : arr.toList[i]? = some m := by simpa using hm
   refine ⟨(hent i x m hx hm').1, (hent i x m hx hm').2, fun hq => (hkid i x m hx hm' (by simp)).step (fun z hz => ?_) fun _ _ => rfl⟩
   rw [if_neg (by unfold kn; omega), if_neg (fun h => hq (by rw [(kn_inj2 hd2 hd2 h).2]))]
   exact hz
  ·refine ⟨fun cs hcs => by obtain ⟨z, _, rfl⟩ := List.mem_map.1 hcs; rfl, .inr ⟨bi, ai, by show (if u = u then some bi else if u = kn d q then none else β u) = some bi; rw [if_pos rfl], k5, by rw [v8_len]; omega, fun i j cs u' hcs hu' => ?_⟩⟩
   rw [v8, List.getElem?_map] at hcs
   cases hz : e.2.2[i]? with
   | none => rw [hz] at hcs; cases hcs
   | some z =>
    rw [hz] at hcs
    injection hcs with hcs
    subst hcs
    have hj : j = 0 := by have := lt_of_get hu'; simp at this; omega
    subst hj
    simp only [List.getElem?_cons_zero, Option.some.injEq] at hu'
    subst hu'
    exact ⟨_, by rw [Nat.mul_one, Nat.add_zero]; exact k7 i z hz, .v rfl⟩
  ·rw [k2]
   exact .ref (by rw [if_pos rfl]) k3 k4 rfl ⟨ai, k5, by omega⟩
 ·rw [g4] at hl
  rw [g5] at hh
  simp only [Option.getD_none] at hl
  subst hl
  subst hh
  refine fin (fun e => if e = u then none else β e) (.slice none 0 0) ?_ (fun x y z hx hy => ?_) (fun x z hx => ?_) (fun x z hx hxu hxz => ?_) (fun x i z hxd hx hxz => ?_) ?_ ?_ ?_
  ·simp only [Instr.lookup, Sem.run_bind, run_underlying hu, Result.andThen_ok, hget, Sem.run_pure, hcheck, run_findKey hku g7, hz]
   rfl
  ·by_cases h1 : x = u
   ·rw [if_pos h1] at hx; cases hx
   ·rw [if_neg h1] at hx
    by_cases h2 : y = u
    ·rw [if_pos h2] at hy; cases hy
    ·rw [if_neg h2] at hy; exact hs.inj _ _ _ hx hy
  ·by_cases h1 : x = u
   ·rw [if_pos h1] at hx; cases hx
   ·rw [if_neg h1] at hx; exact ⟨x, hx, .inl rfl, .inl rfl⟩
  ·rw [if_neg hxu]; exact hxz
  ·rw [if_neg (by unfold kn; omega)]; exact hxz
  ·refine ⟨b, arr, by show (if d = u then none else β d) = some b; rw [if_neg hdu]; exact hb, harr, by simpa using hlen, fun i x m hx hm => ?_⟩
   have hm' : arr.toList[i]? = some m := by simpa using hm
   refine ⟨(hent i x m hx hm').1, (hent i x m hx hm').2, fun hq => (hkid i x m hx hm' (by simp)).step (fun z hz => ?_) fun _ _ => rfl⟩
   rw [if_neg (by unfold kn; omega)]
   exact hz
  ·exact ⟨fun cs hcs => (by cases hcs), .inl rfl⟩
  ·exact .nil
theorem al_lgive (hT : TOK P T) {m k x : Operand} {t d kt vt te clk u : Nat} {es : List (Nat × Int × List Int)} {key : Int} {dt dk : TyD} {l : List Int} {h' : Option Nat} (hG : guardAV ops s o.guard = some true) (ho : o.op = .mapUpdate t m k x) (hdst : o.dst = none) (hgm : s.gd m = true) (hgk : s.gd k = true) (hgx : s.gd x = true)
  (hm : s.ev m = .map d) (hk : s.ev k = vI key) (hx : s.ev x = .ref te 1 u 0 l.length) (hTt : T t = some dt) (hsh : dt.sh = .map kt vt) (hTk : T kt = some dk) (hsk : dk.sh = .int .i64)
  (hob : lk s.ob d = some (.mapl te clk es h')) (hobu : lk s.ob u = some (.row te 1 (v8 l))) (hl0 : 0 < l.length) (hd2 : d < 20000) (hu10 : u < 10000) (hdu : d ≠ u) (hlF : loF s.fr) (hlO : loO s.ob) (hh : mfi key es = h') {c' : Nat} {es' : List (Nat × Int × List Int)} (hc' : mclk clk key es = c') (hes' : mset clk key l es = es')
  (hr : AListD P E n ops seqD rest Q { fr := (s.drop u).fr, ob := (d, .mapl te c' es' none) :: rm d (s.drop u).ob }) : AListR P E n ops seqD (o :: rest) Q s := by
 subst hc'
 subst hes'
 intro a w β hn hd hs
 have hw := guard_ok (ops := ops) hs hG
 have vm := hs.ev m hgm (a := a) rfl
 have vk := hs.ev k hgk (a := a) rfl
 have vx := hs.ev x hgx (a := a) rfl
 rw [hm] at vm
 rw [hk] at vk
 rw [hx] at vx
 obtain ⟨b, hmb, hb⟩ := map_rel vm
 have hkv := int_rel vk
 obtain ⟨b', arr, hb', harr, hlen, hent, hkid⟩ := mapl_obj (hs.ob d _ hob)
 rw [hb] at hb'
 injection hb' with hb'
 subst hb'
 obtain ⟨bu, c, ai, k1, k2, k3, k4, k5, k6, k7⟩ : KidR β w te u l (a.eval x) := by
  obtain ⟨hk1, hrow⟩ := hs.ob u _ hobu
  generalize a.eval x = v at vx
  generalize hll : l.length = ln at vx
  cases vx with
  | s h => cases h
  | nil => omega
  | empty => omega
  | @ref _ _ _ _ _ c b0 A q1 q2 q3 q4 q5 =>
   subst q4
   obtain ⟨ai, r1, r2⟩ := q5
   rcases hrow with h | ⟨b1, arr1, e1, e2, e3, e4⟩
   ·have h2 : (v8 l).length = 0 := by rw [h]; rfl
    rw [v8_len] at h2; omega
   ·rw [q1] at e1
    injection e1 with e1
    subst e1
    rw [r1] at e2
    injection e2 with e2
    injection e2 with e2 _
    subst e2
    refine ⟨b0, c, ai, q1, by rw [hll], by omega, q3, r1, by omega, fun j z hz => ?_⟩
    obtain ⟨x0, p1, p2⟩ := e4 j 0 [vI z] (vI z) (by simp [v8, hz]) rfl
    rw [Nat.mul_one, Nat.add_zero] at p1
    rw [p1, svr_int p2]
 have hu := T_map hT hTt hsh
 have hku := T_int hT hTk hsk
 have hget := run_getObj_at (P := P) harr (fun _ _ _ h => by cases h)
 have hik : IsKey (.int .i64) (.int .i64 key) := rfl
 have hcheck : ∀ em, (Instr.checkKey em 10000 kt (.int .i64 key)).run P w = .ok () w := fun em => run_checkKey (P := P) (w := w) hku hik em 9999
 have hset : ∀ o' : Obj, (setObj b o').run P w = .ok () (setBlock w b o') := fun o' => by simp [setObj, Sem.run, harr, setBlock]
 have hbu : bu ≠ b := fun h => hdu (hs.inj d u b hb (by rw [← h]; exact k1))
 have fin : ∀ (q : Nat) (arr' : Array MapEntry), (Instr.mapUpdate t (.map (some b)) (.int .i64 key) (a.eval x)).run P w = .ok () (setBlock w b (.map arr' (mclk clk key es))) → arr'.toList.length = (mset clk key l es).length →
   (∀ (i : Nat) (e : Nat × Int × List Int) (m : MapEntry), (mset clk key l es)[i]? = some e → arr'.toList[i]? = some m → m.born = e.1 ∧ m.key = .int .i64 e.2.1 ∧ (i = q ∧ e.2.2 = l ∧ m.val = a.eval x ∨ i ≠ q ∧ KidR β w te (kn d i) e.2.2 m.val)) →
   o.wp P a w (fun a' w' => ∃ X', StepX (seqD.dst o) (XW seqD β) w X' w' ∧ wpListS P ops seqD (lift E n Q) (nrm E n seqD (Q .normal)) rest X' a' w') (lift E n Q) := fun q arr' hrun hl' hent' => by
  have hkn : kn d q ≠ u := by unfold kn; omega
  have hkn2 : 20000 ≤ kn d q := by unfold kn; omega
  generalize hβ' : (fun e => if e = kn d q then some bu else if e = u then none else β e) = β'
  have hv : ∀ e, β' e = if e = kn d q then some bu else if e = u then none else β e := fun e => by rw [← hβ']
  have hsub : ∀ e z, β' e = some z → (e = kn d q ∧ bu = z) ∨ (e ≠ kn d q ∧ e ≠ u ∧ β e = some z) := fun e z he => by
   rw [hv] at he
   by_cases h1 : e = kn d q
   ·rw [if_pos h1] at he; injection he with he; exact .inl ⟨h1, he⟩
   ·rw [if_neg h1] at he
    by_cases h2 : e = u
    ·rw [if_pos h2] at he; cases he
    ·rw [if_neg h2] at he; exact .inr ⟨h1, h2, he⟩
  have hO := hs.owners (β' := β') d u hu10 hlF hlO (fun x y z hx hy => by
   rcases hsub x z hx with ⟨h1, h2⟩ | ⟨h1, h2, h3⟩ <;> rcases hsub y z hy with ⟨h4, h5⟩ | ⟨h4, h5, h6⟩
   ·rw [h1, h4]
   ·subst h2; exact absurd (hs.inj _ _ _ h6 k1) h5
   ·subst h5; exact absurd (hs.inj _ _ _ h3 k1) h2
   ·exact hs.inj _ _ _ h3 h6) (fun x z hx => by
   rcases hsub x z hx with ⟨h1, h2⟩ | ⟨h1, h2, h3⟩
   ·subst h2; exact ⟨u, k1, .inr (.inr (by omega)), .inr (.inl hu10)⟩
   ·exact ⟨x, h3, .inl rfl, .inl rfl⟩) (fun x z hx hxu hxz => by rw [hv, if_neg (by omega), if_neg hxu]; exact hxz) (fun x i z hxd hx hxz => by
   rw [hv, if_neg (fun h => hxd (kn_inj2 hx hd2 h).1), if_neg (by unfold kn; omega)]; exact hxz)
  have hb2 : β' d = some b := by rw [hv, if_neg (by omega), if_neg hdu]; exact hb
  have hK : Keeps (fun c => β' d = some c) w (setBlock w b (.map arr' (mclk clk key es))) := setBlock_keeps hb2
  have hlt : b < w.heap.size := (hs.rng d b hb).2
  have hnew : (setBlock w b (.map arr' (mclk clk key es))).heap[b]? = some (.map arr' (mclk clk key es)) := by simp [setBlock, hlt]
  have hC := hO.content d hK fun c te n hc' ⟨a', e1, _⟩ => by
   rw [hb2] at hc'; injection hc' with hc'; subst hc'; rw [harr] at e1; cases e1
  have hoth : ∀ z, z ≠ b → (setBlock w b (.map arr' (mclk clk key es))).heap[z]? = w.heap[z]? := fun z hz => Array.getElem?_setIfInBounds_ne (Ne.symm hz)
  have hA := hC.add d (.mapl te (mclk clk key es) (mset clk key l es) none) ⟨b, arr', hb2, hnew, by simpa using hl', fun i e m he hm => by
   obtain ⟨r1, r2, r3⟩ := hent' i e m he (by simpa using hm)
   refine ⟨r1, r2, fun _ => ?_⟩
   rcases r3 with ⟨rfl, r4, r5⟩ | ⟨r4, r5⟩
   ·rw [r4, r5]
    exact ⟨bu, c, ai, by rw [hv, if_pos rfl], k2, k3, k4, (hoth _ hbu).trans k5, k6, k7⟩
   ·refine r5.step (fun z hz => by rw [hv, if_neg (fun h => r4 (kn_inj2 hd2 hd2 h).2), if_neg (by unfold kn; omega)]; exact hz) fun z hz => hoth z fun h => ?_
    subst h
    have := hs.inj _ _ _ hz hb
    unfold kn at this; omega⟩
  have hW : SRel E { fr := (s.drop u).fr, ob := (d, .mapl te (mclk clk key es) (mset clk key l es) none) :: rm d (s.drop u).ob } a.tmps (setBlock w b (.map arr' (mclk clk key es))) β' := hA.weaken (fun t g x h => h) fun e o' h => by
   have h' : lk ((d, AObj.mapl te (mclk clk key es) (mset clk key l es) none) :: rm d (s.drop u).ob) e = some o' := h
   show lk ((d, AObj.mapl te (mclk clk key es) (mset clk key l es) none) :: rmo d (rm d (s.drop u).ob)) e = some o'
   rw [lk_cons] at h' ⊢
   by_cases he : d = e
   ·rw [bif_eq he] at h' ⊢; exact h'
   ·rw [bif_ne he] at h' ⊢
    unfold rmo
    rw [decide_eq_true hd2, cond_true, lk_rm, bif_ne (Ne.symm he)]
    exact h'
  refine wp_skip' (w' := setBlock w b (.map arr' (mclk clk key es))) (by simp [execOp, ho, hmb, hkv, hrun]) ⟨XW seqD β', ⟨fun h => (by rw [Dr.dst, ho] at h; cases h), ⟨hK.size, fun z hz hne => hoth z fun h => hne ⟨d, rfl, by rw [h]; exact hb⟩⟩, fun z _ ⟨e, _, he⟩ => ?_⟩, hr _ _ _ ?_ ?_ ?_⟩
  ·rcases hsub e z he with ⟨_, h2⟩ | ⟨_, _, h3⟩
   ·subst h2; exact ⟨u, rfl, k1⟩
   ·exact ⟨e, rfl, h3⟩
  ·rw [hdst]; exact hn
  ·rw [hdst]; exact hd
  ·rw [hdst]; exact hW
 refine step_list (by rw [ho]; rfl) hw (fun _ => ?_) (fun hGf => by cases hGf)
 rcases lfind (key := key) es arr.toList 0 hlen hent with ⟨q, e, me, g1, g2, g3, g4, g5, g6, g7⟩ | ⟨g4, g5, g6, g7⟩
 ·rw [g5] at hh
  have hq2 : arr[q]? = some me := by simpa using g2
  have hkme := (hent q e me g1 g2).2
  rw [g3] at hkme
  have hlt : q < arr.size := (Array.getElem?_eq_some_iff.1 hq2).1
  have he : (arr.modify q fun e => { e with key := .int .i64 key, val := a.eval x }).toList = arr.toList.set q { me with key := .int .i64 key, val := a.eval x } := by
   apply List.ext_getElem?
   intro i
   rw [Array.getElem?_toList, Array.getElem?_modify, List.getElem?_set, Array.getElem?_toList]
   by_cases hi : q = i
   ·subst hi
    rw [if_pos rfl, if_pos rfl, hq2, if_pos (by simpa using hlt)]
    rfl
   ·rw [if_neg hi, if_neg hi]
  refine fin q (arr.modify q fun e => { e with key := .int .i64 key, val := a.eval x }) ?_ ?_ fun i x' m' hx' hm' => ?_
  ·simp only [Instr.mapUpdate, Sem.run_bind, run_underlying hu, Result.andThen_ok, hget, hcheck, run_findKey hku g7, Nat.zero_add, hq2, Option.map_some, Option.getD_some, hkme, run_keyThatStays hik, hset, mclk, g4, Option.isSome_some, cond_true]
  ·rw [he, g6, List.length_set, List.length_set, hlen]
  ·rw [he] at hm'
   rw [g6] at hx'
   rw [List.getElem?_set] at hx' hm'
   by_cases hi : q = i
   ·subst hi
    rw [if_pos rfl] at hx' hm'
    rw [if_pos (lt_of_get g1)] at hx'
    rw [if_pos (by simpa using hlt)] at hm'
    injection hx' with hx'
    injection hm' with hm'
    subst hx'
    subst hm'
    exact ⟨(hent q e me g1 g2).1, rfl, .inl ⟨rfl, rfl, rfl⟩⟩
   ·rw [if_neg hi] at hx' hm'
    exact ⟨(hent i x' m' hx' hm').1, (hent i x' m' hx' hm').2, .inr ⟨fun h => hi h.symm, hkid i x' m' hx' hm' (by rw [← hh]; intro h; injection h with h; exact hi h)⟩⟩
 ·rw [g5] at hh
  refine fin es.length (arr.push { key := .int .i64 key, val := a.eval x, born := clk }) ?_ ?_ fun i x' m' hx' hm' => ?_
  ·simp only [Instr.mapUpdate, Sem.run_bind, run_underlying hu, Result.andThen_ok, hget, hcheck, run_findKey hku g7, hset, mclk, g4, Option.isSome_none, cond_false]
  ·rw [Array.toList_push, g6, List.length_append, List.length_append, hlen]; rfl
  ·rw [Array.toList_push] at hm'
   rw [g6] at hx'
   by_cases hi : i < es.length
   ·rw [List.getElem?_append_left hi] at hx'
    rw [List.getElem?_append_left (by rw [hlen]; exact hi)] at hm'
    exact ⟨(hent i x' m' hx' hm').1, (hent i x' m' hx' hm').2, .inr ⟨by omega, hkid i x' m' hx' hm' (by rw [← hh]; simp)⟩⟩
   ·rw [List.getElem?_append_right (by omega)] at hx'
    rw [List.getElem?_append_right (by rw [hlen]; omega), hlen] at hm'
    have h0 : i - es.length = 0 := by have := lt_of_get hx'; simp at this; omega
    rw [h0] at hx' hm'
    simp only [List.getElem?_cons_zero, Option.some.injEq] at hx' hm'
    subst hx'
    subst hm'
    exact ⟨rfl, rfl, .inl ⟨by omega, rfl, rfl⟩⟩
theorem aw_mapl {c : Code} (d te : Nat) (hd : d < 20000) (ho : lk s.ob d = some (.mapr 0 [])) (h : AWp P E n c Q { fr := s.fr, ob := (d, .mapl te 0 [] none) :: rm d s.ob }) : AWp P E n c Q s := fun a w ⟨hn, hdf, β, hs⟩ => by
 refine h a w ⟨hn, hdf, β, (hs.weaken (s' := { fr := s.fr, ob := rm d s.ob }) (fun t g x h => h) fun e o h => ?_).add d _ ?_⟩
 ·have h' : lk (rm d s.ob) e = some o := h
  rw [lk_rm] at h'
  by_cases he : e = d
  ·rw [bif_eq he] at h'; cases h'
  ·rw [bif_ne he] at h'; exact h'
 ·obtain ⟨b, arr, h1, h2, h3, _⟩ := hs.ob d _ ho
  exact ⟨b, arr, h1, h2, h3, fun i e m he => by simp at he⟩
end
end Go.Proofs.Ytjeplogcfedmeaa
end
section
namespace Go.Proofs.Ytjeplogcfedmeaa
open Go.RowKit Go.MapKept
section
variable {F F' : Nat → Prop} {β β' : Nat → Option Nat} {w w' : World}
theorem AVR.lo0 {a : AV} {x : Value} (h : AVR F β w a x) (hlo : a.lo = true) (hF : ∀ b, F b → F' b) (hβ : ∀ e b, e < 20000 → β e = some b → β' e = some b) : AVR F' β' w a x := by
 induction h with
 | s h => exact .s (h.mono hF fun _ _ => rfl)
 | agg h1 h2 _ ih => exact .agg h1 h2 fun i c u hc hu => ih i c u hc hu (AV.loL_mem (by simpa only [AV.lo] using hlo) c (List.mem_of_getElem? hc))
 | tup h1 _ ih => exact .tup h1 fun i c u hc hu => ih i c u hc hu (AV.loL_mem (by simpa only [AV.lo] using hlo) c (List.mem_of_getElem? hc))
 | nil => exact .nil
 | ref h1 h2 h3 h5 h6 => exact .ref (hβ _ _ (by simpa [AV.lo] using hlo) h1) h2 h3 h5 h6
 | empty h1 => exact .empty h1
 | rfx h ih => exact .rfx (ih (by simpa only [AV.lo] using hlo))
 | ptr h1 => exact .ptr (hβ _ _ (by simpa [AV.lo] using hlo) h1)
 | elt g h1 h2 h3 h4 h5 => exact .elt g (hF _ h1) h2 h3 h4 (fun i j cs u hc hu => (h5 i j cs u hc hu).mono hF fun _ _ => rfl)
 | map h1 => exact .map (hβ _ _ (by simpa [AV.lo] using hlo) h1)
 | slen => exact .slen
 | fn h0 h1 _ ih => exact .fn h0 h1 fun i c u hc hu => ih i c u hc hu (AV.loL_mem (by simpa only [AV.lo] using hlo) c (List.mem_of_getElem? hc))
 | ifc _ ih => exact .ifc (ih (by simpa only [AV.lo] using hlo))
 | dead => exact .dead
theorem ObjR.lo0 {d : Nat} {o : AObj} (h : ObjR F β w d o) (hlo : o.lo) (hd : d < 20000) (hF : ∀ b, F b → F' b) (hβ : ∀ e b, e < 20000 → β e = some b → β' e = some b) (hkid : ∀ i b, β (kn d i) = some b → β' (kn d i) = some b) : ObjR F' β' w d o := by
 cases o with
 | row t k xs =>
  obtain ⟨hk, h⟩ := h
  refine ⟨hk, ?_⟩
  rcases h with h | ⟨b, arr, h1, h2, h3, h4⟩
  ·exact .inl h
  ·exact .inr ⟨b, arr, hβ d b hd h1, h2, h3, fun i j cs u hc hu => by
    obtain ⟨x, hx, hr⟩ := h4 i j cs u hc hu
    exact ⟨x, hx, hr.mono hF fun _ _ => rfl⟩⟩
 | var cs =>
  obtain ⟨b, arr, t, h1, h2, h3, h4⟩ := h
  exact ⟨b, arr, t, hβ d b hd h1, h2, h3, fun j u hu => by
   obtain ⟨x, hx, hr, ho⟩ := h4 j u hu
   exact ⟨x, hx, hr.lo0 (AV.loL_mem hlo u (List.mem_of_getElem? hu)) hF hβ, ho⟩⟩
 | mapo es =>
  obtain ⟨b, arr, clk, h1, h2, h3, h4⟩ := h
  exact ⟨b, arr, clk, hβ d b hd h1, h2, h3, fun i e m he hm => ⟨(h4 i e m he hm).1.mono hF fun _ _ => rfl, (h4 i e m he hm).2.mono hF fun _ _ => rfl⟩⟩
 | mapr clk es =>
  obtain ⟨b, arr, h1, h2, h3, h4⟩ := h
  exact ⟨b, arr, hβ d b hd h1, h2, h3, fun i e m he hm => by
   obtain ⟨g1, g2, g3⟩ := h4 i e m he hm
   exact ⟨g1, g2.mono hF fun _ _ => rfl, g3.lo0 (hlo e (List.mem_of_getElem? he)) hF hβ⟩⟩
 | mapl t clk es q =>
  obtain ⟨b, arr, h1, h2, h3, h4⟩ := h
  exact ⟨b, arr, hβ d b hd h1, h2, h3, fun i x m hx hm => ⟨(h4 i x m hx hm).1, (h4 i x m hx hm).2.1, fun hq => ((h4 i x m hx hm).2.2 hq).step (fun c hc => hkid i c hc) fun _ _ => rfl⟩⟩
 | iter e' ok since seen =>
  obtain ⟨r, b, last, h1, h2, h3⟩ := h
  exact ⟨r, b, last, hβ d r hd h1, h2, fun hok => hβ e' b hlo (h3 hok)⟩
end
section
variable {P : Program} {E : Env} {s : AState} {tm : Array Value} {w : World} {β : Nat → Option Nat} {n : Nat} {Q : Exit → AState → Prop}
theorem aw_lfrz {c : Code} (d : Nat) {te clk : Nat} {es : List (Nat × Int × List Int)} (hd : d < 20000) (ho : lk s.ob d = some (.mapl te clk es none)) (hlF : loF s.fr) (hlO : loO s.ob) (h : AWp P E n c Q { fr := s.fr, ob := (d, .mapr clk (mI (fun l => .lst 1 (v8 l)) es)) :: rm d s.ob }) : AWp P E n c Q s := fun a w ⟨hn, hdf, β, hs⟩ => by
 generalize hβ' : (fun e => if 20000 ≤ e ∧ e % 20000 = d then none else β e) = β'
 have hv : ∀ e, β' e = if 20000 ≤ e ∧ e % 20000 = d then none else β e := fun e => by rw [← hβ']
 have hsub : ∀ e b, β' e = some b → ¬ (20000 ≤ e ∧ e % 20000 = d) ∧ β e = some b := fun e b he => by
  rw [hv] at he
  by_cases h1 : 20000 ≤ e ∧ e % 20000 = d
  ·rw [if_pos h1] at he; cases he
  ·rw [if_neg h1] at he; exact ⟨h1, he⟩
 have hkeep : ∀ e b, e < 20000 → β e = some b → β' e = some b := fun e b h1 h2 => by rw [hv, if_neg (by omega)]; exact h2
 have hF : ∀ b, FF E β w b → FF E β' w b := fun b ⟨h1, h2, h3⟩ => ⟨h1, h2, fun e he => h3 e (hsub e b he).2⟩
 have hE : ∀ e b, E.β0 e = some b → 10000 ≤ e ∧ e < 20000 := E.hβ
 obtain ⟨b, arr, hb, harr, hlen, hent, hkid⟩ := mapl_obj (hs.ob d _ ho)
 refine h a w ⟨hn, hdf, β', ⟨fun e f b h1 h2 => hs.inj e f b (hsub e b h1).2 (hsub f b h2).2, fun e b h => hs.rng e b (hsub e b h).2, hs.old, fun e o he => ?_, fun t g x ht hg => (hs.fr t g x ht hg).lo0 (loF_lk hlF ht) hF hkeep, hs.un, fun e b hlt he => hkeep e b (by omega) (hs.fx e b hlt he), hs.fs⟩⟩
 have he' : lk ((d, AObj.mapr clk (mI (fun l => .lst 1 (v8 l)) es)) :: rm d s.ob) e = some o := he
 rw [lk_cons] at he'
 by_cases hde : d = e
 ·rw [bif_eq hde] at he'
  injection he' with he'
  subst he'
  subst hde
  refine ⟨b, arr, hkeep d b hd hb, harr, by rw [mI_len]; simpa using hlen, fun i e' m he hm => ?_⟩
  obtain ⟨x, hx, rfl⟩ := mI_get he
  have hm' : arr.toList[i]? = some m := by simpa using hm
  obtain ⟨g1, g2⟩ := hent i x m hx hm'
  refine ⟨g1, by rw [g2]; exact .v rfl, .s ?_⟩
  obtain ⟨bi, c, ai, k1, k2, k3, k4, k5, k6, k7⟩ := hkid i x m hx hm' (by simp)
  rw [k2]
  have hFb : FF E β' w bi := ⟨(hs.rng _ _ k1).2, by
   rcases (hs.rng _ _ k1).1 with h | h
   ·exact .inr (.inl h)
   ·exact .inr (.inr ⟨_, h⟩), fun e he => by
   obtain ⟨h1, h2⟩ := hsub e bi he
   have := hs.inj _ _ _ h2 k1
   subst this
   exact h1 ⟨by unfold kn; omega, by unfold kn; omega⟩⟩
  have hcell : ∀ q z, x.2.2[q]? = some z → w.cell? ⟨bi, q, none⟩ = some (.int .i64 z) := fun q z hz => (cell_of_row w bi q ai te (0, 0) k5).trans (k7 q z hz)
  refine .lst (fun i _ => .int .i64 (x.2.2.getD i 0)) (v8_len _).symm k3 k4 (fun cs hcs => by obtain ⟨z, _, rfl⟩ := List.mem_map.1 hcs; rfl) (fun _ => ⟨bi, 0, rfl, hFb, fun i j hi hj => ?_⟩) (fun _ _ _ _ => rfl) fun i j cs u hcs hu => ?_
  ·have hj0 : j = 0 := by omega
   subst hj0
   rw [show 0 + (i * 1 + 0) = i by omega]
   exact hcell i _ (by simp [List.getD, hi])
  ·rw [v8, List.getElem?_map] at hcs
   cases hz : x.2.2[i]? with
   | none => rw [hz] at hcs; cases hcs
   | some z =>
    rw [hz] at hcs
    injection hcs with hcs
    subst hcs
    have hj : j = 0 := by have := lt_of_get hu; simp at this; omega
    subst hj
    simp only [List.getElem?_cons_zero, Option.some.injEq] at hu
    subst hu
    have : x.2.2.getD i 0 = z := by simp [List.getD, hz]
    show SVR _ w (.v (.int .i64 z)) (.int .i64 (x.2.2.getD i 0))
    rw [this]
    exact .v rfl
 ·rw [bif_ne hde, lk_rm, bif_ne (Ne.symm hde)] at he'
  obtain ⟨g1, g2⟩ := loO_lk hlO he'
  exact (hs.ob e o he').lo0 g2 g1 hF hkeep fun i b h => by
   rw [hv, if_neg (fun h2 => hde (by have := h2.2; unfold kn at this; omega))]; exact h
end
attribute [go_sem] loF loO AV.lo AV.lo.loL AObj.lo
end Go.Proofs.Ytjeplogcfedmeaa
end
section
namespace Go.Proofs.Ytjeplogcfedmeaa
open Go.RowKit
set_option maxRecDepth 100000
set_option maxHeartbeats 8000000
def nL (L : List (Nat × Int × List Nat)) : List (Nat × Int × List Int) := L.map fun e => (e.1, e.2.1, natI e.2.2)
theorem mf_nL (k : Int) (L : List (Nat × Int × List Nat)) : mf k (nL L) = (mf k L).map natI := by
 induction L with
 | nil => rfl
 | cons e L ih =>
  obtain ⟨b, k', l⟩ := e
  rw [show nL ((b, k', l) :: L) = (b, k', natI l) :: nL L from rfl]
  simp only [mf]
  split
  ·rfl
  ·exact ih
theorem mset_nL (c : Nat) (k : Int) (l : List Nat) (L : List (Nat × Int × List Nat)) : mset c k (natI l) (nL L) = nL (mset c k l L) := by
 induction L with
 | nil => rfl
 | cons e L ih =>
  obtain ⟨b, k', l'⟩ := e
  rw [show nL ((b, k', l') :: L) = (b, k', natI l') :: nL L from rfl]
  simp only [mset]
  split
  ·rfl
  ·rw [ih]; rfl
theorem mclk_nL (c : Nat) (k : Int) (L : List (Nat × Int × List Nat)) : mclk c k (nL L) = mclk c k L := by
 unfold mclk
 rw [mf_nL]
 cases mf k L <;> rfl
theorem mI_nL (L : List (Nat × Int × List Nat)) : mI (fun l : List Int => .lst 1 (v8 l)) (nL L) = mL L := by
 simp [mI, nL, List.map_map, Function.comp, lsF]
theorem atL_nL (L : List (Nat × Int × List Nat)) (k : Nat) : (mf (k : Int) (nL L)).getD [] = natI (atL L k) := by
 rw [mf_nL]
 unfold atL
 cases mf (k : Int) L <;> rfl
theorem atL_mset (c : Nat) (k : Nat) (l : List Nat) (L : List (Nat × Int × List Nat)) (y : Nat) : atL (mset c (k : Int) l L) y = if y = k then l else atL L y := by
 unfold atL
 rw [mf_mset]
 by_cases h : y = k
 ·subst h; simp
 ·rw [if_neg (by omega), if_neg h]
theorem mK_lo (M : List (Nat × Int × Unit)) : (∀ e ∈ mK M, e.2.2.lo = true) = True := eq_true fun e he => by
 obtain ⟨x, _, rfl⟩ := List.mem_map.1 he
 rfl
theorem mL_lo (L : List (Nat × Int × List Nat)) : (∀ e ∈ mL L, e.2.2.lo = true) = True := eq_true fun e he => by
 obtain ⟨x, _, rfl⟩ := List.mem_map.1 he
 rfl
structure RingsI (C : List InsM) (B : List Bool) (M : List (Nat × Int × Unit)) (q : List Nat) : Prop where
 iff : ∀ k, k ∈ q ↔ k ∈ keyN M ∧ Rch (wayR C (bareF C B)) k k
 len : q.length ≤ 1048576
theorem ways_len {C : List InsM} {N : List Int} (hok : CodeOK C N) {x : Nat} (hxC : x < C.length) : (waysF C x (insAt C x)).length ≤ 10000000 := by
 have hC := hok.len
 unfold waysF
 split
 ·simp
 ·split
  ·simp
  ·split
   ·rename_i h8
    have := hok.arms x hxC h8
    simp
    omega
   ·split <;> simp
structure NoteI (C : List InsM) (B : List Bool) (V : List (Nat × Int × Unit)) (cur : Option (Nat × Nat)) (T : Nat) (L1 L2 : List (Nat × Int × List Nat)) : Prop where
 cnt : ∀ x y, (atL L1 x).count y = (atL L2 y).count x
 old : ∀ x ∈ keyN V, ∀ y, y ∈ atL L1 x ↔ wayR C (bareF C B) x y
 new : ∀ x, x ∉ keyN V → (∀ j, cur ≠ some (x, j)) → atL L1 x = []
 now : ∀ x j, cur = some (x, j) → ∀ y, y ∈ atL L1 x ↔ ∃ w, w < j ∧ (waysF C x (insAt C x))[w]? = some (y : Int) ∧ bareF C B x w = true
 l1 : ∀ x, (atL L1 x).length ≤ T
 l2 : ∀ x, (atL L2 x).length ≤ T
theorem NoteI.add {C : List InsM} {B : List Bool} {V : List (Nat × Int × Unit)} {x j T c1 c2 m : Nat} {L1 L2 : List (Nat × Int × List Nat)} (h : NoteI C B V (some (x, j)) T L1 L2) (hx : x ∉ keyN V) (hm : (waysF C x (insAt C x))[j]? = some (m : Int)) (hg : bareF C B x j = true) :
  NoteI C B V (some (x, j + 1)) (T + 1) (mset c1 (x : Int) (atL L1 x ++ [m]) L1) (mset c2 (m : Int) (atL L2 m ++ [x]) L2) := by
 refine ⟨fun a b => ?_, fun a ha y => ?_, fun a ha hc => ?_, fun a i hi y => ?_, fun a => ?_, fun a => ?_⟩
 ·rw [atL_mset, atL_mset]
  have := h.cnt a b
  by_cases h1 : a = x <;> by_cases h2 : b = m
  ·subst h1; subst h2; simp [this]
  ·subst h1; simp [h2, this, Ne.symm h2]
  ·subst h2; simp [h1, this, Ne.symm h1]
  ·simp [h1, h2, this]
 ·rw [atL_mset, if_neg (by rintro rfl; exact hx ha)]; exact h.old a ha y
 ·rw [atL_mset, if_neg (by rintro rfl; exact hc _ rfl)]
  exact h.new a ha fun i hi => by injection hi with hi; injection hi with h1 h2; subst h1; exact hc _ rfl
 ·injection hi with hi
  injection hi with h1 h2
  subst h1
  subst h2
  rw [atL_mset, if_pos rfl, List.mem_append, List.mem_singleton, h.now x j rfl]
  constructor
  ·rintro (⟨w, h1, h2⟩ | rfl)
   ·exact ⟨w, by omega, h2⟩
   ·exact ⟨j, by omega, hm, hg⟩
  ·rintro ⟨w, h1, h2, h3⟩
   by_cases hw : w = j
   ·subst hw; rw [hm] at h2; injection h2 with h2; exact .inr (by omega)
   ·exact .inl ⟨w, by omega, h2, h3⟩
 ·rw [atL_mset]; have := h.l1 x; have := h.l1 a; split <;> simp <;> omega
 ·rw [atL_mset]; have := h.l2 m; have := h.l2 a; split <;> simp <;> omega
theorem NoteI.skip {C : List InsM} {B : List Bool} {V : List (Nat × Int × Unit)} {x j T : Nat} {L1 L2 : List (Nat × Int × List Nat)} (h : NoteI C B V (some (x, j)) T L1 L2) (hg : bareF C B x j = false) : NoteI C B V (some (x, j + 1)) (T + 1) L1 L2 := by
 refine ⟨h.cnt, h.old, fun a ha hc => h.new a ha fun i hi => by injection hi with hi; injection hi with h1 h2; subst h1; exact hc _ rfl, fun a i hi y => ?_, fun a => Nat.le_succ_of_le (h.l1 a), fun a => Nat.le_succ_of_le (h.l2 a)⟩
 injection hi with hi
 injection hi with h1 h2
 subst h1
 subst h2
 rw [h.now x j rfl]
 constructor
 ·rintro ⟨w, h1, h2⟩; exact ⟨w, by omega, h2⟩
 ·rintro ⟨w, h1, h2, h3⟩
  by_cases hw : w = j
  ·subst hw; rw [hg] at h3; cases h3
  ·exact ⟨w, by omega, h2, h3⟩
theorem NoteI.enter {C : List InsM} {B : List Bool} {V : List (Nat × Int × Unit)} {x T : Nat} {L1 L2 : List (Nat × Int × List Nat)} (h : NoteI C B V none T L1 L2) (hx : x ∉ keyN V) : NoteI C B V (some (x, 0)) T L1 L2 :=
 ⟨h.cnt, h.old, fun a ha _ => h.new a ha fun _ h => (by cases h), fun a i hi y => by
  injection hi with hi
  injection hi with h1 h2
  subst h1
  subst h2
  rw [h.new x hx fun _ h => (by cases h)]
  exact ⟨fun h => (by cases h), fun ⟨w, hw, _⟩ => by omega⟩, h.l1, h.l2⟩
theorem NoteI.leave {C : List InsM} {B : List Bool} {V : List (Nat × Int × Unit)} {x j T : Nat} {L1 L2 : List (Nat × Int × List Nat)} {e : Nat × Int × Unit} (h : NoteI C B V (some (x, j)) T L1 L2) (hj : (waysF C x (insAt C x)).length ≤ j) (he : e.2.1 = (x : Int)) : NoteI C B (V ++ [e]) none T L1 L2 := by
 have hk : ∀ y, y ∈ keyN (V ++ [e]) ↔ y ∈ keyN V ∨ y = x := fun y => by simp [keyN, he]
 refine ⟨h.cnt, fun a ha y => ?_, fun a ha _ => h.new a (fun h => ha ((hk a).2 (.inl h))) fun i hi => by injection hi with hi; injection hi with h1 h2; exact ha ((hk a).2 (.inr h1.symm)), fun _ _ h => (by cases h), h.l1, h.l2⟩
 by_cases hax : a = x
 ·subst hax
  rw [h.now a j rfl]
  exact ⟨fun ⟨w, _, h2, h3⟩ => ⟨w, h2, h3⟩, fun ⟨w, h2, h3⟩ => ⟨w, Nat.lt_of_lt_of_le (lt_of_get h2) hj, h2, h3⟩⟩
 ·exact h.old a (((hk a).1 ha).resolve_right hax) y
theorem rings_E (e : Bool) (C : List InsM) (N : List Int) (B : List Bool) (en : Int) (c : Nat) (M : List (Nat × Int × Unit)) (hok : CodeOK C N) (S : Nat → Prop) (hS : ClosedS C B S) (hM : MapOK c M) (hMS : ∀ k ∈ keyN M, S k) (hcl : ∀ k ∈ keyN M, ∀ j ∈ waysF C k (insAt C k), j.toNat ∈ keyN M) :
  GCallE Try.prog 39 [.ptr 1 10000 0 0] (rtO e C N B en c M) (RingsI C B M) (fun q => .ref 3 1 88 0 q.length) (fun q => rtO e C N B en c M ++ [(88, .row 3 1 (v8 (natI q)))]) := by
 have hC := hok.len
 have hlen := hM.len
 have hre := fun (k : Nat) (hk : S k) => reach2 e C N B en c M hok S hS [k] (by simp) (by simpa using hk) (by simp)
 unfold rtO rtV at *
 refine go_fnE (tyOf_ok _) Try.func39 rfl rfl (by rw [Try.results39]) Try.ntmps39 rfl fun E => ?_
 (repeat' (first | exact trivial | (with_reducible first | apply awA | apply awB | apply awF) | ((with_reducible first | refine awN (tyOf_ok _) [4000013, 4000014] ?_ | refine awO (tyOf_ok _) [4000013, 4000014] ?_); intro r hr; simp only [go_sem, Nat.reduceBEq, Nat.reduceBneDiff, Nat.reduceLT, Nat.reduceLeDiff, Nat.reduceAdd, Nat.reduceMul, Nat.reduceSub, Nat.reduceEqDiff, reduceCtorEq, mK_kill, mK_cut, mK_ren, mL_kill, mL_cut, mL_ren] at hr; subst hr; (first | refine awV ?_ ?_ | refine awW ?_ ?_)) | (refine al_mrange (tyOf_ok _) (u := 19) rfl rfl rfl ⟨by decide, by decide⟩ rfl rfl t74 rfl rfl (by decide) ?_))) <;> (try omega)
 refine aw_mapl 13 3 (by decide) (by simp only [go_sem, Nat.reduceBEq, Nat.reduceBneDiff, Nat.reduceLT, Nat.reduceLeDiff, Nat.reduceAdd, Nat.reduceMul, Nat.reduceSub, Nat.reduceEqDiff, reduceCtorEq]) ?_
 refine aw_mapl 14 3 (by decide) (by simp only [go_sem, Nat.reduceBEq, Nat.reduceBneDiff, Nat.reduceLT, Nat.reduceLeDiff, Nat.reduceAdd, Nat.reduceMul, Nat.reduceSub, Nat.reduceEqDiff, reduceCtorEq]) ?_
 refine go_loop [0, 3, 4, 19] [10000, 10002, 10003, 13, 14, 19] (fun q : List (Nat × Int × Unit) × Nat × List (Nat × Int × List Nat) × Nat × List (Nat × Int × List Nat) => ⟨[(0, true, .ptr 1 10000 0 0), (3, true, .map 13), (4, true, .map 14), (19, true, .ptr 1 19 0 0)],
  [(10000, .var [vB e, .lst 4 (encIs C), .lst 1 (v8 N), .ref 4 1 10002 0 B.length, vI en, .map 10003]), (10002, .row 4 1 (encT B)), (10003, .mapr c (mK M)), (13, .mapl 3 q.2.1 (nL q.2.2.1) none), (14, .mapl 3 q.2.2.2.1 (nL q.2.2.2.2) none), (19, .iter 10003 true c (q.1.map (·.1)))]⟩)
  (fun q => (∀ e ∈ q.1, e ∈ M) ∧ (q.1.map (·.1)).Nodup ∧ NoteI C B q.1 none (q.1.length * 10000000) q.2.2.1 q.2.2.2.2) (fun q => M.length - q.1.length) ([], 0, [], 0, [])
  (by simp only [mK_kill, mK_cut, mK_ren, mL_kill, mL_cut, mL_ren, go_sem, Nat.reduceBEq, Nat.reduceBneDiff, Nat.reduceLT, Nat.reduceLeDiff, Nat.reduceAdd, Nat.reduceMul, Nat.reduceSub, Nat.reduceEqDiff, reduceCtorEq] <;> exact rfl) ⟨fun e he => (by cases he), List.nodup_nil, ⟨fun _ _ => rfl, fun x hx => by simp [keyN] at hx, fun _ _ _ => rfl, fun _ _ h => (by cases h), fun _ => Nat.zero_le _, fun _ => Nat.zero_le _⟩⟩ ?_
 intro ⟨V, c1, L1, c2, L2⟩ ⟨hV, hVn, hN⟩
 simp only at hV hVn hN ⊢
 have hVl : V.length ≤ M.length := by
  refine nodup_sub_len ?_ hV
  rw [List.Nodup, List.pairwise_map] at hVn
  exact hVn.imp fun h e => h (by rw [e])
 (repeat' (first | exact trivial | (with_reducible apply awA) | ((with_reducible apply awn); intro r hr; simp only [go_sem, Nat.reduceBEq, Nat.reduceBneDiff, Nat.reduceLT, Nat.reduceLeDiff, Nat.reduceAdd, Nat.reduceMul, Nat.reduceSub, Nat.reduceEqDiff, reduceCtorEq, mK_kill, mK_cut, mK_ren, mL_kill, mL_cut, mL_ren] at hr; subst hr; (first | refine awW ?_ ?_)) | (refine al_mnext (d := 10003) (u := 19) (L := M) (f := fun _ => AV.dead) rfl rfl ⟨by decide, by decide⟩ rfl rfl rfl rfl hM.lt rfl (fun h0 => hold ?_) (fun x hx hxn => hold ?_)))) <;> (try omega)
 ·refine ⟨?_⟩
  have hVK : ∀ k, k ∈ keyN M → k ∈ keyN V := fun k h => by
   obtain ⟨e, he, rfl⟩ := List.mem_map.1 h
   obtain ⟨e', he', h2⟩ := List.mem_map.1 (h0 e he)
   have : e' = e := nodup_map_inj hM.nd (hV e' he') he h2
   subst this
   exact List.mem_map.2 ⟨e', he', rfl⟩
  have hon : ∀ x ∈ keyN M, ∀ y, y ∈ atL L1 x ↔ wayR C (bareF C B) x y := fun x hx => hN.old x (hVK x hx)
  have hcn := hN.cnt
  have hl1 : ∀ k, (atL L1 k).length ≤ 17000000000000 := fun k => by have := hN.l1 k; omega
  have hl2 : ∀ k, (atL L2 k).length ≤ 17000000000000 := fun k => by have := hN.l2 k; omega
  have hklt : ∀ k ∈ keyN M, k < C.length := fun k hk => hS.lt k (hMS k hk)
  have hp1 := peeled_E c c1 c2 C.length M hM L1 L2 hC hklt hl1 hl2 hcn
  clear hN hV hVn hVl hVK h0
  (repeat' (first | exact trivial | (refine aw_lfrz 13 (by decide) rfl (by simp only [go_sem, Nat.reduceBEq, Nat.reduceBneDiff, Nat.reduceLT, Nat.reduceLeDiff, Nat.reduceAdd, Nat.reduceMul, Nat.reduceSub, Nat.reduceEqDiff, reduceCtorEq, mK_lo, mL_lo]) (by simp only [go_sem, Nat.reduceBEq, Nat.reduceBneDiff, Nat.reduceLT, Nat.reduceLeDiff, Nat.reduceAdd, Nat.reduceMul, Nat.reduceSub, Nat.reduceEqDiff, reduceCtorEq, mK_lo, mL_lo]) ?_) | (refine aw_lfrz 14 (by decide) rfl (by simp only [go_sem, Nat.reduceBEq, Nat.reduceBneDiff, Nat.reduceLT, Nat.reduceLeDiff, Nat.reduceAdd, Nat.reduceMul, Nat.reduceSub, Nat.reduceEqDiff, reduceCtorEq, mK_lo, mI_nL, mL_lo]) (by simp only [go_sem, Nat.reduceBEq, Nat.reduceBneDiff, Nat.reduceLT, Nat.reduceLeDiff, Nat.reduceAdd, Nat.reduceMul, Nat.reduceSub, Nat.reduceEqDiff, reduceCtorEq, mK_lo, mI_nL, mL_lo]) ?_) | (with_reducible first | apply awA | apply awE | apply awF | apply awH | apply awK) | ((with_reducible first | apply awn | apply awo | refine awQ ?_); intro r hr; simp only [go_sem, Nat.reduceBEq, Nat.reduceBneDiff, Nat.reduceLT, Nat.reduceLeDiff, Nat.reduceAdd, Nat.reduceMul, Nat.reduceSub, Nat.reduceEqDiff, reduceCtorEq, mK_kill, mK_cut, mK_ren, mL_kill, mL_cut, mL_ren, mI_nL] at hr; subst hr; (first | refine awV ?_ ?_ | refine awW ?_ ?_ | (refine condK (fun h => ?_) (fun h => ?_) <;> (try simp only [go_sem, reduceCtorEq] at h) <;> (try (exfalso; omega))))) | (refine go_callGE [(10003, 10003), (13, 10006), (14, 10007)] [(21, 63), (10003, 10003), (10006, 13), (10007, 14)] [63] [10003, 13, 14] ?_; intro r hr; simp only [go_sem, Nat.reduceBEq, Nat.reduceBneDiff, Nat.reduceLT, Nat.reduceLeDiff, Nat.reduceAdd, Nat.reduceMul, Nat.reduceSub, Nat.reduceEqDiff, reduceCtorEq, mK_kill, mK_cut, mK_ren, mL_kill, mL_cut, mL_ren, mI_nL] at hr; subst hr; refine callGV (hp1) rfl rfl (by first | exact .inl rfl | exact .inr rfl) ?_ (.inl rfl) (fun q hq => hold ?_)))) <;> (try omega)
  ·refine ⟨?_⟩
   obtain ⟨M1, rfl⟩ : ∃ z, z = q := ⟨_, rfl⟩
   have hq1 := hq
   clear hq
   have hM1 := hM.sub hq1.sub
   have hklt1 : ∀ k ∈ keyN M1, k < C.length := fun k hk => hklt k ((hq1.sub.map _).mem hk)
   have hp2 := peeled_E c c2 c1 C.length M1 hM1 L2 L1 hC hklt1 hl2 hl1 fun x y => (hcn y x).symm
   (repeat' (first | exact trivial | (refine aw_nilrow 9 3 1 88 (.inl (by decide)) rfl ?_) | (with_reducible first | apply awA | apply awF) | ((with_reducible first | apply awn | apply awo); intro r hr; simp only [go_sem, Nat.reduceBEq, Nat.reduceBneDiff, Nat.reduceLT, Nat.reduceLeDiff, Nat.reduceAdd, Nat.reduceMul, Nat.reduceSub, Nat.reduceEqDiff, reduceCtorEq, mK_kill, mK_cut, mK_ren, mL_kill, mL_cut, mL_ren, mI_nL, AState.nilrow] at hr; subst hr; (first | refine awV ?_ ?_ | refine awW ?_ ?_)) | (refine go_callGE [(63, 10003), (14, 10006), (13, 10007)] [(21, 67), (10003, 63), (10006, 14), (10007, 13)] [67] [63, 14, 13] ?_; intro r hr; simp only [go_sem, Nat.reduceBEq, Nat.reduceBneDiff, Nat.reduceLT, Nat.reduceLeDiff, Nat.reduceAdd, Nat.reduceMul, Nat.reduceSub, Nat.reduceEqDiff, reduceCtorEq, mK_kill, mK_cut, mK_ren, mL_kill, mL_cut, mL_ren, mI_nL, AState.nilrow] at hr; subst hr; refine callGV (hp2) rfl rfl (by first | exact .inl rfl | exact .inr rfl) ?_ (.inl rfl) (fun q hq => hold ?_)))) <;> (try omega)
   refine ⟨?_⟩
   obtain ⟨M2, rfl⟩ : ∃ z, z = q := ⟨_, rfl⟩
   have hq2 := hq
   clear hq
   have hM2 := hM1.sub hq2.sub
   have hring : ∀ k, k ∈ keyN M → Rch (wayR C (bareF C B)) k k → k ∈ keyN M2 := fun k hk hr => by
    have hclR : ∀ x ∈ keyN M, ∀ y, wayR C (bareF C B) x y → y ∈ keyN M := fun x hx y ⟨w, h1, _⟩ => by
     have := hcl x hx _ (List.mem_of_getElem? h1)
     rwa [Int.toNat_natCast] at this
    have h1 := cyc_on hon hclR hk
    have hK1 : ∀ y, Rch (wayR C (bareF C B)) k y → Rch (wayR C (bareF C B)) y k → y ∈ keyN M1 := fun y h2 h3 => by
     obtain ⟨e, he, h4⟩ := List.mem_map.1 (hq1.cy _ h1 y ⟨h2, h3⟩)
     exact List.mem_map.2 ⟨e, he, by omega⟩
    have hsub : ∀ y ∈ keyN M1, y ∈ keyN M := fun y hy => (hq1.sub.map _).mem hy
    have h2 := cyc_back (R := wayR C (bareF C B)) (back := atL L2) (x := k) hK1 fun y hy z hz => by
     rw [← hon z (hsub z hz) y, ← List.count_pos_iff, ← List.count_pos_iff, hcn]
    obtain ⟨e, he, h4⟩ := List.mem_map.1 (hq2.cy _ h2 k ⟨hr, hr⟩)
    exact List.mem_map.2 ⟨e, he, by omega⟩
   have hsub2 : ∀ y ∈ keyN M2, y ∈ keyN M := fun y hy => ((hq2.sub.trans hq1.sub).map _).mem hy
   have hl2' : M2.length ≤ M.length := (hq2.sub.trans hq1.sub).length_le
   clear hp1 hp2 hq1 hq2 hon hcn hl1 hl2 hklt hklt1 hM1
   (repeat' (first | exact trivial | (with_reducible first | apply awB | apply awF) | ((with_reducible apply awo); intro r hr; simp only [go_sem, Nat.reduceBEq, Nat.reduceBneDiff, Nat.reduceLT, Nat.reduceLeDiff, Nat.reduceAdd, Nat.reduceMul, Nat.reduceSub, Nat.reduceEqDiff, reduceCtorEq, mK_kill, mK_cut, mK_ren, mL_kill, mL_cut, mL_ren] at hr; subst hr; (first | refine awV ?_ ?_ | refine awW ?_ ?_)) | (refine al_mrange (tyOf_ok _) (u := 68) rfl rfl rfl ⟨by decide, by decide⟩ rfl rfl t74 rfl rfl (by decide) ?_))) <;> (try omega)
   refine go_loop [0, 9, 68] [10000, 10002, 10003, 67, 68, 88] (fun q : List (Nat × Int × Unit) × List Nat => ⟨[(0, true, .ptr 1 10000 0 0), (9, true, .ref 3 1 88 0 q.2.length), (68, true, .ptr 1 68 0 0)],
    [(10000, .var [vB e, .lst 4 (encIs C), .lst 1 (v8 N), .ref 4 1 10002 0 B.length, vI en, .map 10003]), (10002, .row 4 1 (encT B)), (10003, .mapr c (mK M)), (67, .mapr c (mK M2)), (68, .iter 67 true c (q.1.map (·.1))), (88, .row 3 1 (v8 (natI q.2)))]⟩)
    (fun q => (∀ e ∈ q.1, e ∈ M2) ∧ (q.1.map (·.1)).Nodup ∧ (∀ k, k ∈ q.2 ↔ k ∈ keyN q.1 ∧ Rch (wayR C (bareF C B)) k k) ∧ q.2.length ≤ q.1.length) (fun q => M2.length - q.1.length) ([], [])
    (by simp only [mK_kill, mK_cut, mK_ren, mL_kill, mL_cut, mL_ren, AState.nilrow, go_sem, Nat.reduceBEq, Nat.reduceBneDiff, Nat.reduceLT, Nat.reduceLeDiff, Nat.reduceAdd, Nat.reduceMul, Nat.reduceSub, Nat.reduceEqDiff, reduceCtorEq] <;> exact rfl) ⟨fun e he => (by cases he), List.nodup_nil, fun k => by simp [keyN], Nat.zero_le _⟩ ?_
   intro ⟨V, r⟩ ⟨hV, hVn, hr, hrl⟩
   simp only at hV hVn hr hrl ⊢
   have hVl : V.length ≤ M2.length := by
    refine nodup_sub_len ?_ hV
    rw [List.Nodup, List.pairwise_map] at hVn
    exact hVn.imp fun h e => h (by rw [e])
   (repeat' (first | exact trivial | (with_reducible apply awA) | ((with_reducible apply awn); intro r hr; simp only [go_sem, Nat.reduceBEq, Nat.reduceBneDiff, Nat.reduceLT, Nat.reduceLeDiff, Nat.reduceAdd, Nat.reduceMul, Nat.reduceSub, Nat.reduceEqDiff, reduceCtorEq, mK_kill, mK_cut, mK_ren, mL_kill, mL_cut, mL_ren] at hr; subst hr; (first | refine awW ?_ ?_)) | (refine al_mnext (d := 67) (u := 68) (L := M2) (f := fun _ => AV.dead) rfl rfl ⟨by decide, by decide⟩ rfl rfl rfl rfl hM2.lt rfl (fun h0 => hold ?_) (fun x hx hxn => hold ?_)))) <;> (try omega)
   ·refine ⟨?_⟩
    (repeat' (first | exact trivial | (with_reducible first | apply awA | apply awD | apply awE | apply awF | apply awH | apply awK) | ((with_reducible first | apply awn | apply awo | refine awQ ?_ | refine aweR ?_); intro r hr; simp only [go_sem, Nat.reduceBEq, Nat.reduceBneDiff, Nat.reduceLT, Nat.reduceLeDiff, Nat.reduceAdd, Nat.reduceMul, Nat.reduceSub, Nat.reduceEqDiff, reduceCtorEq, mK_kill, mK_cut, mK_ren, mL_kill, mL_cut, mL_ren] at hr; subst hr; (first | refine awV ?_ ?_ | refine endEK ?_ ?_ | (refine condK (fun h => ?_) (fun h => ?_) <;> (try simp only [go_sem, reduceCtorEq] at h) <;> (try (exfalso; omega))))))) <;> (try omega)
    ·refine ⟨r, ⟨fun k => ?_, by omega⟩, AV.up_rfl _, ?_⟩
     ·rw [hr]
      constructor
      ·rintro ⟨h1, h2⟩
       obtain ⟨e, he, rfl⟩ := List.mem_map.1 h1
       exact ⟨hsub2 _ (List.mem_map.2 ⟨e, hV e he, rfl⟩), h2⟩
      ·rintro ⟨h1, h2⟩
       refine ⟨?_, h2⟩
       obtain ⟨e, he, h3⟩ := List.mem_map.1 (hring k h1 h2)
       obtain ⟨e', he', h4⟩ := List.mem_map.1 (h0 e he)
       have : e' = e := nodup_map_inj hM2.nd (hV e' he') he h4
       subst this
       exact List.mem_map.2 ⟨e', he', h3⟩
     ·repeat first | exact obUp_nil | refine obUp_cons rfl ?_
   ·refine ⟨?_⟩
    obtain ⟨bx, kx, ux⟩ := x
    have hpos := hM2.pos _ hx
    obtain ⟨k, rfl⟩ : ∃ k : Nat, kx = k := ⟨kx.toNat, by simp only at hpos; omega⟩
    have hkM : k ∈ keyN M := hsub2 k (List.mem_map.2 ⟨_, hx, by simp⟩)
    have hkV : k ∉ keyN V := fun h => by
     obtain ⟨e', he', h2⟩ := List.mem_map.1 h
     have hp' := hM2.pos e' (hV e' he')
     have : e' = (bx, (k : Int), ux) := nodup_map_inj hM2.kd (hV e' he') hx (by show e'.2.1 = (k : Int); omega)
     subst this
     exact hxn (List.mem_map.2 ⟨_, he', rfl⟩)
    have hV2 : ∀ e ∈ V ++ [(bx, (k : Int), ux)], e ∈ M2 := fun e he => by
     rcases List.mem_append.1 he with h | h
     ·exact hV e h
     ·simp at h; subst h; exact hx
    have hVn2 : ((V ++ [(bx, (k : Int), ux)]).map (·.1)).Nodup := by
     rw [List.map_append, List.nodup_append]
     exact ⟨hVn, by simp, fun a ha b hb hab => by simp at hb; subst hb; subst hab; exact hxn ha⟩
    have hVl2 : (V ++ [(bx, (k : Int), ux)]).length ≤ M2.length := by
     refine nodup_sub_len ?_ hV2
     rw [List.Nodup, List.pairwise_map] at hVn2
     exact hVn2.imp fun h e => h (by rw [e])
    have hVs : (V ++ [(bx, (k : Int), ux)]).length = V.length + 1 := by simp
    have hkV2 : ∀ y, y ∈ keyN (V ++ [(bx, (k : Int), ux)]) ↔ y ∈ keyN V ∨ y = k := fun y => by simp [keyN]
    have hVm : (V.map (·.1)) ++ [bx] = (V ++ [(bx, (k : Int), ux)]).map (·.1) := by simp
    have hrk := hre k (hMS k hkM)
    (repeat' (first | exact trivial | (with_reducible first | apply awA | apply awB | apply awC | apply awF) | ((with_reducible first | refine awN (tyOf_ok _) [76] ?_ | refine awO (tyOf_ok _) [76] ?_ | refine awQ ?_); intro r hr; simp only [go_sem, Nat.reduceBEq, Nat.reduceBneDiff, Nat.reduceLT, Nat.reduceLeDiff, Nat.reduceAdd, Nat.reduceMul, Nat.reduceSub, Nat.reduceEqDiff, reduceCtorEq, mK_kill, mK_cut, mK_ren, mL_kill, mL_cut, mL_ren] at hr; subst hr; (first | refine awV ?_ ?_ | refine awW ?_ ?_ | (refine condK (fun h => ?_) (fun h => ?_) <;> (try simp only [go_sem, reduceCtorEq] at h) <;> (try (exfalso; omega))))) | (refine al_mentry (d := 67) (u := 68) (L := M2) (f := fun _ => AV.dead) (e := (bx, (k : Int), ux)) rfl rfl ⟨by decide, by decide⟩ rfl rfl rfl rfl hx hM2.nd ?_) | (refine go_callGE [(10000, 10000), (10002, 10002), (10003, 10003), (76, 10004)] [(14, 79), (10000, 10000), (10002, 10002), (10003, 10003), (10004, 76)] [79] [10000, 10002, 10003, 76] ?_; intro r hr; simp only [go_sem, Nat.reduceBEq, Nat.reduceBneDiff, Nat.reduceLT, Nat.reduceLeDiff, Nat.reduceAdd, Nat.reduceMul, Nat.reduceSub, Nat.reduceEqDiff, reduceCtorEq, mK_kill, mK_cut, mK_ren, mL_kill, mL_cut, mL_ren] at hr; subst hr; refine callGV (hrk) rfl rfl (by first | exact .inl rfl | exact .inr rfl) ?_ (.inl rfl) (fun q hq => hold ?_)))) <;> (try omega)
    refine ⟨?_⟩
    have hqk : k ∈ q ↔ Rch (wayR C (bareF C B)) k k := by
     rw [hq.iff]
     exact ⟨fun ⟨a, ha, h⟩ => by simp at ha; subst ha; exact h, fun h => ⟨k, by simp, h⟩⟩
    by_cases hin : k ∈ q
    ·have hf := mf_qL_some hin
     have ht : (v8 (natI r)).take r.length = v8 (natI r) := by rw [v8_take, List.take_of_length_le (by rw [natI_len]; omega)]
     have ha := natI_app r k
     have hl3 : (r ++ [k]).length = r.length + 1 := by simp
     (repeat' (first | exact trivial | (with_reducible first | apply awA | apply awF | apply awI) | ((with_reducible first | apply awn | apply awo | refine awQ ?_); intro r hr; simp only [go_sem, Nat.reduceBEq, Nat.reduceBneDiff, Nat.reduceLT, Nat.reduceLeDiff, Nat.reduceAdd, Nat.reduceMul, Nat.reduceSub, Nat.reduceEqDiff, reduceCtorEq, mK_kill, mK_cut, mK_ren, mL_kill, mL_cut, mL_ren, v8_len, natI_len, ht, ha, hl3] at hr; subst hr; (first | refine awV ?_ ?_ | refine awW ?_ ?_ | (refine condK (fun h => ?_) (fun h => ?_) <;> (try simp only [go_sem, reduceCtorEq] at h) <;> (try (exfalso; omega))))) | (refine al_mlook (tyOf_ok _) (d := 79) (L := qL q) (f := fun _ => AV.dead) (key := (k : Int)) (z := .int .i64 0) rfl rfl ⟨by decide, by decide⟩ rfl rfl rfl rfl t74 rfl t3 rfl zero_int rfl rfl (by rw [hf]) ?_))) <;> (try omega)
     refine ⟨(V ++ [(bx, (k : Int), ux)], r ++ [k]), ?_, ⟨hV2, hVn2, fun y => ?_, by show (r ++ [k]).length ≤ (V ++ [(bx, (k : Int), ux)]).length; rw [hVs, hl3]; omega⟩, by show M2.length - (V ++ [(bx, (k : Int), ux)]).length < M2.length - V.length; omega⟩
     ·simp only [hVm, v8_len, natI_len, ht, ha, hl3, mK_kill, mK_cut, mK_ren, mL_kill, mL_cut, mL_ren, go_sem, Nat.reduceBEq, Nat.reduceBneDiff, Nat.reduceLT, Nat.reduceLeDiff, Nat.reduceAdd, Nat.reduceMul, Nat.reduceSub, Nat.reduceEqDiff, reduceCtorEq]
      try exact rfl
     ·show y ∈ r ++ [k] ↔ y ∈ keyN (V ++ [(bx, (k : Int), ux)]) ∧ _
      rw [List.mem_append, List.mem_singleton, hr, hkV2]
      constructor
      ·rintro (⟨h1, h2⟩ | rfl)
       ·exact ⟨.inl h1, h2⟩
       ·exact ⟨.inr rfl, hqk.1 hin⟩
      ·rintro ⟨h1 | h1, h2⟩
       ·exact .inl ⟨h1, h2⟩
       ·exact .inr h1
    ·have hf := mf_qL_none hin
     (repeat' (first | exact trivial | (with_reducible first | apply awA | apply awC | apply awF | apply awI) | ((with_reducible first | apply awn | apply awo | refine awQ ?_); intro r hr; simp only [go_sem, Nat.reduceBEq, Nat.reduceBneDiff, Nat.reduceLT, Nat.reduceLeDiff, Nat.reduceAdd, Nat.reduceMul, Nat.reduceSub, Nat.reduceEqDiff, reduceCtorEq, mK_kill, mK_cut, mK_ren, mL_kill, mL_cut, mL_ren] at hr; subst hr; (first | refine awV ?_ ?_ | refine awW ?_ ?_ | (refine condK (fun h => ?_) (fun h => ?_) <;> (try simp only [go_sem, reduceCtorEq] at h) <;> (try (exfalso; omega))))) | (refine al_mlook (tyOf_ok _) (d := 79) (L := qL q) (f := fun _ => AV.dead) (key := (k : Int)) (z := .int .i64 0) rfl rfl ⟨by decide, by decide⟩ rfl rfl rfl rfl t74 rfl t3 rfl zero_int rfl rfl (by rw [hf]) ?_))) <;> (try omega)
     refine ⟨(V ++ [(bx, (k : Int), ux)], r), ?_, ⟨hV2, hVn2, fun y => ?_, by show r.length ≤ (V ++ [(bx, (k : Int), ux)]).length; omega⟩, by show M2.length - (V ++ [(bx, (k : Int), ux)]).length < M2.length - V.length; omega⟩
     ·simp only [hVm, mK_kill, mK_cut, mK_ren, mL_kill, mL_cut, mL_ren, go_sem, Nat.reduceBEq, Nat.reduceBneDiff, Nat.reduceLT, Nat.reduceLeDiff, Nat.reduceAdd, Nat.reduceMul, Nat.reduceSub, Nat.reduceEqDiff, reduceCtorEq]
      try exact rfl
     ·show y ∈ r ↔ y ∈ keyN (V ++ [(bx, (k : Int), ux)]) ∧ _
      rw [hr, hkV2]
      exact ⟨fun h => ⟨.inl h.1, h.2⟩, fun h => ⟨h.1.resolve_right fun e => by subst e; exact hin (hqk.2 h.2), h.2⟩⟩
 ·refine ⟨?_⟩
  obtain ⟨bx, kx, ux⟩ := x
  have hpos := hM.pos _ hx
  obtain ⟨x, rfl⟩ : ∃ k : Nat, kx = k := ⟨kx.toNat, by simp only at hpos; omega⟩
  have hxM : x ∈ keyN M := List.mem_map.2 ⟨_, hx, by simp⟩
  have hxV : x ∉ keyN V := fun h => by
   obtain ⟨e', he', h2⟩ := List.mem_map.1 h
   have hp' := hM.pos e' (hV e' he')
   have : e' = (bx, (x : Int), ux) := nodup_map_inj hM.kd (hV e' he') hx (by show e'.2.1 = (x : Int); omega)
   subst this
   exact hxn (List.mem_map.2 ⟨_, he', rfl⟩)
  have hV2 : ∀ e ∈ V ++ [(bx, (x : Int), ux)], e ∈ M := fun e he => by
   rcases List.mem_append.1 he with h | h
   ·exact hV e h
   ·simp at h; subst h; exact hx
  have hVn2 : ((V ++ [(bx, (x : Int), ux)]).map (·.1)).Nodup := by
   rw [List.map_append, List.nodup_append]
   exact ⟨hVn, by simp, fun a ha b hb hab => by simp at hb; subst hb; subst hab; exact hxn ha⟩
  have hVl2 : (V ++ [(bx, (x : Int), ux)]).length ≤ M.length := by
   refine nodup_sub_len ?_ hV2
   rw [List.Nodup, List.pairwise_map] at hVn2
   exact hVn2.imp fun h e => h (by rw [e])
  have hVs : (V ++ [(bx, (x : Int), ux)]).length = V.length + 1 := by simp
  have hVm : (V.map (·.1)) ++ [bx] = (V ++ [(bx, (x : Int), ux)]).map (·.1) := by simp
  have hSx := hMS x hxM
  have hxC := hS.lt x hSx
  have hxw := hS.ways x hSx
  have hw := ways_any e C N (by omega) x hxC (hok.arms x hxC)
  have hwl := ways_len hok hxC
  have hN0 := hN.enter hxV
  obtain ⟨T0, hT0⟩ : ∃ T0, T0 = V.length * 10000000 := ⟨_, rfl⟩
  rw [← hT0] at hN0
  generalize hks : waysF C x (insAt C x) = ks at hw hxw hwl
  unfold pG at hw
  clear hre
  (repeat' (first | exact trivial | (with_reducible first | apply awA | apply awB | apply awC | apply awF) | ((with_reducible first | apply awn | apply awo | refine awQ ?_); intro r hr; simp only [go_sem, Nat.reduceBEq, Nat.reduceBneDiff, Nat.reduceLT, Nat.reduceLeDiff, Nat.reduceAdd, Nat.reduceMul, Nat.reduceSub, Nat.reduceEqDiff, reduceCtorEq, mK_kill, mK_cut, mK_ren, mL_kill, mL_cut, mL_ren, v8_len] at hr; subst hr; (first | refine caC (hw) rfl ?_ ?_ ?_ | refine awV ?_ ?_ | refine awW ?_ ?_ | (refine condK (fun h => ?_) (fun h => ?_) <;> (try simp only [go_sem, reduceCtorEq] at h) <;> (try (exfalso; omega))))) | (refine al_mentry (d := 10003) (u := 19) (L := M) (f := fun _ => AV.dead) (e := (bx, (x : Int), ux)) rfl rfl ⟨by decide, by decide⟩ rfl rfl rfl rfl hx hM.nd ?_))) <;> (try omega)
  refine go_loop [0, 3, 4, 19, 5, 29, 30, 31] [10000, 10002, 10003, 13, 14, 19] (fun q : Nat × Nat × List (Nat × Int × List Nat) × Nat × List (Nat × Int × List Nat) => ⟨[(0, true, .ptr 1 10000 0 0), (3, true, .map 13), (4, true, .map 14), (19, true, .ptr 1 19 0 0), (5, true, vI x), (29, true, .lst 1 (v8 ks)), (30, true, vI ks.length), (31, true, vI q.1)],
   [(10000, .var [vB e, .lst 4 (encIs C), .lst 1 (v8 N), .ref 4 1 10002 0 B.length, vI en, .map 10003]), (10002, .row 4 1 (encT B)), (10003, .mapr c (mK M)), (13, .mapl 3 q.2.1 (nL q.2.2.1) none), (14, .mapl 3 q.2.2.2.1 (nL q.2.2.2.2) none), (19, .iter 10003 true c (V.map (·.1) ++ [bx]))]⟩)
   (fun q => NoteI C B V (some (x, q.1)) (T0 + q.1) q.2.2.1 q.2.2.2.2 ∧ q.1 ≤ ks.length) (fun q => ks.length - q.1) (0, c1, L1, c2, L2)
   (by simp only [v8_len, mK_kill, mK_cut, mK_ren, mL_kill, mL_cut, mL_ren, go_sem, Nat.reduceBEq, Nat.reduceBneDiff, Nat.reduceLT, Nat.reduceLeDiff, Nat.reduceAdd, Nat.reduceMul, Nat.reduceSub, Nat.reduceEqDiff, reduceCtorEq] <;> exact rfl) ⟨hN0, Nat.zero_le _⟩ ?_
  clear hN0 hN c1 L1 c2 L2
  intro ⟨j, c1, L1, c2, L2⟩ ⟨hN, hj⟩
  simp only at hN hj ⊢
  have hwj := wrap_i64 (n := (j : Int) + 1) (by omega)
  have zj : ((j : Int)).toNat = j := by omega
  by_cases hjl : j < ks.length
  ·have e2 : ((j : Int) < (ks.length : Int)) = True := eq_true (by omega)
   obtain ⟨m, hm⟩ : ∃ m : Nat, ks[j] = m := ⟨ks[j].toNat, by have := (hxw _ (List.getElem_mem hjl)).1; omega⟩
   have hkj : ks[j]? = some (m : Int) := by rw [List.getElem?_eq_getElem hjl, hm]
   have gj := v8_get hjl
   rw [hm] at gj
   have hb := bare_G e C N B en c M x hxC j (hS.calls x hSx)
   rw [show (!takesF C B x j) = bareF C B x j from rfl] at hb
   unfold rtO rtV at hb
   cases hg : bareF C B x j with
   | false =>
    rw [hg] at hb
    have hn := hN.skip hg
    (repeat' (first | exact trivial | (with_reducible first | apply awA | apply awB | apply awC | apply awF | apply awI) | ((with_reducible first | apply awn | apply awo | refine awQ ?_); intro r hr; simp only [go_sem, Nat.reduceBEq, Nat.reduceBneDiff, Nat.reduceLT, Nat.reduceLeDiff, Nat.reduceAdd, Nat.reduceMul, Nat.reduceSub, Nat.reduceEqDiff, reduceCtorEq, e2, zj, hwj, gj, v8_len, mK_kill, mK_cut, mK_ren, mL_kill, mL_cut, mL_ren] at hr; subst hr; (first | refine awV ?_ ?_ | refine awW ?_ ?_ | (refine condK (fun h => ?_) (fun h => ?_) <;> (try simp only [go_sem, reduceCtorEq] at h) <;> (try (exfalso; omega))))) | (refine go_callGE [(10000, 10000), (10002, 10002), (10003, 10003)] [(10000, 10000), (10002, 10002), (10003, 10003)] [] [10000, 10002, 10003] ?_; intro r hr; simp only [go_sem, Nat.reduceBEq, Nat.reduceBneDiff, Nat.reduceLT, Nat.reduceLeDiff, Nat.reduceAdd, Nat.reduceMul, Nat.reduceSub, Nat.reduceEqDiff, reduceCtorEq, e2, zj, hwj, gj, v8_len, mK_kill, mK_cut, mK_ren, mL_kill, mL_cut, mL_ren] at hr; subst hr; refine callGK (hb) rfl rfl (by first | exact .inl rfl | exact .inr rfl) ?_ (.inl rfl) ?_))) <;> (try omega)
    refine ⟨(j + 1, c1, L1, c2, L2), ?_, ⟨hn, hjl⟩, by show ks.length - (j + 1) < ks.length - j; omega⟩
    simp only [hwj, mK_kill, mK_cut, mK_ren, mL_kill, mL_cut, mL_ren, go_sem, Nat.reduceBEq, Nat.reduceBneDiff, Nat.reduceLT, Nat.reduceLeDiff, Nat.reduceAdd, Nat.reduceMul, Nat.reduceSub, Nat.reduceEqDiff, reduceCtorEq]
    try exact rfl
   | true =>
    rw [hg] at hb
    have hn := hN.add (c1 := c1) (c2 := c2) hxV (by rw [hks]; exact hkj) hg
    have hb1 := hN.l1 x
    have hb2 := hN.l2 m
    have hq1 := natI_app (atL L1 x) m
    have hq2 := natI_app (atL L2 m) x
    have ht1 : (v8 (natI (atL L1 x))).take (natI (atL L1 x)).length = v8 (natI (atL L1 x)) := by rw [v8_take, List.take_of_length_le (by omega)]
    have ht2 : (v8 (natI (atL L2 m))).take (natI (atL L2 m)).length = v8 (natI (atL L2 m)) := by rw [v8_take, List.take_of_length_le (by omega)]
    have hr1 : (natI (atL L1 x)).length + 1 = (natI (atL L1 x ++ [m])).length := by simp [natI]
    have hr2 : (natI (atL L2 m)).length + 1 = (natI (atL L2 m ++ [x])).length := by simp [natI]
    have hp1 : 0 < (natI (atL L1 x ++ [m])).length := by omega
    have hp2 : 0 < (natI (atL L2 m ++ [x])).length := by omega
    rw [natI_len] at ht1 ht2
    (repeat' (first | exact trivial | (with_reducible first | apply awA | apply awB | apply awC | apply awF | apply awI) | ((with_reducible first | apply awn | apply awo | refine awQ ?_); intro r hr; simp only [go_sem, Nat.reduceBEq, Nat.reduceBneDiff, Nat.reduceLT, Nat.reduceLeDiff, Nat.reduceAdd, Nat.reduceMul, Nat.reduceSub, Nat.reduceEqDiff, reduceCtorEq, e2, zj, hwj, gj, v8_len, natI_len, hq1, hq2, ht1, ht2, mK_kill, mK_cut, mK_ren, mL_kill, mL_cut, mL_ren] at hr; subst hr; (first | refine awV ?_ ?_ | refine awW ?_ ?_ | (refine condK (fun h => ?_) (fun h => ?_) <;> (try simp only [go_sem, reduceCtorEq] at h) <;> (try (exfalso; omega))))) | (refine go_callGE [(10000, 10000), (10002, 10002), (10003, 10003)] [(10000, 10000), (10002, 10002), (10003, 10003)] [] [10000, 10002, 10003] ?_; intro r hr; simp only [go_sem, Nat.reduceBEq, Nat.reduceBneDiff, Nat.reduceLT, Nat.reduceLeDiff, Nat.reduceAdd, Nat.reduceMul, Nat.reduceSub, Nat.reduceEqDiff, reduceCtorEq, e2, zj, hwj, gj, v8_len, natI_len, hq1, hq2, ht1, ht2, mK_kill, mK_cut, mK_ren, mL_kill, mL_cut, mL_ren] at hr; subst hr; refine callGK (hb) rfl rfl (by first | exact .inl rfl | exact .inr rfl) ?_ (.inl rfl) ?_) | (refine al_ltake (tyOf_ok _) (d := 13) (te := 3) (u := 44) (es := nL L1) (key := (x : Int)) (l := natI (atL L1 x)) rfl rfl rfl ⟨by decide, by decide⟩ rfl rfl rfl rfl t101 rfl t3 rfl zero_ints rfl (by decide) (by decide) (by simp only [go_sem, Nat.reduceBEq, Nat.reduceBneDiff, Nat.reduceLT, Nat.reduceLeDiff, Nat.reduceAdd, Nat.reduceMul, Nat.reduceSub, Nat.reduceEqDiff, reduceCtorEq, mK_lo]) (by simp only [go_sem, Nat.reduceBEq, Nat.reduceBneDiff, Nat.reduceLT, Nat.reduceLeDiff, Nat.reduceAdd, Nat.reduceMul, Nat.reduceSub, Nat.reduceEqDiff, reduceCtorEq, mK_lo]) (atL_nL _ _) rfl ?_) | (refine al_ltake (tyOf_ok _) (d := 14) (te := 3) (u := 52) (es := nL L2) (key := (m : Int)) (l := natI (atL L2 m)) rfl rfl rfl ⟨by decide, by decide⟩ rfl rfl rfl rfl t101 rfl t3 rfl zero_ints rfl (by decide) (by decide) (by simp only [go_sem, Nat.reduceBEq, Nat.reduceBneDiff, Nat.reduceLT, Nat.reduceLeDiff, Nat.reduceAdd, Nat.reduceMul, Nat.reduceSub, Nat.reduceEqDiff, reduceCtorEq, mK_lo]) (by simp only [go_sem, Nat.reduceBEq, Nat.reduceBneDiff, Nat.reduceLT, Nat.reduceLeDiff, Nat.reduceAdd, Nat.reduceMul, Nat.reduceSub, Nat.reduceEqDiff, reduceCtorEq, mK_lo]) (atL_nL _ _) rfl ?_) | (refine al_lgive (tyOf_ok _) (d := 13) (te := 3) (u := 44) (es := nL L1) (key := (x : Int)) (l := natI (atL L1 x ++ [m])) rfl rfl rfl rfl rfl rfl rfl rfl (by simp only [natI_len, List.length_append, List.length_singleton]; exact rfl) t101 rfl t3 rfl rfl rfl hp1 (by decide) (by decide) (by decide) (by simp only [go_sem, Nat.reduceBEq, Nat.reduceBneDiff, Nat.reduceLT, Nat.reduceLeDiff, Nat.reduceAdd, Nat.reduceMul, Nat.reduceSub, Nat.reduceEqDiff, reduceCtorEq, mK_lo]) (by simp only [go_sem, Nat.reduceBEq, Nat.reduceBneDiff, Nat.reduceLT, Nat.reduceLeDiff, Nat.reduceAdd, Nat.reduceMul, Nat.reduceSub, Nat.reduceEqDiff, reduceCtorEq, mK_lo]) rfl (mclk_nL _ _ _) (mset_nL _ _ _ _) ?_) | (refine al_lgive (tyOf_ok _) (d := 14) (te := 3) (u := 52) (es := nL L2) (key := (m : Int)) (l := natI (atL L2 m ++ [x])) rfl rfl rfl rfl rfl rfl rfl rfl (by simp only [natI_len, List.length_append, List.length_singleton]; exact rfl) t101 rfl t3 rfl rfl rfl hp2 (by decide) (by decide) (by decide) (by simp only [go_sem, Nat.reduceBEq, Nat.reduceBneDiff, Nat.reduceLT, Nat.reduceLeDiff, Nat.reduceAdd, Nat.reduceMul, Nat.reduceSub, Nat.reduceEqDiff, reduceCtorEq, mK_lo]) (by simp only [go_sem, Nat.reduceBEq, Nat.reduceBneDiff, Nat.reduceLT, Nat.reduceLeDiff, Nat.reduceAdd, Nat.reduceMul, Nat.reduceSub, Nat.reduceEqDiff, reduceCtorEq, mK_lo]) rfl (mclk_nL _ _ _) (mset_nL _ _ _ _) ?_))) <;> (try omega)
    ·refine ⟨Nat.le_refl _, ?_⟩
     rw [List.length_append, List.length_singleton]
     omega
    ·refine ⟨Nat.le_refl _, ?_⟩
     rw [List.length_append, List.length_singleton]
     omega
    ·refine ⟨(j + 1, mclk c1 (x : Int) L1, mset c1 (x : Int) (atL L1 x ++ [m]) L1, mclk c2 (m : Int) L2, mset c2 (m : Int) (atL L2 m ++ [x]) L2), ?_, ⟨hn, hjl⟩, by show ks.length - (j + 1) < ks.length - j; omega⟩
     simp only [hwj, v8_len, natI_len, hq1, hq2, ht1, ht2, mK_kill, mK_cut, mK_ren, mL_kill, mL_cut, mL_ren, go_sem, Nat.reduceBEq, Nat.reduceBneDiff, Nat.reduceLT, Nat.reduceLeDiff, Nat.reduceAdd, Nat.reduceMul, Nat.reduceSub, Nat.reduceEqDiff, reduceCtorEq]
     try exact rfl
  ·have e2 : ((j : Int) < (ks.length : Int)) = False := eq_false (by omega)
   have hn := hN.leave (e := (bx, (x : Int), ux)) (by rw [hks]; omega) rfl
   (repeat' (first | exact trivial | (with_reducible first | apply awA | apply awE | apply awF | apply awH | apply awI | apply awK) | ((with_reducible first | apply awn | refine awQ ?_); intro r hr; simp only [go_sem, Nat.reduceBEq, Nat.reduceBneDiff, Nat.reduceLT, Nat.reduceLeDiff, Nat.reduceAdd, Nat.reduceMul, Nat.reduceSub, Nat.reduceEqDiff, reduceCtorEq, e2, mK_kill, mK_cut, mK_ren, mL_kill, mL_cut, mL_ren] at hr; subst hr; (first | refine awV ?_ ?_ | (refine condK (fun h => ?_) (fun h => ?_) <;> (try simp only [go_sem, reduceCtorEq] at h) <;> (try (exfalso; omega))))))) <;> (try omega)
   refine ⟨(V ++ [(bx, (x : Int), ux)], c1, L1, c2, L2), ?_, ⟨hV2, hVn2, ?_⟩, by show M.length - (V ++ [(bx, (x : Int), ux)]).length < M.length - V.length; omega⟩
   ·simp only [hVm, mK_kill, mK_cut, mK_ren, mL_kill, mL_cut, mL_ren, go_sem, Nat.reduceBEq, Nat.reduceBneDiff, Nat.reduceLT, Nat.reduceLeDiff, Nat.reduceAdd, Nat.reduceMul, Nat.reduceSub, Nat.reduceEqDiff, reduceCtorEq]
    try exact rfl
   ·show NoteI C B (V ++ [(bx, (x : Int), ux)]) none ((V ++ [(bx, (x : Int), ux)]).length * 10000000) L1 L2
    rw [hVs]
    exact ⟨hn.cnt, hn.old, hn.new, hn.now, fun a => by have := hn.l1 a; rw [hT0] at this; omega, fun a => by have := hn.l2 a; rw [hT0] at this; omega⟩
end Go.Proofs.Ytjeplogcfedmeaa
end

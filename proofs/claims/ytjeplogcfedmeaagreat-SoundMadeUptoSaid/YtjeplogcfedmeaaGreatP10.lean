import Derived.Laws.Bits64b
import Derived.Test.YtjeplogcfedmeaaGreatP9
set_option linter.all false
set_option maxRecDepth 100000
set_option maxHeartbeats 8000000
namespace Go.Proofs.YtjeplogcfedmeaaGreat
section
open Go.RowKit
abbrev cEf (e : EfM) : List AV := [vI e.next.place, .v (.int .u64 e.next.kids), vI e.next.table, vI e.next.parts, vI e.next.free, vI e.next.left, vI e.target.place, .v (.int .u64 e.target.kids), vI e.target.table, vI e.target.parts, vI e.target.free, vI e.target.left]
theorem zaJ (e : Bool) (C : List InsM) (N : List Int) (hok : CodeOK C N) (L : LkM) (hL : L.length = C.length) (D : List Nat) (W : List Int) (hwt : WtH L D W) (hD : Dok L D) (k : Nat) (hk : k < C.length) (t : Int) :
  yx Tryz.prog 36 [.ptr 1 10000 0 0, vI k, vI t] (lkO e C N L W) (zaI C D (qf e C k L t)) (fun q => vI q.1) (fun q => lkO e C N q.2.1 q.2.2) := by
 have hC := hok.len
 have zk : ((k : Int)).toNat = k := by omega
 have gk := yC hk
 have gs := xh (L := L) (k := k) (by omega)
 have st := YP e C N hok L W k hk (wK L k) t
 have hw := jR e C N (by omega) k hk (hok.arms k hk)
 have hpos := hok.ways k hk
 have hct := Wm e C N L W (zO C k (zg C k))
 have hop : vD (zg C k) = (decide ((zg C k).op = 8) || decide ((zg C k).op = 41)) := rfl
 have hwl : (zO C k (zg C k)).length ≤ 10000000 := by
  unfold zO
  split
  ·simp
  ·split
   ·simp
   ·split
    ·rename_i h8
     have := hok.arms k hk h8
     simp
     omega
    ·split <;> simp
 have hct := hct (by omega)
 unfold qf
 dsimp only
 generalize z9 e (zg C k) (wK L k) t = r at st ⊢
 obtain ⟨ef, ok⟩ := r
 generalize zO C k (zg C k) = ks at hw hpos hct hwl ⊢
 generalize hB : (ks.any fun j => decide ((C.length : Int) ≤ j)) = bey at hct ⊢
 generalize hA : vD (zg C k) = arms at hop ⊢
 generalize zg C k = x at gk hop
 unfold pG at hw
 cases ok with
 | false =>
  simp only [true_or, if_true]
  unfold lkP lkO lkV at *
  refine xq (zb _) Tryz.func36 rfl rfl (by rw [Tryz.results36]) Tryz.ntmps36 rfl fun E => ?_
  (repeat' (first | exact trivial | (with_reducible first | apply awA | apply awD | apply awF | apply awG) | (refine zA (id := 1) (t := (.node [0, 1, 2, 3, 4, 5, 6, 7, 8, 9] [(.node [10, 11, 12, 13, 14, 15, 16] []), (.node [14, 10, 11, 12, 13, 15, 16] [])])) (drR [3] [20, 23] [25]) zH (by kernel_rfl) (by kernel_rfl) (fun _ _ h => h) ?_) | (refine zB (by simp only [go_sem]; exact rfl) ?_) | (refine zD (by simp only [go_sem]; exact rfl) ?_) | refine zl ?_ | refine zq ?_ ?_ | exact zC | ((with_reducible first | apply awn | apply awo | apply awp | refine awQ ?_ | refine wM ?_); intro r hr; simp only [go_sem, Nat.reduceBEq, Nat.reduceLT, Nat.reduceLeDiff, Nat.reduceAdd, Nat.reduceMul, reduceCtorEq, zk, gs] at hr; subst hr; (first | refine caC (hw) rfl ?_ ?_ ?_ | refine awV ?_ ?_ | refine awW ?_ ?_ | refine y5 ?_ ?_ | (refine zh (fun h => ?_) (fun h => ?_) <;> (try simp only [go_sem, reduceCtorEq] at h) <;> (try (exfalso; omega))))) | (refine zz [(10000, 10000), (15000, 15000), (15001, 15001), (15002, 15002)] [(10000, 10000), (15000, 15000), (15001, 15001), (15002, 15002)] [15000, 15001, 15002] [10000] ?_; intro r hr; simp only [go_sem, Nat.reduceBEq, Nat.reduceLT, reduceCtorEq] at hr; subst hr; refine zR (st) rfl rfl (by first | exact .inl rfl | exact .inr rfl) ?_ (.inl rfl) ?_) | (refine yD (vB true) rfl rfl ⟨by decide, by decide⟩ ?_))) <;> (try omega)
  all_goals first | (refine ⟨((k : Int), L, W), ⟨hL, rfl, by omega⟩, AV.up_rfl _, ?_⟩; repeat first | exact zo | refine zn rfl ?_) | skip
 | true =>
  cases bey with
  | true =>
   simp only [or_true, if_true]
   unfold lkP lkO lkV at *
   refine xq (zb _) Tryz.func36 rfl rfl (by rw [Tryz.results36]) Tryz.ntmps36 rfl fun E => ?_
   (repeat' (first | exact trivial | (with_reducible first | apply awA | apply awD | apply awF | apply awG) | (refine zA (id := 1) (t := (.node [0, 1, 2, 3, 4, 5, 6, 7, 8, 9] [(.node [10, 11, 12, 13, 14, 15, 16] []), (.node [14, 10, 11, 12, 13, 15, 16] [])])) (drR [3] [20, 23] [25]) zH (by kernel_rfl) (by kernel_rfl) (fun _ _ h => h) ?_) | (refine zB (by simp only [go_sem]; exact rfl) ?_) | (refine zD (by simp only [go_sem]; exact rfl) ?_) | refine zl ?_ | refine zq ?_ ?_ | exact zC | ((with_reducible first | apply awn | apply awo | apply awp | refine awQ ?_ | refine wM ?_); intro r hr; simp only [go_sem, Nat.reduceBEq, Nat.reduceLT, Nat.reduceLeDiff, Nat.reduceAdd, Nat.reduceMul, reduceCtorEq, zk, gs] at hr; subst hr; (first | refine caC (hw) rfl ?_ ?_ ?_ | refine awV ?_ ?_ | refine awW ?_ ?_ | refine y5 ?_ ?_ | (refine zh (fun h => ?_) (fun h => ?_) <;> (try simp only [go_sem, reduceCtorEq] at h) <;> (try (exfalso; omega))))) | (refine zz [(10000, 10000), (15000, 15000), (15001, 15001), (15002, 15002)] [(10000, 10000), (15000, 15000), (15001, 15001), (15002, 15002)] [15000, 15001, 15002] [10000] ?_; intro r hr; simp only [go_sem, Nat.reduceBEq, Nat.reduceLT] at hr; subst hr; refine zR (st) rfl rfl (by first | exact .inl rfl | exact .inr rfl) ?_ (.inl rfl) ?_) | (refine zz [(3, 10001), (10000, 10000), (15000, 15000), (15001, 15001), (15002, 15002)] [(10001, 3), (10000, 10000), (15000, 15000), (15001, 15001), (15002, 15002)] [15000, 15001, 15002] [3, 10000] ?_; intro r hr; simp only [go_sem, Nat.reduceBEq, Nat.reduceLT] at hr; subst hr; refine zR (hct) rfl rfl (by first | exact .inl rfl | exact .inr rfl) ?_ (.inl rfl) ?_))) <;> (try omega)
   all_goals first | (refine ⟨((k : Int), L, W), ⟨hL, rfl, by omega⟩, AV.up_rfl _, ?_⟩; repeat first | exact zo | refine zn rfl ?_) | skip
  | false =>
   have hlt : ∀ j ∈ ks, j < C.length := fun j hj => by
    have := List.any_eq_false.1 hB j hj
    simpa using this
   simp only [reduceCtorEq, or_self, if_false]
   generalize hR : handS e C t ef arms ks 0 L = R
   unfold lkO lkV at st ⊢
   unfold lkP lkO lkV at hct
   refine xq (zb _) Tryz.func36 rfl rfl (by rw [Tryz.results36]) Tryz.ntmps36 rfl fun E => ?_
   have hop2 := hop.symm
   (repeat' (first | exact trivial | (with_reducible first | apply awA | apply awB | apply awC | apply awF) | (refine zA (id := 1) (t := (.node [0, 1, 2, 3, 4, 5, 6, 7, 8, 9] [(.node [10, 11, 12, 13, 14, 15, 16] []), (.node [14, 10, 11, 12, 13, 15, 16] [])])) (drR [3] [20, 23] [25]) zH (by kernel_rfl) (by kernel_rfl) (fun _ _ h => h) ?_) | (refine zB (by simp only [go_sem]; exact rfl) ?_) | (refine zD (by simp only [go_sem]; exact rfl) ?_) | refine zl ?_ | refine zq ?_ ?_ | exact zC | ((with_reducible first | apply awn | apply awo | apply awp | refine awQ ?_); intro r hr; simp only [go_sem, Nat.reduceBEq, Nat.reduceLT, Nat.reduceLeDiff, Nat.reduceAdd, Nat.reduceMul, reduceCtorEq, zk, gs, gk, zd, zp] at hr; subst hr; (first | refine caC (hw) rfl ?_ ?_ ?_ | refine awV ?_ ?_ | refine awW ?_ ?_ | (refine zh (fun h => ?_) (fun h => ?_) <;> (try simp only [go_sem, reduceCtorEq] at h) <;> (try (exfalso; omega))))) | (refine zz [(10000, 10000), (15000, 15000), (15001, 15001), (15002, 15002)] [(10000, 10000), (15000, 15000), (15001, 15001), (15002, 15002)] [15000, 15001, 15002] [10000] ?_; intro r hr; simp only [go_sem, Nat.reduceBEq, Nat.reduceLT] at hr; subst hr; refine zR (st) rfl rfl (by first | exact .inl rfl | exact .inr rfl) ?_ (.inl rfl) ?_) | (refine zz [(3, 10001), (10000, 10000), (15000, 15000), (15001, 15001), (15002, 15002)] [(10001, 3), (10000, 10000), (15000, 15000), (15001, 15001), (15002, 15002)] [15000, 15001, 15002] [3, 10000] ?_; intro r hr; simp only [go_sem, Nat.reduceBEq, Nat.reduceLT] at hr; subst hr; refine zR (hct) rfl rfl (by first | exact .inl rfl | exact .inr rfl) ?_ (.inl rfl) ?_))) <;> (try omega)
   all_goals
    refine zI [1, 2, 3, 7, 10, 64, 65, 66] [3, 7, 10000, 15000, 15001, 15002] (fun q : Nat × LkM × List Int => ⟨[(1, true, vI k), (2, true, vI t), (3, true, .ptr 1 3 0 0), (7, true, .ptr 1 7 0 0), (10, true, vB arms), (64, true, .lst 1 (v8 ks)), (65, true, vI ks.length), (66, true, vI q.1)],
     [(3, .var [.ptr 1 10000 0 0]), (7, .var (cEf ef)), (10000, .var [vB e, .lst 4 (zF C), .lst 1 (v8 N), .ref 52 6 15000 0 C.length, .ref 4 1 15001 0 C.length, .ref 3 1 15002 0 q.2.2.length]), (15000, .row 52 6 (yk q.2.1)), (15001, .row 4 1 (yl q.2.1)), (15002, .row 3 1 (v8 q.2.2))]⟩)
     (fun q => q.1 ≤ ks.length ∧ q.2.1.length = C.length ∧ WtH q.2.1 D q.2.2 ∧ Dok q.2.1 D ∧ handS e C t ef arms (ks.drop q.1) q.1 q.2.1 = R) (fun q => ks.length - q.1) (0, L, W) (by rw [hop]; simp only [hL, go_sem, Nat.reduceBEq] <;> exact rfl) ⟨Nat.zero_le _, hL, hwt, hD, hR⟩ ?_
    intro ⟨i, L', W'⟩ ⟨hi, hL', hw', hD', hR'⟩
    simp only at hi hL' hw' hD' hR' ⊢
    have hWl := hw'.len
    have hwi := zy (n := (i : Int) + 1) (by omega)
    have zi : ((i : Int)).toNat = i := by omega
    by_cases hlti : i < ks.length
    ·have e1 : ((i : Int) < (ks.length : Int)) = True := eq_true (by omega)
     obtain ⟨m, hm⟩ : ∃ m : Nat, ks[i] = m := ⟨ks[i].toNat, by have := hpos _ (List.getElem_mem hlti); omega⟩
     have hmC : m < C.length := by have := hlt _ (List.getElem_mem hlti); omega
     have gi := xb hlti
     rw [hm] at gi
     rw [List.drop_eq_getElem_cons hlti, hm] at hR'
     unfold handS at hR'
     rw [Int.toNat_natCast] at hR'
     by_cases hi1 : i = 1
     ·have e2 : ((i : Int) = 1) = True := eq_true (by omega)
      cases arms with
      | false =>
       rw [if_pos ⟨hi1, rfl⟩] at hR'
       cases hn : L'.getD m none with
       | none =>
        have hh := qw e C N hok L' hL' W' (by omega) m hmC ef.target t hn
        rw [ur hn] at hR'
        simp only at hR'
        have hp := hw'.push (by omega) hn (hD'.none hn) ef.target
        have hd := hD'.set m ef.target
        have hls : (L'.set m (some ef.target)).length = C.length := by simp [hL']
        generalize L'.set m (some ef.target) = L2 at hh hR' hp hd hls
        generalize upF (W'.length + 1) (W' ++ [(m : Int)]) W'.length = W2 at hh hp
        unfold lkO lkV at hh
        rw [hL', hls] at hh
        (repeat' (first | exact trivial | (with_reducible first | apply awA | apply awB | apply awC | apply awF | apply awI) | ((with_reducible first | apply awn | apply awo | refine awQ ?_); intro r hr; simp only [go_sem, Nat.reduceBEq, Nat.reduceLT, Nat.reduceLeDiff, Nat.reduceAdd, Nat.reduceMul, reduceCtorEq, e1, zi, hwi, gi, zp, e2] at hr; subst hr; (first | refine awV ?_ ?_ | refine awW ?_ ?_ | (refine zh (fun h => ?_) (fun h => ?_) <;> (try simp only [go_sem, reduceCtorEq] at h) <;> (try (exfalso; omega))))) | (refine zz [(10000, 10000), (15000, 15000), (15001, 15001), (15002, 15002)] [(10000, 10000), (15000, 15000), (15001, 15001), (15002, 15002)] [15000, 15001, 15002] [10000] ?_; intro r hr; simp only [go_sem, Nat.reduceBEq, Nat.reduceLT] at hr; subst hr; refine zR (hh) rfl rfl (by first | exact .inl rfl | exact .inr rfl) ?_ (.inl rfl) ?_))) <;> (try omega)
        refine ⟨(i + 1, L2, W2), ?_, ⟨hlti, hls, hp, hd, hR'⟩, by show ks.length - (i + 1) < ks.length - i; omega⟩
        simp only [go_sem, Nat.reduceBEq]
        try exact rfl
       | some s0 =>
        have hh := qx e C N hok L' hL' W' m hmC ef.target s0 t hn
        unfold lkO lkV at hh
        rw [hL'] at hh
        rcases ut (e := e) (C := C) (s := ef.target) (t := t) hn with hf | hf
        ·rw [hf] at hh hR'
         simp only [Option.isSome_none] at hh hR'
         subst hR'
         (repeat' (first | exact trivial | (with_reducible first | apply awA | apply awB | apply awC | apply awD | apply awF | apply awG | apply awJ) | ((with_reducible first | apply awn | apply awo | refine awQ ?_ | refine wM ?_); intro r hr; simp only [go_sem, Nat.reduceBEq, Nat.reduceLT, Nat.reduceLeDiff, Nat.reduceAdd, Nat.reduceMul, reduceCtorEq, e1, zi, gi, zp, e2] at hr; subst hr; (first | refine awV ?_ ?_ | refine awW ?_ ?_ | refine y5 ?_ ?_ | (refine zh (fun h => ?_) (fun h => ?_) <;> (try simp only [go_sem, reduceCtorEq] at h) <;> (try (exfalso; omega))))) | (refine zz [(10000, 10000), (15000, 15000), (15001, 15001), (15002, 15002)] [(10000, 10000), (15000, 15000), (15001, 15001), (15002, 15002)] [15000, 15001, 15002] [10000] ?_; intro r hr; simp only [go_sem, Nat.reduceBEq, Nat.reduceLT] at hr; subst hr; refine zR (hh) rfl rfl (by first | exact .inl rfl | exact .inr rfl) ?_ (.inl rfl) ?_))) <;> (try omega)
         all_goals first | (refine ⟨((m : Int), L', W'), ⟨hL', rfl, by omega⟩, AV.up_rfl _, ?_⟩; simp only [hL']; repeat first | exact zo | refine zn rfl ?_) | skip
        ·rw [hf] at hh hR'
         simp only [Option.isSome_some] at hh hR'
         (repeat' (first | exact trivial | (with_reducible first | apply awA | apply awB | apply awC | apply awF | apply awI) | ((with_reducible first | apply awn | apply awo | refine awQ ?_); intro r hr; simp only [go_sem, Nat.reduceBEq, Nat.reduceLT, Nat.reduceLeDiff, Nat.reduceAdd, Nat.reduceMul, reduceCtorEq, e1, zi, hwi, gi, zp, e2] at hr; subst hr; (first | refine awV ?_ ?_ | refine awW ?_ ?_ | (refine zh (fun h => ?_) (fun h => ?_) <;> (try simp only [go_sem, reduceCtorEq] at h) <;> (try (exfalso; omega))))) | (refine zz [(10000, 10000), (15000, 15000), (15001, 15001), (15002, 15002)] [(10000, 10000), (15000, 15000), (15001, 15001), (15002, 15002)] [15000, 15001, 15002] [10000] ?_; intro r hr; simp only [go_sem, Nat.reduceBEq, Nat.reduceLT] at hr; subst hr; refine zR (hh) rfl rfl (by first | exact .inl rfl | exact .inr rfl) ?_ (.inl rfl) ?_))) <;> (try omega)
         refine ⟨(i + 1, L', W'), ?_, ⟨hlti, hL', hw', hD', hR'⟩, by show ks.length - (i + 1) < ks.length - i; omega⟩
         simp only [go_sem, Nat.reduceBEq]
         try exact rfl
      | true =>
       rw [if_neg (fun hh => by cases hh.2)] at hR'
       cases hn : L'.getD m none with
       | none =>
        have hh := qw e C N hok L' hL' W' (by omega) m hmC ef.next t hn
        rw [ur hn] at hR'
        simp only at hR'
        have hp := hw'.push (by omega) hn (hD'.none hn) ef.next
        have hd := hD'.set m ef.next
        have hls : (L'.set m (some ef.next)).length = C.length := by simp [hL']
        generalize L'.set m (some ef.next) = L2 at hh hR' hp hd hls
        generalize upF (W'.length + 1) (W' ++ [(m : Int)]) W'.length = W2 at hh hp
        unfold lkO lkV at hh
        rw [hL', hls] at hh
        (repeat' (first | exact trivial | (with_reducible first | apply awA | apply awB | apply awC | apply awF | apply awI) | ((with_reducible first | apply awn | apply awo | refine awQ ?_); intro r hr; simp only [go_sem, Nat.reduceBEq, Nat.reduceLT, Nat.reduceLeDiff, Nat.reduceAdd, Nat.reduceMul, reduceCtorEq, e1, zi, hwi, gi, zp, e2] at hr; subst hr; (first | refine awV ?_ ?_ | refine awW ?_ ?_ | (refine zh (fun h => ?_) (fun h => ?_) <;> (try simp only [go_sem, reduceCtorEq] at h) <;> (try (exfalso; omega))))) | (refine zz [(10000, 10000), (15000, 15000), (15001, 15001), (15002, 15002)] [(10000, 10000), (15000, 15000), (15001, 15001), (15002, 15002)] [15000, 15001, 15002] [10000] ?_; intro r hr; simp only [go_sem, Nat.reduceBEq, Nat.reduceLT] at hr; subst hr; refine zR (hh) rfl rfl (by first | exact .inl rfl | exact .inr rfl) ?_ (.inl rfl) ?_))) <;> (try omega)
        refine ⟨(i + 1, L2, W2), ?_, ⟨hlti, hls, hp, hd, hR'⟩, by show ks.length - (i + 1) < ks.length - i; omega⟩
        simp only [go_sem, Nat.reduceBEq]
        try exact rfl
       | some s0 =>
        have hh := qx e C N hok L' hL' W' m hmC ef.next s0 t hn
        unfold lkO lkV at hh
        rw [hL'] at hh
        rcases ut (e := e) (C := C) (s := ef.next) (t := t) hn with hf | hf
        ·rw [hf] at hh hR'
         simp only [Option.isSome_none] at hh hR'
         subst hR'
         (repeat' (first | exact trivial | (with_reducible first | apply awA | apply awB | apply awC | apply awD | apply awF | apply awG | apply awJ) | ((with_reducible first | apply awn | apply awo | refine awQ ?_ | refine wM ?_); intro r hr; simp only [go_sem, Nat.reduceBEq, Nat.reduceLT, Nat.reduceLeDiff, Nat.reduceAdd, Nat.reduceMul, reduceCtorEq, e1, zi, gi, zp, e2] at hr; subst hr; (first | refine awV ?_ ?_ | refine awW ?_ ?_ | refine y5 ?_ ?_ | (refine zh (fun h => ?_) (fun h => ?_) <;> (try simp only [go_sem, reduceCtorEq] at h) <;> (try (exfalso; omega))))) | (refine zz [(10000, 10000), (15000, 15000), (15001, 15001), (15002, 15002)] [(10000, 10000), (15000, 15000), (15001, 15001), (15002, 15002)] [15000, 15001, 15002] [10000] ?_; intro r hr; simp only [go_sem, Nat.reduceBEq, Nat.reduceLT] at hr; subst hr; refine zR (hh) rfl rfl (by first | exact .inl rfl | exact .inr rfl) ?_ (.inl rfl) ?_))) <;> (try omega)
         all_goals first | (refine ⟨((m : Int), L', W'), ⟨hL', rfl, by omega⟩, AV.up_rfl _, ?_⟩; simp only [hL']; repeat first | exact zo | refine zn rfl ?_) | skip
        ·rw [hf] at hh hR'
         simp only [Option.isSome_some] at hh hR'
         (repeat' (first | exact trivial | (with_reducible first | apply awA | apply awB | apply awC | apply awF | apply awI) | ((with_reducible first | apply awn | apply awo | refine awQ ?_); intro r hr; simp only [go_sem, Nat.reduceBEq, Nat.reduceLT, Nat.reduceLeDiff, Nat.reduceAdd, Nat.reduceMul, reduceCtorEq, e1, zi, hwi, gi, zp, e2] at hr; subst hr; (first | refine awV ?_ ?_ | refine awW ?_ ?_ | (refine zh (fun h => ?_) (fun h => ?_) <;> (try simp only [go_sem, reduceCtorEq] at h) <;> (try (exfalso; omega))))) | (refine zz [(10000, 10000), (15000, 15000), (15001, 15001), (15002, 15002)] [(10000, 10000), (15000, 15000), (15001, 15001), (15002, 15002)] [15000, 15001, 15002] [10000] ?_; intro r hr; simp only [go_sem, Nat.reduceBEq, Nat.reduceLT] at hr; subst hr; refine zR (hh) rfl rfl (by first | exact .inl rfl | exact .inr rfl) ?_ (.inl rfl) ?_))) <;> (try omega)
         refine ⟨(i + 1, L', W'), ?_, ⟨hlti, hL', hw', hD', hR'⟩, by show ks.length - (i + 1) < ks.length - i; omega⟩
         simp only [go_sem, Nat.reduceBEq]
         try exact rfl
     ·have e2 : ((i : Int) = 1) = False := eq_false (by omega)
      rw [if_neg (fun hh => hi1 hh.1)] at hR'
      cases hn : L'.getD m none with
      | none =>
       have hh := qw e C N hok L' hL' W' (by omega) m hmC ef.next t hn
       rw [ur hn] at hR'
       simp only at hR'
       have hp := hw'.push (by omega) hn (hD'.none hn) ef.next
       have hd := hD'.set m ef.next
       have hls : (L'.set m (some ef.next)).length = C.length := by simp [hL']
       generalize L'.set m (some ef.next) = L2 at hh hR' hp hd hls
       generalize upF (W'.length + 1) (W' ++ [(m : Int)]) W'.length = W2 at hh hp
       unfold lkO lkV at hh
       rw [hL', hls] at hh
       (repeat' (first | exact trivial | (with_reducible first | apply awA | apply awB | apply awC | apply awF | apply awI) | ((with_reducible first | apply awn | apply awo | refine awQ ?_); intro r hr; simp only [go_sem, Nat.reduceBEq, Nat.reduceLT, Nat.reduceLeDiff, Nat.reduceAdd, Nat.reduceMul, reduceCtorEq, e1, zi, hwi, gi, zp, e2] at hr; subst hr; (first | refine awV ?_ ?_ | refine awW ?_ ?_ | (refine zh (fun h => ?_) (fun h => ?_) <;> (try simp only [go_sem, reduceCtorEq] at h) <;> (try (exfalso; omega))))) | (refine zz [(10000, 10000), (15000, 15000), (15001, 15001), (15002, 15002)] [(10000, 10000), (15000, 15000), (15001, 15001), (15002, 15002)] [15000, 15001, 15002] [10000] ?_; intro r hr; simp only [go_sem, Nat.reduceBEq, Nat.reduceLT] at hr; subst hr; refine zR (hh) rfl rfl (by first | exact .inl rfl | exact .inr rfl) ?_ (.inl rfl) ?_))) <;> (try omega)
       refine ⟨(i + 1, L2, W2), ?_, ⟨hlti, hls, hp, hd, hR'⟩, by show ks.length - (i + 1) < ks.length - i; omega⟩
       simp only [go_sem, Nat.reduceBEq]
       try exact rfl
      | some s0 =>
       have hh := qx e C N hok L' hL' W' m hmC ef.next s0 t hn
       unfold lkO lkV at hh
       rw [hL'] at hh
       rcases ut (e := e) (C := C) (s := ef.next) (t := t) hn with hf | hf
       ·rw [hf] at hh hR'
        simp only [Option.isSome_none] at hh hR'
        subst hR'
        (repeat' (first | exact trivial | (with_reducible first | apply awA | apply awB | apply awC | apply awD | apply awF | apply awG | apply awJ) | ((with_reducible first | apply awn | apply awo | refine awQ ?_ | refine wM ?_); intro r hr; simp only [go_sem, Nat.reduceBEq, Nat.reduceLT, Nat.reduceLeDiff, Nat.reduceAdd, Nat.reduceMul, reduceCtorEq, e1, zi, gi, zp, e2] at hr; subst hr; (first | refine awV ?_ ?_ | refine awW ?_ ?_ | refine y5 ?_ ?_ | (refine zh (fun h => ?_) (fun h => ?_) <;> (try simp only [go_sem, reduceCtorEq] at h) <;> (try (exfalso; omega))))) | (refine zz [(10000, 10000), (15000, 15000), (15001, 15001), (15002, 15002)] [(10000, 10000), (15000, 15000), (15001, 15001), (15002, 15002)] [15000, 15001, 15002] [10000] ?_; intro r hr; simp only [go_sem, Nat.reduceBEq, Nat.reduceLT] at hr; subst hr; refine zR (hh) rfl rfl (by first | exact .inl rfl | exact .inr rfl) ?_ (.inl rfl) ?_))) <;> (try omega)
        all_goals first | (refine ⟨((m : Int), L', W'), ⟨hL', rfl, by omega⟩, AV.up_rfl _, ?_⟩; simp only [hL']; repeat first | exact zo | refine zn rfl ?_) | skip
       ·rw [hf] at hh hR'
        simp only [Option.isSome_some] at hh hR'
        (repeat' (first | exact trivial | (with_reducible first | apply awA | apply awB | apply awC | apply awF | apply awI) | ((with_reducible first | apply awn | apply awo | refine awQ ?_); intro r hr; simp only [go_sem, Nat.reduceBEq, Nat.reduceLT, Nat.reduceLeDiff, Nat.reduceAdd, Nat.reduceMul, reduceCtorEq, e1, zi, hwi, gi, zp, e2] at hr; subst hr; (first | refine awV ?_ ?_ | refine awW ?_ ?_ | (refine zh (fun h => ?_) (fun h => ?_) <;> (try simp only [go_sem, reduceCtorEq] at h) <;> (try (exfalso; omega))))) | (refine zz [(10000, 10000), (15000, 15000), (15001, 15001), (15002, 15002)] [(10000, 10000), (15000, 15000), (15001, 15001), (15002, 15002)] [15000, 15001, 15002] [10000] ?_; intro r hr; simp only [go_sem, Nat.reduceBEq, Nat.reduceLT] at hr; subst hr; refine zR (hh) rfl rfl (by first | exact .inl rfl | exact .inr rfl) ?_ (.inl rfl) ?_))) <;> (try omega)
        refine ⟨(i + 1, L', W'), ?_, ⟨hlti, hL', hw', hD', hR'⟩, by show ks.length - (i + 1) < ks.length - i; omega⟩
        simp only [go_sem, Nat.reduceBEq]
        try exact rfl
    ·have e1 : ((i : Int) < (ks.length : Int)) = False := eq_false (by omega)
     rw [List.drop_of_length_le (by omega)] at hR'
     unfold handS at hR'
     subst hR'
     (repeat' (first | exact trivial | (with_reducible first | apply awA | apply awD | apply awE | apply awF | apply awH | apply awK) | ((with_reducible first | apply awn | refine awQ ?_ | refine wM ?_); intro r hr; simp only [go_sem, Nat.reduceBEq, Nat.reduceLT, e1] at hr; subst hr; (first | refine awV ?_ ?_ | refine y5 ?_ ?_ | (refine zh (fun h => ?_) (fun h => ?_) <;> (try simp only [go_sem, reduceCtorEq] at h) <;> (try (exfalso; omega))))))) <;> (try omega)
     all_goals first | (refine ⟨(-1, L', W'), ⟨hL', rfl, rfl, hw', hD'⟩, AV.up_rfl _, ?_⟩; simp only [hL']; repeat first | exact zo | refine zn rfl ?_) | skip
end
section
open Go.RowKit
theorem WtH.init (n : Nat) : WtH (List.replicate n none) [] [] := by
 refine ⟨fun k _ h => by simp at h, List.nodup_nil, fun k => ?_⟩
 constructor
 ·intro h; cases h
 ·intro ⟨_, h⟩
  unfold yM at h
  simp [List.getD, List.getElem?_replicate] at h
  split at h <;> simp at h
theorem Dok.nil (L : LkM) : Dok L [] := fun _ h => by cases h
def Dnd (C : List InsM) (D : List Nat) : Prop := D.Nodup ∧ ∀ d ∈ D, d < C.length
theorem Dnd.len {C : List InsM} {D : List Nat} (h : Dnd C D) : D.length ≤ C.length := yV h.1 h.2
def zaK (C : List InsM) (R : Except Int (LkM × List Nat)) (q : Int × LkM × List Int) : Prop :=
 q.2.1.length = C.length ∧ match R with
 | .ok r => q.1 = -1 ∧ q.2.1 = r.1
 | .error j => q.1 = j ∧ 0 ≤ j
def Ui (e : Bool) (C : List InsM) (ns : List Int) (t : Int) (r : Except Int (LkM × List Nat)) : Except Int (LkM × List Nat) :=
 match r with
 | .error j => .error j
 | .ok (L2, D2) => xo e C ns (t + 1) L2 D2
theorem Uj (e : Bool) (C : List InsM) (N : List Int) (hok : CodeOK C N) :
  yx Tryz.prog 23 [.ptr 1 10000 0 0] (lkO e C N (List.replicate C.length none) []) (zaK C (xc e C N)) (fun q => vI q.1) (fun q => lkO e C N q.2.1 q.2.2) := by
 have hC := hok.len
 have hN := hok.lenN
 unfold xc
 generalize hR : xo e C N 0 (List.replicate C.length none) [] = R
 have hl0 : (List.replicate C.length (none : Option StM)).length = C.length := by simp
 have hw0 := WtH.init C.length
 generalize List.replicate C.length (none : Option StM) = L0 at hR hl0 hw0 ⊢
 have hbeg : (fun (x : StM) => x = yF e) (yF e) := rfl
 unfold lkO lkV
 rw [hl0]
 refine xq (zb _) Tryz.func23 rfl rfl (by rw [Tryz.results23]) Tryz.ntmps23 rfl fun E => ?_
 (repeat' (first | exact trivial | (refine VC (.tmp 12) [0, 3] [3, 10000, 15000, 15001, 15002] (fun _ : Unit => ⟨[(0, true, .ptr 1 10000 0 0), (3, true, .ptr 1 3 0 0)], [(3, .var (cSt (yF e))), (10000, .var [vB e, .lst 4 (zF C), .lst 1 (v8 N), .ref 52 6 15000 0 C.length, .ref 4 1 15001 0 C.length, .ref 3 1 15002 0 ([] : List Int).length]), (15000, .row 52 6 (yk L0)), (15001, .row 4 1 (yl L0)), (15002, .row 3 1 (v8 ([] : List Int)))]⟩) (fun _ => True) (xI ?_) ?_) | (with_reducible first | apply awA | apply awF) | ((with_reducible apply awn); intro r hr; simp only [go_sem, Nat.reduceBEq, Nat.reduceLT, Nat.reduceLeDiff, Nat.reduceAdd, Nat.reduceMul] at hr; subst hr; (first | refine awV ?_ ?_)))) <;> (try omega)
 ·refine ⟨?_⟩
  cases e
  all_goals (repeat' (first | exact trivial | (with_reducible first | apply awC | apply awF) | ((with_reducible first | apply awn | refine awQ ?_); intro r hr; simp only [go_sem, Nat.reduceBEq, Nat.reduceLT, Nat.reduceLeDiff, Nat.reduceAdd, Nat.reduceMul] at hr; subst hr; (first | refine awV ?_ ?_ | (refine zh (fun h => ?_) (fun h => ?_) <;> (try simp only [go_sem, reduceCtorEq] at h) <;> (try (exfalso; omega))))))) <;> (try omega)
  all_goals exact ⟨(), rfl, trivial⟩
 intro _ _
 (repeat' (first | exact trivial | (with_reducible first | apply awA | apply awB | apply awF) | ((with_reducible apply awn); intro r hr; simp only [go_sem, Nat.reduceBEq, Nat.reduceLT, Nat.reduceLeDiff, Nat.reduceAdd, Nat.reduceMul, zp] at hr; subst hr; (first | refine awV ?_ ?_)))) <;> (try omega)
 refine zI [0, 3, 18, 19, 20] [3, 10000, 15000, 15001, 15002] (fun q : Nat × LkM × List Nat => ⟨[(0, true, .ptr 1 10000 0 0), (3, true, .ptr 1 3 0 0), (18, true, .lst 1 (v8 N)), (19, true, vI N.length), (20, true, vI q.1)],
  [(3, .var (cSt (yF e))), (10000, .var [vB e, .lst 4 (zF C), .lst 1 (v8 N), .ref 52 6 15000 0 C.length, .ref 4 1 15001 0 C.length, .ref 3 1 15002 0 ([] : List Int).length]), (15000, .row 52 6 (yk q.2.1)), (15001, .row 4 1 (yl q.2.1)), (15002, .row 3 1 (v8 ([] : List Int)))]⟩)
  (fun q => q.1 ≤ N.length ∧ q.2.1.length = C.length ∧ WtH q.2.1 q.2.2 [] ∧ Dok q.2.1 q.2.2 ∧ Dnd C q.2.2 ∧ xo e C (N.drop q.1) q.1 q.2.1 q.2.2 = R) (fun q => N.length - q.1) (0, L0, []) (by simp only [go_sem, Nat.reduceBEq] <;> exact rfl) ⟨Nat.zero_le _, hl0, hw0, Dok.nil _, ⟨List.nodup_nil, fun _ h => by cases h⟩, hR⟩ ?_
 intro ⟨ti, L, D⟩ ⟨hti, hL, hwt, hD, hnd, hR⟩
 simp only at hti hL hwt hD hnd hR ⊢
 have hwi := zy (n := (ti : Int) + 1) (by omega)
 have zi : ((ti : Int)).toNat = ti := by omega
 by_cases hlti : ti < N.length
 ·have e1 : ((ti : Int) < (N.length : Int)) = True := eq_true (by omega)
  have hen := hok.entry _ (List.getElem_mem hlti)
  obtain ⟨m, hm⟩ : ∃ m : Nat, N[ti] = m := ⟨N[ti].toNat, by omega⟩
  have gi := xb hlti
  rw [hm] at gi hen
  rw [List.drop_eq_getElem_cons hlti, hm] at hR
  unfold xo at hR
  rw [Int.toNat_natCast] at hR
  have hb := hok
  have hCm : m < C.length := by omega
  have hbs : cSt (yF e) = cSt (yF e) := rfl
  have key : (xF e C L m (yF e) ti = none ∧ yb Tryz.prog 35 [.ptr 1 10000 0 0, vI m, vSt (yF e), vI ti] (lkO e C N L []) (vB false) (lkO e C N L [])) ∨
    ∃ L1 W1, xF e C L m (yF e) ti = some L1 ∧ L1.length = C.length ∧ WtH L1 D W1 ∧ Dok L1 D ∧ yb Tryz.prog 35 [.ptr 1 10000 0 0, vI m, vSt (yF e), vI ti] (lkO e C N L []) (vB true) (lkO e C N L1 W1) := by
   cases hn : L.getD m none with
   | none => exact .inr ⟨_, _, ur hn, by simp [hL], hwt.push (by omega) hn (hD.none hn) (yF e), hD.set m (yF e), qw e C N hok L hL [] (Nat.zero_le _) m hCm (yF e) ti hn⟩
   | some s0 =>
    have hh := qx e C N hok L hL [] m hCm (yF e) s0 ti hn
    rcases ut (e := e) (C := C) (s := yF e) (t := (ti : Int)) hn with hf | hf <;> rw [hf] at hh
    ·exact .inl ⟨hf, hh⟩
    ·exact .inr ⟨_, _, hf, hL, hwt, hD, hh⟩
  rcases key with ⟨hf, hh⟩ | ⟨L1, W1, hf, hl1, hw1, hd1, hh⟩
  ·rw [hf] at hR
   subst hR
   unfold lkO lkV at hh
   rw [hL] at hh
   (repeat' (first | exact trivial | (with_reducible first | apply awA | apply awB | apply awC | apply awD | apply awF | apply awG | apply awJ) | ((with_reducible first | apply awn | apply awo | refine awQ ?_ | refine wM ?_); intro r hr; simp only [go_sem, Nat.reduceBEq, Nat.reduceLT, Nat.reduceLeDiff, Nat.reduceAdd, Nat.reduceMul, e1, zi, gi, zp] at hr; subst hr; (first | refine awV ?_ ?_ | refine awW ?_ ?_ | refine y5 ?_ ?_ | (refine zh (fun h => ?_) (fun h => ?_) <;> (try simp only [go_sem, reduceCtorEq] at h) <;> (try (exfalso; omega))))) | (refine zz [(10000, 10000), (15000, 15000), (15001, 15001), (15002, 15002)] [(10000, 10000), (15000, 15000), (15001, 15001), (15002, 15002)] [15000, 15001, 15002] [10000] ?_; intro r hr; simp only [go_sem, Nat.reduceBEq, Nat.reduceLT] at hr; subst hr; refine zR (hh) rfl rfl (by first | exact .inl rfl | exact .inr rfl) ?_ (.inl rfl) ?_))) <;> (try omega)
   all_goals first | (refine ⟨((m : Int), L, []), ⟨hL, rfl, by omega⟩, AV.up_rfl _, ?_⟩; simp only [hL]; repeat first | exact zo | refine zn rfl ?_) | skip
  rw [hf] at hR
  unfold lkO lkV at hh
  rw [hL, hl1] at hh
  change Ui e C (N.drop (ti + 1)) ti (vF e C ti (C.length + 1 - D.length) L1 D) = R at hR
  (repeat' (first | exact trivial | (with_reducible first | apply awA | apply awB | apply awC | apply awF) | ((with_reducible first | apply awn | apply awo | refine awQ ?_); intro r hr; simp only [go_sem, Nat.reduceBEq, Nat.reduceLT, Nat.reduceLeDiff, Nat.reduceAdd, Nat.reduceMul, e1, zi, gi, zp] at hr; subst hr; (first | refine awV ?_ ?_ | refine awW ?_ ?_ | (refine zh (fun h => ?_) (fun h => ?_) <;> (try simp only [go_sem, reduceCtorEq] at h) <;> (try (exfalso; omega))))) | (refine zz [(10000, 10000), (15000, 15000), (15001, 15001), (15002, 15002)] [(10000, 10000), (15000, 15000), (15001, 15001), (15002, 15002)] [15000, 15001, 15002] [10000] ?_; intro r hr; simp only [go_sem, Nat.reduceBEq, Nat.reduceLT] at hr; subst hr; refine zR (hh) rfl rfl (by first | exact .inl rfl | exact .inr rfl) ?_ (.inl rfl) ?_))) <;> (try omega)
  refine zI [0, 3, 4, 18, 19, 20] [3, 10000, 15000, 15001, 15002] (fun q : LkM × List Nat × List Int => ⟨[(0, true, .ptr 1 10000 0 0), (3, true, .ptr 1 3 0 0), (4, true, vI ti), (18, true, .lst 1 (v8 N)), (19, true, vI N.length), (20, true, vI ti)],
   [(3, .var (cSt (yF e))), (10000, .var [vB e, .lst 4 (zF C), .lst 1 (v8 N), .ref 52 6 15000 0 C.length, .ref 4 1 15001 0 C.length, .ref 3 1 15002 0 q.2.2.length]), (15000, .row 52 6 (yk q.1)), (15001, .row 4 1 (yl q.1)), (15002, .row 3 1 (v8 q.2.2))]⟩)
   (fun q => q.1.length = C.length ∧ WtH q.1 q.2.1 q.2.2 ∧ Dok q.1 q.2.1 ∧ Dnd C q.2.1 ∧ Ui e C (N.drop (ti + 1)) ti (vF e C ti (C.length + 1 - q.2.1.length) q.1 q.2.1) = R) (fun q => C.length - q.2.1.length) (L1, D, W1) (by simp only [go_sem, Nat.reduceBEq] <;> exact rfl) ⟨hl1, hw1, hd1, hnd, hR⟩ ?_
  intro ⟨L2, D2, W2⟩ ⟨hL2, hw2, hd2, hnd2, hR2⟩
  simp only at hL2 hw2 hd2 hnd2 hR2 ⊢
  have hdl := hnd2.len
  have hWl := hw2.len
  obtain ⟨f, hf⟩ : ∃ f, C.length + 1 - D2.length = f + 1 := ⟨C.length - D2.length, by omega⟩
  rw [hf] at hR2
  unfold vF at hR2
  by_cases hW2 : W2 = []
  ·have hnx := hw2.empty.1 hW2
   subst hW2
   rw [hnx] at hR2
   simp only [Ui] at hR2
   (repeat' (first | exact trivial | (with_reducible first | apply awA | apply awE | apply awF | apply awH | apply awI | apply awK) | ((with_reducible first | apply awn | refine awQ ?_); intro r hr; simp only [go_sem, Nat.reduceBEq, Nat.reduceLT, Nat.reduceLeDiff, Nat.reduceAdd, Nat.reduceMul, hwi, List.length_nil, Int.cast_ofNat_Int, Int.reduceLT] at hr; subst hr; (first | refine awV ?_ ?_ | (refine zh (fun h => ?_) (fun h => ?_) <;> (try simp only [go_sem, reduceCtorEq] at h) <;> (try (exfalso; omega))))))) <;> (try omega)
   refine ⟨(ti + 1, L2, D2), ?_, ⟨hlti, hL2, hw2, hd2, hnd2, by show xo e C (N.drop (ti + 1)) ((ti + 1 : Nat) : Int) L2 D2 = R; exact hR2⟩, by show N.length - (ti + 1) < N.length - ti; omega⟩
   simp only [List.length_nil, go_sem, Nat.reduceBEq]
   try exact rfl
  ·have hp := zaw e C N L2 W2 (by omega) hW2
   obtain ⟨hnn, hnx⟩ := hw2.next hW2
   have hwp := hw2.pop hW2
   have hpl : 0 < W2.length := List.length_pos_iff.2 hW2
   have e5 : ((0 : Int) < (W2.length : Int)) = True := eq_true (by omega)
   have hkm := (hw2.mem _).1 (q7 hW2)
   obtain ⟨k, hk⟩ : ∃ k : Nat, W2.getD 0 0 = k := ⟨(W2.getD 0 0).toNat, by omega⟩
   rw [hk] at hp hwp hnx hkm
   rw [Int.toNat_natCast] at hwp hnx hkm
   rw [hnx] at hR2
   simp only at hR2
   have hkC : k < C.length := by rw [← hL2]; exact qy hkm.2
   have hkD : k ∉ D2 := by
    have := hkm.2
    unfold yM at this
    simp only [Bool.and_eq_true, Bool.not_eq_true', decide_eq_false_iff_not] at this
    exact this.2
   have hkS : (L2.getD k none).isSome = true := by
    have := hkm.2
    unfold yM at this
    simp only [Bool.and_eq_true] at this
    exact this.1
   have hd3 : Dok L2 (k :: D2) := fun d hd => by
    rcases List.mem_cons.1 hd with rfl | hd
    ·exact hkS
    ·exact hd2 d hd
   have hnd3 : Dnd C (k :: D2) := ⟨List.nodup_cons.2 ⟨hkD, hnd2.1⟩, fun d hd => by
    rcases List.mem_cons.1 hd with rfl | hd
    ·exact hkC
    ·exact hnd2.2 d hd⟩
   have hg := zaJ e C N hok L2 hL2 (k :: D2) (YA W2) hwp hd3 k hkC ti
   have hfl := hnd3.len
   generalize YA W2 = W3 at hp hwp hg
   unfold lkO lkV at hp hg
   rw [hL2] at hp hg
   (repeat' (first | exact trivial | (with_reducible first | apply awA | apply awB | apply awC | apply awF) | ((with_reducible first | apply awn | apply awo | refine awQ ?_); intro r hr; simp only [go_sem, Nat.reduceBEq, Nat.reduceLT, Nat.reduceLeDiff, Nat.reduceAdd, Nat.reduceMul, e5] at hr; subst hr; (first | refine awV ?_ ?_ | refine awW ?_ ?_ | (refine zh (fun h => ?_) (fun h => ?_) <;> (try simp only [go_sem, reduceCtorEq] at h) <;> (try (exfalso; omega))))) | (refine zz [(10000, 10000), (15000, 15000), (15001, 15001), (15002, 15002)] [(10000, 10000), (15000, 15000), (15001, 15001), (15002, 15002)] [15000, 15001, 15002] [10000] ?_; intro r hr; simp only [go_sem, Nat.reduceBEq, Nat.reduceLT] at hr; subst hr; refine zR (hp) rfl rfl (by first | exact .inl rfl | exact .inr rfl) ?_ (.inl rfl) ?_) | (refine zz [(10000, 10000), (15000, 15000), (15001, 15001), (15002, 15002)] [(10000, 10000), (15000, 15000), (15001, 15001), (15002, 15002)] [15000, 15001, 15002] [10000] ?_; intro r hr; simp only [go_sem, Nat.reduceBEq, Nat.reduceLT] at hr; subst hr; refine yQ (hg) rfl rfl (by first | exact .inl rfl | exact .inr rfl) ?_ (.inl rfl) (fun q hq => xI ?_)))) <;> (try omega)
   refine ⟨?_⟩
   obtain ⟨rq, L4, W4⟩ := q
   unfold zaI at hq
   simp only at hq ⊢
   cases hgo : qf e C k L2 ti with
   | error j =>
    rw [hgo] at hq hR2
    obtain ⟨hl4, rfl, hj0⟩ := hq
    simp only [Ui] at hR2
    subst hR2
    have e6 : ((0 : Int) ≤ rq) = True := eq_true hj0
    rw [hl4]
    (repeat' (first | exact trivial | (with_reducible first | apply awA | apply awD | apply awF | apply awG | apply awJ) | ((with_reducible first | apply awn | apply awo | refine awQ ?_ | refine wM ?_); intro r hr; simp only [go_sem, Nat.reduceBEq, Nat.reduceLT, e6] at hr; subst hr; (first | refine awV ?_ ?_ | refine y5 ?_ ?_ | (refine zh (fun h => ?_) (fun h => ?_) <;> (try simp only [go_sem, reduceCtorEq] at h) <;> (try (exfalso; omega))))))) <;> (try omega)
    all_goals first | (refine ⟨(rq, L4, W4), ⟨hl4, rfl, hj0⟩, AV.up_rfl _, ?_⟩; simp only [hl4]; repeat first | exact zo | refine zn rfl ?_) | skip
   | ok L5 =>
    rw [hgo] at hq hR2
    obtain ⟨hl4, rfl, rfl, hw4, hd4⟩ := hq
    simp only at hR2
    rw [hl4]
    (repeat' (first | exact trivial | (with_reducible first | apply awA | apply awC | apply awF | apply awI) | ((with_reducible first | apply awn | apply awo | refine awQ ?_); intro r hr; simp only [go_sem, Nat.reduceBEq, Nat.reduceLT, Int.reduceLE] at hr; subst hr; (first | refine awV ?_ ?_ | (refine zh (fun h => ?_) (fun h => ?_) <;> (try simp only [go_sem, reduceCtorEq] at h) <;> (try (exfalso; omega))))))) <;> (try omega)
    refine ⟨(L4, k :: D2, W4), ?_, ⟨hl4, hw4, hd4, hnd3, ?_⟩, by show C.length - (D2.length + 1) < C.length - D2.length; simp only [List.length_cons] at hfl; omega⟩
    ·simp only [go_sem, Nat.reduceBEq]
     try exact rfl
    ·show Ui e C (N.drop (ti + 1)) ti (vF e C ti (C.length + 1 - (D2.length + 1)) L4 (k :: D2)) = R
     rw [show C.length + 1 - (D2.length + 1) = f by omega]
     exact hR2
 ·have e1 : ((ti : Int) < (N.length : Int)) = False := eq_false (by omega)
  rw [List.drop_of_length_le (by omega)] at hR
  unfold xo at hR
  subst hR
  (repeat' (first | exact trivial | (with_reducible first | apply awA | apply awD | apply awE | apply awF | apply awH | apply awK) | ((with_reducible first | apply awn | refine awQ ?_ | refine wM ?_); intro r hr; simp only [go_sem, Nat.reduceBEq, Nat.reduceLT, e1] at hr; subst hr; (first | refine awV ?_ ?_ | refine y5 ?_ ?_ | (refine zh (fun h => ?_) (fun h => ?_) <;> (try simp only [go_sem, reduceCtorEq] at h) <;> (try (exfalso; omega))))))) <;> (try omega)
  all_goals first | (refine ⟨(-1, L, []), ⟨hL, rfl, rfl⟩, AV.up_rfl _, ?_⟩; simp only [hL]; repeat first | exact zo | refine zn rfl ?_) | skip
end
section
open Go.RowKit
theorem xL {p : Nat → Bool} : ∀ {n i : Nat}, z8 p i n = none ↔ ∀ k, i ≤ k → k < i + n → p k = true
 | 0, i => ⟨fun _ k h1 h2 => by omega, fun _ => rfl⟩
 | n + 1, i => by
  unfold z8
  by_cases h : p i = true
  ·rw [if_pos h, xL]
   exact ⟨fun g k h1 h2 => by
    by_cases hk : k = i
    ·rw [hk]; exact h
    ·exact g k (by omega) (by omega), fun g k h1 h2 => g k (by omega) (by omega)⟩
  ·rw [if_neg h]
   exact ⟨fun g => (by cases g), fun g => absurd (g i (Nat.le_refl _) (by omega)) h⟩
theorem wg {e : Bool} {C : List InsM} {N : List Int} (h : x8 e C N = (0, 0)) : (C.length ≤ 1048576 ∧ N.length ≤ 1048576) ∧ (∀ k, k < C.length → yE e C N k = true) ∧ ∀ n ∈ N, 0 ≤ n ∧ n < C.length := by
 unfold x8 at h
 split at h
 ·simp at h
 ·rename_i hl
  split at h
  ·simp at h
  ·rename_i h1
   split at h
   ·simp at h
   ·rename_i h2
    rw [xL] at h1 h2
    refine ⟨by omega, fun k hk => h1 k (Nat.zero_le _) (by omega), fun n hn => ?_⟩
    obtain ⟨i, hi⟩ := List.mem_iff_getElem?.1 hn
    have := h2 i (Nat.zero_le _) (by have := zG hi; omega)
    rw [show N.getD i 0 = n by simp [List.getD, hi]] at this
    simp only [xA, inF, Bool.and_eq_true, decide_eq_true_eq] at this
    omega
theorem Kb {e : Bool} {C : List InsM} {N : List Int} : x8 e C N = (0, 0) ↔ (C.length ≤ 1048576 ∧ N.length ≤ 1048576) ∧ (∀ k, k < C.length → yE e C N k = true) ∧ ∀ n ∈ N, 0 ≤ n ∧ n < C.length := by
 refine ⟨wg, fun ⟨h1, h2, h3⟩ => ?_⟩
 have g1 : z8 (yE e C N) 0 C.length = none := xL.2 fun k _ hk => h2 k (by omega)
 have g2 : z8 (fun i => xA C.length (N.getD i 0)) 0 N.length = none := xL.2 fun i _ hi => by
  have hi' : i < N.length := by omega
  have := h3 _ (List.getElem_mem hi')
  rw [show N.getD i 0 = N[i] by simp [List.getD, hi']]
  simp only [xA, inF, Bool.and_eq_true, decide_eq_true_eq]
  omega
 unfold x8
 rw [if_neg (by omega), g1, g2]
theorem uu {e : Bool} {C : List InsM} {N : List Int} : (x8 e C N).1 = 0 ↔ x8 e C N = (0, 0) := by
 refine ⟨fun h => ?_, fun h => by rw [h]⟩
 unfold x8 at h ⊢
 split
 ·rw [if_pos (by assumption)] at h; cases h
 ·rw [if_neg (by assumption)] at h
  split
  ·rename_i h1; rw [h1] at h; cases h
  ·rename_i h1
   rw [h1] at h
   split
   ·rename_i h2; simp only [h2] at h; cases h
   ·rfl
theorem xf {e : Bool} {C : List InsM} {N : List Int} {k : Nat} (h : yE e C N k = true) : (yS e (zg C k).op).known = true ∧ kz C.length N.length (bAt (yS e (zg C k).op).has 0) (zg C k).a = true ∧ kz C.length N.length (bAt (yS e (zg C k).op).has 1) (zg C k).b = true ∧
  kz C.length N.length (bAt (yS e (zg C k).op).has 2) (zg C k).c = true ∧ jS (yS e (zg C k).op).name C k (zg C k) = true := by
 unfold yE zaM at h
 simp only [Bool.and_eq_true] at h
 exact ⟨h.1.1, h.1.2.1.1, h.1.2.1.2, h.1.2.2, h.2⟩
theorem zbf {nC nN : Nat} {n : Int} (h : kz nC nN 116 n = true) : 0 ≤ n ∧ n < nC := by
 simp [kz, inF] at h; omega
theorem zbg {nC nN : Nat} {n : Int} (h : kz nC nN 121 n = true) : 0 ≤ n ∧ n < nN := by
 simp [kz, inF] at h; omega
def zaa (op : Int) : Prop := op = 7 ∨ op = 9 ∨ op = 11 ∨ op = 12 ∨ op = 13 ∨ op = 14 ∨ op = 15 ∨ op = 19 ∨ op = 40 ∨ op = 47
theorem qZ {e : Bool} {C : List InsM} {N : List Int} {k : Nat} (h : yE e C N k = true) (ho : zaa (zg C k).op) : 0 ≤ (zg C k).b ∧ (zg C k).b < C.length := by
 obtain ⟨h1, _, h3, _⟩ := xf h
 generalize zg C k = x at *
 unfold zaa at ho
 rcases ho with ho | ho | ho | ho | ho | ho | ho | ho | ho | ho <;> rw [ho] at h1 h3 <;> cases e <;> first
  | exact absurd h1 (by decide)
  | exact zbf h3
theorem k8 {e : Bool} {C : List InsM} {N : List Int} {k : Nat} (h : yE e C N k = true) (ho : (zg C k).op = 16) : e = false ∧ 0 ≤ (zg C k).c ∧ (zg C k).c < N.length := by
 obtain ⟨h1, _, _, h4, _⟩ := xf h
 generalize zg C k = x at *
 rw [ho] at h1 h4
 cases e
 ·exact ⟨rfl, zbg h4⟩
 ·exact absurd h1 (by decide)
theorem Ws {e : Bool} {C : List InsM} {N : List Int} {k : Nat} (h : yE e C N k = true) (ho : (zg C k).op = 2) : (0 ≤ (zg C k).a ∧ (zg C k).a ≤ 63) ∧ 2 ≤ (zg C k).b ∧ (zg C k).b ≤ 64 := by
 obtain ⟨h1, h2, h3, _⟩ := xf h
 generalize zg C k = x at *
 rw [ho] at h1 h2 h3
 cases e
 ·rw [show bAt (yS false 2).has 0 = 75 from rfl] at h2
  rw [show bAt (yS false 2).has 1 = 110 from rfl] at h3
  simp [kz, inF] at h2 h3
  omega
 ·exact absurd h1 (by decide)
theorem k9 : ∀ {l R : List InsM}, y4 l R = true → ∀ y ∈ R, y.op = 9
 | _, [], _, y, hy => by cases hy
 | l, x :: R, h, y, hy => by
  unfold y4 at h
  simp only [Bool.and_eq_true, decide_eq_true_eq] at h
  rcases List.mem_cons.1 hy with rfl | hy
  ·exact h.1.1
  ·exact k9 h.2 y hy
theorem uS {e : Bool} {C : List InsM} {N : List Int} {k : Nat} (h : yE e C N k = true) (ho : (zg C k).op = 8 ∨ (zg C k).op = 41) : 1 ≤ (zg C k).a ∧ (zg C k).a ≤ 64 ∧ k + (zg C k).a < C.length ∧ y4 [] (xE C k (zg C k).a) = true := by
 obtain ⟨h1, h2, _, _, h5⟩ := xf h
 have key : ∀ {op : Int}, (zg C k).op = op → ((yS e op).name = wn ∨ (yS e op).name = wo) → 1 ≤ (zg C k).a ∧ (zg C k).a ≤ 64 ∧ k + (zg C k).a < C.length ∧ y4 [] (xE C k (zg C k).a) = true := fun {op} hop hn => by
  rw [hop] at h2 h5
  rw [Ul hn] at h5
  rw [ZR e op hn] at h2
  simp [kz, inF] at h2
  by_cases hl : (C.length : Int) - k ≤ (zg C k).a
  ·rw [if_pos hl] at h5; cases h5
  ·rw [if_neg hl] at h5; exact ⟨h2.1, h2.2, by omega, h5⟩
 rcases ho with ho | ho
 ·cases e
  ·exact key ho (.inl rfl)
  ·rw [ho] at h1; exact absurd h1 (by decide)
 ·cases e
  ·rw [ho] at h1; exact absurd h1 (by decide)
  ·exact key ho (.inr rfl)
theorem ZT {C : List InsM} {k i : Nat} {a : Int} (hi : (i : Int) < a) (hk : (k : Int) + a < C.length) : (xE C k a)[i]? = some (zg C (k + 1 + i)) := by
 unfold xE
 rw [List.getElem?_drop, List.getElem?_take_of_lt (by omega), List.getElem?_eq_getElem (by omega)]
 simp [zg, List.getD, show k + 1 + i < C.length by omega]
theorem Un {C : List InsM} {k i : Nat} (h : k + 1 + i < C.length) : ((C[k + 1 + i]?).map (·.b)).getD 0 = (zg C (k + 1 + i)).b := by
 simp [zg, List.getD, h]
theorem w9 {e : Bool} {C : List InsM} {N : List Int} (hr : ∀ k, k < C.length → yE e C N k = true) {k : Nat} (hk : k < C.length) : ∀ j ∈ zO C k (zg C k), 0 ≤ j ∧ (j < C.length ∨ j = (k : Int) + 1) := by
 intro j hj
 have h := hr k hk
 unfold zO at hj
 split at hj
 ·rename_i ho
  simp at hj
  have := qZ h (by unfold zaa; simp [ho])
  omega
 ·split at hj
  ·cases hj
  ·split at hj
   ·rename_i ho
    obtain ⟨h1, h2, h3, h4⟩ := uS h ho
    obtain ⟨i, hi, rfl⟩ := List.mem_map.1 hj
    rw [List.mem_range] at hi
    have hlt : k + 1 + i < C.length := by omega
    rw [Un hlt]
    have h9 := k9 h4 _ (List.mem_of_getElem? (ZT (i := i) (by omega) h3))
    have := qZ (hr _ hlt) (by unfold zaa; simp [h9])
    omega
   ·split at hj
    ·rename_i ho
     have : zaa (zg C k).op := by unfold zaa; omega
     have := qZ h this
     simp at hj
     omega
    ·simp at hj
     omega
theorem uv {e : Bool} {C : List InsM} {N : List Int} (h : x8 e C N = (0, 0)) : CodeOK C N := by
 obtain ⟨⟨h1, h2⟩, hr, hN⟩ := wg h
 refine ⟨h1, h2, fun k hk ho => ?_, fun k hk ho => ?_, fun k hk j hj => (w9 hr hk j hj).1, fun k hk ho => (k8 (hr k hk) ho).2, hN⟩
 ·have := Ws (hr k hk) ho; omega
 ·have := uS (hr k hk) ho; omega
end
section
open Go.RowKit
def Ext (L L' : LkM) : Prop := L'.length = L.length ∧ ∀ k s, L.getD k none = some s → L'.getD k none = some s
theorem Ext.refl (L : LkM) : Ext L L := ⟨rfl, fun _ _ h => h⟩
theorem Ext.trans {a b c : LkM} (h : Ext a b) (g : Ext b c) : Ext a c := ⟨g.1.trans h.1, fun k s hk => g.2 k s (h.2 k s hk)⟩
theorem Ext.some {L L' : LkM} (h : Ext L L') {k : Nat} (hk : (L.getD k none).isSome = true) : (L'.getD k none).isSome = true := by
 cases hs : L.getD k none with
 | none => rw [hs] at hk; cases hk
 | some s => rw [h.2 k s hs]; rfl
theorem Ext.st {L L' : LkM} (h : Ext L L') {k : Nat} (hk : (L.getD k none).isSome = true) : wK L' k = wK L k := by
 unfold wK
 cases hs : L.getD k none with
 | none => rw [hs] at hk; cases hk
 | some s => rw [h.2 k s hs]
theorem uE {e : Bool} {C : List InsM} {L L' : LkM} {k : Nat} {s : StM} {t : Int} (hk : k < L.length) (h : xF e C L k s t = .some L') : Ext L L' ∧ (L'.getD k none).isSome = true := by
 unfold xF at h
 split at h
 ·rename_i hn
  injection h with h
  subst h
  refine ⟨⟨by simp, fun j s' hj => ?_⟩, by simp [List.getD, hk]⟩
  by_cases hjk : k = j
  ·subst hjk; rw [hn] at hj; cases hj
  ·simp only [List.getD, List.getElem?_set_ne hjk] at hj ⊢; exact hj
 ·rename_i s0 hs
  split at h
  ·injection h with h; subst h; exact ⟨Ext.refl _, by rw [hs]; rfl⟩
  ·split at h
   ·injection h with h; subst h; exact ⟨Ext.refl _, by rw [hs]; rfl⟩
   ·cases h
theorem Z4 {e : Bool} {C : List InsM} {t : Int} {E : EfM} {arms : Bool} : ∀ {ks : List Int} {w : Nat} {L L' : LkM}, (∀ j ∈ ks, j.toNat < L.length) → handS e C t E arms ks w L = .ok L' → Ext L L' ∧ ∀ j ∈ ks, (L'.getD j.toNat none).isSome = true
 | [], w, L, L', _, h => by
  unfold handS at h
  injection h with h
  subst h
  exact ⟨Ext.refl _, fun j hj => by cases hj⟩
 | k :: ks, w, L, L', hlt, h => by
  unfold handS at h
  split at h
  ·cases h
  ·rename_i L1 h1
   obtain ⟨g1, g2⟩ := uE (hlt k (.head _)) h1
   obtain ⟨g3, g4⟩ := Z4 (fun j hj => by rw [g1.1]; exact hlt j (.tail _ hj)) h
   refine ⟨g1.trans g3, fun j hj => ?_⟩
   rcases List.mem_cons.1 hj with rfl | hj
   ·exact g3.some g2
   ·exact g4 j hj
structure FirstI (e : Bool) (C : List InsM) (t : Int) (L : LkM) (D : List Nat) : Prop where
 len : L.length = C.length
 nd : D.Nodup
 dok : ∀ k ∈ D, k < C.length ∧ (L.getD k none).isSome = true
 cl : ∀ k ∈ D, ∀ j ∈ zO C k (zg C k), j < C.length ∧ (L.getD j.toNat none).isSome = true
 st : ∀ k ∈ D, ∃ t' ≤ t, (z9 e (zg C k) (wK L k) t').2 = true
theorem FirstI.hand {e : Bool} {C : List InsM} {t : Int} {L L' : LkM} {D : List Nat} (h : FirstI e C t L D) (hx : Ext L L') : FirstI e C t L' D :=
 ⟨hx.1.trans h.len, h.nd, fun k hk => ⟨(h.dok k hk).1, hx.some (h.dok k hk).2⟩, fun k hk j hj => ⟨(h.cl k hk j hj).1, hx.some (h.cl k hk j hj).2⟩, fun k hk => by
  obtain ⟨t', h1, h2⟩ := h.st k hk
  exact ⟨t', h1, by rw [hx.st (h.dok k hk).2]; exact h2⟩⟩
theorem FirstI.up {e : Bool} {C : List InsM} {t t' : Int} {L : LkM} {D : List Nat} (h : FirstI e C t L D) (ht : t ≤ t') : FirstI e C t' L D := ⟨h.len, h.nd, h.dok, h.cl, fun k hk => by
 obtain ⟨t0, h1, h2⟩ := h.st k hk
 exact ⟨t0, Int.le_trans h1 ht, h2⟩⟩
theorem FirstI.dlen {e : Bool} {C : List InsM} {t : Int} {L : LkM} {D : List Nat} (h : FirstI e C t L D) : D.length ≤ C.length := yV h.nd fun k hk => (h.dok k hk).1
def UK (C : List InsM) : Prop := ∀ k, k < C.length → ∀ j ∈ zO C k (zg C k), 0 ≤ j
theorem XE {e : Bool} {C : List InsM} (hp : UK C) {t : Int} {L L' : LkM} {D : List Nat} {k : Nat} (h : FirstI e C t L D) (hk : k < C.length) (hs : (L.getD k none).isSome = true) (hD : k ∉ D) (hg : qf e C k L t = .ok L') : FirstI e C t L' (k :: D) ∧ Ext L L' := by
 unfold qf at hg
 dsimp only at hg
 split at hg
 ·cases hg
 ·rename_i hn
  simp only [not_or, Bool.not_eq_false, Bool.not_eq_true] at hn
  obtain ⟨h1, h2⟩ := hn
  have hlt : ∀ j ∈ zO C k (zg C k), j < C.length := fun j hj => by
   have := List.any_eq_false.1 h2 j hj
   simpa using this
  obtain ⟨g1, g2⟩ := Z4 (fun j hj => by have := hlt j hj; have := hp k hk j hj; rw [h.len]; omega) hg
  have hh := h.hand g1
  refine ⟨⟨hh.len, List.nodup_cons.2 ⟨hD, h.nd⟩, fun j hj => ?_, fun j hj i hi => ?_, fun j hj => ?_⟩, g1⟩
  ·rcases List.mem_cons.1 hj with rfl | hj
   ·exact ⟨hk, g1.some hs⟩
   ·exact hh.dok j hj
  ·rcases List.mem_cons.1 hj with rfl | hj
   ·exact ⟨hlt i hi, g2 i hi⟩
   ·exact hh.cl j hj i hi
  ·rcases List.mem_cons.1 hj with rfl | hj
   ·exact ⟨t, Int.le_refl _, by rw [g1.st hs]; exact h1⟩
   ·exact hh.st j hj
theorem uX {L : LkM} {D : List Nat} {k : Nat} (h : vE L D = some k) : k < L.length ∧ (L.getD k none).isSome = true ∧ k ∉ D := by
 unfold vE at h
 have h1 := List.find?_some h
 have h2 := List.mem_of_find?_eq_some h
 rw [List.mem_range] at h2
 unfold yM at h1
 simp only [Bool.and_eq_true, Bool.not_eq_true', decide_eq_false_iff_not] at h1
 exact ⟨h2, h1.1, h1.2⟩
theorem Ww {L : LkM} {D : List Nat} (h : vE L D = none) {k : Nat} (hk : (L.getD k none).isSome = true) : k ∈ D := by
 unfold vE at h
 rw [List.find?_eq_none] at h
 have hlt : k < L.length := by
  rcases Nat.lt_or_ge k L.length with h' | h'
  ·exact h'
  ·simp [List.getD, List.getElem?_eq_none h'] at hk
 have := h k (List.mem_range.2 hlt)
 unfold yM at this
 rw [hk] at this
 simpa using this
theorem qz {e : Bool} {C : List InsM} (hp : UK C) {t : Int} : ∀ {f : Nat} {L L' : LkM} {D D' : List Nat}, FirstI e C t L D → C.length + 1 ≤ f + D.length → vF e C t f L D = .ok (L', D') → FirstI e C t L' D' ∧ Ext L L' ∧ ∀ k, (L'.getD k none).isSome = true → k ∈ D'
 | 0, L, L', D, D', h, hf, _ => by have := h.dlen; omega
 | f + 1, L, L', D, D', h, hf, hl => by
  unfold vF at hl
  split at hl
  ·rename_i hn
   injection hl with hl
   injection hl with h1 h2
   subst h1
   subst h2
   exact ⟨h, Ext.refl _, fun k hk => Ww hn hk⟩
  ·rename_i k hn
   obtain ⟨h1, h2, h3⟩ := uX hn
   rw [h.len] at h1
   split at hl
   ·cases hl
   ·rename_i L1 hg
    obtain ⟨g1, g2⟩ := XE hp h h1 h2 h3 hg
    obtain ⟨g3, g4, g5⟩ := qz hp g1 (by rw [List.length_cons]; omega) hl
    exact ⟨g3, g2.trans g4, g5⟩
theorem vf {e : Bool} {C : List InsM} (hp : UK C) : ∀ {N : List Int} {t : Int} {L L' : LkM} {D D' : List Nat}, (∀ n ∈ N, 0 ≤ n ∧ n < C.length) → FirstI e C t L D → (∀ k, (L.getD k none).isSome = true → k ∈ D) → xo e C N t L D = .ok (L', D') →
  (∃ t', FirstI e C t' L' D' ∧ t' ≤ t + N.length) ∧ Ext L L' ∧ (∀ k, (L'.getD k none).isSome = true → k ∈ D') ∧ ∀ (i : Nat) (n : Int), N[i]? = some n → (L'.getD n.toNat none).isSome = true ∧ ∃ L1 D1, FirstI e C (t + i) L1 D1 ∧ (∀ k, (L1.getD k none).isSome = true → k ∈ D1) ∧ (L1.getD n.toNat none).isSome = true
 | [], t, L, L', D, D', _, h, ha, hf => by
  unfold xo at hf
  injection hf with hf
  injection hf with h1 h2
  subst h1
  subst h2
  exact ⟨⟨t, h, by simp⟩, Ext.refl _, ha, fun i n hi => by simp at hi⟩
 | n :: ns, t, L, L', D, D', hN, h, ha, hf => by
  unfold xo at hf
  split at hf
  ·cases hf
  ·rename_i L1 h1
   have hn := hN n (.head _)
   obtain ⟨g1, g2⟩ := uE (by rw [h.len]; omega) h1
   split at hf
   ·cases hf
   ·rename_i L2 D2 h2
    obtain ⟨g3, g4, g5⟩ := qz hp (h.hand g1) (by have := h.dlen; omega) h2
    obtain ⟨⟨t', q1, q2⟩, q3, q4, q5⟩ := vf hp (fun m hm => hN m (.tail _ hm)) (g3.up (by omega : t ≤ t + 1)) g5 hf
    refine ⟨⟨t', q1, by rw [List.length_cons]; omega⟩, (g1.trans g4).trans q3, q4, fun i m hi => ?_⟩
    cases i with
    | zero =>
     simp only [List.getElem?_cons_zero, Option.some.injEq] at hi
     subst hi
     exact ⟨(g4.trans q3).some g2, L2, D2, by simpa using g3, g5, g4.some g2⟩
    | succ i =>
     obtain ⟨r1, L3, D3, r2, r3⟩ := q5 i m (by simpa using hi)
     exact ⟨r1, L3, D3, by rw [show t + ((i + 1 : Nat) : Int) = t + 1 + i by omega]; exact r2, r3⟩
theorem FirstI.init (e : Bool) (C : List InsM) : FirstI e C 0 (List.replicate C.length none) [] := ⟨by simp, List.nodup_nil, fun _ h => (by cases h), fun _ h => (by cases h), fun _ h => (by cases h)⟩
theorem xW (C : List InsM) (k : Nat) : ((List.replicate C.length (none : Option StM)).getD k none).isSome = false := by
 simp only [List.getD, List.getElem?_replicate]
 split <;> rfl
theorem Wx {x : InsM} {s : StM} {t : Int} (h : (z9 false x s t).2 = true) (ho : x.op = 16) : x.c < t := by
 unfold z9 vC at h
 simp only [reduceCtorEq, if_false] at h
 rw [if_pos ho] at h
 split at h
 ·cases h
 ·omega
theorem kc {e : Bool} {C : List InsM} {N : List Int} (hc : x8 e C N = (0, 0)) {L : LkM} {D : List Nat} (h : xc e C N = .ok (L, D)) : uD C N := by
 obtain ⟨_, hr, hN⟩ := wg hc
 have hp : UK C := fun k hk j hj => (w9 hr hk j hj).1
 intro t n hn
 obtain ⟨_, _, _, h4⟩ := vf hp hN (FirstI.init e C) (fun k hk => by rw [xW] at hk; cases hk) h
 obtain ⟨_, L1, D1, g1, g2, g3⟩ := h4 t n hn
 refine ⟨fun k => k ∈ D1, g2 _ g3, fun B hB => ⟨fun k hk => (g1.dok k hk).1, fun k hk j hj => ?_, fun k hk ho => ?_⟩⟩
 ·exact ⟨hp k (g1.dok k hk).1 j hj, g2 _ (g1.cl k hk j hj).2⟩
 ·obtain ⟨he, h0, _⟩ := k8 (hr k (g1.dok k hk).1) ho
  subst he
  obtain ⟨t', h1, h2⟩ := g1.st k hk
  have := Wx h2 ho
  omega
end
section
open Go.RowKit
theorem kS {e : Bool} {x : InsM} {s : StM} {t t' : Int} (h : (z9 e x s t).2 = true) (ht : t ≤ t') : z9 e x s t' = z9 e x s t := by
 unfold z9 at h ⊢
 cases e with
 | true =>
  rw [if_pos rfl] at h
  rw [if_pos rfl, if_pos rfl]
  unfold vd at h ⊢
  dsimp only at h ⊢
  by_cases ho : x.op = 44 ∨ x.op = 45 ∨ x.op = 46
  ·rw [if_pos ho] at h
   rw [if_pos ho, if_pos ho]
   by_cases hc : t ≤ x.c
   ·rw [if_pos hc] at h; cases h
   ·rw [if_neg hc, if_neg (by omega)]
  ·rw [if_neg ho, if_neg ho]
 | false =>
  rw [if_neg (by decide)] at h
  rw [if_neg (by decide), if_neg (by decide)]
  unfold vC at h ⊢
  dsimp only at h ⊢
  by_cases h16 : x.op = 16
  ·rw [if_pos h16] at h
   rw [if_pos h16, if_pos h16]
   by_cases hc : t ≤ x.c
   ·rw [if_pos hc] at h; cases h
   ·rw [if_neg hc, if_neg (by omega)]
  ·rw [if_neg h16, if_neg h16]
   by_cases h17 : x.op = 17
   ·simp only [h17, Int.reduceEq, or_self, if_false, if_true] at h ⊢
    by_cases hc : t ≤ x.c
    ·rw [if_pos hc] at h; cases h
    ·rw [if_neg hc, if_neg (by omega)]
   ·simp only [h17, if_false]
end
section
open Go.RowKit
theorem kf {n : Nat} (h : n ≠ 0) : n &&& (n - 1) < n := by
 have := Nat.and_le_right (n := n) (m := n - 1)
 omega
def Wy (n : Nat) : Nat := if h : n = 0 then 0 else Wy (n &&& (n - 1)) + 1
termination_by n
decreasing_by exact kf h
theorem KM : Wy 0 = 0 := by rw [Wy]; simp
theorem XF {n : Nat} (h : n ≠ 0) : Wy n = Wy (n &&& (n - 1)) + 1 := by rw [Wy]; simp [h]
theorem Kk (m : Nat) : (2 * m) &&& (2 * m - 1) = 2 * (m &&& (m - 1)) := by
 apply Nat.eq_of_testBit_eq
 intro i
 rcases Nat.eq_zero_or_pos m with h0 | h0
 ·subst h0; simp
 ·have h1 : 2 * m - 1 = 2 * (m - 1) + 1 := by omega
  rw [h1]
  cases i with
  | zero => simp [Nat.testBit_zero, Nat.mul_mod_right]
  | succ i =>
   rw [Nat.testBit_and, Nat.testBit_succ, Nat.testBit_succ, Nat.testBit_succ, show 2 * m / 2 = m by omega, show (2 * (m - 1) + 1) / 2 = m - 1 by omega, show 2 * (m &&& (m - 1)) / 2 = m &&& (m - 1) by omega, Nat.testBit_and]
theorem JX (m : Nat) : (2 * m + 1) &&& (2 * m + 1 - 1) = 2 * m := by
 rw [Nat.add_sub_cancel]
 apply Nat.eq_of_testBit_eq
 intro i
 cases i with
 | zero => simp [Nat.testBit_zero]
 | succ i => rw [Nat.testBit_and, Nat.testBit_succ, Nat.testBit_succ, show (2 * m + 1) / 2 = m by omega, show 2 * m / 2 = m by omega, Bool.and_self]
theorem Z5 (m : Nat) : Wy (2 * m) = Wy m := by
 induction m using Nat.strongRecOn with
 | ind m ih =>
  by_cases h0 : m = 0
  ·subst h0; rfl
  ·rw [XF (by omega), XF h0, Kk, ih _ (kf h0)]
theorem UL : ∀ (k n : Nat), n < 2 ^ k → Wy n ≤ k
 | 0, n, h => by
  have : n = 0 := by simpa using h
  subst this
  rw [KM]
  exact Nat.le_refl _
 | k + 1, n, h => by
  have h2 : n / 2 < 2 ^ k := by rw [Nat.pow_succ] at h; omega
  have ih := UL k (n / 2) h2
  rcases Nat.mod_two_eq_zero_or_one n with h0 | h0
  ·rw [show n = 2 * (n / 2) by omega, Z5]; omega
  ·rw [show n = 2 * (n / 2) + 1 by omega, XF (by omega), JX, Z5]; omega
def xY (x : Int) : Nat := (x % 18446744073709551616).toNat
theorem wH (x : Int) : xY x < 18446744073709551616 := by unfold xY; omega
theorem xO (x : Int) : (BitVec.ofInt 64 x).toNat = xY x := by
 rw [BitVec.toNat_ofInt]; rfl
theorem Z6 (k : Int) : bits .and .u64 k (IntKind.u64.wrap (k - 1)) = ((xY k &&& xY (k - 1) : Nat) : Int) := by
 have h1 : xY (IntKind.u64.wrap (k - 1)) = xY (k - 1) := by rw [IntKind.wrap_u64]; unfold xY; omega
 have hx : xY k &&& xY (k - 1) < 2 ^ 64 := Nat.and_lt_two_pow _ (wH _)
 show IntKind.u64.wrap ((BitVec.ofInt 64 k &&& BitVec.ofInt 64 (IntKind.u64.wrap (k - 1))).toNat : Int) = _
 rw [BitVec.toNat_and, xO, xO, h1, IntKind.wrap_u64]
 omega
theorem Kl {n : Nat} (h0 : n ≠ 0) (h : n < 18446744073709551616) : xY n &&& xY ((n : Int) - 1) = n &&& (n - 1) := by
 have h1 : xY n = n := by unfold xY; omega
 have h2 : xY ((n : Int) - 1) = n - 1 := by unfold xY; omega
 rw [h1, h2]
def kg (k : Int) : Nat := if k = 0 then 0 else Wy (xY k &&& xY (k - 1)) + 1
theorem XG {n : Nat} (h : n < 18446744073709551616) : kg n = Wy n := by
 unfold kg
 by_cases h0 : n = 0
 ·subst h0; rw [KM]; rfl
 ·rw [if_neg (by omega), Kl h0 h, ← XF h0]
theorem UM (k : Int) : kg k ≤ 65 := by
 unfold kg
 split
 ·omega
 ·have := UL 64 (xY k &&& xY (k - 1)) (Nat.and_lt_two_pow _ (wH _))
  omega
def wr (s : StM) : Int :=
 if s.place = 4 then 1 else if s.place = 1 ∨ s.place = 3 then 2 else if s.place = 2 then 2 + kg s.kids
 else if s.place = 6 then IntKind.i64.wrap (1 + s.left) else if s.place = 7 then 66 else 0
theorem UN (s : StM) : zQ Tryz.prog 15 [vSt s] (fun r => r = vI (wr s)) := by
 obtain ⟨p, k, t, q, f, l⟩ := s
 unfold wr
 dsimp only
 by_cases h2 : p = 2
 ·subst h2
  simp only [Int.reduceEq, if_false, or_self, if_true]
  have hb := UM k
  refine zE (zb _) Tryz.func15 rfl rfl (by rw [Tryz.results15]) Tryz.ntmps15 rfl fun E => ?_
  (repeat' (first | exact trivial | (with_reducible first | apply awA | apply awB | apply awF) | ((with_reducible first | apply awn | refine awQ ?_); intro r hr; simp only [go_sem, Nat.reduceBEq, Nat.reduceLT, Nat.reduceLeDiff, Nat.reduceAdd, Nat.reduceMul, Int.reduceEq] at hr; subst hr; (first | refine awV ?_ ?_ | (refine zh (fun h => ?_) (fun h => ?_) <;> (try simp only [go_sem, reduceCtorEq] at h) <;> (try (exfalso; omega))))))) <;> (try omega)
  refine zI [3, 4] [] (fun x : Nat × Int => ⟨[(3, true, vI x.1), (4, true, .v (.int .u64 x.2))], []⟩) (fun x => (x.1 : Int) + kg x.2 = 2 + kg k ∧ x.1 ≤ 67) (fun x => kg x.2) (2, k) (by simp only [go_sem, Nat.reduceBEq] <;> exact rfl) ⟨rfl, by omega⟩ ?_
  intro ⟨n, z⟩ ⟨h1, h2⟩
  simp only at h1 h2 ⊢
  have hw := zy (n := (n : Int) + 1) (by omega)
  by_cases hz : z = 0
  ·have ez : (z = 0) = True := eq_true hz
   subst hz
   have : kg 0 = 0 := rfl
   rw [this] at h1
   rw [← h1]
   (repeat' (first | exact trivial | (with_reducible first | apply awA | apply awD | apply awE | apply awF | apply awG | apply awH | apply awJ | apply awK) | ((with_reducible first | apply awn | refine awQ ?_ | refine awR ?_); intro r hr; simp only [go_sem, Nat.reduceBEq, Nat.reduceLT] at hr; subst hr; (first | refine awV ?_ ?_ | refine zM ?_ ?_ | (refine zh (fun h => ?_) (fun h => ?_) <;> (try simp only [go_sem, reduceCtorEq] at h) <;> (try (exfalso; omega))))))) <;> (try omega)
   all_goals first | (show AV.v _ = AV.v _; simp) | skip
  ·have ez : (z = 0) = False := eq_false hz
   have hc : kg z = Wy (xY z &&& xY (z - 1)) + 1 := by unfold kg; rw [if_neg hz]
   have hlt : xY z &&& xY (z - 1) < 18446744073709551616 := Nat.lt_of_le_of_lt Nat.and_le_left (wH z)
   have hn := XG hlt
   have hbs := Z6 z
   generalize xY z &&& xY (z - 1) = z' at hc hlt hn hbs
   (repeat' (first | exact trivial | (with_reducible first | apply awA | apply awB | apply awC | apply awF | apply awI) | ((with_reducible first | apply awn | refine awQ ?_); intro r hr; simp only [go_sem, Nat.reduceBEq, Nat.reduceLT, ez, hw, hbs] at hr; subst hr; (first | refine awV ?_ ?_ | (refine zh (fun h => ?_) (fun h => ?_) <;> (try simp only [go_sem, reduceCtorEq] at h) <;> (try (exfalso; omega))))))) <;> (try omega)
   refine ⟨(n + 1, (z' : Int)), ?_, ⟨by show ((n + 1 : Nat) : Int) + kg z' = _; omega, by show n + 1 ≤ 67; omega⟩, by show kg z' < kg z; omega⟩
   simp only [Int.natCast_add, Int.cast_ofNat_Int, go_sem, Nat.reduceBEq]
   try exact rfl
 ·have e2 : (p = 2) = False := eq_false h2
  simp only [e2, if_false]
  refine zE (zb _) Tryz.func15 rfl rfl (by rw [Tryz.results15]) Tryz.ntmps15 rfl fun E => ?_
  (repeat' (first | exact trivial | (with_reducible first | apply awA | apply awB | apply awC | apply awD | apply awF | apply awG | apply awI | apply awJ) | ((with_reducible first | apply awn | refine awQ ?_ | refine awR ?_); intro r hr; simp only [go_sem, Nat.reduceBEq, Nat.reduceLT, Nat.reduceLeDiff, Nat.reduceAdd, Nat.reduceMul, e2] at hr; subst hr; (first | refine awV ?_ ?_ | refine zM ?_ ?_ | (refine zh (fun h => ?_) (fun h => ?_) <;> (try simp only [go_sem, reduceCtorEq] at h) <;> (try (exfalso; omega))))))) <;> (try omega)
  all_goals first | (simp_all; done) | (simp_all; rfl) | skip
end
section
open Go.RowKit
noncomputable def vZ (e : Bool) (C : List InsM) (N : List Int) : Int × Int :=
 if (x8 e C N).1 ≠ 0 then x8 e C N
 else match xc e C N with
  | .error j => (150, j)
  | .ok _ => if 0 ≤ YV e C N then (150, YV e C N) else (0, 0)
def vg (L : LkM) : List Int := L.map fun s => match s with | some s => wr s | none => -1
noncomputable def shF (e : Bool) (C : List InsM) (N : List Int) : List Int :=
 if (vZ e C N).1 ≠ 0 then []
 else match xc e C N with
  | .error _ => []
  | .ok r => vg r.1
theorem jW (n : Nat) : (List.replicate n [vI 0, .v (.int .u64 0), vI 0, vI 0, vI 0, vI 0] : List (List AV)) = yk (List.replicate n none) := by simp [yk, Zu, StM.zero]
theorem jX (n : Nat) : (List.replicate n [vB false] : List (List AV)) = yl (List.replicate n none) := by simp [yl]
theorem jc (e : Bool) (C : List InsM) (N : List Int) (hC : C.length ≤ 140737488355328) (hN : N.length ≤ 140737488355328) (hv : (vZ e C N).1 ≠ 0) :
  yb Tryz.prog 14 [pG e C N] [] (.tup [.v (.pointer none), vFa (vZ e C N)]) [] := by
 have hck := ZS e C N hC hN
 unfold vZ at hv ⊢
 by_cases hc : (x8 e C N).1 = 0
 ·have hc0 := uu.1 hc
  have hok := uv hc0
  have hl := hok.len
  rw [if_neg (by simpa using hc)] at hv ⊢
  rw [hc0] at hck
  have fe := Uj e C N hok
  unfold lkO lkV at fe
  simp only [List.length_replicate, List.length_nil] at fe
  have hr1 := jW C.length
  have hr2 := jX C.length
  have sec := fun hlk => XD e C N hok hlk
  have hlk : ∀ r, xc e C N = .ok r → uD C N := fun r h => kc hc0 h
  generalize xc e C N = R at fe hv hlk ⊢
  generalize yk (List.replicate C.length none) = rows1 at fe hr1
  generalize yl (List.replicate C.length none) = rows2 at fe hr2
  unfold pG at *
  cases R with
  | error j =>
   dsimp only
   refine zJ (zb _) Tryz.func14 rfl rfl (by rw [Tryz.results14]) Tryz.ntmps14 rfl fun E => ?_
   (repeat' (first | exact trivial | (refine kh 23 5 3 1 15002 (.inr (by decide)) (by decide) rfl rfl ?_) | (with_reducible first | apply awA | apply awC | apply awF) | (refine zA (id := 4) (t := (.node [0, 1, 2, 3, 5, 6, 7] [(.node [4, 8, 9, 10, 11] []), (.node [8, 4, 9, 10, 11] [])])) (drR [1] [] []) zH (by kernel_rfl) (by kernel_rfl) (fun _ _ h => h) ?_) | (refine zB (by simp only [go_sem]; exact rfl) ?_) | (refine zD (by simp only [go_sem]; exact rfl) ?_) | refine zl ?_ | refine zq ?_ ?_ | exact zC | ((with_reducible first | apply awn | apply awo | apply awp | refine awQ ?_); intro r hr; simp only [go_sem, Nat.reduceBEq, Nat.reduceLT, Nat.reduceLeDiff, Nat.reduceAdd, Nat.reduceMul, zd, AState.nilvar, hr1, hr2, Int.cast_ofNat_Int] at hr; subst hr; (first | refine caA (fun _ => hck) rfl ?_ ?_ ?_ | refine awV ?_ ?_ | refine awW ?_ ?_ | (refine zh (fun h => ?_) (fun h => ?_) <;> (try simp only [go_sem, reduceCtorEq] at h) <;> (try (exfalso; omega))))) | (refine zz [(23, 10000), (17, 15000), (21, 15001), (15002, 15002)] [(10000, 23), (15000, 17), (15001, 21), (15002, 15002)] [17, 21, 15002] [23] ?_; intro r hr; simp only [go_sem, Nat.reduceBEq, Nat.reduceLT] at hr; subst hr; refine yQ (fe) rfl rfl (by first | exact .inl rfl | exact .inr rfl) ?_ (.inl rfl) (fun q hq => xI ?_)))) <;> (try omega)
   all_goals
    refine ⟨?_⟩
    obtain ⟨r, L, W⟩ := q
    obtain ⟨_, rfl, h0⟩ := hq
    have e1 : (r < 0) = False := eq_false (by omega)
    have e2 : (r ≥ 0) = True := eq_true h0
    (repeat' (first | exact trivial | (with_reducible first | apply awA | apply awC | apply awD | apply awF | apply awG) | ((with_reducible first | apply awn | apply awo | refine awQ ?_ | refine awT ?_); intro r hr; simp only [go_sem, Nat.reduceBEq, Nat.reduceLT, Nat.reduceLeDiff, Nat.reduceAdd, Nat.reduceMul, e1, e2] at hr; subst hr; (first | refine awV ?_ ?_ | refine zP ?_ ?_ ?_ | (refine zh (fun h => ?_) (fun h => ?_) <;> (try simp only [go_sem, reduceCtorEq] at h) <;> (try (exfalso; omega))))))) <;> (try omega)
    all_goals first | exact AV.up_rfl _ | exact zo
  | ok r0 =>
   dsimp only at hv ⊢
   have hs0 : 0 ≤ YV e C N := by
    by_cases h : 0 ≤ YV e C N
    ·exact h
    ·rw [if_neg h] at hv; exact absurd rfl hv
   rw [if_pos hs0]
   have sec' := sec (hlk _ rfl)
   have hsp := uC e C N
   generalize YV e C N = sr at hs0 hsp ⊢
   have e1 : ((-1 : Int) < 0) = True := eq_true (by decide)
   have e2 : (sr ≥ 0) = True := eq_true hs0
   clear hlk sec hv
   refine zJ (zb _) Tryz.func14 rfl rfl (by rw [Tryz.results14]) Tryz.ntmps14 rfl fun E => ?_
   (repeat' (first | exact trivial | (refine kh 23 5 3 1 15002 (.inr (by decide)) (by decide) rfl rfl ?_) | (with_reducible first | apply awA | apply awC | apply awF) | (refine zA (id := 4) (t := (.node [0, 1, 2, 3, 5, 6, 7] [(.node [4, 8, 9, 10, 11] []), (.node [8, 4, 9, 10, 11] [])])) (drR [1] [] []) zH (by kernel_rfl) (by kernel_rfl) (fun _ _ h => h) ?_) | (refine zB (by simp only [go_sem]; exact rfl) ?_) | (refine zD (by simp only [go_sem]; exact rfl) ?_) | refine zl ?_ | refine zq ?_ ?_ | exact zC | ((with_reducible first | apply awn | apply awo | apply awp | refine awQ ?_); intro r hr; simp only [go_sem, Nat.reduceBEq, Nat.reduceLT, Nat.reduceLeDiff, Nat.reduceAdd, Nat.reduceMul, zd, AState.nilvar, hr1, hr2, Int.cast_ofNat_Int] at hr; subst hr; (first | refine caA (fun _ => hck) rfl ?_ ?_ ?_ | refine awV ?_ ?_ | refine awW ?_ ?_ | (refine zh (fun h => ?_) (fun h => ?_) <;> (try simp only [go_sem, reduceCtorEq] at h) <;> (try (exfalso; omega))))) | (refine zz [(23, 10000), (17, 15000), (21, 15001), (15002, 15002)] [(10000, 23), (15000, 17), (15001, 21), (15002, 15002)] [17, 21, 15002] [23] ?_; intro r hr; simp only [go_sem, Nat.reduceBEq, Nat.reduceLT] at hr; subst hr; refine yQ (fe) rfl rfl (by first | exact .inl rfl | exact .inr rfl) ?_ (.inl rfl) (fun q hq => xI ?_)))) <;> (try omega)
   all_goals
    refine ⟨?_⟩
    obtain ⟨r, L, W⟩ := q
    obtain ⟨_, rfl, rfl⟩ := hq
    (repeat' (first | exact trivial | (with_reducible first | apply awA | apply awF) | ((with_reducible first | apply awn | apply awo | refine awQ ?_); intro r hr; simp only [go_sem, Nat.reduceBEq, Nat.reduceLT, Nat.reduceLeDiff, Nat.reduceAdd, Nat.reduceMul, e1] at hr; subst hr; (first | refine awV ?_ ?_ | refine awW ?_ ?_ | (refine zh (fun h => ?_) (fun h => ?_) <;> (try simp only [go_sem, reduceCtorEq] at h) <;> (try (exfalso; omega))))) | (refine zz [] [] [] [] ?_; intro r hr; simp only [go_sem, Nat.reduceBEq, Nat.reduceLT] at hr; subst hr; refine yQ (sec') rfl rfl (by first | exact .inl rfl | exact .inr rfl) ?_ (.inl rfl) (fun q hq => xI ?_)))) <;> (try omega)
    refine ⟨?_⟩
    have hqq := hq.uniq hsp
    subst hqq
    (repeat' (first | exact trivial | (with_reducible first | apply awA | apply awD | apply awF | apply awG) | ((with_reducible first | apply awn | apply awo | refine awQ ?_ | refine awT ?_); intro r hr; simp only [go_sem, Nat.reduceBEq, Nat.reduceLT, Nat.reduceLeDiff, Nat.reduceAdd, Nat.reduceMul, e2] at hr; subst hr; (first | refine awV ?_ ?_ | refine zP ?_ ?_ ?_ | (refine zh (fun h => ?_) (fun h => ?_) <;> (try simp only [go_sem, reduceCtorEq] at h) <;> (try (exfalso; omega))))))) <;> (try omega)
    all_goals first | exact AV.up_rfl _ | exact zo
 ·rw [if_pos (by simpa using hc)] at hv ⊢
  generalize x8 e C N = ch at hck hc ⊢
  obtain ⟨c1, c2⟩ := ch
  have e1 : (c1 = 0) = False := eq_false hc
  unfold pG at *
  refine zJ (zb _) Tryz.func14 rfl rfl (by rw [Tryz.results14]) Tryz.ntmps14 rfl fun E => ?_
  (repeat' (first | exact trivial | (with_reducible first | apply awA | apply awD | apply awF | apply awG) | (refine zA (id := 3) (t := (.node [0, 1, 2] [])) (drR [4] [] []) zH (by kernel_rfl) (by kernel_rfl) (fun _ _ h => h) ?_) | (refine zB (by simp only [go_sem]; exact rfl) ?_) | (refine zD (by simp only [go_sem]; exact rfl) ?_) | refine zl ?_ | refine zq ?_ ?_ | exact zC | ((with_reducible first | apply awn | apply awo | apply awp | refine awQ ?_ | refine awT ?_); intro r hr; simp only [go_sem, Nat.reduceBEq, Nat.reduceLT, Nat.reduceLeDiff, Nat.reduceAdd, Nat.reduceMul, e1] at hr; subst hr; (first | refine caA (fun _ => hck) rfl ?_ ?_ ?_ | refine awV ?_ ?_ | refine zP ?_ ?_ ?_ | (refine zh (fun h => ?_) (fun h => ?_) <;> (try simp only [go_sem, reduceCtorEq] at h) <;> (try (exfalso; omega))))))) <;> (try omega)
  all_goals first | exact AV.up_rfl _ | exact zo
def lkR (e : Bool) (C : List InsM) (N : List Int) (L : LkM) (W : List Int) : List (Nat × AObj) :=
 [(23, .var [vB e, .lst 4 (zF C), .lst 1 (v8 N), .ref 52 6 17 0 C.length, .ref 4 1 21 0 C.length, .ref 3 1 15002 0 W.length]), (17, .row 52 6 (yk L)), (21, .row 4 1 (yl L)), (15002, .row 3 1 (v8 W))]
theorem Z7 {e : Bool} {C : List InsM} {N : List Int} (hv : (vZ e C N).1 = 0) : x8 e C N = (0, 0) ∧ (∃ r, xc e C N = .ok r) ∧ YV e C N < 0 ∧ vZ e C N = (0, 0) := by
 unfold vZ at hv ⊢
 by_cases hc : (x8 e C N).1 = 0
 ·rw [if_neg (by simpa using hc)] at hv ⊢
  refine ⟨uu.1 hc, ?_⟩
  cases hf : xc e C N with
  | error j => rw [hf] at hv; cases hv
  | ok r =>
   rw [hf] at hv
   dsimp only at hv ⊢
   by_cases h : 0 ≤ YV e C N
   ·rw [if_pos h] at hv; cases hv
   ·rw [if_neg h]; exact ⟨⟨r, rfl⟩, by omega, rfl⟩
 ·rw [if_pos (by simpa using hc)] at hv; exact absurd hv hc
theorem Z8 (e : Bool) (C : List InsM) (N : List Int) (hv : (vZ e C N).1 = 0) {r : LkM × List Nat} (hf : xc e C N = .ok r) :
  yx Tryz.prog 14 [pG e C N] [] (fun _ : List Int => True) (fun _ => .tup [.ptr 1 23 0 0, vFa (0, 0)]) (fun W => lkR e C N r.1 W) := by
 obtain ⟨hc0, _, hs, _⟩ := Z7 hv
 have hok := uv hc0
 have hl := hok.len
 have hck := ZS e C N (by omega) (by have := hok.lenN; omega)
 rw [hc0] at hck
 have fe := Uj e C N hok
 unfold lkO lkV at fe
 simp only [List.length_replicate, List.length_nil] at fe
 have hr1 := jW C.length
 have hr2 := jX C.length
 have sec := XD e C N hok (kc hc0 hf)
 rw [hf] at fe
 have hsp := uC e C N
 generalize YV e C N = sr at hs hsp
 generalize yk (List.replicate C.length none) = rows1 at fe hr1
 generalize yl (List.replicate C.length none) = rows2 at fe hr2
 have e1 : ((-1 : Int) < 0) = True := eq_true (by decide)
 have e2 : (sr ≥ 0) = False := eq_false (by omega)
 unfold pG at *
 unfold lkR
 refine xq (zb _) Tryz.func14 rfl rfl (by rw [Tryz.results14]) Tryz.ntmps14 rfl fun E => ?_
 (repeat' (first | exact trivial | (refine kh 23 5 3 1 15002 (.inr (by decide)) (by decide) rfl rfl ?_) | (with_reducible first | apply awA | apply awC | apply awF) | (refine zA (id := 4) (t := (.node [0, 1, 2, 3, 5, 6, 7] [(.node [4, 8, 9, 10, 11] []), (.node [8, 4, 9, 10, 11] [])])) (drR [1] [] []) zH (by kernel_rfl) (by kernel_rfl) (fun _ _ h => h) ?_) | (refine zB (by simp only [go_sem]; exact rfl) ?_) | (refine zD (by simp only [go_sem]; exact rfl) ?_) | refine zl ?_ | refine zq ?_ ?_ | exact zC | ((with_reducible first | apply awn | apply awo | apply awp | refine awQ ?_); intro r hr; simp only [go_sem, Nat.reduceBEq, Nat.reduceLT, Nat.reduceLeDiff, Nat.reduceAdd, Nat.reduceMul, zd, AState.nilvar, hr1, hr2, Int.cast_ofNat_Int] at hr; subst hr; (first | refine caA (fun _ => hck) rfl ?_ ?_ ?_ | refine awV ?_ ?_ | refine awW ?_ ?_ | (refine zh (fun h => ?_) (fun h => ?_) <;> (try simp only [go_sem, reduceCtorEq] at h) <;> (try (exfalso; omega))))) | (refine zz [(23, 10000), (17, 15000), (21, 15001), (15002, 15002)] [(10000, 23), (15000, 17), (15001, 21), (15002, 15002)] [17, 21, 15002] [23] ?_; intro r hr; simp only [go_sem, Nat.reduceBEq, Nat.reduceLT] at hr; subst hr; refine yQ (fe) rfl rfl (by first | exact .inl rfl | exact .inr rfl) ?_ (.inl rfl) (fun q hq => xI ?_)))) <;> (try omega)
 all_goals
  refine ⟨?_⟩
  obtain ⟨r1, L, W⟩ := q
  obtain ⟨hL, rfl, rfl⟩ := hq
  simp only at hL
  (repeat' (first | exact trivial | (with_reducible first | apply awA | apply awF) | ((with_reducible first | apply awn | apply awo | refine awQ ?_); intro r hr; simp only [go_sem, Nat.reduceBEq, Nat.reduceLT, Nat.reduceLeDiff, Nat.reduceAdd, Nat.reduceMul, e1] at hr; subst hr; (first | refine awV ?_ ?_ | refine awW ?_ ?_ | (refine zh (fun h => ?_) (fun h => ?_) <;> (try simp only [go_sem, reduceCtorEq] at h) <;> (try (exfalso; omega))))) | (refine zz [] [] [] [] ?_; intro r hr; simp only [go_sem, Nat.reduceBEq, Nat.reduceLT] at hr; subst hr; refine yQ (sec) rfl rfl (by first | exact .inl rfl | exact .inr rfl) ?_ (.inl rfl) (fun q hq => xI ?_)))) <;> (try omega)
  refine ⟨?_⟩
  have hqq := hq.uniq hsp
  subst hqq
  (repeat' (first | exact trivial | (with_reducible first | apply awA | apply awC | apply awD | apply awF) | ((with_reducible first | apply awn | apply awo | refine awQ ?_ | refine wM ?_); intro r hr; simp only [go_sem, Nat.reduceBEq, Nat.reduceLT, Nat.reduceLeDiff, Nat.reduceAdd, Nat.reduceMul, e2, hL] at hr; subst hr; (first | refine awV ?_ ?_ | refine y5 ?_ ?_ | (refine zh (fun h => ?_) (fun h => ?_) <;> (try simp only [go_sem, reduceCtorEq] at h) <;> (try (exfalso; omega))))))) <;> (try omega)
  all_goals refine ⟨W, trivial, AV.up_rfl _, ?_⟩
  all_goals repeat first | exact zo | refine zn rfl ?_
theorem xP (e : Bool) (C : List InsM) (N : List Int) (hC : C.length ≤ 140737488355328) (hN : N.length ≤ 140737488355328) : zQ Tryz.prog 8 [pG e C N] (fun r => r = vFa (vZ e C N)) := by
 have key : yb Tryz.prog 8 [pG e C N] [] (vFa (vZ e C N)) [] := by
  by_cases hv : (vZ e C N).1 = 0
  ·obtain ⟨_, ⟨r, hf⟩, _, h4⟩ := Z7 hv
   have hlk := Z8 e C N hv hf
   rw [h4]
   unfold pG lkR at *
   refine zJ (zb _) Tryz.func8 rfl rfl (by rw [Tryz.results8]) Tryz.ntmps8 rfl fun E => ?_
   (repeat' (first | exact trivial | (with_reducible first | apply awA | apply awD | apply awF) | ((with_reducible first | apply awn | apply awo | refine awT ?_); intro r hr; simp only [go_sem, Nat.reduceBEq, Nat.reduceLT, Nat.reduceLeDiff, Nat.reduceAdd, Nat.reduceMul] at hr; subst hr; (first | refine awV ?_ ?_ | refine awW ?_ ?_ | refine zP ?_ ?_ ?_)) | (refine zz [] [] [] [] ?_; intro r hr; simp only [go_sem, Nat.reduceBEq, Nat.reduceLT] at hr; subst hr; refine yQ (hlk) rfl rfl (by first | exact .inl rfl | exact .inr rfl) ?_ (.inl rfl) (fun q hq => ?_)))) <;> (try omega)
   all_goals first | exact AV.up_rfl _ | exact zo
  ·have hlk := jc e C N hC hN hv
   generalize vZ e C N = f at hlk ⊢
   unfold pG at *
   refine zJ (zb _) Tryz.func8 rfl rfl (by rw [Tryz.results8]) Tryz.ntmps8 rfl fun E => ?_
   (repeat' (first | exact trivial | (with_reducible first | apply awA | apply awD | apply awF) | ((with_reducible first | apply awn | apply awo | refine awT ?_); intro r hr; simp only [go_sem, Nat.reduceBEq, Nat.reduceLT, Nat.reduceLeDiff, Nat.reduceAdd, Nat.reduceMul] at hr; subst hr; (first | refine awV ?_ ?_ | refine awW ?_ ?_ | refine zP ?_ ?_ ?_)) | (refine zz [] [] [] [] ?_; intro r hr; simp only [go_sem, Nat.reduceBEq, Nat.reduceLT] at hr; subst hr; refine zR (hlk) rfl rfl (by first | exact .inl rfl | exact .inr rfl) ?_ (.inl rfl) ?_))) <;> (try omega)
   all_goals first | exact AV.up_rfl _ | exact zo
 exact key.toP ⟨trivial, trivial, trivial⟩
end
section
open Go.RowKit
def zbj : Option StM → Int
 | some s => wr s
 | none => -1
theorem UO (L : LkM) : vg L = L.map zbj := by
 unfold vg
 exact List.map_congr_left fun s _ => by cases s <;> rfl
theorem qA (L : LkM) : (vg L).length = L.length := by simp [vg]
theorem Z9 {L : LkM} {i : Nat} (h : i < L.length) : (vg L).take (i + 1) = (vg L).take i ++ [zbj (L.getD i none)] := by
 rw [List.take_succ_eq_append_getElem (by rw [qA]; exact h)]
 simp [UO, List.getD, h]
theorem jY (e : Bool) (C : List InsM) (N : List Int) (hC : C.length ≤ 140737488355328) (hN : N.length ≤ 140737488355328) :
  yb Tryz.prog 9 [pG e C N] [] (.tup [.ref 3 1 21 0 (shF e C N).length, vFa (vZ e C N)]) [(21, .row 3 1 (v8 (shF e C N)))] := by
 unfold shF
 by_cases hv : (vZ e C N).1 = 0
 ·obtain ⟨hc0, ⟨r, hf⟩, _, h4⟩ := Z7 hv
  have hlk := Z8 e C N hv hf
  have hok := uv hc0
  have hl := hok.len
  rw [if_neg (by simpa using hv), h4, hf]
  dsimp only
  have hL : r.1.length = C.length := by
   obtain ⟨_, hr, hN'⟩ := wg hc0
   obtain ⟨⟨_, g, _⟩, _⟩ := vf (fun k hk j hj => (w9 hr hk j hj).1) hN' (FirstI.init e C) (fun k hk => by rw [xW] at hk; cases hk) hf
   exact g.len
  generalize r.1 = L at hlk hL ⊢
  have hn0 : (0 : Int) ≤ C.length := by omega
  have zc : ((C.length : Int)).toNat = C.length := by omega
  unfold pG lkR at *
  refine zJ (zb _) Tryz.func9 rfl rfl (by rw [Tryz.results9]) Tryz.ntmps9 rfl fun E => ?_
  (repeat' (first | exact trivial | (with_reducible first | apply awA | apply awF) | ((with_reducible apply awn); intro r hr; simp only [go_sem, Nat.reduceBEq, Nat.reduceLT, Nat.reduceLeDiff, Nat.reduceAdd, Nat.reduceMul] at hr; subst hr; (first | refine awV ?_ ?_ | refine awW ?_ ?_)) | (refine zz [] [(23, 15010), (17, 15011), (21, 15012), (15002, 15013)] [15010, 15011, 15012, 15013] [] ?_; intro r hr; simp only [go_sem, Nat.reduceBEq, Nat.reduceLT] at hr; subst hr; refine yQ (hlk) rfl rfl (by first | exact .inl rfl | exact .inr rfl) ?_ (.inl rfl) (fun q hq => xI ?_)))) <;> (try omega)
  refine ⟨?_⟩
  have hr0 : (vg L).length = C.length := by rw [qA]; exact hL
  rw [hr0]
  (repeat' (first | exact trivial | (with_reducible first | apply awA | apply awB | apply awC | apply awF) | ((with_reducible first | apply awn | apply awo | refine awQ ?_); intro r hr; simp only [go_sem, Nat.reduceBEq, Nat.reduceLT, Nat.reduceLeDiff, Nat.reduceAdd, Nat.reduceMul, zd, Int.toNat_zero, Int.cast_ofNat_Int, Int.reduceLE] at hr; subst hr; (first | refine awV ?_ ?_ | (refine zh (fun h => ?_) (fun h => ?_) <;> (try simp only [go_sem, reduceCtorEq] at h) <;> (try (exfalso; omega))))))) <;> (try omega)
  refine zI [1, 3, 4, 5, 6, 25, 26, 27] [1, 3, 5, 15010, 15011, 15012, 21] (fun i : Nat => ⟨[(1, true, .ptr 1 1 0 0), (3, true, .ptr 1 3 0 0), (4, true, .ptr 1 15010 0 0), (5, true, .ptr 1 5 0 0), (6, true, .ref 3 1 21 0 i), (25, true, .ref 52 6 15011 0 C.length), (26, true, vI C.length), (27, true, vI i)],
   [(1, .var [vB e, .lst 4 (zF C), .lst 1 (v8 N)]), (3, .var [vI 0, vI 0]), (5, .var [vI 0, vI 0]), (15010, .var [vB e, .lst 4 (zF C), .lst 1 (v8 N), .ref 52 6 15011 0 C.length, .ref 4 1 15012 0 C.length, .ref 3 1 15013 0 q.length]), (15011, .row 52 6 (yk L)), (15012, .row 4 1 (yl L)), (21, .row 3 1 (v8 ((vg L).take i)))]⟩)
   (fun i => i ≤ C.length) (fun i => C.length - i) 0 (by simp only [List.take_zero, go_sem, Nat.reduceBEq] <;> exact rfl) (Nat.zero_le _) ?_
  intro i hi
  have hwi := zy (n := (i : Int) + 1) (by omega)
  have zi : ((i : Int)).toNat = i := by omega
  by_cases hlt : i < C.length
  ·have e1 : ((i : Int) < (C.length : Int)) = True := eq_true (by omega)
   have gs := xh (L := L) (k := i) (by omega)
   have gh := xr (L := L) (k := i) (by omega)
   have htl : ((vg L).take i).length = i := by rw [List.length_take, hr0]; omega
   have ht : (v8 ((vg L).take i)).take i = v8 ((vg L).take i) := by rw [yR, List.take_of_length_le (by omega)]
   have hov := Z9 (L := L) (i := i) (by omega)
   have ha := fun z => Xf ((vg L).take i) z
   cases hs : L.getD i none with
   | some s =>
    rw [hs] at gh hov
    have hst : wK L i = s := by unfold wK; rw [hs]; rfl
    rw [hst] at gs
    have sh := UN s
    simp only [Option.isSome_some] at gh
    have hov' : v8 ((vg L).take (i + 1)) = v8 ((vg L).take i) ++ [[vI (wr s)]] := by rw [hov]; exact (ha _).symm
    (repeat' (first | exact trivial | (with_reducible first | apply awA | apply awB | apply awC | apply awF | apply awI) | ((with_reducible first | apply awn | apply awo | refine awQ ?_); intro r hr; simp only [go_sem, Nat.reduceBEq, Nat.reduceLT, Nat.reduceLeDiff, Nat.reduceAdd, Nat.reduceMul, Nat.reduceEqDiff, e1, zi, hwi, gs, gh, zp, htl, ht, List.length_append, Nat.zero_add] at hr; subst hr; (first | refine caA (fun _ => sh) rfl ?_ ?_ ?_ | refine awV ?_ ?_ | (refine zh (fun h => ?_) (fun h => ?_) <;> (try simp only [go_sem, reduceCtorEq] at h) <;> (try (exfalso; omega))))))) <;> (try omega)
    refine ⟨i + 1, ?_, hlt, by omega⟩
    simp only [hov', go_sem, Nat.reduceBEq]
    try exact rfl
   | none =>
    rw [hs] at gh hov
    simp only [Option.isSome_none] at gh
    have hov' : v8 ((vg L).take (i + 1)) = v8 ((vg L).take i) ++ [[vI (-1)]] := by rw [hov]; exact (ha _).symm
    (repeat' (first | exact trivial | (with_reducible first | apply awA | apply awB | apply awC | apply awF | apply awI) | ((with_reducible first | apply awn | refine awQ ?_); intro r hr; simp only [go_sem, Nat.reduceBEq, Nat.reduceLT, Nat.reduceLeDiff, Nat.reduceAdd, Nat.reduceMul, Nat.reduceEqDiff, e1, zi, hwi, gs, gh, zp, htl, ht, List.length_append, Nat.zero_add] at hr; subst hr; (first | refine awV ?_ ?_ | (refine zh (fun h => ?_) (fun h => ?_) <;> (try simp only [go_sem, reduceCtorEq] at h) <;> (try (exfalso; omega))))))) <;> (try omega)
    refine ⟨i + 1, ?_, hlt, by omega⟩
    simp only [hov', go_sem, Nat.reduceBEq]
    try exact rfl
  ·have e1 : ((i : Int) < (C.length : Int)) = False := eq_false (by omega)
   have hie : i = C.length := by omega
   subst hie
   have ht : (vg L).take C.length = vg L := List.take_of_length_le (by omega)
   rw [ht]
   (repeat' (first | exact trivial | (with_reducible first | apply awA | apply awD | apply awE | apply awF | apply awH | apply awK) | (refine zA (id := 12) (t := (.node [0, 1, 2, 3] [])) (drR [5] [] []) zH (by kernel_rfl) (by kernel_rfl) (fun _ _ h => h) ?_) | (refine zB (by simp only [go_sem]; exact rfl) ?_) | (refine zD (by simp only [go_sem]; exact rfl) ?_) | refine zl ?_ | refine zq ?_ ?_ | exact zC | ((with_reducible first | apply awn | apply awp | refine awQ ?_ | refine awT ?_); intro r hr; simp only [go_sem, Nat.reduceBEq, Nat.reduceLT, Nat.reduceLeDiff, Nat.reduceAdd, Nat.reduceMul, e1] at hr; subst hr; (first | refine awV ?_ ?_ | refine zP ?_ ?_ ?_ | (refine zh (fun h => ?_) (fun h => ?_) <;> (try simp only [go_sem, reduceCtorEq] at h) <;> (try (exfalso; omega))))))) <;> (try omega)
   all_goals first | exact AV.up_rfl _ | exact AV.up_dead _ | (repeat first | exact zo | refine zn rfl ?_)
 ·have hlk := jc e C N hC hN hv
  rw [if_pos (by simpa using hv)]
  generalize vZ e C N = f at hlk hv ⊢
  obtain ⟨f1, f2⟩ := f
  have e1 : (f1 = 0) = False := eq_false hv
  unfold pG at *
  refine zJ (zb _) Tryz.func9 rfl rfl (by rw [Tryz.results9]) Tryz.ntmps9 rfl fun E => ?_
  (repeat' (first | exact trivial | (with_reducible first | apply awA | apply awD | apply awF | apply awG) | (refine zA (id := 3) (t := (.node [0, 1, 2] [])) (drR [5] [] []) zH (by kernel_rfl) (by kernel_rfl) (fun _ _ h => h) ?_) | (refine zB (by simp only [go_sem]; exact rfl) ?_) | (refine zD (by simp only [go_sem]; exact rfl) ?_) | refine zl ?_ | refine zq ?_ ?_ | exact zC | ((with_reducible first | apply awn | apply awo | apply awp | refine awQ ?_ | refine awT ?_); intro r hr; simp only [go_sem, Nat.reduceBEq, Nat.reduceLT, Nat.reduceLeDiff, Nat.reduceAdd, Nat.reduceMul, e1] at hr; subst hr; (first | refine awV ?_ ?_ | refine awW ?_ ?_ | refine zP ?_ ?_ ?_ | (refine zh (fun h => ?_) (fun h => ?_) <;> (try simp only [go_sem, reduceCtorEq] at h) <;> (try (exfalso; omega))))) | (refine zz [] [] [] [] ?_; intro r hr; simp only [go_sem, Nat.reduceBEq, Nat.reduceLT] at hr; subst hr; refine zR (hlk) rfl rfl (by first | exact .inl rfl | exact .inr rfl) ?_ (.inl rfl) ?_))) <;> (try omega)
  all_goals first | exact AV.up_tup ⟨AV.up_nilref _ _ _ _, AV.up_rfl _, trivial⟩ | exact Zs zo | skip
end
section
open Go.RowKit
def xD (s : StM) : Prop := s.place = 6 → 0 ≤ s.left ∧ s.left ≤ 64
theorem xD.same {s r : StM} (h : xD s) (h1 : r.place = s.place) (h2 : r.left = s.left) : xD r := fun g => by rw [h2]; exact h (by rw [← h1]; exact g)
theorem xD.far {r : StM} (h : r.place ≠ 6) : xD r := fun g => absurd g h
theorem xD.zero : xD .zero := .far (by decide)
theorem xD.still {s : StM} (h : xD s) : xD s.still := h.same rfl rfl
theorem xD.fill {s : StM} (h : xD s) (k : Int) : xD (s.fill k).1 := by
 unfold StM.fill
 split
 ·exact .far (by show (4 : Int) ≠ 6; decide)
 ·split
  ·exact .far (by show (4 : Int) ≠ 6; decide)
  ·split
   ·exact h.still
   ·split
    ·split
     ·exact h
     ·exact h.same rfl rfl
    ·exact h
theorem xD.take {s : StM} (h : xD s) {n : Int} (hn : 0 ≤ n ∧ n ≤ 64) (hok : (s.take n).2 = true) : xD (s.take n).1 := by
 unfold StM.take at hok ⊢
 split
 ·exact fun _ => ⟨Int.le_refl _, by show (0 : Int) ≤ 64; decide⟩
 ·rename_i h1
  rw [if_neg h1] at hok
  split
  ·rename_i h2
   rw [if_pos h2] at hok
   obtain ⟨h3, h4⟩ := h h2
   have hw : IntKind.i64.wrap (s.left - n) = s.left - n := zy (by omega)
   rw [hw] at hok ⊢
   have := of_decide_eq_true hok
   exact fun _ => ⟨this, by show s.left - n ≤ 64; omega⟩
  ·exact h
theorem xD.turn {s : StM} (h : xD s) : xD s.turn.1 := h.still
theorem xD.runN : ∀ (n : Nat) (k : Int) {s : StM} (ok : Bool), xD s → xD (Go.Proofs.YtjeplogcfedmeaaGreat.runN n k s ok).1
 | 0, _, _, _, h => h
 | n + 1, k, s, ok, h => by
  unfold Go.Proofs.YtjeplogcfedmeaaGreat.runN
  split
  ·exact xD.runN n (k + 1) _ (h.fill k)
  ·exact h
def Yr (E : EfM) : Prop := xD E.next ∧ xD E.target
theorem Yr.both {s : StM} (h : xD s) : Yr (both s) := ⟨h, h⟩
def Zn (e : Bool) (x : InsM) : Prop := e = true → (x.op = 39 → 0 ≤ x.a ∧ x.a ≤ 64) ∧ (x.op = 34 → 0 ≤ x.b ∧ x.b ≤ 64)
theorem xa {p : Prop} [Decidable p] {a b : EfM × Bool} (ha : p → Yr a.1) (hb : ¬ p → Yr b.1) : Yr (if p then a else b).1 := by
 by_cases h : p
 ·rw [if_pos h]; exact ha h
 ·rw [if_neg h]; exact hb h
theorem y8 {p : Prop} [Decidable p] {a b : EfM × Bool} (ha : p → a.2 = true → Yr a.1) (hb : ¬ p → b.2 = true → Yr b.1) : (if p then a else b).2 = true → Yr (if p then a else b).1 := by
 by_cases h : p
 ·rw [if_pos h]; exact ha h
 ·rw [if_neg h]; exact hb h
theorem Vd {s : StM} (h : xD s) (f : Int) : Yr (s.offset f).1 := by
 unfold StM.offset
 refine xa (fun _ => .both (h.same rfl rfl)) (fun _ => .both (h.same rfl rfl))
theorem Jh {s : StM} (h : xD s) (x : InsM) : Yr (s.part x).1 := by
 unfold StM.part
 refine xa (fun _ => .both h.still) (fun _ => .both ((h.fill x.a).same rfl rfl))
theorem Ve {s : StM} (h : xD s) (x : InsM) : Yr (s.rounds x).1 := by
 unfold StM.rounds
 dsimp only
 refine xa (fun _ => ⟨h.same rfl rfl, h.still⟩) fun _ => ?_
 refine xa (fun _ => ⟨h.still, h.same rfl rfl⟩) fun _ => ?_
 refine xa (fun _ => ⟨h.same rfl rfl, h.still⟩) fun _ => ?_
 refine xa (fun _ => ⟨h.still, h.same rfl rfl⟩) fun _ => ?_
 exact xa (fun _ => ⟨h.still, h.same rfl rfl⟩) fun _ => .both h.still
theorem Ji {s : StM} {x : InsM} {t : Int} (h : xD s) : Yr (vC s x t).1 := by
 unfold vC
 dsimp only
 refine xa (fun _ => xa (fun _ => .both .zero) fun _ => .both (h.fill _)) fun _ => ?_
 refine xa (fun _ => .both (h.fill _)) fun _ => ?_
 refine xa (fun _ => .both (xD.runN _ _ _ h)) fun _ => ?_
 refine xa (fun _ => .both (.far (by show (1 : Int) ≠ 6; decide))) fun _ => ?_
 refine xa (fun _ => .both (.far (by show (2 : Int) ≠ 6; decide))) fun _ => ?_
 refine xa (fun _ => ⟨.far (by show (3 : Int) ≠ 6; decide), .far (by show (4 : Int) ≠ 6; decide)⟩) fun _ => ?_
 refine xa (fun _ => .both (.far (by show (3 : Int) ≠ 6; decide))) fun _ => ?_
 refine xa (fun _ => Vd h _) fun _ => ?_
 refine xa (fun _ => xa (fun _ => .both .zero) fun _ => Jh h x) fun _ => ?_
 refine xa (fun _ => Ve h x) fun _ => ?_
 refine xa (fun _ => .both h) fun _ => ?_
 exact xa (fun _ => .both .zero) fun _ => .both .zero
theorem Vf {s : StM} {x : InsM} {t : Int} (h : xD s) (hx : (x.op = 39 → 0 ≤ x.a ∧ x.a ≤ 64) ∧ (x.op = 34 → 0 ≤ x.b ∧ x.b ≤ 64)) : (vd s x t).2 = true → Yr (vd s x t).1 := by
 have f1 : ∀ l, 0 ≤ l ∧ l ≤ 64 → xD ⟨6, 0, 0, 0, 0, l⟩ := fun l hl _ => hl
 have f2 : ∀ f, xD ⟨7, 0, 0, 0, f, 0⟩ := fun f => .far (by show (7 : Int) ≠ 6; decide)
 have ft : (s.take 1).2 = true → xD (s.take 1).1 := fun g => h.take ⟨by decide, by decide⟩ g
 unfold vd
 dsimp only
 refine y8 (fun _ => y8 (fun _ _ => .both .zero) fun _ => y8 (fun _ _ => .both h.turn) fun _ g => .both (ft g)) fun _ => ?_
 refine y8 (fun _ => y8 (fun _ _ => .both h.turn) fun _ g => .both (ft g)) fun _ => ?_
 refine y8 (fun ho g => .both (h.take (hx.2 ho) (by rw [Bool.and_eq_true] at g; exact g.1))) fun _ => ?_
 refine y8 (fun _ _ => .both (f2 2)) fun _ => ?_
 refine y8 (fun _ _ => .both (f2 0)) fun _ => ?_
 refine y8 (fun ho _ => .both (f1 _ (hx.1 ho))) fun _ => ?_
 refine y8 (fun _ _ => ⟨f1 1 (by decide), f1 0 (by decide)⟩) fun _ => ?_
 refine y8 (fun _ _ => .both (f1 1 (by decide))) fun _ => ?_
 refine y8 (fun _ _ => .both h) fun _ => ?_
 refine y8 (fun _ _ => .both h) fun _ => ?_
 refine y8 (fun _ _ => ⟨f1 0 (by decide), f2 2⟩) fun _ => ?_
 refine y8 (fun _ _ => .both h) fun _ => ?_
 exact y8 (fun _ _ => .both .zero) fun _ _ => .both .zero
theorem Vg {e : Bool} {s : StM} {x : InsM} {t : Int} (h : xD s) (hx : Zn e x) (hok : (z9 e x s t).2 = true) : Yr (z9 e x s t).1 := by
 unfold z9 at hok ⊢
 cases e with
 | true => rw [if_pos rfl] at hok ⊢; exact Vf h (hx rfl) hok
 | false => rw [if_neg (by decide)]; exact Ji h
def uJ (L : LkM) : Prop := ∀ k s, L.getD k none = some s → xD s
theorem uJ.set {L : LkM} (h : uJ L) {s : StM} (hs : xD s) (k : Nat) : uJ (L.set k (some s)) := fun j r hj => by
 by_cases hjk : k = j
 ·subst hjk
  by_cases hl : k < L.length
  ·simp [List.getD, hl] at hj
   rw [← hj]; exact hs
  ·rw [List.set_eq_of_length_le (by omega)] at hj
   exact h k r hj
 ·refine h j r ?_
  simp only [List.getD, List.getElem?_set_ne hjk] at hj ⊢; exact hj
theorem uJ.st {L : LkM} (h : uJ L) (k : Nat) : xD (wK L k) := by
 unfold wK
 cases hs : L.getD k none with
 | none => exact .zero
 | some s => exact h k s hs
theorem uJ.hand {e : Bool} {C : List InsM} {L L' : LkM} {k : Nat} {s : StM} {t : Int} (h : uJ L) (hs : xD s) (hh : xF e C L k s t = .some L') : uJ L' := by
 unfold xF at hh
 split at hh
 ·injection hh with hh; subst hh; exact h.set hs k
 ·split at hh
  ·injection hh with hh; subst hh; exact h
  ·split at hh
   ·injection hh with hh; subst hh; exact h
   ·cases hh
theorem uJ.handS {e : Bool} {C : List InsM} {t : Int} {E : EfM} (hE : Yr E) {arms : Bool} : ∀ {ks : List Int} {w : Nat} {L L' : LkM}, uJ L → Go.Proofs.YtjeplogcfedmeaaGreat.handS e C t E arms ks w L = .ok L' → uJ L'
 | [], _, L, L', h, hh => by
  unfold Go.Proofs.YtjeplogcfedmeaaGreat.handS at hh
  injection hh with hh; subst hh; exact h
 | k :: ks, w, L, L', h, hh => by
  unfold Go.Proofs.YtjeplogcfedmeaaGreat.handS at hh
  split at hh
  ·cases hh
  ·rename_i L1 h1
   refine uJ.handS hE (h.hand ?_ h1) hh
   split
   ·exact hE.2
   ·exact hE.1
theorem uJ.goes {e : Bool} {C : List InsM} (hI : ∀ k, Zn e (zg C k)) {t : Int} {L L' : LkM} {k : Nat} (h : uJ L) (hg : qf e C k L t = .ok L') : uJ L' := by
 unfold qf at hg
 dsimp only at hg
 split at hg
 ·cases hg
 ·rename_i hn
  simp only [not_or, Bool.not_eq_false, Bool.not_eq_true] at hn
  exact uJ.handS (Vg (h.st k) (hI k) hn.1) h hg
theorem uJ.loop {e : Bool} {C : List InsM} (hI : ∀ k, Zn e (zg C k)) {t : Int} : ∀ {f : Nat} {L L' : LkM} {D D' : List Nat}, uJ L → vF e C t f L D = .ok (L', D') → uJ L'
 | 0, L, L', D, D', h, hl => by
  unfold vF at hl
  injection hl with hl
  injection hl with h1 h2
  subst h1; exact h
 | f + 1, L, L', D, D', h, hl => by
  unfold vF at hl
  split at hl
  ·injection hl with hl
   injection hl with h1 h2
   subst h1; exact h
  ·split at hl
   ·cases hl
   ·rename_i L1 hg
    exact uJ.loop hI (h.goes hI hg) hl
theorem uJ.first {e : Bool} {C : List InsM} (hI : ∀ k, Zn e (zg C k)) : ∀ {N : List Int} {t : Int} {L L' : LkM} {D D' : List Nat}, uJ L → xo e C N t L D = .ok (L', D') → uJ L'
 | [], _, L, L', D, D', h, hf => by
  unfold xo at hf
  injection hf with hf
  injection hf with h1 h2
  subst h1; exact h
 | n :: ns, t, L, L', D, D', h, hf => by
  unfold xo at hf
  split at hf
  ·cases hf
  ·rename_i L1 h1
   split at hf
   ·cases hf
   ·rename_i L2 D2 h2
    refine uJ.first hI (uJ.loop hI (h.hand ?_ h1) h2) hf
    unfold yF
    split
    ·exact .far (by show (5 : Int) ≠ 6; decide)
    ·exact .zero
theorem js {e : Bool} {C : List InsM} {N : List Int} (hr : ∀ k, k < C.length → yE e C N k = true) (k : Nat) : Zn e (zg C k) := by
 intro he
 subst he
 by_cases hk : k < C.length
 ·obtain ⟨_, h1, h2, _⟩ := xf (hr k hk)
  refine ⟨fun ho => ?_, fun ho => ?_⟩
  ·rw [ho] at h1
   have : inF (zg C k).a 1 64 = true := h1
   simp only [inF, Bool.and_eq_true, decide_eq_true_eq] at this
   omega
  ·rw [ho] at h2
   have : inF (zg C k).b 2 64 = true := h2
   simp only [inF, Bool.and_eq_true, decide_eq_true_eq] at this
   omega
 ·have hz : zg C k = ⟨0, 0, 0, 0⟩ := by
   unfold zg
   rw [List.getD_eq_getElem?_getD, List.getElem?_eq_none (by omega)]
   rfl
  rw [hz]
  exact ⟨fun h => absurd h (by decide), fun h => absurd h (by decide)⟩
theorem Qo {s : StM} (h : xD s) : wr s ≠ -1 := by
 unfold wr
 split
 ·decide
 split
 ·decide
 split
 ·omega
 split
 ·rename_i h6
  have := h h6
  rw [zy (by omega)]
  omega
 split
 ·decide
 ·decide
theorem kK {s : StM} (ho : s.over = true) : wr s ≠ 0 := by
 unfold StM.over at ho
 unfold wr
 split
 ·decide
 split
 ·decide
 split
 ·omega
 rename_i h4 h1 h2
 by_cases h6 : s.place = 6
 ·rw [if_pos h6]
  rw [if_neg (by omega), if_neg h2, if_pos h6] at ho
  rw [of_decide_eq_true ho]
  decide
 ·rw [if_neg (by omega), if_neg h2, if_neg h6] at ho
  cases ho
theorem Vh {e : Bool} {x : InsM} {s : StM} {t : Int} (h : (z9 e x s t).2 = true) (ho : x.op = 20) : wr s ≠ 0 := by
 unfold z9 at h
 cases e with
 | true =>
  rw [if_pos rfl] at h
  unfold vd at h
  simp only [ho, Int.reduceEq, or_self, if_false, false_and, if_true, Bool.and_eq_true] at h
  exact kK h.2
 | false =>
  rw [if_neg (by decide)] at h
  unfold vC at h
  simp only [ho, Int.reduceEq, or_self, if_false, if_true] at h
  exact kK h
theorem Vi {e : Bool} {x : InsM} {s : StM} {t : Int} (h : (z9 e x s t).2 = true) : x.op ≠ 9 := fun ho => by
 unfold z9 at h
 cases e with
 | true =>
  rw [if_pos rfl] at h
  unfold vd at h
  simp only [ho, Int.reduceEq, or_self, if_false, false_and] at h
  cases h
 | false =>
  rw [if_neg (by decide)] at h
  unfold vC at h
  simp only [ho, Int.reduceEq, or_self, if_false] at h
  cases h
structure EndsP (C : List InsM) (N : List Int) (l : List Int) : Prop where
 len : l.length = C.length
 ent : ∀ n ∈ N, (0 ≤ n ∧ n < C.length) ∧ l.getD n.toNat 0 ≠ -1
 st : ∀ k, k < C.length → l.getD k 0 ≠ -1 → ((zg C k).op = 20 → l.getD k 0 ≠ 0) ∧ (zg C k).op ≠ 9 ∧ ∀ j ∈ zO C k (zg C k), 0 ≤ j ∧ j < C.length ∧ l.getD j.toNat 0 ≠ -1
theorem Jj {e : Bool} {C : List InsM} {N : List Int} (hv : (vZ e C N).1 = 0) : EndsP C N (shF e C N) := by
 obtain ⟨hc, ⟨⟨L, D⟩, hf⟩, _, h0⟩ := Z7 hv
 have hsh : shF e C N = vg L := by
  unfold shF
  rw [h0, if_neg (by decide), hf]
 obtain ⟨_, hr, hN⟩ := wg hc
 have hp : UK C := fun k hk j hj => (w9 hr hk j hj).1
 obtain ⟨⟨t', hI, _⟩, _, hD, hE⟩ := vf hp hN (FirstI.init e C) (fun k hk => by rw [xW] at hk; cases hk) hf
 have hL : uJ L := uJ.first (js hr) (L := List.replicate C.length none) (fun k s hk => by
  have := xW C k
  rw [hk] at this; cases this) hf
 have hout : ∀ k, k < C.length → (vg L).getD k 0 = zbj (L.getD k none) := fun k hk => by
  rw [UO]
  have : k < L.length := by rw [hI.len]; exact hk
  simp [List.getD, this]
 have hsome : ∀ k, k < C.length → (L.getD k none).isSome = true → (vg L).getD k 0 ≠ -1 := fun k hk hs => by
  rw [hout k hk]
  cases h : L.getD k none with
  | none => rw [h] at hs; cases hs
  | some s => exact Qo (hL k s h)
 rw [hsh]
 refine ⟨by rw [qA, hI.len], fun n hn => ⟨hN n hn, ?_⟩, fun k hk hne => ?_⟩
 ·obtain ⟨i, hi⟩ := List.mem_iff_getElem?.1 hn
  have := hN n hn
  exact hsome _ (by omega) (hE i n hi).1
 ·rw [hout k hk] at hne
  cases h : L.getD k none with
  | none => rw [h] at hne; exact absurd rfl hne
  | some s =>
   have hkD := hD k (by rw [h]; rfl)
   obtain ⟨t1, _, hst⟩ := hI.st k hkD
   have hs : wK L k = s := by unfold wK; rw [h]; rfl
   rw [hs] at hst
   refine ⟨fun ho => ?_, Vi hst, fun j hj => ?_⟩
   ·rw [hout k hk, h]
    exact Vh hst ho
   ·have h1 := hp k hk j hj
    obtain ⟨h2, h3⟩ := hI.cl k hkD j hj
    exact ⟨h1, h2, hsome _ (by omega) h3⟩
end
section
open Go.RowKit
theorem Ys (a b : Int) : bits .and .u64 a b = ((xY a &&& xY b : Nat) : Int) := by
 have hx : xY a &&& xY b < 2 ^ 64 := Nat.and_lt_two_pow _ (wH _)
 show IntKind.u64.wrap ((BitVec.ofInt 64 a &&& BitVec.ofInt 64 b).toNat : Int) = _
 rw [BitVec.toNat_and, xO, xO, IntKind.wrap_u64]
 omega
theorem Kx (a b : Int) : bits .or .u64 a b = ((xY a ||| xY b : Nat) : Int) := by
 have hx : xY a ||| xY b < 2 ^ 64 := Nat.or_lt_two_pow (wH _) (wH _)
 show IntKind.u64.wrap ((BitVec.ofInt 64 a ||| BitVec.ofInt 64 b).toNat : Int) = _
 rw [BitVec.toNat_or, xO, xO, IntKind.wrap_u64]
 omega
theorem qk {m : Nat} (h : m < 18446744073709551616) : xY (m : Int) = m := by unfold xY; omega
theorem qH {k : Int} (h : 0 ≤ k ∧ k < 64) : xY (KF k) = 2 ^ k.toNat := by
 have h1 : min k.toNat 64 = k.toNat := by omega
 have h2 : (2 : Nat) ^ k.toNat < 18446744073709551616 := Nat.pow_lt_pow_right (by decide) (show k.toNat < 64 by omega)
 unfold KF
 rw [h1, Int.one_mul, show ((2 : Int) ^ k.toNat) = ((2 ^ k.toNat : Nat) : Int) by simp, IntKind.wrap_u64]
 generalize (2 : Nat) ^ k.toNat = p at *
 unfold xY
 omega
theorem Vj (m i : Nat) : m &&& 2 ^ i = if m.testBit i = true then 2 ^ i else 0 := by
 apply Nat.eq_of_testBit_eq
 intro j
 rw [Nat.testBit_and, Nat.testBit_two_pow]
 by_cases hj : i = j
 ·subst hj
  cases hb : m.testBit i
  ·simp
  ·simp [Nat.testBit_two_pow]
 ·split
  ·simp [hj]
  ·simp [hj]
theorem Vk {m : Nat} (hm : m < 18446744073709551616) {k : Int} (h : 0 ≤ k ∧ k < 64) : (bits .and .u64 (m : Int) (KF k) = 0) ↔ JT (m : Int) k = false := by
 have h1 : min k.toNat 64 = k.toNat := by omega
 have h2 : (m : Int).fdiv (2 ^ k.toNat) = ((m / 2 ^ k.toNat : Nat) : Int) := by
  rw [show ((2 : Int) ^ k.toNat) = ((2 ^ k.toNat : Nat) : Int) by simp, Int.fdiv_eq_ediv_of_nonneg _ (Int.natCast_nonneg _)]
  rfl
 have h3 : m / 2 ^ k.toNat < 18446744073709551616 := Nat.lt_of_le_of_lt (Nat.div_le_self _ _) hm
 unfold JT
 rw [Ys, Ys, qH h, qk hm, h1, h2, qk h3, show xY 1 = 1 from rfl, Vj, decide_eq_false_iff_not]
 have h4 : (m / 2 ^ k.toNat) &&& 1 = (m.testBit k.toNat).toNat := by
  rw [Nat.testBit_eq_decide_div_mod_eq, Nat.and_one_is_mod]
  rcases Nat.mod_two_eq_zero_or_one (m / 2 ^ k.toNat) with q | q <;> simp [q]
 rw [h4]
 cases m.testBit k.toNat
 ·simp
 ·have : (2 : Nat) ^ k.toNat ≠ 0 := Nat.pos_iff_ne_zero.1 (Nat.pow_pos (by decide))
  rw [if_pos rfl]
  generalize (2 : Nat) ^ k.toNat = p at this
  exact ⟨fun q => absurd (by omega : p = 0) this, fun q => absurd rfl q⟩
theorem Qq {m : Nat} (hm : m < 18446744073709551616) {k : Int} (h : 0 ≤ k ∧ k < 64) (hb : JT (m : Int) k = true) : bits .or .u64 (m : Int) (KF k) = m := by
 have h0 : ¬ (bits .and .u64 (m : Int) (KF k) = 0) := fun q => by rw [Vk hm h, hb] at q; cases q
 rw [Ys, qH h, qk hm, Vj] at h0
 have ht : m.testBit k.toNat = true := by
  cases q : m.testBit k.toNat
  ·rw [q] at h0; simp at h0
  ·rfl
 rw [Kx, qH h, qk hm]
 congr 1
 apply Nat.eq_of_testBit_eq
 intro i
 rw [Nat.testBit_or, Nat.testBit_two_pow]
 by_cases hi : k.toNat = i
 ·rw [← hi, ht]; simp
 ·simp [hi]
structure FineD (s : StM) : Prop where
 place : 0 ≤ s.place ∧ s.place ≤ 4
 free : s.place ≠ 1 → s.free = 0
 table : s.place = 2 ∨ s.place = 0 → 0 ≤ s.table
 kids : ∃ m : Nat, s.kids = m ∧ m < 18446744073709551616
theorem XX {s : StM} (h : s.free = 0) : s.still = s := by
 obtain ⟨a, b, c, d, f, g⟩ := s
 dsimp only at h
 subst h
 rfl
theorem jt {s : StM} (h : FineD s) {k : Int} (hk : -1 ≤ k ∧ k ≤ 63) : (s.filledD k).2 = (s.fill k).2 := by
 have hp := h.place
 obtain ⟨m, hm, hlt⟩ := h.kids
 unfold StM.filledD StM.fill
 by_cases h0 : s.place = 0
 ·rw [if_pos h0]
  by_cases hk1 : k = -1
  ·rw [if_pos (.inl ⟨h0, hk1⟩)]; simp [hk1]
  ·rw [if_neg (by omega), if_neg (by omega), if_neg (by omega)]; simp [hk1]
 rw [if_neg h0]
 by_cases h3 : s.place = 3
 ·rw [if_pos h3]
  by_cases hk1 : k ≤ 0
  ·rw [if_pos (.inr ⟨h3, hk1⟩)]; simp [hk1]
  ·rw [if_neg (by omega), if_neg (by omega), if_neg (by omega)]; simp [hk1]
 rw [if_neg h3, if_neg (by omega)]
 by_cases h1 : s.place = 1
 ·rw [if_pos h1]
  by_cases hk1 : k = -1
  ·rw [if_pos ⟨h1, hk1⟩]; simp [hk1]
  ·rw [if_neg (by omega), if_neg (by omega)]; simp [hk1]
 rw [if_neg h1, if_neg (by omega)]
 by_cases h2 : s.place = 2
 ·rw [if_pos h2]
  by_cases hk1 : k < 0
  ·rw [if_neg (by omega), if_pos (.inl hk1)]
  ·rw [if_pos ⟨h2, by omega, by omega⟩]
   have hb := Vk hlt (show 0 ≤ k ∧ k < 64 by omega)
   rw [← hm] at hb
   cases hg : JT s.kids k with
   | true =>
    rw [if_pos (.inr rfl)]
    exact decide_eq_false (fun q => by rw [hb, hg] at q; cases q)
   | false =>
    rw [if_neg (by rintro (q | q); omega; cases q)]
    exact decide_eq_true (hb.2 hg)
 ·rw [if_neg h2, if_neg (by omega)]
theorem vj {s : StM} (h : FineD s) {k : Int} (hk : -1 ≤ k ∧ k ≤ 63) (hok : (s.fill k).2 = true) : (s.filledD k).1 = (s.fill k).1 := by
 have hp := h.place
 unfold StM.fill at hok ⊢
 unfold StM.filledD
 by_cases h0 : s.place = 0
 ·rw [if_pos h0] at hok ⊢
  rw [if_pos (.inl ⟨h0, of_decide_eq_true hok⟩)]
 rw [if_neg h0] at hok ⊢
 by_cases h3 : s.place = 3
 ·rw [if_pos h3] at hok ⊢
  rw [if_pos (.inr ⟨h3, of_decide_eq_true hok⟩)]
 rw [if_neg h3] at hok ⊢
 rw [if_neg (by omega)]
 by_cases h1 : s.place = 1
 ·rw [if_pos h1] at hok ⊢
  simp only [Bool.and_eq_true, decide_eq_true_eq] at hok
  rw [if_pos ⟨h1, hok.1⟩]
 rw [if_neg h1] at hok ⊢
 rw [if_neg (by omega)]
 by_cases h2 : s.place = 2
 ·rw [if_pos h2] at hok ⊢
  by_cases hk1 : k < 0 ∨ JT s.kids k = true
  ·rw [if_pos hk1] at hok; cases hok
  ·rw [if_neg hk1, if_pos ⟨h2, by omega, by omega⟩]; rfl
 ·rw [if_neg h2] at hok; cases hok
theorem Zo {s : StM} (h : FineD s) {k : Int} (hk : -1 ≤ k ∧ k ≤ 63) (h0 : s.place ≠ 0) (hok : (s.fill k).2 = false) : (s.filledD k).1 = (s.fill k).1 ∨ (0 < k ∧ (s.filledD k).1.place = 3 ∧ (s.fill k).1.place = 4) := by
 have hp := h.place
 obtain ⟨m, hm, hlt⟩ := h.kids
 have hfr := h.free
 unfold StM.fill at hok ⊢
 unfold StM.filledD
 rw [if_neg h0] at hok ⊢
 by_cases h3 : s.place = 3
 ·rw [if_pos h3] at hok ⊢
  have : ¬ k ≤ 0 := of_decide_eq_false hok
  rw [if_neg (by omega), if_neg (by omega), if_neg (by omega)]
  exact .inr ⟨by omega, h3, rfl⟩
 rw [if_neg h3] at hok ⊢
 rw [if_neg (by omega)]
 by_cases h1 : s.place = 1
 ·rw [if_pos h1] at hok ⊢
  left
  by_cases hk1 : k = -1
  ·rw [if_pos ⟨h1, hk1⟩]
  ·rw [if_neg (by omega), if_neg (by omega)]
 rw [if_neg h1] at hok ⊢
 rw [if_neg (by omega)]
 have hst := XX (hfr h1)
 left
 by_cases h2 : s.place = 2
 ·rw [if_pos h2] at hok ⊢
  by_cases hk1 : k < 0
  ·rw [if_neg (by omega), if_pos (.inl hk1)]; exact hst
  ·by_cases hg : JT s.kids k = true
   ·rw [if_pos ⟨h2, by omega, by omega⟩, if_pos (.inr hg)]
    have hb := Qq hlt (show 0 ≤ k ∧ k < 64 by omega) (by rw [← hm]; exact hg)
    rw [← hm] at hb
    rw [hb]
    exact hst
   ·rw [if_neg (by rintro (q | q); exact hk1 q; exact hg q)] at hok; cases hok
 ·rw [if_neg h2, if_neg (by omega)]; exact hst
end
section
open Go.RowKit
theorem wR {s : StM} (h : FineD s) (k : Int) : FineD (s.fill k).1 := by
 obtain ⟨m, hm, hlt⟩ := h.kids
 have hp := h.place
 have st : FineD s.still := ⟨h.place, fun _ => rfl, h.table, h.kids⟩
 have at4 : FineD (s.at_ 4) := ⟨⟨by show (0 : Int) ≤ 4; decide, by show (4 : Int) ≤ 4; decide⟩, fun _ => rfl, fun g => by rcases g with g | g <;> exact absurd (show (4 : Int) = _ from g) (by decide), h.kids⟩
 unfold StM.fill
 split
 ·exact at4
 split
 ·exact at4
 split
 ·exact st
 split
 ·split
  ·exact h
  ·refine ⟨hp, fun _ => rfl, h.table, ?_⟩
   show ∃ n : Nat, za0 s.kids k = n ∧ n < 18446744073709551616
   refine ⟨_, Kx _ _, ?_⟩
   exact Nat.or_lt_two_pow (n := 64) (wH _) (wH _)
 ·exact h
theorem Vl {s : StM} (h : FineD s) {k : Int} (hk : -1 ≤ k ∧ k ≤ 63) (h2 : s.place = 2) : s.filledD k = s.fill k := by
 refine Prod.ext ?_ (jt h hk)
 cases hok : (s.fill k).2 with
 | true => exact vj h hk hok
 | false =>
  rcases Zo h hk (by omega) hok with g | ⟨_, g, _⟩
  ·exact g
  ·exfalso
   unfold StM.filledD at g
   rw [if_neg (by omega), if_neg (by omega)] at g
   split at g
   ·have : s.place = 3 := g
    omega
   ·have : s.place = 3 := g
    omega
theorem kL {s : StM} (h2 : s.place = 2) (k : Int) : (s.fill k).1.place = 2 := by
 unfold StM.fill
 rw [if_neg (by omega), if_neg (by omega), if_neg (by omega), if_pos h2]
 split <;> exact h2
theorem ju : ∀ (n : Nat) {k : Int} {s : StM} (ok : Bool), FineD s → s.place = 2 → 0 ≤ k → k + n ≤ 64 → VU n k s ok = runN n k s ok
 | 0, _, _, _, _, _, _, _ => rfl
 | n + 1, k, s, ok, h, h2, h0, hk => by
  unfold VU runN
  rw [Vl h (by omega) h2]
  cases ok with
  | true =>
   rw [if_pos rfl, if_pos rfl]
   exact ju n _ (wR h k) (kL h2 k) (by omega) (by omega)
  | false => rfl
theorem Zp (n : Nat) (k : Int) (s : StM) : VU n k s false = (s, false) ∧ runN n k s false = (s, false) := by
 cases n with
 | zero => exact ⟨rfl, rfl⟩
 | succ n => exact ⟨by unfold VU; rw [if_neg (by decide)], by unfold runN; rw [if_neg (by decide)]⟩
theorem qI {s : StM} (h : FineD s) (f : Int) : s.offsetD f = s.offset f := by
 unfold StM.offsetD StM.offset
 by_cases h2 : s.place = 2
 ·have := h.table (.inl h2)
  rw [if_pos h2, if_pos h2, decide_eq_true this, Bool.and_true]
 ·rw [if_neg h2, if_neg h2]
theorem Vm {s : StM} (h : FineD s) : s.endsD = s.over := by
 have hp := h.place
 unfold StM.endsD StM.over
 by_cases h2 : s.place = 2
 ·rw [if_neg (by omega), if_neg (by omega), if_pos h2]
 ·rw [if_pos h2, if_neg h2]
  by_cases h1 : s.place = 1 ∨ s.place = 4
  ·rw [if_pos h1]
   rcases h1 with h1 | h1 <;> rw [h1] <;> rfl
  ·rw [if_neg h1, if_neg (by omega), decide_eq_false (by omega), decide_eq_false (by omega)]
   rfl
structure FormD (x : InsM) : Prop where
 kid : x.op = 16 ∨ x.op = 1 ∨ x.op = 3 ∨ x.op = 4 ∨ x.op = 17 → -1 ≤ x.a ∧ x.a ≤ 63
 run : x.op = 2 → 0 ≤ x.a ∧ 0 ≤ x.b ∧ x.a + x.b ≤ 64
theorem Qr {s : StM} (h : FineD s) {x : InsM} (hk : -1 ≤ x.a ∧ x.a ≤ 63) : (s.partD x).2 = (s.part x).2 := by
 unfold StM.partD StM.part
 split
 ·rfl
 ·dsimp only; rw [jt h hk]
theorem Y7 {s : StM} (h : FineD s) {x : InsM} (hk : -1 ≤ x.a ∧ x.a ≤ 63) (hok : (s.part x).2 = true) : (s.partD x).1 = (s.part x).1 := by
 unfold StM.part at hok ⊢
 unfold StM.partD
 by_cases ha : x.a = -1
 ·rw [if_pos ha, if_pos ha]
 ·rw [if_neg ha] at hok
  rw [if_neg ha, if_neg ha]
  simp only [Bool.and_eq_true] at hok
  rw [vj h hk hok.1.1.1]
theorem Ky {s : StM} (h : FineD s) {x : InsM} (hx : FormD x) (t : Int) : (kU s x t).2 = (vC s x t).2 ∧ ((vC s x t).2 = true → (kU s x t).1 = (vC s x t).1) := by
 unfold kU vC
 dsimp only
 by_cases h16 : x.op = 16
 ·rw [if_pos h16, if_pos h16]
  have hk := hx.kid (.inl h16)
  by_cases hc : t ≤ x.c
  ·rw [if_pos hc, decide_eq_false (show ¬ x.c < t by omega), Bool.and_false]
   exact ⟨rfl, fun g => by cases g⟩
  ·rw [if_neg hc, decide_eq_true (show x.c < t by omega), Bool.and_true]
   exact ⟨jt h hk, fun g => by dsimp only at g ⊢; rw [vj h hk g]⟩
 rw [if_neg h16, if_neg h16]
 by_cases h1 : x.op = 1 ∨ x.op = 3 ∨ x.op = 4
 ·rw [if_pos h1, if_pos h1]
  have hk := hx.kid (by omega)
  exact ⟨jt h hk, fun g => by dsimp only at g ⊢; rw [vj h hk g]⟩
 rw [if_neg h1, if_neg h1]
 by_cases h2 : x.op = 2
 ·rw [if_pos h2, if_pos h2]
  obtain ⟨a1, a2, a3⟩ := hx.run h2
  unfold StM.run
  dsimp only
  by_cases hp : s.place = 2
  ·rw [ju x.b.toNat _ h hp a1 (by omega)]
   exact ⟨rfl, fun _ => rfl⟩
  ·rw [decide_eq_false hp, (Zp _ _ _).1, (Zp _ _ _).2]
   exact ⟨rfl, fun _ => rfl⟩
 rw [if_neg h2, if_neg h2]
 by_cases h5 : x.op = 5
 ·rw [if_pos h5, if_pos h5]; exact ⟨rfl, fun _ => rfl⟩
 rw [if_neg h5, if_neg h5]
 by_cases h6 : x.op = 6
 ·rw [if_pos h6, if_pos h6]; exact ⟨rfl, fun _ => rfl⟩
 rw [if_neg h6, if_neg h6]
 by_cases h7 : x.op = 7
 ·rw [if_pos h7, if_pos h7]; exact ⟨rfl, fun _ => rfl⟩
 rw [if_neg h7, if_neg h7]
 by_cases h8 : x.op = 8
 ·rw [if_pos h8, if_pos h8]; exact ⟨rfl, fun _ => rfl⟩
 rw [if_neg h8, if_neg h8]
 by_cases h10 : x.op = 10
 ·rw [if_pos h10, if_pos h10, qI h]; exact ⟨rfl, fun _ => rfl⟩
 rw [if_neg h10, if_neg h10]
 by_cases h17 : x.op = 17
 ·rw [if_pos h17, if_pos h17]
  have hk := hx.kid (by omega)
  by_cases hc : t ≤ x.c
  ·rw [if_pos hc, decide_eq_false (show ¬ x.c < t by omega), Bool.and_false]
   exact ⟨rfl, fun g => by cases g⟩
  ·rw [if_neg hc, decide_eq_true (show x.c < t by omega), Bool.and_true]
   exact ⟨Qr h hk, fun g => Y7 h hk g⟩
 rw [if_neg h17, if_neg h17]
 by_cases hr : x.op = 11 ∨ x.op = 12 ∨ x.op = 13 ∨ x.op = 14 ∨ x.op = 15 ∨ x.op = 18
 ·rw [if_pos hr, if_pos hr]; exact ⟨rfl, fun _ => rfl⟩
 rw [if_neg hr, if_neg hr]
 by_cases h19 : x.op = 19
 ·rw [if_pos h19, if_pos h19]; exact ⟨rfl, fun _ => rfl⟩
 rw [if_neg h19, if_neg h19]
 by_cases h20 : x.op = 20
 ·rw [if_pos h20, if_pos h20]; exact ⟨Vm h, fun _ => rfl⟩
 rw [if_neg h20, if_neg h20]
 exact ⟨rfl, fun _ => rfl⟩
end
section
open Go.RowKit
theorem Jk {s : StM} (h : FineD s) {k : Int} (hk : 0 < k) (hok : (s.fill k).2 = true) : (s.fill k).1.place = 2 := by
 have hp := h.place
 unfold StM.fill at hok ⊢
 by_cases h0 : s.place = 0
 ·rw [if_pos h0] at hok
  have := of_decide_eq_true hok
  omega
 rw [if_neg h0] at hok ⊢
 by_cases h3 : s.place = 3
 ·rw [if_pos h3] at hok
  have := of_decide_eq_true hok
  omega
 rw [if_neg h3] at hok ⊢
 by_cases h1 : s.place = 1
 ·rw [if_pos h1] at hok
  simp only [Bool.and_eq_true, decide_eq_true_eq] at hok
  omega
 rw [if_neg h1] at hok ⊢
 by_cases h2 : s.place = 2
 ·rw [if_pos h2] at hok ⊢
  split
  ·exact h2
  ·exact h2
 ·rw [if_neg h2] at hok; cases hok
theorem Y8 {s0 s : StM} (h0 : FineD s0) (h : FineD s) {k : Int} (hk : -1 ≤ k ∧ k ≤ 63) (hp : s0.place ≠ 0) (hok : (s.fill k).2 = true) : ((s0.filledD k).1 = (s.filledD k).1 ↔ (s0.fill k).1 = (s.fill k).1) ∧ ((s0.filledD k).1 = (s0.fill k).1 ∨ ((s0.filledD k).1.place ≠ (s.fill k).1.place ∧ (s0.fill k).1.place ≠ (s.fill k).1.place)) := by
 rw [vj h hk hok]
 cases hok0 : (s0.fill k).2 with
 | true => rw [vj h0 hk hok0]; exact ⟨Iff.rfl, .inl rfl⟩
 | false =>
  rcases Zo h0 hk hp hok0 with g | ⟨g1, g2, g3⟩
  ·rw [g]; exact ⟨Iff.rfl, .inl rfl⟩
  ·have h2 := Jk h g1 hok
   refine ⟨⟨fun q => ?_, fun q => ?_⟩, .inr ⟨by omega, by omega⟩⟩
   ·rw [q] at g2; omega
   ·rw [q] at g3; omega
theorem Jl {s0 s : StM} (h0 : FineD s0) (h : FineD s) {x : InsM} (hx : FormD x) {t : Int} (hp : s0.place ≠ 0) (hok : (vC s x t).2 = true) : (kU s0 x t).1 = (kU s x t).1 ↔ (vC s0 x t).1 = (vC s x t).1 := by
 have hb : ∀ {a b c d : StM}, (a = b ↔ c = d) → (both a = both b ↔ both c = both d) := fun {a b c d} hi => ⟨fun q => by rw [hi.1 (congrArg EfM.next q)], fun q => by rw [hi.2 (congrArg EfM.next q)]⟩
 by_cases hf : x.op = 16 ∨ x.op = 1 ∨ x.op = 3 ∨ x.op = 4 ∨ x.op = 17
 ·have hk := hx.kid hf
  by_cases h17 : x.op = 17
  ·have e1 : ∀ s : StM, kU s x t = ((s.partD x).1, (s.partD x).2 && decide (x.c < t)) := fun s => by
    unfold kU
    simp only [h17, Int.reduceEq, or_self, if_false, if_true]
   have e2 : ∀ s : StM, vC s x t = if t ≤ x.c then (.zero, false) else s.part x := fun s => by
    unfold vC
    simp only [h17, Int.reduceEq, or_self, if_false, if_true]
   rw [e2] at hok
   by_cases hc : t ≤ x.c
   ·rw [if_pos hc] at hok; cases hok
   ·rw [if_neg hc] at hok
    rw [e1, e1, e2, e2, if_neg hc, if_neg hc]
    dsimp only
    by_cases ha : x.a = -1
    ·unfold StM.partD StM.part
     rw [if_pos ha, if_pos ha, if_pos ha, if_pos ha]
    ·have hok2 := hok
     unfold StM.part at hok
     rw [if_neg ha] at hok
     simp only [Bool.and_eq_true, decide_eq_true_eq] at hok
     obtain ⟨⟨⟨q1, q2⟩, _⟩, _⟩ := hok
     obtain ⟨_, hi⟩ := Y8 h0 h hk hp q1
     rw [Y7 h hk hok2]
     unfold StM.partD StM.part
     rw [if_neg ha, if_neg ha, if_neg ha]
     dsimp only
     rcases hi with g | ⟨g1, g2⟩
     ·rw [g]
     ·exact ⟨fun q => absurd (congrArg (fun e : EfM => e.next.place) q) g1, fun q => absurd (congrArg (fun e : EfM => e.next.place) q) g2⟩
  ·have e1 : ∀ s : StM, (kU s x t).1 = both (s.filledD x.a).1 := fun s => by
    unfold kU
    by_cases h16 : x.op = 16
    ·rw [if_pos h16]
    ·rw [if_neg h16, if_pos (by omega)]
   have e2 : ∀ s : StM, ((vC s x t).2 = true → (s.fill x.a).2 = true ∧ ∀ s' : StM, (vC s' x t).1 = both (s'.fill x.a).1) := fun s hs => by
    unfold vC at hs
    dsimp only at hs
    by_cases h16 : x.op = 16
    ·rw [if_pos h16] at hs
     by_cases hc : t ≤ x.c
     ·rw [if_pos hc] at hs; cases hs
     ·rw [if_neg hc] at hs
      refine ⟨hs, fun s' => ?_⟩
      unfold vC
      rw [if_pos h16, if_neg hc]
    ·rw [if_neg h16, if_pos (by omega)] at hs
     refine ⟨hs, fun s' => ?_⟩
     unfold vC
     rw [if_neg h16, if_pos (by omega)]
   obtain ⟨g1, g2⟩ := e2 s hok
   rw [e1, e1, g2, g2]
   exact hb (Y8 h0 h hk hp g1).1
 ·have same : ∀ {s : StM}, FineD s → kU s x t = vC s x t := fun {s} hs => by
   refine Prod.ext ?_ (Ky hs hx t).1
   simp only [not_or] at hf
   obtain ⟨n16, n1, n3, n4, n17⟩ := hf
   unfold kU vC
   dsimp only
   simp only [n16, n1, n3, n4, n17, or_self, if_false]
   by_cases h2 : x.op = 2
   ·rw [if_pos h2, if_pos h2]
    obtain ⟨a1, a2, a3⟩ := hx.run h2
    unfold StM.run
    dsimp only
    by_cases hp : s.place = 2
    ·rw [ju x.b.toNat _ hs hp a1 (by omega)]
    ·rw [decide_eq_false hp, (Zp _ _ _).1, (Zp _ _ _).2]
   rw [if_neg h2, if_neg h2]
   by_cases h10 : x.op = 10
   ·simp only [h10, Int.reduceEq, if_false, if_true]
    rw [qI hs]
   by_cases h20 : x.op = 20
   ·simp only [h20, Int.reduceEq, or_self, if_false, if_true]
   ·simp only [h10, h20, if_false]
  rw [same h0, same h]
structure FineE (s : StM) : Prop where
 ok : xD s
 st : s = ⟨5, 0, 0, 0, 0, 0⟩ ∨ s.place = 6 ∧ s.kids = 0 ∧ s.table = 0 ∧ s.parts = 0 ∧ s.free = 0 ∨ s.place = 7 ∧ s.kids = 0 ∧ s.table = 0 ∧ s.parts = 0 ∧ s.left = 0
theorem ue {s : StM} (h : FineE s) : s.takenD = s.take 1 ∨ (s.place = 7 ∧ s.takenD.2 = false ∧ (s.take 1).2 = false ∧ s.takenD.1.place = 7 ∧ (s.take 1).1.place = 7) := by
 unfold StM.takenD StM.take
 rcases h.st with g | ⟨g, _⟩ | ⟨g, _⟩
 ·rw [g]; exact .inl rfl
 ·rw [if_neg (by omega), if_neg (by omega), if_pos g, decide_eq_true g, Bool.true_and]
  exact .inl rfl
 ·rw [if_neg (by omega), if_neg (by omega), if_neg (by omega), decide_eq_false (show ¬ s.place = 6 by omega)]
  exact .inr ⟨g, rfl, rfl, g, g⟩
theorem take_left {s : StM} (hok : (s.take 1).2 = true) : (s.take 1).1.place = 6 := by
 unfold StM.take at hok ⊢
 split
 ·rfl
 ·rename_i h1
  rw [if_neg h1] at hok
  split
  ·assumption
  ·rename_i h2
   rw [if_neg h2] at hok; cases hok
end
end Go.Proofs.YtjeplogcfedmeaaGreat

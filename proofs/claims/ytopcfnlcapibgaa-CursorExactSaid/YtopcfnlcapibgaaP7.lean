import Derived.Test.YtopcfnlcapibgaaP6
set_option linter.all false
section
namespace Go.Proofs.Ytopcfnlcapibgaa
open Go.RowKit
set_option maxRecDepth 100000
set_option maxHeartbeats 8000000
/-! lent, over. -/
theorem lent_G (b : List Int) (hl : b.length ≤ 1000000000) : GCall Try.prog 25 [.lst 1 (encB b)] [] (.rfx 5 1 4 0 b.length 1) [(4, .row 5 1 (encB (b ++ [90])))] := by
  have ht : (encB b).take b.length = encB b := take_len (by rw [encB_len]; exact Nat.le_refl _)
  have ha : encB b ++ [[.v (.int .u8 90)]] = encB (b ++ [90]) := by simp [encB]
  have hz : ((b.length : Int)).toNat = b.length := by omega
  have hs : b.length + 1 - b.length = 1 := by omega
  refine go_fnG (tyOf_ok _) Try.func25 rfl rfl (by rw [Try.results25]) Try.ntmps25 rfl fun E => ?_
  (repeat' (first
    | exact trivial
    | (with_reducible first | refine awA ?_ | refine awB ?_ | refine awC ?_ | refine awD ?_ | refine awE ?_ | refine awF ?_ | refine awG ?_ | refine awH ?_ | refine awI ?_ | refine awJ ?_ | refine awK ?_ | refine awL ?_ | refine awM (by decide) ?_)
    | ((with_reducible first | refine awN (tyOf_ok _) [1000006] ?_ | refine awO (tyOf_ok _) [1000006] ?_ | refine awP (tyOf_ok _) [1000006] ?_ | refine awQ ?_ | refine awR ?_ | refine awS ?_ | refine awT ?_ | refine awU ?_); intro r hr; simp only [go_sem, Nat.reduceBEq, Nat.reduceBneDiff, Nat.reduceLT, Nat.reduceLeDiff, Nat.reduceAdd, Nat.reduceMul, Nat.reduceSub, Nat.reduceEqDiff, reduceCtorEq, ht, ha, hz, hs, encB_len, List.nil_append, List.length_append, List.length_cons, List.length_nil, Nat.zero_add, Nat.add_zero, Nat.sub_zero, Int.toNat_zero] at hr; subst hr; (first | refine awV ?_ ?_ | refine awW ?_ ?_ | refine endK ?_ ?_ | refine endGK ?_ ?_ ?_ | (refine condK (fun h => ?_) (fun h => ?_) <;> (try simp only [go_sem, reduceCtorEq] at h) <;> (try (exfalso; omega))))) | fail)) <;> (try omega)
  all_goals first | omega | exact AV.up_rfl _ | exact obUp_cons rfl obUp_nil
/-- the first k bytes made greater by one -/
def incB (b : List Int) (k : Nat) : List Int := (b.take k).map (fun z => IntKind.u8.wrap (z + 1)) ++ b.drop k
theorem incB_zero (b : List Int) : incB b 0 = b := by simp [incB]
theorem incB_len {b : List Int} {k : Nat} (h : k ≤ b.length) : (incB b k).length = b.length := by simp [incB]; omega
theorem incB_get {b : List Int} {k : Nat} (h : k < b.length) : (encB (incB b k ++ [90]))[k]? = some [.v (.int .u8 b[k])] := by
  have hl := incB_len (b := b) (k := k) (by omega)
  rw [encB_get (by simp; omega)]
  have : (incB b k ++ [90])[k]? = some b[k] := by
    rw [List.getElem?_append_left (by omega), incB, List.getElem?_append_right (by simp; omega)]
    have : k - ((b.take k).map (fun z => IntKind.u8.wrap (z + 1))).length = 0 := by simp; omega
    rw [this, List.getElem?_drop, Nat.add_zero, List.getElem?_eq_getElem h]
  rw [List.getElem?_eq_getElem (by simp; omega)] at this
  rw [Option.some.inj this]
theorem incB_set {b : List Int} {k : Nat} (h : k < b.length) : (encB (incB b k ++ [90])).set k [.v (.int .u8 (IntKind.u8.wrap (b[k] + 1)))] = encB (incB b (k + 1) ++ [90]) := by
  have hl : ((b.take k).map (fun z => IntKind.u8.wrap (z + 1))).length = k := by simp; omega
  have h1 : (incB b k ++ [90]).set k (IntKind.u8.wrap (b[k] + 1)) = incB b (k + 1) ++ [90] := by
    rw [incB, incB, List.append_assoc, List.set_append_right _ _ (by rw [hl]; exact Nat.le_refl _), hl, Nat.sub_self, List.drop_eq_getElem_cons h, List.cons_append, List.set_cons_zero, List.take_succ_eq_append_getElem h, List.map_append]
    simp
  rw [← h1, encB, encB, List.map_set]
theorem allU8_encB (b : List Int) : allU8 (encB b) := fun cs hcs => by
  obtain ⟨z, _, rfl⟩ := List.mem_map.1 hcs
  exact ⟨z, rfl⟩
theorem over_G (b : List Int) (hl : b.length ≤ 1000000000) : GCall Try.prog 27 [.rfx 5 1 15000 0 b.length 1, .lst 1 (encB b)] [(15000, .row 5 1 (encB (b ++ [90])))] (vB true) [(15000, .row 5 1 (encB (incB b b.length ++ [90])))] := by
  have hcut : ((encB (b ++ [90])).take (0 + b.length)).drop 0 = encB b := by rw [Nat.zero_add, List.drop_zero, encB_take, List.take_left]
  have hcut2 : (encB (b ++ [90])).take b.length = encB b := by rw [encB_take, List.take_left]
  have hw := wrap_i64 (n := (b.length : Int) + 1) (by omega)
  have hz : ((b.length : Int) + 1).toNat = b.length + 1 := by omega
  have hz2 : ((b.length : Int)).toNat = b.length := by omega
  have g90 : (encB (b ++ [90]))[b.length]? = some [.v (.int .u8 90)] := by rw [encB_get (by simp)]; simp
  have hall := allU8_encB b
  refine go_fnG (tyOf_ok _) Try.func27 rfl rfl (by rw [Try.results27]) Try.ntmps27 rfl fun E => ?_
  (repeat' (first
    | exact trivial
    | (with_reducible first | refine awA ?_ | refine awB ?_ | refine awC ?_ | refine awD ?_ | refine awE ?_ | refine awF ?_ | refine awG ?_ | refine awH ?_ | refine awI ?_ | refine awJ ?_ | refine awK ?_ | refine awL ?_ | refine awM (by decide) ?_)
    | ((with_reducible first | refine awN (tyOf_ok _) [] ?_ | refine awO (tyOf_ok _) [] ?_ | refine awP (tyOf_ok _) [] ?_ | refine awQ ?_ | refine awR ?_ | refine awS ?_ | refine awT ?_ | refine awU ?_); intro r hr; simp only [go_sem, Nat.reduceBEq, Nat.reduceBneDiff, Nat.reduceLT, Nat.reduceLeDiff, Nat.reduceAdd, Nat.reduceMul, Nat.reduceSub, Nat.reduceEqDiff, reduceCtorEq, hw, hz, hz2, g90, encB_len, List.length_append, List.length_cons, List.length_nil, Nat.zero_add, Nat.add_zero, Nat.sub_zero, Int.toNat_zero, decide_true, Int.cast_ofNat_Int, Int.reduceToNat, Int.reduceEq, Int.reduceLT, Int.reduceLE, Int.reduceNe] at hr; subst hr; (first | refine awV ?_ ?_ | refine awW ?_ ?_ | refine endK ?_ ?_ | refine endGK ?_ ?_ ?_ | (refine condK (fun h => ?_) (fun h => ?_) <;> (try simp only [go_sem, reduceCtorEq] at h) <;> (try (exfalso; omega)))))
    | (refine al_conv (tyOf_ok _) rfl rfl ⟨by decide, by decide⟩ rfl rfl (show _ ∧ _ ∧ _ ≤ _ from ⟨rfl, rfl, by simp [encB_len]⟩) (by simp only [hcut2, List.drop_zero, Nat.zero_add, go_sem, Nat.reduceBEq, Nat.reduceBneDiff, Nat.reduceLT, Nat.reduceLeDiff, Nat.reduceAdd, Nat.reduceMul, Nat.reduceSub, Nat.reduceEqDiff, reduceCtorEq]; exact rfl) hall rfl ?_) | fail)) <;> (try omega)
  · exact ⟨hall, ⟨by omega, by omega, by omega⟩, by omega, by omega⟩
  refine go_loop [0, 5, 6] [15000] (fun k : Nat => ⟨[(0, true, .rfx 5 1 15000 0 b.length 1), (5, true, vB true), (6, true, vI k)], [(15000, .row 5 1 (encB (incB b k ++ [90])))]⟩) (fun k => k ≤ b.length) (fun k => b.length - k) 0 (by simp only [incB_zero, go_sem, Nat.reduceBEq, Nat.reduceBneDiff, Nat.reduceLT, Nat.reduceLeDiff, Nat.reduceAdd, Nat.reduceMul, Nat.reduceSub, Nat.reduceEqDiff, reduceCtorEq] <;> exact rfl) (Nat.zero_le _) ?_
  intro k hk
  have hwk : IntKind.i64.wrap ((k : Int) + 1) = ((k + 1 : Nat) : Int) := by rw [wrap_i64 (by omega)]; omega
  by_cases hlt : k < b.length
  · have e1 : ((k : Int) < b.length) = True := eq_true (by omega)
    have zk : ((k : Int)).toNat = k := by omega
    have gk := incB_get hlt
    have sk := incB_set hlt
    have hlk := incB_len (b := b) (k := k) (by omega)
    (repeat' (first
    | exact trivial
    | (with_reducible first | refine awA ?_ | refine awB ?_ | refine awC ?_ | refine awD ?_ | refine awE ?_ | refine awF ?_ | refine awG ?_ | refine awH ?_ | refine awI ?_ | refine awJ ?_ | refine awK ?_ | refine awL ?_ | refine awM (by decide) ?_)
    | ((with_reducible first | refine awN (tyOf_ok _) [] ?_ | refine awO (tyOf_ok _) [] ?_ | refine awP (tyOf_ok _) [] ?_ | refine awQ ?_ | refine awR ?_ | refine awS ?_ | refine awT ?_ | refine awU ?_); intro r hr; simp only [go_sem, Nat.reduceBEq, Nat.reduceBneDiff, Nat.reduceLT, Nat.reduceLeDiff, Nat.reduceAdd, Nat.reduceMul, Nat.reduceSub, Nat.reduceEqDiff, reduceCtorEq, e1, hwk, zk, gk, sk, hlk, setXs, encB_len, List.length_append, List.length_cons, List.length_nil, Nat.zero_add] at hr; subst hr; (first | refine awV ?_ ?_ | refine awW ?_ ?_ | refine endK ?_ ?_ | refine endGK ?_ ?_ ?_ | (refine condK (fun h => ?_) (fun h => ?_) <;> (try simp only [go_sem, reduceCtorEq] at h) <;> (try (exfalso; omega))))) | fail)) <;> (try omega)
    all_goals first | omega | exact ⟨k + 1, by simp only [go_sem, Nat.reduceBEq, Nat.reduceBneDiff, Nat.reduceLT, Nat.reduceLeDiff, Nat.reduceAdd, Nat.reduceMul, Nat.reduceSub, Nat.reduceEqDiff, reduceCtorEq] <;> exact rfl, hlt, by omega⟩
  · have e1 : ((k : Int) < b.length) = False := eq_false (by omega)
    obtain rfl : k = b.length := by omega
    (repeat' (first
    | exact trivial
    | (with_reducible first | refine awA ?_ | refine awB ?_ | refine awC ?_ | refine awD ?_ | refine awE ?_ | refine awF ?_ | refine awG ?_ | refine awH ?_ | refine awI ?_ | refine awJ ?_ | refine awK ?_ | refine awL ?_ | refine awM (by decide) ?_)
    | ((with_reducible first | refine awN (tyOf_ok _) [] ?_ | refine awO (tyOf_ok _) [] ?_ | refine awP (tyOf_ok _) [] ?_ | refine awQ ?_ | refine awR ?_ | refine awS ?_ | refine awT ?_ | refine awU ?_); intro r hr; simp only [go_sem, Nat.reduceBEq, Nat.reduceBneDiff, Nat.reduceLT, Nat.reduceLeDiff, Nat.reduceAdd, Nat.reduceMul, Nat.reduceSub, Nat.reduceEqDiff, reduceCtorEq, e1] at hr; subst hr; (first | refine awV ?_ ?_ | refine awW ?_ ?_ | refine endK ?_ ?_ | refine endGK ?_ ?_ ?_ | (refine condK (fun h => ?_) (fun h => ?_) <;> (try simp only [go_sem, reduceCtorEq] at h) <;> (try (exfalso; omega))))) | fail)) <;> (try omega)
    all_goals first | exact AV.up_rfl _ | exact obUp_cons rfl obUp_nil
end Go.Proofs.Ytopcfnlcapibgaa
end
section
namespace Go.Proofs.Ytopcfnlcapibgaa
open Go.RowKit
set_option maxRecDepth 100000
set_option maxHeartbeats 8000000
/-! The table; the book. -/
/-- an input, and the document's: what was there, all that was given, how much was taken -/
structure InS where
  pre : List Int
  all : List Int
  tk : Nat
  frm : Int
  over : Bool
structure OutS where
  most : Int
  b : List Int
structure TabS where
  i0 : InS
  i1 : InS
  o0 : OutS
  o1 : OutS
/-- the objects but for the table and the book -/
def tabA (D : TabS) : List (Nat × AObj) := [(15001, .var [.ref 5 1 15002 D.i0.pre.length (D.i0.all.drop D.i0.tk).length, vI (D.i0.frm + D.i0.tk), vB D.i0.over]),
  (15002, .row 5 1 (encB (D.i0.pre ++ D.i0.all.drop D.i0.tk))),
  (15003, .var [.ref 5 1 15004 0 D.i0.all.length, vI D.i0.tk, vI D.i0.frm, vB D.i0.over]),
  (15004, .row 5 1 (encB D.i0.all)),
  (15005, .var [vI D.o0.most, .ref 5 1 15006 0 D.o0.b.length]),
  (15006, .row 5 1 (encB D.o0.b)),
  (15007, .var [.ref 5 1 15008 0 D.o0.b.length, vI D.o0.most]),
  (15008, .row 5 1 (encB D.o0.b)),
  (15011, .var [.ref 5 1 15012 D.i1.pre.length (D.i1.all.drop D.i1.tk).length, vI (D.i1.frm + D.i1.tk), vB D.i1.over]),
  (15012, .row 5 1 (encB (D.i1.pre ++ D.i1.all.drop D.i1.tk))),
  (15013, .var [.ref 5 1 15014 0 D.i1.all.length, vI D.i1.tk, vI D.i1.frm, vB D.i1.over]),
  (15014, .row 5 1 (encB D.i1.all)),
  (15015, .var [vI D.o1.most, .ref 5 1 15016 0 D.o1.b.length]),
  (15016, .row 5 1 (encB D.o1.b)),
  (15017, .var [.ref 5 1 15018 0 D.o1.b.length, vI D.o1.most]),
  (15018, .row 5 1 (encB D.o1.b))]
def tabN : List Nat := [15001, 15002, 15003, 15004, 15005, 15006, 15007, 15008, 15011, 15012, 15013, 15014, 15015, 15016, 15017, 15018]
def tabV (l m : AV) : AObj := .var [.ptr 1 15001 0 0, .ptr 1 15011 0 0, .ptr 1 15003 0 0, .ptr 1 15013 0 0, .ptr 1 15005 0 0, .ptr 1 15015 0 0, .ptr 1 15007 0 0, .ptr 1 15017 0 0, l, m]
/-- bytes that are marks -/
def repB (n : Nat) (b : Int) : List Int := List.replicate n b
theorem repB_len (n : Nat) (b : Int) : (repB n b).length = n := by simp [repB]
theorem repB_get {n i : Nat} (b : Int) (h : i < n) : (encB (repB n b))[i]? = some [.v (.int .u8 b)] := by
  rw [encB_get (by rw [repB_len]; exact h)]; simp [repB]
theorem repB_next (n : Nat) (b : Int) : encB (repB n b) ++ [[.v (.int .u8 b)]] = encB (repB (n + 1) b) := by simp [repB, encB, List.replicate_succ']
def mkB (k : Nat) : Int := IntKind.u8.wrap (7 * (k : Int) + 1)
theorem mark_any (k : Nat) (hk : k ≤ 1000000000) : PCall Try.prog 38 [vI k] (fun r => r = vU8 (mkB k)) := by
  have h1 := wrap_i64 (n := 7 * (k : Int)) (by omega)
  have h2 := wrap_i64 (n := 7 * (k : Int) + 1) (by omega)
  refine go_fn (tyOf_ok _) Try.func38 rfl rfl (by rw [Try.results38]) Try.ntmps38 rfl fun E => ?_
  (repeat' (first
    | exact trivial
    | (with_reducible first | refine awA ?_ | refine awB ?_ | refine awC ?_ | refine awD ?_ | refine awE ?_ | refine awF ?_ | refine awG ?_ | refine awH ?_ | refine awI ?_ | refine awJ ?_ | refine awK ?_ | refine awL ?_ | refine awM (by decide) ?_)
    | ((with_reducible first | refine awN (tyOf_ok _) [] ?_ | refine awO (tyOf_ok _) [] ?_ | refine awP (tyOf_ok _) [] ?_ | refine awQ ?_ | refine awR ?_ | refine awS ?_); intro r hr; simp only [go_sem, Nat.reduceBEq, Nat.reduceBneDiff, Nat.reduceLT, Nat.reduceLeDiff, Nat.reduceAdd, Nat.reduceMul, Nat.reduceSub, Nat.reduceEqDiff, reduceCtorEq, h1, h2] at hr; subst hr; (first | refine awV ?_ ?_ | refine awW ?_ ?_ | refine endK ?_ ?_ | (refine condK (fun h => ?_) (fun h => ?_) <;> (try simp only [go_sem, reduceCtorEq] at h) <;> (try (exfalso; omega))))) | fail)) <;> (try omega)
  all_goals exact rfl
/-- the lists that were handed out; the same, longer by one -/
def bkL (ls : List Nat) : List AV := ls.mapIdx fun k n => .lst 1 (encB (repB n (mkB k)))
def bkM (ls : List Nat) : List (List AV) := ls.mapIdx fun k n => [.lst 1 (encB (repB (n + 1) (mkB k)))]
theorem bkL_len (ls : List Nat) : (bkL ls).length = ls.length := by simp [bkL]
theorem bkM_len (ls : List Nat) : (bkM ls).length = ls.length := by simp [bkM]
theorem bkL_get {ls : List Nat} {i : Nat} (h : i < ls.length) : (bkL ls)[i]? = some (.lst 1 (encB (repB ls[i] (mkB i)))) := by simp [bkL, h]
theorem bkM_get {ls : List Nat} {i : Nat} (h : i < ls.length) : (bkM ls)[i]? = some [.lst 1 (encB (repB (ls[i] + 1) (mkB i)))] := by simp [bkM, h]
theorem bkL_snoc (ls : List Nat) (n : Nat) : bkL ls ++ [.lst 1 (encB (repB n (mkB ls.length)))] = bkL (ls ++ [n]) := by simp [bkL, List.mapIdx_append]
theorem bkM_snoc (ls : List Nat) (n : Nat) : bkM ls ++ [[.lst 1 (encB (repB (n + 1) (mkB ls.length)))]] = bkM (ls ++ [n]) := by simp [bkM, List.mapIdx_append]
theorem bkL_map {f : AV → AV} (ls : List Nat) (hf : ∀ k xs, f (.lst k xs) = .lst k xs) : (bkL ls).map f = bkL ls := by
  conv => rhs; rw [← List.map_id (bkL ls)]
  refine List.map_congr_left fun u hu => ?_
  obtain ⟨i, h, rfl⟩ := List.mem_mapIdx.1 hu
  exact hf _ _
theorem bkL_kill (d : Nat) (ls : List Nat) : AV.kill.killL d (bkL ls) = bkL ls := by rw [AV.killL_eq]; exact bkL_map ls fun _ _ => rfl
theorem bkL_frz (d t k : Nat) (xs : List (List AV)) (ls : List Nat) : AV.frz.frzL d t k xs (bkL ls) = bkL ls := by rw [AV.frzL_eq]; exact bkL_map ls fun _ _ => rfl
theorem killL_app' (e : Nat) (a b : List AV) : AV.kill.killL e (a ++ b) = AV.kill.killL e a ++ AV.kill.killL e b := by simp [AV.killL_eq]
theorem frzL_app (d t k : Nat) (xs : List (List AV)) (a b : List AV) : AV.frz.frzL d t k xs (a ++ b) = AV.frz.frzL d t k xs a ++ AV.frz.frzL d t k xs b := by simp [AV.frzL_eq]
/-- names that are none of the table's objects -/
def farN (d : Nat) : Prop := d < 15001 ∨ 15018 < d
theorem tab_rm {d : Nat} (D : TabS) (h : d < 15001 ∨ 15018 < d) : rm d (tabA D) = tabA D := by
  have hb : ∀ n, 15001 ≤ n → n ≤ 15018 → (n == d) = false := fun n h1 h2 => beq_false_of_ne (by omega)
  simp only [tabA, rm, hb 15001 (by decide) (by decide), hb 15002 (by decide) (by decide), hb 15003 (by decide) (by decide), hb 15004 (by decide) (by decide), hb 15005 (by decide) (by decide), hb 15006 (by decide) (by decide), hb 15007 (by decide) (by decide), hb 15008 (by decide) (by decide), hb 15011 (by decide) (by decide), hb 15012 (by decide) (by decide), hb 15013 (by decide) (by decide), hb 15014 (by decide) (by decide), hb 15015 (by decide) (by decide), hb 15016 (by decide) (by decide), hb 15017 (by decide) (by decide), hb 15018 (by decide) (by decide), cond_false]
theorem tab_kill {d : Nat} (D : TabS) (h : d < 15001 ∨ 15018 < d) : (tabA D).map (fun p => (p.1, p.2.kill d)) = tabA D := by
  have hb : ∀ n, 15001 ≤ n → n ≤ 15018 → (n == d) = false := fun n h1 h2 => beq_false_of_ne (by omega)
  simp only [tabA, List.map_cons, List.map_nil, AObj.kill, AV.kill, AV.kill.killL, hb 15001 (by decide) (by decide), hb 15002 (by decide) (by decide), hb 15003 (by decide) (by decide), hb 15004 (by decide) (by decide), hb 15005 (by decide) (by decide), hb 15006 (by decide) (by decide), hb 15007 (by decide) (by decide), hb 15008 (by decide) (by decide), hb 15011 (by decide) (by decide), hb 15012 (by decide) (by decide), hb 15013 (by decide) (by decide), hb 15014 (by decide) (by decide), hb 15015 (by decide) (by decide), hb 15016 (by decide) (by decide), hb 15017 (by decide) (by decide), hb 15018 (by decide) (by decide), cond_false]
theorem tab_frz {d t k : Nat} {xs : List (List AV)} (D : TabS) (h : d < 15001 ∨ 15018 < d) : (tabA D).map (fun p => (p.1, p.2.frz d t k xs)) = tabA D := by
  have hb : ∀ n, 15001 ≤ n → n ≤ 15018 → (n == d) = false := fun n h1 h2 => beq_false_of_ne (by omega)
  simp only [tabA, List.map_cons, List.map_nil, AObj.frz, AV.frz, AV.frz.frzL, hb 15001 (by decide) (by decide), hb 15002 (by decide) (by decide), hb 15003 (by decide) (by decide), hb 15004 (by decide) (by decide), hb 15005 (by decide) (by decide), hb 15006 (by decide) (by decide), hb 15007 (by decide) (by decide), hb 15008 (by decide) (by decide), hb 15011 (by decide) (by decide), hb 15012 (by decide) (by decide), hb 15013 (by decide) (by decide), hb 15014 (by decide) (by decide), hb 15015 (by decide) (by decide), hb 15016 (by decide) (by decide), hb 15017 (by decide) (by decide), hb 15018 (by decide) (by decide), cond_false]
theorem fm_congr {α β : Type} {f g : α → Option β} : ∀ {l : List α}, (∀ e ∈ l, f e = g e) → l.filterMap f = l.filterMap g
  | [], _ => rfl
  | e :: l, h => by rw [List.filterMap_cons, List.filterMap_cons, h e (.head _), fm_congr fun x hx => h x (.tail _ hx)]
/-- what is kept in mind of it -/
theorem keep_tab {ob : List (Nat × AObj)} (D : TabS) (h : ∀ d, 15001 ≤ d → d ≤ 15018 → lk ob d = lk (tabA D) d) : tabN.filterMap (fun e => (lk ob e).map fun o => (e, o)) = tabA D := by
  have h2 : tabN.filterMap (fun e => (lk ob e).map fun o => (e, o)) = tabN.filterMap (fun e => (lk (tabA D) e).map fun o => (e, o)) := by
    refine fm_congr fun e he => ?_
    have hd : ∀ e ∈ tabN, 15001 ≤ e ∧ e ≤ 15018 := by decide
    have := hd e he
    rw [h e this.1 this.2]
  rw [h2]
  rfl
theorem keep_table {s : AState} (ts os : List Nat) (D : TabS) (h : ∀ d, 15001 ≤ d → d ≤ 15018 → lk s.ob d = lk (tabA D) d) : s.keep ts (os ++ tabN) = { fr := (s.keep ts os).fr, ob := (s.keep ts os).ob ++ tabA D } := by
  show AState.mk _ _ = AState.mk _ _
  rw [List.filterMap_append, keep_tab D h]
  rfl
end Go.Proofs.Ytopcfnlcapibgaa
end
section
namespace Go.Proofs.Ytopcfnlcapibgaa
open Go.RowKit
set_option maxRecDepth 100000
set_option maxHeartbeats 8000000
/-! The book: what was handed out is kept, written over and grown. -/
def tabO (D : TabS) : List Nat → List (Nat × AObj)
  | [] => (10000, tabV (.v (.slice none 0 0)) (.v (.slice none 0 0))) :: tabA D
  | n :: ls => (10000, tabV (.ref 28 1 15021 0 (n :: ls).length) (.ref 28 1 15022 0 (n :: ls).length)) :: (15021, .var (bkL (n :: ls))) :: (15022, .row 28 1 (bkM (n :: ls))) :: tabA D
theorem tabO_ne (D : TabS) {ls : List Nat} (h : ls ≠ []) : tabO D ls = (10000, tabV (.ref 28 1 15021 0 ls.length) (.ref 28 1 15022 0 ls.length)) :: (15021, .var (bkL ls)) :: (15022, .row 28 1 (bkM ls)) :: tabA D := by
  cases ls with
  | nil => exact absurd rfl h
  | cons n ls => rfl
theorem tab_names {D : TabS} {d : Nat} {o : AObj} (h : lk (tabA D) d = some o) : 15001 ≤ d ∧ d ≤ 15018 := by
  have hm := lk_mem h
  simp only [tabA, List.mem_cons, Prod.mk.injEq, List.not_mem_nil, or_false] at hm
  omega
theorem obUp_tab {ob : List (Nat × AObj)} {D : TabS} (h : ∀ d, 15001 ≤ d → d ≤ 15018 → lk ob d = lk (tabA D) d) : obUp ob (tabA D) := fun d o hd => by
  have := tab_names hd
  exact .inl ((h d this.1 this.2).trans hd)
/-- bytes of which the first k were written over -/
def mkd (l : List Int) (m : Int) (k : Nat) : List Int := repB k m ++ l.drop k
theorem mkd_zero (l : List Int) (m : Int) : mkd l m 0 = l := by simp [mkd, repB]
theorem mkd_full (l : List Int) (m : Int) : mkd l m l.length = repB l.length m := by simp [mkd]
theorem mkd_len {l : List Int} {k : Nat} (m : Int) (h : k ≤ l.length) : (mkd l m k).length = l.length := by simp [mkd, repB_len]; omega
theorem mkd_get {l : List Int} {k : Nat} (m : Int) (h : k < l.length) : (encB (mkd l m k))[k]? = some [.v (.int .u8 l[k])] := by
  have hl : k < (mkd l m k).length := by rw [mkd_len m (by omega)]; exact h
  rw [encB_get hl]
  have : (mkd l m k)[k]? = some l[k] := by
    rw [mkd, List.getElem?_append_right (by rw [repB_len]; exact Nat.le_refl _), repB_len, Nat.sub_self, List.getElem?_drop, Nat.add_zero, List.getElem?_eq_getElem h]
  rw [List.getElem?_eq_getElem hl] at this
  rw [Option.some.inj this]
theorem mkd_set {l : List Int} {k : Nat} (m : Int) (h : k < l.length) : (encB (mkd l m k)).set k [.v (.int .u8 m)] = encB (mkd l m (k + 1)) := by
  have h1 : (mkd l m k).set k m = mkd l m (k + 1) := by
    rw [mkd, mkd, List.set_append_right _ _ (by rw [repB_len]; exact Nat.le_refl _), repB_len, Nat.sub_self, List.drop_eq_getElem_cons h, List.set_cons_zero, repB, repB, List.replicate_succ', List.append_assoc]
    rfl
  rw [← h1, encB, encB, List.map_set]
theorem keep_S (D : TabS) (ls : List Nat) (hne : ls ≠ []) (hls : ls.length ≤ 1000000) (l : List Int) (hl : l.length ≤ 1000000000) :
    GCall Try.prog 32 [.ptr 1 10000 0 8, .ref 5 1 15023 0 l.length] ((15023, .row 5 1 (encB l)) :: tabO D ls) (.tup []) (tabO D (ls ++ [l.length])) := by
  rw [tabO_ne D hne, tabO_ne D (ls := ls ++ [l.length]) (by simp), List.length_append, List.length_singleton]
  have hk := fun d h => tab_kill (d := d) D h
  have hf := fun d t k xs h => tab_frz (d := d) (t := t) (k := k) (xs := xs) D h
  simp only [AObj.kill] at hk
  simp only [AObj.frz] at hf
  have hm := mark_any ls.length (by omega)
  generalize hmm : mkB ls.length = m at hm
  have hsn := bkL_snoc ls l.length
  have hmn := bkM_snoc ls l.length
  rw [hmm] at hsn hmn
  have htm : (bkM ls).take ls.length = bkM ls := take_len (by rw [bkM_len]; exact Nat.le_refl _)
  have htr : (encB (repB l.length m)).take l.length = encB (repB l.length m) := take_len (by rw [encB_len, repB_len]; exact Nat.le_refl _)
  have hrn := repB_next l.length m
  have hl1 : (ls ++ [l.length]).length = ls.length + 1 := by simp
  refine go_fnG (tyOf_ok _) Try.func32 rfl rfl (by rw [Try.results32]) Try.ntmps32 rfl fun E => ?_
  (repeat' (first
    | exact trivial
    | (with_reducible first | refine awA ?_ | refine awB ?_ | refine awC ?_ | refine awD ?_ | refine awE ?_ | refine awF ?_ | refine awG ?_ | refine awH ?_ | refine awI ?_ | refine awJ ?_ | refine awK ?_ | refine awL ?_ | refine awM (by decide) ?_)
    | (refine aw_draw (id := 6) (t := (.node [0, 1, 2, 3, 5, 6] [(.node [4, 7, 8, 9, 10, 11, 12, 13] []), (.node [7] [(.node [4, 8, 9, 10, 11, 12, 13] []), (.node [8, 4, 9, 10, 11, 12, 13] [])])])) (drR [] [36] []) mixed (by kernel_rfl) (by kernel_rfl) (fun _ _ h => h) ?_)
    | (refine at_done (by simp only [List.filterMap_cons, List.filterMap_nil, List.getElem?_toArray, List.getElem?_cons_zero, List.getElem?_cons_succ]; exact rfl) ?_) | (refine at_alt (by simp only [List.filterMap_cons, List.filterMap_nil, List.getElem?_toArray, List.getElem?_cons_zero, List.getElem?_cons_succ]; exact rfl) ?_) | refine qalt_normal ?_ | refine ats_cons ?_ ?_ | exact ats_nil
    | ((with_reducible first | refine awN (tyOf_ok _) [] ?_ | refine awO (tyOf_ok _) [] ?_ | refine awP (tyOf_ok _) [] ?_ | refine awQ ?_ | refine awR ?_ | refine awS ?_ | refine awT ?_ | refine awU ?_); intro r hr; simp only [go_sem, Nat.reduceBEq, Nat.reduceBneDiff, Nat.reduceLT, Nat.reduceLeDiff, Nat.reduceAdd, Nat.reduceMul, Nat.reduceSub, Nat.reduceEqDiff, reduceCtorEq, tabV, bkL_len, hk, hf, tab_rm, true_or, or_true] at hr; subst hr; (first | refine caA (fun _ => hm) rfl ?_ ?_ ?_ | refine awV ?_ ?_ | refine awW ?_ ?_ | refine endK ?_ ?_ | refine endGK ?_ ?_ ?_ | (refine condK (fun h => ?_) (fun h => ?_) <;> (try simp only [go_sem, reduceCtorEq] at h) <;> (try (exfalso; omega))))) | fail)) <;> (try omega)
  refine go_loop [0, 1, 4, 5] ([10000, 15021, 15022, 15023] ++ tabN) (fun k : Nat => ⟨[(0, true, .ptr 1 10000 0 8), (1, true, .ref 5 1 15023 0 l.length), (4, true, vU8 m), (5, true, vI k)],
    (10000, tabV (.ref 28 1 15021 0 ls.length) (.ref 28 1 15022 0 ls.length)) :: (15021, .var (bkL ls)) :: (15022, .row 28 1 (bkM ls)) :: (15023, .row 5 1 (encB (mkd l m k))) :: tabA D⟩) (fun k => k ≤ l.length) (fun k => l.length - k) 0 ?_ (Nat.zero_le _) ?_
  · rw [keep_table _ _ D (fun d h1 h2 => by repeat rw [lk_cons, bif_ne (by omega)])]
    simp only [tabV, mkd_zero, List.cons_append, List.nil_append, go_sem, Nat.reduceBEq, Nat.reduceBneDiff, Nat.reduceLT, Nat.reduceLeDiff, Nat.reduceAdd, Nat.reduceMul, Nat.reduceSub, Nat.reduceEqDiff, reduceCtorEq] <;> exact rfl
  intro k hk2
  have hwk : IntKind.i64.wrap ((k : Int) + 1) = ((k + 1 : Nat) : Int) := by rw [wrap_i64 (by omega)]; omega
  by_cases hlt : k < l.length
  · have e1 : ((k : Int) < l.length) = True := eq_true (by omega)
    have zk : ((k : Int)).toNat = k := by omega
    have gk := mkd_get m hlt
    have sk := mkd_set m hlt
    have hln := mkd_len (l := l) (k := k) m (by omega)
    (repeat' (first
    | exact trivial
    | (with_reducible first | refine awA ?_ | refine awB ?_ | refine awC ?_ | refine awD ?_ | refine awE ?_ | refine awF ?_ | refine awG ?_ | refine awH ?_ | refine awI ?_ | refine awJ ?_ | refine awK ?_ | refine awL ?_ | refine awM (by decide) ?_)
    | (refine aw_draw (id := 6) (t := (.node [0, 1, 2, 3, 5, 6] [(.node [4, 7, 8, 9, 10, 11, 12, 13] []), (.node [7] [(.node [4, 8, 9, 10, 11, 12, 13] []), (.node [8, 4, 9, 10, 11, 12, 13] [])])])) (drR [] [36] []) mixed (by kernel_rfl) (by kernel_rfl) (fun _ _ h => h) ?_)
    | (refine at_done (by simp only [List.filterMap_cons, List.filterMap_nil, List.getElem?_toArray, List.getElem?_cons_zero, List.getElem?_cons_succ]; exact rfl) ?_) | (refine at_alt (by simp only [List.filterMap_cons, List.filterMap_nil, List.getElem?_toArray, List.getElem?_cons_zero, List.getElem?_cons_succ]; exact rfl) ?_) | refine qalt_normal ?_ | refine ats_cons ?_ ?_ | exact ats_nil
    | ((with_reducible first | refine awN (tyOf_ok _) [] ?_ | refine awO (tyOf_ok _) [] ?_ | refine awP (tyOf_ok _) [] ?_ | refine awQ ?_ | refine awR ?_ | refine awS ?_ | refine awT ?_ | refine awU ?_); intro r hr; simp only [go_sem, Nat.reduceBEq, Nat.reduceBneDiff, Nat.reduceLT, Nat.reduceLeDiff, Nat.reduceAdd, Nat.reduceMul, Nat.reduceSub, Nat.reduceEqDiff, reduceCtorEq, tabV, e1, hwk, zk, gk, sk, hln, setXs, encB_len, Nat.zero_add, hk, hf, tab_rm, true_or, or_true] at hr; subst hr; (first | refine awV ?_ ?_ | refine awW ?_ ?_ | refine endK ?_ ?_ | refine endGK ?_ ?_ ?_ | (refine condK (fun h => ?_) (fun h => ?_) <;> (try simp only [go_sem, reduceCtorEq] at h) <;> (try (exfalso; omega))))) | fail)) <;> (try omega)
    refine ⟨k + 1, ?_, hlt, by omega⟩
    rw [keep_table _ _ D (fun d h1 h2 => by repeat rw [lk_cons, bif_ne (by omega)])]
    simp only [tabV, List.cons_append, List.nil_append, go_sem, Nat.reduceBEq, Nat.reduceBneDiff, Nat.reduceLT, Nat.reduceLeDiff, Nat.reduceAdd, Nat.reduceMul, Nat.reduceSub, Nat.reduceEqDiff, reduceCtorEq] <;> exact rfl
  · have e1 : ((k : Int) < l.length) = False := eq_false (by omega)
    obtain rfl : k = l.length := by omega
    rw [mkd_full]
    (repeat' (first
    | exact trivial
    | (with_reducible first | refine awA ?_ | refine awB ?_ | refine awC ?_ | refine awD ?_ | refine awE ?_ | refine awF ?_ | refine awG ?_ | refine awH ?_ | refine awI ?_ | refine awJ ?_ | refine awK ?_ | refine awL ?_ | refine awM (by decide) ?_)
    | (refine aw_draw (id := 6) (t := (.node [0, 1, 2, 3, 5, 6] [(.node [4, 7, 8, 9, 10, 11, 12, 13] []), (.node [7] [(.node [4, 8, 9, 10, 11, 12, 13] []), (.node [8, 4, 9, 10, 11, 12, 13] [])])])) (drR [] [36] []) mixed (by kernel_rfl) (by kernel_rfl) (fun _ _ h => h) ?_)
    | (refine at_done (by simp only [List.filterMap_cons, List.filterMap_nil, List.getElem?_toArray, List.getElem?_cons_zero, List.getElem?_cons_succ]; exact rfl) ?_) | (refine at_alt (by simp only [List.filterMap_cons, List.filterMap_nil, List.getElem?_toArray, List.getElem?_cons_zero, List.getElem?_cons_succ]; exact rfl) ?_) | refine qalt_normal ?_ | refine ats_cons ?_ ?_ | exact ats_nil
    | ((with_reducible first | refine awN (tyOf_ok _) [3000028, 3000029, 2000040] ?_ | refine awO (tyOf_ok _) [3000028, 3000029, 2000040] ?_ | refine awP (tyOf_ok _) [3000028, 3000029, 2000040] ?_ | refine awQ ?_ | refine awR ?_ | refine awS ?_ | refine awT ?_ | refine awU ?_); intro r hr; simp only [go_sem, Nat.reduceBEq, Nat.reduceBneDiff, Nat.reduceLT, Nat.reduceLeDiff, Nat.reduceAdd, Nat.reduceMul, Nat.reduceSub, Nat.reduceEqDiff, reduceCtorEq, tabV, e1, hl1, hsn, hmn, htm, htr, hrn, bkL_len, bkM_len, bkL_kill, bkL_frz, killL_app', frzL_app, encB_len, repB_len, Nat.zero_add, Nat.mul_one, List.drop_zero, Nat.le_refl, if_true, and_self, true_and, hk, hf, tab_rm, true_or, or_true] at hr; subst hr; (first | refine awV ?_ ?_ | refine awW ?_ ?_ | refine endK ?_ ?_ | refine endGK ?_ ?_ ?_ | (refine condK (fun h => ?_) (fun h => ?_) <;> (try simp only [go_sem, reduceCtorEq] at h) <;> (try (exfalso; omega))))) | fail)) <;> (try omega)
    all_goals first | omega | (constructor <;> omega) | exact AV.up_rfl _ | exact obUp_cons rfl (obUp_cons rfl (obUp_cons rfl (obUp_tab fun d h1 h2 => by repeat rw [lk_cons, bif_ne (by omega)])))
theorem keep_0 (D : TabS) (l : List Int) (hl : l.length ≤ 1000000000) :
    GCall Try.prog 32 [.ptr 1 10000 0 8, .ref 5 1 15023 0 l.length] ((15023, .row 5 1 (encB l)) :: tabO D []) (.tup [])
      ((10000, tabV (.ref 28 1 29 0 1) (.ref 28 1 15022 0 1)) :: (29, .var (bkL [l.length])) :: (15022, .row 28 1 (bkM [l.length])) :: tabA D) := by
  have hk := fun d h => tab_kill (d := d) D h
  have hf := fun d t k xs h => tab_frz (d := d) (t := t) (k := k) (xs := xs) D h
  simp only [AObj.kill] at hk
  simp only [AObj.frz] at hf
  have hm := mark_any 0 (by omega)
  have hsn : bkL [l.length] = [.lst 1 (encB (repB l.length (mkB 0)))] := rfl
  have hmn : bkM [l.length] = [[.lst 1 (encB (repB (l.length + 1) (mkB 0)))]] := rfl
  rw [hsn, hmn]
  generalize mkB 0 = m at hm ⊢
  have htr : (encB (repB l.length m)).take l.length = encB (repB l.length m) := take_len (by rw [encB_len, repB_len]; exact Nat.le_refl _)
  have hrn := repB_next l.length m
  unfold tabO
  refine go_fnG (tyOf_ok _) Try.func32 rfl rfl (by rw [Try.results32]) Try.ntmps32 rfl fun E => ?_
  refine aw_nilvar 10000 9 28 1 15022 (.inr (by decide)) (by decide) rfl rfl ?_
  (repeat' (first
    | exact trivial
    | (with_reducible first | refine awA ?_ | refine awB ?_ | refine awC ?_ | refine awD ?_ | refine awE ?_ | refine awF ?_ | refine awG ?_ | refine awH ?_ | refine awI ?_ | refine awJ ?_ | refine awK ?_ | refine awL ?_ | refine awM (by decide) ?_)
    | (refine aw_draw (id := 6) (t := (.node [0, 1, 2, 3, 5, 6] [(.node [4, 7, 8, 9, 10, 11, 12, 13] []), (.node [7] [(.node [4, 8, 9, 10, 11, 12, 13] []), (.node [8, 4, 9, 10, 11, 12, 13] [])])])) (drR [] [36] []) mixed (by kernel_rfl) (by kernel_rfl) (fun _ _ h => h) ?_)
    | (refine at_done (by simp only [List.filterMap_cons, List.filterMap_nil, List.getElem?_toArray, List.getElem?_cons_zero, List.getElem?_cons_succ]; exact rfl) ?_) | (refine at_alt (by simp only [List.filterMap_cons, List.filterMap_nil, List.getElem?_toArray, List.getElem?_cons_zero, List.getElem?_cons_succ]; exact rfl) ?_) | refine qalt_normal ?_ | refine ats_cons ?_ ?_ | exact ats_nil
    | ((with_reducible first | refine awN (tyOf_ok _) [] ?_ | refine awO (tyOf_ok _) [] ?_ | refine awP (tyOf_ok _) [] ?_ | refine awQ ?_ | refine awR ?_ | refine awS ?_ | refine awT ?_ | refine awU ?_); intro r hr; simp only [go_sem, Nat.reduceBEq, Nat.reduceBneDiff, Nat.reduceLT, Nat.reduceLeDiff, Nat.reduceAdd, Nat.reduceMul, Nat.reduceSub, Nat.reduceEqDiff, reduceCtorEq, tabV, AState.nilvar, List.set_cons_succ, List.set_cons_zero, hk, hf, tab_rm, true_or, or_true, Int.cast_ofNat_Int, Int.reduceToNat, Int.reduceEq, Int.reduceLT, Int.reduceLE, Int.reduceNe] at hr; subst hr; (first | refine caA (fun _ => hm) rfl ?_ ?_ ?_ | refine awV ?_ ?_ | refine awW ?_ ?_ | refine endK ?_ ?_ | refine endGK ?_ ?_ ?_ | (refine condK (fun h => ?_) (fun h => ?_) <;> (try simp only [go_sem, reduceCtorEq] at h) <;> (try (exfalso; omega))))) | fail)) <;> (try omega)
  refine go_loop [0, 1, 4, 5] ([10000, 15022, 15023] ++ tabN) (fun k : Nat => ⟨[(0, true, .ptr 1 10000 0 8), (1, true, .ref 5 1 15023 0 l.length), (4, true, vU8 m), (5, true, vI k)],
    (10000, tabV (.v (.slice none 0 0)) (.ref 28 1 15022 0 0)) :: (15022, .row 28 1 []) :: (15023, .row 5 1 (encB (mkd l m k))) :: tabA D⟩) (fun k => k ≤ l.length) (fun k => l.length - k) 0 ?_ (Nat.zero_le _) ?_
  · rw [keep_table _ _ D (fun d h1 h2 => by simp only [AState.nilvar, hk, hf, tab_rm, true_or, or_true, go_sem, Nat.reduceBEq, Nat.reduceBneDiff, Nat.reduceLT, Nat.reduceLeDiff, Nat.reduceAdd, Nat.reduceMul, Nat.reduceSub, Nat.reduceEqDiff, reduceCtorEq]; repeat rw [bif_ne (by omega)])]
    simp only [AState.nilvar, List.set_cons_succ, List.set_cons_zero, tabV, mkd_zero, List.cons_append, List.nil_append, hk, hf, tab_rm, true_or, or_true, go_sem, Nat.reduceBEq, Nat.reduceBneDiff, Nat.reduceLT, Nat.reduceLeDiff, Nat.reduceAdd, Nat.reduceMul, Nat.reduceSub, Nat.reduceEqDiff, reduceCtorEq] <;> exact rfl
  intro k hk2
  have hwk : IntKind.i64.wrap ((k : Int) + 1) = ((k + 1 : Nat) : Int) := by rw [wrap_i64 (by omega)]; omega
  by_cases hlt : k < l.length
  · have e1 : ((k : Int) < l.length) = True := eq_true (by omega)
    have zk : ((k : Int)).toNat = k := by omega
    have gk := mkd_get m hlt
    have sk := mkd_set m hlt
    have hln := mkd_len (l := l) (k := k) m (by omega)
    (repeat' (first
    | exact trivial
    | (with_reducible first | refine awA ?_ | refine awB ?_ | refine awC ?_ | refine awD ?_ | refine awE ?_ | refine awF ?_ | refine awG ?_ | refine awH ?_ | refine awI ?_ | refine awJ ?_ | refine awK ?_ | refine awL ?_ | refine awM (by decide) ?_)
    | (refine aw_draw (id := 6) (t := (.node [0, 1, 2, 3, 5, 6] [(.node [4, 7, 8, 9, 10, 11, 12, 13] []), (.node [7] [(.node [4, 8, 9, 10, 11, 12, 13] []), (.node [8, 4, 9, 10, 11, 12, 13] [])])])) (drR [] [36] []) mixed (by kernel_rfl) (by kernel_rfl) (fun _ _ h => h) ?_)
    | (refine at_done (by simp only [List.filterMap_cons, List.filterMap_nil, List.getElem?_toArray, List.getElem?_cons_zero, List.getElem?_cons_succ]; exact rfl) ?_) | (refine at_alt (by simp only [List.filterMap_cons, List.filterMap_nil, List.getElem?_toArray, List.getElem?_cons_zero, List.getElem?_cons_succ]; exact rfl) ?_) | refine qalt_normal ?_ | refine ats_cons ?_ ?_ | exact ats_nil
    | ((with_reducible first | refine awN (tyOf_ok _) [] ?_ | refine awO (tyOf_ok _) [] ?_ | refine awP (tyOf_ok _) [] ?_ | refine awQ ?_ | refine awR ?_ | refine awS ?_ | refine awT ?_ | refine awU ?_); intro r hr; simp only [go_sem, Nat.reduceBEq, Nat.reduceBneDiff, Nat.reduceLT, Nat.reduceLeDiff, Nat.reduceAdd, Nat.reduceMul, Nat.reduceSub, Nat.reduceEqDiff, reduceCtorEq, tabV, e1, hwk, zk, gk, sk, hln, setXs, encB_len, Nat.zero_add, hk, hf, tab_rm, true_or, or_true] at hr; subst hr; (first | refine awV ?_ ?_ | refine awW ?_ ?_ | refine endK ?_ ?_ | refine endGK ?_ ?_ ?_ | (refine condK (fun h => ?_) (fun h => ?_) <;> (try simp only [go_sem, reduceCtorEq] at h) <;> (try (exfalso; omega))))) | fail)) <;> (try omega)
    refine ⟨k + 1, ?_, hlt, by omega⟩
    rw [keep_table _ _ D (fun d h1 h2 => by repeat rw [lk_cons, bif_ne (by omega)])]
    simp only [tabV, List.cons_append, List.nil_append, go_sem, Nat.reduceBEq, Nat.reduceBneDiff, Nat.reduceLT, Nat.reduceLeDiff, Nat.reduceAdd, Nat.reduceMul, Nat.reduceSub, Nat.reduceEqDiff, reduceCtorEq] <;> exact rfl
  · have e1 : ((k : Int) < l.length) = False := eq_false (by omega)
    obtain rfl : k = l.length := by omega
    rw [mkd_full]
    (repeat' (first
    | exact trivial
    | (with_reducible first | refine awA ?_ | refine awB ?_ | refine awC ?_ | refine awD ?_ | refine awE ?_ | refine awF ?_ | refine awG ?_ | refine awH ?_ | refine awI ?_ | refine awJ ?_ | refine awK ?_ | refine awL ?_ | refine awM (by decide) ?_)
    | (refine aw_draw (id := 6) (t := (.node [0, 1, 2, 3, 5, 6] [(.node [4, 7, 8, 9, 10, 11, 12, 13] []), (.node [7] [(.node [4, 8, 9, 10, 11, 12, 13] []), (.node [8, 4, 9, 10, 11, 12, 13] [])])])) (drR [] [36] []) mixed (by kernel_rfl) (by kernel_rfl) (fun _ _ h => h) ?_)
    | (refine at_done (by simp only [List.filterMap_cons, List.filterMap_nil, List.getElem?_toArray, List.getElem?_cons_zero, List.getElem?_cons_succ]; exact rfl) ?_) | (refine at_alt (by simp only [List.filterMap_cons, List.filterMap_nil, List.getElem?_toArray, List.getElem?_cons_zero, List.getElem?_cons_succ]; exact rfl) ?_) | refine qalt_normal ?_ | refine ats_cons ?_ ?_ | exact ats_nil
    | ((with_reducible first | refine awN (tyOf_ok _) [3000028, 3000029, 2000040] ?_ | refine awO (tyOf_ok _) [3000028, 3000029, 2000040] ?_ | refine awP (tyOf_ok _) [3000028, 3000029, 2000040] ?_ | refine awQ ?_ | refine awR ?_ | refine awS ?_ | refine awT ?_ | refine awU ?_); intro r hr; simp only [go_sem, Nat.reduceBEq, Nat.reduceBneDiff, Nat.reduceLT, Nat.reduceLeDiff, Nat.reduceAdd, Nat.reduceMul, Nat.reduceSub, Nat.reduceEqDiff, reduceCtorEq, tabV, e1, htr, List.nil_append, List.length_cons, List.length_nil, List.take_nil, hrn, bkL_len, bkM_len, bkL_kill, bkL_frz, killL_app', frzL_app, encB_len, repB_len, Nat.zero_add, Nat.mul_one, List.drop_zero, Nat.le_refl, if_true, and_self, true_and, hk, hf, tab_rm, true_or, or_true] at hr; subst hr; (first | refine awV ?_ ?_ | refine awW ?_ ?_ | refine endK ?_ ?_ | refine endGK ?_ ?_ ?_ | (refine condK (fun h => ?_) (fun h => ?_) <;> (try simp only [go_sem, reduceCtorEq] at h) <;> (try (exfalso; omega))))) | fail)) <;> (try omega)
    all_goals first | omega | (constructor <;> omega) | exact AV.up_rfl _ | exact obUp_cons rfl (obUp_cons rfl (obUp_cons rfl (obUp_tab fun d h1 h2 => by repeat rw [lk_cons, bif_ne (by omega)])))
end Go.Proofs.Ytopcfnlcapibgaa
end
section
namespace Go.Proofs.Ytopcfnlcapibgaa
open Go.RowKit
set_option maxRecDepth 100000
set_option maxHeartbeats 8000000
/-! The book holds. -/
/-- a step that is not made (as in Ln3) -/
theorem al_skip9 {P : Program} {E : Env} {s : AState} {n : Nat} {ops : Array Oper} {Q : Exit → AState → Prop} {rest : List Oper} {o : Oper} {D : Dr} (d : Nat) (_ : o.dst = some d) (ra : AV) (hg : guardAV ops s o.guard = some false) (hk : kindN o.op = true) (hdst : dstOK n o.dst) (hr : AListD P E n ops D rest Q (s.put o.dst false ra)) : AListR P E n ops D (o :: rest) Q s := by
  intro a w β hn hd hs
  have hw := guard_ok (ops := ops) hs hg
  obtain ⟨g1, g2, g3⟩ := putRel hn hd hs hdst false ra (v := undef) (fun h => by cases h) (fun _ => rfl)
  exact step_N hk hw (fun h => by cases h) (fun _ => rfl) (hr _ _ _ g1 g2 g3)
theorem holds_0 (D : TabS) : GCall Try.prog 8 [.ptr 1 10000 0 8] (tabO D []) (vB true) (tabO D []) := by
  unfold tabO
  refine go_fnG (tyOf_ok _) Try.func8 rfl rfl (by rw [Try.results8]) Try.ntmps8 rfl fun E => ?_
  have e0 : ((0 : Int) < 0) = False := eq_false (by decide)
  (repeat' (first
    | exact trivial
    | (with_reducible first | refine awA ?_ | refine awB ?_ | refine awC ?_ | refine awD ?_ | refine awE ?_ | refine awF ?_ | refine awG ?_ | refine awH ?_ | refine awI ?_ | refine awJ ?_ | refine awK ?_ | refine awL ?_ | refine awM (by decide) ?_)
    | (refine aw_draw (id := 7) (t := (.node [0, 1, 2, 3, 4, 5, 6, 7, 8, 9, 10, 11, 12, 13, 14, 15, 16, 17, 18, 19, 20, 21, 22, 23, 24, 25, 26, 27, 28, 29, 30, 31, 32, 33, 34, 35, 36, 37, 38, 39] [])) (drR [10000] [32, 35, 47, 57, 60] []) mixed (by kernel_rfl) (by kernel_rfl) (fun _ _ h => h) ?_)
    | (refine at_done (by simp only [List.filterMap_cons, List.filterMap_nil, List.getElem?_toArray, List.getElem?_cons_zero, List.getElem?_cons_succ]; exact rfl) ?_) | (refine at_alt (by simp only [List.filterMap_cons, List.filterMap_nil, List.getElem?_toArray, List.getElem?_cons_zero, List.getElem?_cons_succ]; exact rfl) ?_) | refine qalt_normal ?_ | refine ats_cons ?_ ?_ | exact ats_nil
    | ((with_reducible first | refine awN (tyOf_ok _) [] ?_ | refine awO (tyOf_ok _) [] ?_ | refine awP (tyOf_ok _) [] ?_ | refine awQ ?_ | refine awR ?_ | refine awS ?_ | refine awT ?_ | refine awU ?_); intro r hr; simp only [go_sem, Nat.reduceBEq, Nat.reduceBneDiff, Nat.reduceLT, Nat.reduceLeDiff, Nat.reduceAdd, Nat.reduceMul, Nat.reduceSub, Nat.reduceEqDiff, reduceCtorEq] at hr; subst hr; (first | refine awV ?_ ?_ | refine awW ?_ ?_ | refine endK ?_ ?_ | refine endGK ?_ ?_ ?_ | (refine condK (fun h => ?_) (fun h => ?_) <;> (try simp only [go_sem, reduceCtorEq] at h) <;> (try (exfalso; omega))))) | fail)) <;> (try omega)
  refine go_loop [0, 3] ([10000] ++ tabN) (fun _ : Unit => ⟨[(0, true, .ptr 1 10000 0 8), (3, true, vI 0)], (10000, tabV (.v (.slice none 0 0)) (.v (.slice none 0 0))) :: tabA D⟩) (fun _ => True) (fun _ => 0) () ?_ trivial ?_
  · rw [keep_table _ _ D (fun d h1 h2 => by repeat rw [lk_cons, bif_ne (by omega)])]
    simp only [tabV, List.cons_append, List.nil_append, go_sem, Nat.reduceBEq, Nat.reduceBneDiff, Nat.reduceLT, Nat.reduceLeDiff, Nat.reduceAdd, Nat.reduceMul, Nat.reduceSub, Nat.reduceEqDiff, reduceCtorEq] <;> exact rfl
  intro _ _
  (repeat' (first
    | exact trivial
    | (with_reducible first | refine awA ?_ | refine awB ?_ | refine awC ?_ | refine awD ?_ | refine awE ?_ | refine awF ?_ | refine awG ?_ | refine awH ?_ | refine awI ?_ | refine awJ ?_ | refine awK ?_ | refine awL ?_ | refine awM (by decide) ?_)
    | (refine aw_draw (id := 7) (t := (.node [0, 1, 2, 3, 4, 5, 6, 7, 8, 9, 10, 11, 12, 13, 14, 15, 16, 17, 18, 19, 20, 21, 22, 23, 24, 25, 26, 27, 28, 29, 30, 31, 32, 33, 34, 35, 36, 37, 38, 39] [])) (drR [10000] [32, 35, 47, 57, 60] []) mixed (by kernel_rfl) (by kernel_rfl) (fun _ _ h => h) ?_)
    | (refine at_done (by simp only [List.filterMap_cons, List.filterMap_nil, List.getElem?_toArray, List.getElem?_cons_zero, List.getElem?_cons_succ]; exact rfl) ?_) | (refine at_alt (by simp only [List.filterMap_cons, List.filterMap_nil, List.getElem?_toArray, List.getElem?_cons_zero, List.getElem?_cons_succ]; exact rfl) ?_) | refine qalt_normal ?_ | refine ats_cons ?_ ?_ | exact ats_nil
    | ((with_reducible first | refine awN (tyOf_ok _) [] ?_ | refine awO (tyOf_ok _) [] ?_ | refine awP (tyOf_ok _) [] ?_ | refine awQ ?_ | refine awR ?_ | refine awS ?_ | refine awT ?_ | refine awU ?_); intro r hr; simp only [go_sem, Nat.reduceBEq, Nat.reduceBneDiff, Nat.reduceLT, Nat.reduceLeDiff, Nat.reduceAdd, Nat.reduceMul, Nat.reduceSub, Nat.reduceEqDiff, reduceCtorEq, tabV, e0] at hr; subst hr; (first | refine awV ?_ ?_ | refine awW ?_ ?_ | refine endK ?_ ?_ | refine endGK ?_ ?_ ?_ | (refine condK (fun h => ?_) (fun h => ?_) <;> (try simp only [go_sem, reduceCtorEq] at h) <;> (try (exfalso; omega))))) | fail)) <;> (try omega)
  all_goals first | exact AV.up_rfl _ | exact obUp_cons rfl (obUp_tab fun d h1 h2 => by repeat rw [lk_cons, bif_ne (by omega)])
theorem holds_S (D : TabS) (ls : List Nat) (hne : ls ≠ []) (hls : ls.length ≤ 1000000) (hb : ∀ n ∈ ls, n ≤ 1000000000) : GCall Try.prog 8 [.ptr 1 10000 0 8] (tabO D ls) (vB true) (tabO D ls) := by
  rw [tabO_ne D hne]
  refine go_fnG (tyOf_ok _) Try.func8 rfl rfl (by rw [Try.results8]) Try.ntmps8 rfl fun E => ?_
  (repeat' (first
    | exact trivial
    | (with_reducible first | refine awA ?_ | refine awB ?_ | refine awC ?_ | refine awD ?_ | refine awE ?_ | refine awF ?_ | refine awG ?_ | refine awH ?_ | refine awI ?_ | refine awJ ?_ | refine awK ?_ | refine awL ?_ | refine awM (by decide) ?_)
    | (refine aw_draw (id := 7) (t := (.node [0, 1, 2, 3, 4, 5, 6, 7, 8, 9, 10, 11, 12, 13, 14, 15, 16, 17, 18, 19, 20, 21, 22, 23, 24, 25, 26, 27, 28, 29, 30, 31, 32, 33, 34, 35, 36, 37, 38, 39] [])) (drR [10000] [32, 35, 47, 57, 60] []) mixed (by kernel_rfl) (by kernel_rfl) (fun _ _ h => h) ?_)
    | (refine at_done (by simp only [List.filterMap_cons, List.filterMap_nil, List.getElem?_toArray, List.getElem?_cons_zero, List.getElem?_cons_succ]; exact rfl) ?_) | (refine at_alt (by simp only [List.filterMap_cons, List.filterMap_nil, List.getElem?_toArray, List.getElem?_cons_zero, List.getElem?_cons_succ]; exact rfl) ?_) | refine qalt_normal ?_ | refine ats_cons ?_ ?_ | exact ats_nil
    | ((with_reducible first | refine awN (tyOf_ok _) [] ?_ | refine awO (tyOf_ok _) [] ?_ | refine awP (tyOf_ok _) [] ?_ | refine awQ ?_ | refine awR ?_ | refine awS ?_ | refine awT ?_ | refine awU ?_); intro r hr; simp only [go_sem, Nat.reduceBEq, Nat.reduceBneDiff, Nat.reduceLT, Nat.reduceLeDiff, Nat.reduceAdd, Nat.reduceMul, Nat.reduceSub, Nat.reduceEqDiff, reduceCtorEq] at hr; subst hr; (first | refine awV ?_ ?_ | refine awW ?_ ?_ | refine endK ?_ ?_ | refine endGK ?_ ?_ ?_ | (refine condK (fun h => ?_) (fun h => ?_) <;> (try simp only [go_sem, reduceCtorEq] at h) <;> (try (exfalso; omega))))) | fail)) <;> (try omega)
  refine go_loop [0, 3] ([10000, 15021, 15022] ++ tabN) (fun k : Nat => ⟨[(0, true, .ptr 1 10000 0 8), (3, true, vI k)], (10000, tabV (.ref 28 1 15021 0 ls.length) (.ref 28 1 15022 0 ls.length)) :: (15021, .var (bkL ls)) :: (15022, .row 28 1 (bkM ls)) :: tabA D⟩) (fun k => k ≤ ls.length) (fun k => ls.length - k) 0 ?_ (Nat.zero_le _) ?_
  · rw [keep_table _ _ D (fun d h1 h2 => by repeat rw [lk_cons, bif_ne (by omega)])]
    simp only [tabV, List.cons_append, List.nil_append, go_sem, Nat.reduceBEq, Nat.reduceBneDiff, Nat.reduceLT, Nat.reduceLeDiff, Nat.reduceAdd, Nat.reduceMul, Nat.reduceSub, Nat.reduceEqDiff, reduceCtorEq] <;> exact rfl
  intro k hk
  have hwk : IntKind.i64.wrap ((k : Int) + 1) = ((k + 1 : Nat) : Int) := by rw [wrap_i64 (by omega)]; omega
  have zk : ((k : Int)).toNat = k := by omega
  by_cases hlt : k < ls.length
  case neg =>
    have e1 : ((k : Int) < ls.length) = False := eq_false (by omega)
    (repeat' (first
    | exact trivial
    | (with_reducible first | refine awA ?_ | refine awB ?_ | refine awC ?_ | refine awD ?_ | refine awE ?_ | refine awF ?_ | refine awG ?_ | refine awH ?_ | refine awI ?_ | refine awJ ?_ | refine awK ?_ | refine awL ?_ | refine awM (by decide) ?_)
    | (refine aw_draw (id := 7) (t := (.node [0, 1, 2, 3, 4, 5, 6, 7, 8, 9, 10, 11, 12, 13, 14, 15, 16, 17, 18, 19, 20, 21, 22, 23, 24, 25, 26, 27, 28, 29, 30, 31, 32, 33, 34, 35, 36, 37, 38, 39] [])) (drR [10000] [32, 35, 47, 57, 60] []) mixed (by kernel_rfl) (by kernel_rfl) (fun _ _ h => h) ?_)
    | (refine at_done (by simp only [List.filterMap_cons, List.filterMap_nil, List.getElem?_toArray, List.getElem?_cons_zero, List.getElem?_cons_succ]; exact rfl) ?_) | (refine at_alt (by simp only [List.filterMap_cons, List.filterMap_nil, List.getElem?_toArray, List.getElem?_cons_zero, List.getElem?_cons_succ]; exact rfl) ?_) | refine qalt_normal ?_ | refine ats_cons ?_ ?_ | exact ats_nil
    | ((with_reducible first | refine awN (tyOf_ok _) [] ?_ | refine awO (tyOf_ok _) [] ?_ | refine awP (tyOf_ok _) [] ?_ | refine awQ ?_ | refine awR ?_ | refine awS ?_ | refine awT ?_ | refine awU ?_); intro r hr; simp only [go_sem, Nat.reduceBEq, Nat.reduceBneDiff, Nat.reduceLT, Nat.reduceLeDiff, Nat.reduceAdd, Nat.reduceMul, Nat.reduceSub, Nat.reduceEqDiff, reduceCtorEq, tabV, e1] at hr; subst hr; (first | refine awV ?_ ?_ | refine awW ?_ ?_ | refine endK ?_ ?_ | refine endGK ?_ ?_ ?_ | (refine condK (fun h => ?_) (fun h => ?_) <;> (try simp only [go_sem, reduceCtorEq] at h) <;> (try (exfalso; omega))))) | fail)) <;> (try omega)
    all_goals first | exact AV.up_rfl _ | exact obUp_cons rfl (obUp_cons rfl (obUp_cons rfl (obUp_tab fun d h1 h2 => by repeat rw [lk_cons, bif_ne (by omega)])))
  have e1 : ((k : Int) < ls.length) = True := eq_true (by omega)
  have gL := bkL_get hlt
  have gM := bkM_get hlt
  have hn := hb _ (List.getElem_mem hlt)
  generalize ls[k] = n at gL gM hn
  have hm := mark_any k (by omega)
  generalize mkB k = m at hm gL gM
  have hLl := bkL_len ls
  have hMl := bkM_len ls
  (repeat' (first
    | exact trivial
    | (with_reducible first | refine awA ?_ | refine awB ?_ | refine awC ?_ | refine awD ?_ | refine awE ?_ | refine awF ?_ | refine awG ?_ | refine awH ?_ | refine awI ?_ | refine awJ ?_ | refine awK ?_ | refine awL ?_ | refine awM (by decide) ?_)
    | (refine aw_draw (id := 7) (t := (.node [0, 1, 2, 3, 4, 5, 6, 7, 8, 9, 10, 11, 12, 13, 14, 15, 16, 17, 18, 19, 20, 21, 22, 23, 24, 25, 26, 27, 28, 29, 30, 31, 32, 33, 34, 35, 36, 37, 38, 39] [])) (drR [10000] [32, 35, 47, 57, 60] []) mixed (by kernel_rfl) (by kernel_rfl) (fun _ _ h => h) ?_)
    | (refine at_done (by simp only [List.filterMap_cons, List.filterMap_nil, List.getElem?_toArray, List.getElem?_cons_zero, List.getElem?_cons_succ]; exact rfl) ?_) | (refine at_alt (by simp only [List.filterMap_cons, List.filterMap_nil, List.getElem?_toArray, List.getElem?_cons_zero, List.getElem?_cons_succ]; exact rfl) ?_) | refine qalt_normal ?_ | refine ats_cons ?_ ?_ | exact ats_nil
    | ((with_reducible first | refine awN (tyOf_ok _) [] ?_ | refine awO (tyOf_ok _) [] ?_ | refine awP (tyOf_ok _) [] ?_ | refine awQ ?_ | refine awR ?_ | refine awS ?_ | refine awT ?_ | refine awU ?_); intro r hr; simp only [go_sem, Nat.reduceBEq, Nat.reduceBneDiff, Nat.reduceLT, Nat.reduceLeDiff, Nat.reduceAdd, Nat.reduceMul, Nat.reduceSub, Nat.reduceEqDiff, reduceCtorEq, tabV, e1, zk, gM, hMl, encB_len, repB_len, Nat.zero_add] at hr; subst hr; (first | refine awV ?_ ?_ | refine awW ?_ ?_ | refine endK ?_ ?_ | refine endGK ?_ ?_ ?_ | (refine condK (fun h => ?_) (fun h => ?_) <;> (try simp only [go_sem, reduceCtorEq] at h) <;> (try (exfalso; omega))))) | fail)) <;> (try omega)
  refine go_loop [0, 3, 4] ([10000, 15021, 15022] ++ tabN) (fun i : Nat => ⟨[(0, true, .ptr 1 10000 0 8), (3, true, vI k), (4, true, vI i)], (10000, tabV (.ref 28 1 15021 0 ls.length) (.ref 28 1 15022 0 ls.length)) :: (15021, .var (bkL ls)) :: (15022, .row 28 1 (bkM ls)) :: tabA D⟩) (fun i => i ≤ n + 1) (fun i => n + 1 - i) 0 ?_ (Nat.zero_le _) ?_
  · rw [keep_table _ _ D (fun d h1 h2 => by repeat rw [lk_cons, bif_ne (by omega)])]
    simp only [tabV, List.cons_append, List.nil_append, go_sem, Nat.reduceBEq, Nat.reduceBneDiff, Nat.reduceLT, Nat.reduceLeDiff, Nat.reduceAdd, Nat.reduceMul, Nat.reduceSub, Nat.reduceEqDiff, reduceCtorEq] <;> exact rfl
  intro i hi
  have hwi : IntKind.i64.wrap ((i : Int) + 1) = ((i + 1 : Nat) : Int) := by rw [wrap_i64 (by omega)]; omega
  have zi : ((i : Int)).toNat = i := by omega
  rcases Nat.eq_zero_or_pos k with h0 | h0
  · have hz : (k == 0) = true := by simp [h0]
    have gL' : (bkL ls)[0]? = some (.lst 1 (encB (repB n m))) := by rw [← h0]; exact gL
    clear gL
    rename _ => gL
    rcases Nat.lt_trichotomy i n with h1 | h1 | h1
    · have f1 : ((i : Int) < ((n + 1 : Nat) : Int)) = True := eq_true (by omega)
      have f2 : ((i : Int) < (n : Int)) = True := eq_true (by omega)
      have g1 := repB_get (n := n + 1) m (show i < n + 1 by omega)
      have g2 := repB_get (n := n) m h1
      (repeat' (first
    | exact trivial
    | (with_reducible first | refine awA ?_ | refine awB ?_ | refine awC ?_ | refine awD ?_ | refine awE ?_ | refine awF ?_ | refine awG ?_ | refine awH ?_ | refine awI ?_ | refine awJ ?_ | refine awK ?_ | refine awL ?_ | refine awM (by decide) ?_)
    | (refine aw_draw (id := 7) (t := (.node [0, 1, 2, 3, 4, 5, 6, 7, 8, 9, 10, 11, 12, 13, 14, 15, 16, 17, 18, 19, 20, 21, 22, 23, 24, 25, 26, 27, 28, 29, 30, 31, 32, 33, 34, 35, 36, 37, 38, 39] [])) (drR [10000] [32, 35, 47, 57, 60] []) mixed (by kernel_rfl) (by kernel_rfl) (fun _ _ h => h) ?_)
    | (refine at_done (by simp only [List.filterMap_cons, List.filterMap_nil, List.getElem?_toArray, List.getElem?_cons_zero, List.getElem?_cons_succ]; exact rfl) ?_) | (refine at_alt (by simp only [List.filterMap_cons, List.filterMap_nil, List.getElem?_toArray, List.getElem?_cons_zero, List.getElem?_cons_succ]; exact rfl) ?_) | refine qalt_normal ?_ | refine ats_cons ?_ ?_ | exact ats_nil
    | ((with_reducible first | refine awN (tyOf_ok _) [] ?_ | refine awO (tyOf_ok _) [] ?_ | refine awP (tyOf_ok _) [] ?_ | refine awQ ?_ | refine awR ?_ | refine awS ?_ | refine awT ?_ | refine awU ?_); intro r hr; simp only [go_sem, Nat.reduceBEq, Nat.reduceBneDiff, Nat.reduceLT, Nat.reduceLeDiff, Nat.reduceAdd, Nat.reduceMul, Nat.reduceSub, Nat.reduceEqDiff, reduceCtorEq, tabV, hz, f1, f2, g1, g2, zk, zi, hwi, gM, gL, hLl, hMl, encB_len, repB_len, Nat.zero_add, Nat.add_zero, Nat.mul_one, ne_eq, not_true_eq_false, not_false_eq_true, decide_false, decide_true, Bool.not_true, Int.cast_ofNat_Int, Int.reduceToNat, Int.reduceEq, Int.reduceLT, Int.reduceLE, Int.reduceNe] at hr; subst hr; (first | refine caA (fun _ => hm) rfl ?_ ?_ ?_ | refine awV ?_ ?_ | refine awW ?_ ?_ | refine endK ?_ ?_ | refine endGK ?_ ?_ ?_ | (refine condK (fun h => ?_) (fun h => ?_) <;> (try simp only [go_sem, reduceCtorEq] at h) <;> (try (exfalso; omega))))) | fail)) <;> (try omega)
      refine ⟨i + 1, ?_, by omega, by omega⟩
      rw [keep_table _ _ D (fun d h1 h2 => by repeat rw [lk_cons, bif_ne (by omega)])]
      simp only [tabV, List.cons_append, List.nil_append, go_sem, Nat.reduceBEq, Nat.reduceBneDiff, Nat.reduceLT, Nat.reduceLeDiff, Nat.reduceAdd, Nat.reduceMul, Nat.reduceSub, Nat.reduceEqDiff, reduceCtorEq] <;> exact rfl
    · subst h1
      have f1 : ((i : Int) < ((i + 1 : Nat) : Int)) = True := eq_true (by omega)
      have f2 : ((i : Int) < (i : Int)) = False := eq_false (by omega)
      have g1 := repB_get (n := i + 1) m (show i < i + 1 by omega)
      have g2 : (encB (repB i m))[i]? = none := List.getElem?_eq_none (by rw [encB_len, repB_len]; exact Nat.le_refl _)
      (repeat' (first
    | exact trivial
    | (with_reducible first | refine awA ?_ | refine awB ?_ | refine awC ?_ | refine awD ?_ | refine awE ?_ | refine awF ?_ | refine awG ?_ | refine awH ?_ | refine awI ?_ | refine awJ ?_ | refine awK ?_ | refine awL ?_ | refine awM (by decide) ?_)
    | (refine aw_draw (id := 7) (t := (.node [0, 1, 2, 3, 4, 5, 6, 7, 8, 9, 10, 11, 12, 13, 14, 15, 16, 17, 18, 19, 20, 21, 22, 23, 24, 25, 26, 27, 28, 29, 30, 31, 32, 33, 34, 35, 36, 37, 38, 39] [])) (drR [10000] [32, 35, 47, 57, 60] []) mixed (by kernel_rfl) (by kernel_rfl) (fun _ _ h => h) ?_)
    | (refine at_done (by simp only [List.filterMap_cons, List.filterMap_nil, List.getElem?_toArray, List.getElem?_cons_zero, List.getElem?_cons_succ]; exact rfl) ?_) | (refine at_alt (by simp only [List.filterMap_cons, List.filterMap_nil, List.getElem?_toArray, List.getElem?_cons_zero, List.getElem?_cons_succ]; exact rfl) ?_) | refine qalt_normal ?_ | refine ats_cons ?_ ?_ | exact ats_nil
    | ((with_reducible first | refine awN (tyOf_ok _) [] ?_ | refine awO (tyOf_ok _) [] ?_ | refine awP (tyOf_ok _) [] ?_ | refine awQ ?_ | refine awR ?_ | refine awS ?_ | refine awT ?_ | refine awU ?_); intro r hr; simp only [go_sem, Nat.reduceBEq, Nat.reduceBneDiff, Nat.reduceLT, Nat.reduceLeDiff, Nat.reduceAdd, Nat.reduceMul, Nat.reduceSub, Nat.reduceEqDiff, reduceCtorEq, tabV, hz, f1, f2, g1, g2, zk, zi, hwi, gM, gL, hLl, hMl, encB_len, repB_len, Nat.zero_add, Nat.add_zero, Nat.mul_one, ne_eq, not_true_eq_false, not_false_eq_true, decide_false, decide_true, Bool.not_true, Int.cast_ofNat_Int, Int.reduceToNat, Int.reduceEq, Int.reduceLT, Int.reduceLE, Int.reduceNe] at hr; subst hr; (first | refine caA (fun _ => hm) rfl ?_ ?_ ?_ | refine awV ?_ ?_ | refine awW ?_ ?_ | refine endK ?_ ?_ | refine endGK ?_ ?_ ?_ | (refine condK (fun h => ?_) (fun h => ?_) <;> (try simp only [go_sem, reduceCtorEq] at h) <;> (try (exfalso; omega)))))
    | (refine al_skip9 60 rfl (vU8 0) rfl rfl ⟨by decide, by decide⟩ ?_) | fail)) <;> (try omega)
      refine ⟨i + 1, ?_, by omega, by omega⟩
      rw [keep_table _ _ D (fun d h1 h2 => by repeat rw [lk_cons, bif_ne (by omega)])]
      simp only [tabV, List.cons_append, List.nil_append, go_sem, Nat.reduceBEq, Nat.reduceBneDiff, Nat.reduceLT, Nat.reduceLeDiff, Nat.reduceAdd, Nat.reduceMul, Nat.reduceSub, Nat.reduceEqDiff, reduceCtorEq] <;> exact rfl
    · have f1 : ((i : Int) < ((n + 1 : Nat) : Int)) = False := eq_false (by omega)
      (repeat' (first
    | exact trivial
    | (with_reducible first | refine awA ?_ | refine awB ?_ | refine awC ?_ | refine awD ?_ | refine awE ?_ | refine awF ?_ | refine awG ?_ | refine awH ?_ | refine awI ?_ | refine awJ ?_ | refine awK ?_ | refine awL ?_ | refine awM (by decide) ?_)
    | (refine aw_draw (id := 7) (t := (.node [0, 1, 2, 3, 4, 5, 6, 7, 8, 9, 10, 11, 12, 13, 14, 15, 16, 17, 18, 19, 20, 21, 22, 23, 24, 25, 26, 27, 28, 29, 30, 31, 32, 33, 34, 35, 36, 37, 38, 39] [])) (drR [10000] [32, 35, 47, 57, 60] []) mixed (by kernel_rfl) (by kernel_rfl) (fun _ _ h => h) ?_)
    | (refine at_done (by simp only [List.filterMap_cons, List.filterMap_nil, List.getElem?_toArray, List.getElem?_cons_zero, List.getElem?_cons_succ]; exact rfl) ?_) | (refine at_alt (by simp only [List.filterMap_cons, List.filterMap_nil, List.getElem?_toArray, List.getElem?_cons_zero, List.getElem?_cons_succ]; exact rfl) ?_) | refine qalt_normal ?_ | refine ats_cons ?_ ?_ | exact ats_nil
    | ((with_reducible first | refine awN (tyOf_ok _) [] ?_ | refine awO (tyOf_ok _) [] ?_ | refine awP (tyOf_ok _) [] ?_ | refine awQ ?_ | refine awR ?_ | refine awS ?_ | refine awT ?_ | refine awU ?_); intro r hr; simp only [go_sem, Nat.reduceBEq, Nat.reduceBneDiff, Nat.reduceLT, Nat.reduceLeDiff, Nat.reduceAdd, Nat.reduceMul, Nat.reduceSub, Nat.reduceEqDiff, reduceCtorEq, tabV, hz, f1, zk, zi, hwk, gM, hMl, encB_len, repB_len, Nat.zero_add] at hr; subst hr; (first | refine awV ?_ ?_ | refine awW ?_ ?_ | refine endK ?_ ?_ | refine endGK ?_ ?_ ?_ | (refine condK (fun h => ?_) (fun h => ?_) <;> (try simp only [go_sem, reduceCtorEq] at h) <;> (try (exfalso; omega))))) | fail)) <;> (try omega)
      refine ⟨k + 1, ?_, hlt, by omega⟩
      rw [keep_table _ _ D (fun d h1 h2 => by repeat rw [lk_cons, bif_ne (by omega)])]
      simp only [tabV, List.cons_append, List.nil_append, go_sem, Nat.reduceBEq, Nat.reduceBneDiff, Nat.reduceLT, Nat.reduceLeDiff, Nat.reduceAdd, Nat.reduceMul, Nat.reduceSub, Nat.reduceEqDiff, reduceCtorEq] <;> exact rfl
  · have hz : (k == 0) = false := beq_false_of_ne (by omega)
    rcases Nat.lt_trichotomy i n with h1 | h1 | h1
    · have f1 : ((i : Int) < ((n + 1 : Nat) : Int)) = True := eq_true (by omega)
      have f2 : ((i : Int) < (n : Int)) = True := eq_true (by omega)
      have g1 := repB_get (n := n + 1) m (show i < n + 1 by omega)
      have g2 := repB_get (n := n) m h1
      (repeat' (first
    | exact trivial
    | (with_reducible first | refine awA ?_ | refine awB ?_ | refine awC ?_ | refine awD ?_ | refine awE ?_ | refine awF ?_ | refine awG ?_ | refine awH ?_ | refine awI ?_ | refine awJ ?_ | refine awK ?_ | refine awL ?_ | refine awM (by decide) ?_)
    | (refine aw_draw (id := 7) (t := (.node [0, 1, 2, 3, 4, 5, 6, 7, 8, 9, 10, 11, 12, 13, 14, 15, 16, 17, 18, 19, 20, 21, 22, 23, 24, 25, 26, 27, 28, 29, 30, 31, 32, 33, 34, 35, 36, 37, 38, 39] [])) (drR [10000] [32, 35, 47, 57, 60] []) mixed (by kernel_rfl) (by kernel_rfl) (fun _ _ h => h) ?_)
    | (refine at_done (by simp only [List.filterMap_cons, List.filterMap_nil, List.getElem?_toArray, List.getElem?_cons_zero, List.getElem?_cons_succ]; exact rfl) ?_) | (refine at_alt (by simp only [List.filterMap_cons, List.filterMap_nil, List.getElem?_toArray, List.getElem?_cons_zero, List.getElem?_cons_succ]; exact rfl) ?_) | refine qalt_normal ?_ | refine ats_cons ?_ ?_ | exact ats_nil
    | ((with_reducible first | refine awN (tyOf_ok _) [] ?_ | refine awO (tyOf_ok _) [] ?_ | refine awP (tyOf_ok _) [] ?_ | refine awQ ?_ | refine awR ?_ | refine awS ?_ | refine awT ?_ | refine awU ?_); intro r hr; simp only [go_sem, Nat.reduceBEq, Nat.reduceBneDiff, Nat.reduceLT, Nat.reduceLeDiff, Nat.reduceAdd, Nat.reduceMul, Nat.reduceSub, Nat.reduceEqDiff, reduceCtorEq, tabV, hz, f1, f2, g1, g2, zk, zi, hwi, gM, gL, hLl, hMl, encB_len, repB_len, Nat.zero_add, Nat.add_zero, Nat.mul_one, ne_eq, not_true_eq_false, not_false_eq_true, decide_false, decide_true, Bool.not_true, Int.cast_ofNat_Int, Int.reduceToNat, Int.reduceEq, Int.reduceLT, Int.reduceLE, Int.reduceNe] at hr; subst hr; (first | refine caA (fun _ => hm) rfl ?_ ?_ ?_ | refine awV ?_ ?_ | refine awW ?_ ?_ | refine endK ?_ ?_ | refine endGK ?_ ?_ ?_ | (refine condK (fun h => ?_) (fun h => ?_) <;> (try simp only [go_sem, reduceCtorEq] at h) <;> (try (exfalso; omega))))) | fail)) <;> (try omega)
      refine ⟨i + 1, ?_, by omega, by omega⟩
      rw [keep_table _ _ D (fun d h1 h2 => by repeat rw [lk_cons, bif_ne (by omega)])]
      simp only [tabV, List.cons_append, List.nil_append, go_sem, Nat.reduceBEq, Nat.reduceBneDiff, Nat.reduceLT, Nat.reduceLeDiff, Nat.reduceAdd, Nat.reduceMul, Nat.reduceSub, Nat.reduceEqDiff, reduceCtorEq] <;> exact rfl
    · subst h1
      have f1 : ((i : Int) < ((i + 1 : Nat) : Int)) = True := eq_true (by omega)
      have f2 : ((i : Int) < (i : Int)) = False := eq_false (by omega)
      have g1 := repB_get (n := i + 1) m (show i < i + 1 by omega)
      have g2 : (encB (repB i m))[i]? = none := List.getElem?_eq_none (by rw [encB_len, repB_len]; exact Nat.le_refl _)
      (repeat' (first
    | exact trivial
    | (with_reducible first | refine awA ?_ | refine awB ?_ | refine awC ?_ | refine awD ?_ | refine awE ?_ | refine awF ?_ | refine awG ?_ | refine awH ?_ | refine awI ?_ | refine awJ ?_ | refine awK ?_ | refine awL ?_ | refine awM (by decide) ?_)
    | (refine aw_draw (id := 7) (t := (.node [0, 1, 2, 3, 4, 5, 6, 7, 8, 9, 10, 11, 12, 13, 14, 15, 16, 17, 18, 19, 20, 21, 22, 23, 24, 25, 26, 27, 28, 29, 30, 31, 32, 33, 34, 35, 36, 37, 38, 39] [])) (drR [10000] [32, 35, 47, 57, 60] []) mixed (by kernel_rfl) (by kernel_rfl) (fun _ _ h => h) ?_)
    | (refine at_done (by simp only [List.filterMap_cons, List.filterMap_nil, List.getElem?_toArray, List.getElem?_cons_zero, List.getElem?_cons_succ]; exact rfl) ?_) | (refine at_alt (by simp only [List.filterMap_cons, List.filterMap_nil, List.getElem?_toArray, List.getElem?_cons_zero, List.getElem?_cons_succ]; exact rfl) ?_) | refine qalt_normal ?_ | refine ats_cons ?_ ?_ | exact ats_nil
    | ((with_reducible first | refine awN (tyOf_ok _) [] ?_ | refine awO (tyOf_ok _) [] ?_ | refine awP (tyOf_ok _) [] ?_ | refine awQ ?_ | refine awR ?_ | refine awS ?_ | refine awT ?_ | refine awU ?_); intro r hr; simp only [go_sem, Nat.reduceBEq, Nat.reduceBneDiff, Nat.reduceLT, Nat.reduceLeDiff, Nat.reduceAdd, Nat.reduceMul, Nat.reduceSub, Nat.reduceEqDiff, reduceCtorEq, tabV, hz, f1, f2, g1, g2, zk, zi, hwi, gM, gL, hLl, hMl, encB_len, repB_len, Nat.zero_add, Nat.add_zero, Nat.mul_one, ne_eq, not_true_eq_false, not_false_eq_true, decide_false, decide_true, Bool.not_true, Int.cast_ofNat_Int, Int.reduceToNat, Int.reduceEq, Int.reduceLT, Int.reduceLE, Int.reduceNe] at hr; subst hr; (first | refine caA (fun _ => hm) rfl ?_ ?_ ?_ | refine awV ?_ ?_ | refine awW ?_ ?_ | refine endK ?_ ?_ | refine endGK ?_ ?_ ?_ | (refine condK (fun h => ?_) (fun h => ?_) <;> (try simp only [go_sem, reduceCtorEq] at h) <;> (try (exfalso; omega)))))
    | (refine al_skip9 60 rfl (vU8 0) rfl rfl ⟨by decide, by decide⟩ ?_) | fail)) <;> (try omega)
      refine ⟨i + 1, ?_, by omega, by omega⟩
      rw [keep_table _ _ D (fun d h1 h2 => by repeat rw [lk_cons, bif_ne (by omega)])]
      simp only [tabV, List.cons_append, List.nil_append, go_sem, Nat.reduceBEq, Nat.reduceBneDiff, Nat.reduceLT, Nat.reduceLeDiff, Nat.reduceAdd, Nat.reduceMul, Nat.reduceSub, Nat.reduceEqDiff, reduceCtorEq] <;> exact rfl
    · have f1 : ((i : Int) < ((n + 1 : Nat) : Int)) = False := eq_false (by omega)
      (repeat' (first
    | exact trivial
    | (with_reducible first | refine awA ?_ | refine awB ?_ | refine awC ?_ | refine awD ?_ | refine awE ?_ | refine awF ?_ | refine awG ?_ | refine awH ?_ | refine awI ?_ | refine awJ ?_ | refine awK ?_ | refine awL ?_ | refine awM (by decide) ?_)
    | (refine aw_draw (id := 7) (t := (.node [0, 1, 2, 3, 4, 5, 6, 7, 8, 9, 10, 11, 12, 13, 14, 15, 16, 17, 18, 19, 20, 21, 22, 23, 24, 25, 26, 27, 28, 29, 30, 31, 32, 33, 34, 35, 36, 37, 38, 39] [])) (drR [10000] [32, 35, 47, 57, 60] []) mixed (by kernel_rfl) (by kernel_rfl) (fun _ _ h => h) ?_)
    | (refine at_done (by simp only [List.filterMap_cons, List.filterMap_nil, List.getElem?_toArray, List.getElem?_cons_zero, List.getElem?_cons_succ]; exact rfl) ?_) | (refine at_alt (by simp only [List.filterMap_cons, List.filterMap_nil, List.getElem?_toArray, List.getElem?_cons_zero, List.getElem?_cons_succ]; exact rfl) ?_) | refine qalt_normal ?_ | refine ats_cons ?_ ?_ | exact ats_nil
    | ((with_reducible first | refine awN (tyOf_ok _) [] ?_ | refine awO (tyOf_ok _) [] ?_ | refine awP (tyOf_ok _) [] ?_ | refine awQ ?_ | refine awR ?_ | refine awS ?_ | refine awT ?_ | refine awU ?_); intro r hr; simp only [go_sem, Nat.reduceBEq, Nat.reduceBneDiff, Nat.reduceLT, Nat.reduceLeDiff, Nat.reduceAdd, Nat.reduceMul, Nat.reduceSub, Nat.reduceEqDiff, reduceCtorEq, tabV, hz, f1, zk, zi, hwk, gM, hMl, encB_len, repB_len, Nat.zero_add] at hr; subst hr; (first | refine awV ?_ ?_ | refine awW ?_ ?_ | refine endK ?_ ?_ | refine endGK ?_ ?_ ?_ | (refine condK (fun h => ?_) (fun h => ?_) <;> (try simp only [go_sem, reduceCtorEq] at h) <;> (try (exfalso; omega))))) | fail)) <;> (try omega)
      refine ⟨k + 1, ?_, hlt, by omega⟩
      rw [keep_table _ _ D (fun d h1 h2 => by repeat rw [lk_cons, bif_ne (by omega)])]
      simp only [tabV, List.cons_append, List.nil_append, go_sem, Nat.reduceBEq, Nat.reduceBneDiff, Nat.reduceLT, Nat.reduceLeDiff, Nat.reduceAdd, Nat.reduceMul, Nat.reduceSub, Nat.reduceEqDiff, reduceCtorEq] <;> exact rfl
end Go.Proofs.Ytopcfnlcapibgaa
end
section
namespace Go.Proofs.Ytopcfnlcapibgaa
open Go.RowKit
set_option maxRecDepth 100000
set_option maxHeartbeats 8000000
/-! The two inputs tell the same. -/
theorem bkL_cut (K V : List Nat) (ls : List Nat) : AV.cut.cutL K V (bkL ls) = bkL ls := by rw [AV.cutL_eq]; exact bkL_map ls fun _ _ => rfl
structure okI (s : InS) : Prop where
  le : s.tk ≤ s.all.length
  len : s.all.length ≤ 1000000000
  lo : 0 ≤ s.frm
  hi : s.frm ≤ 2147483647
theorem okI.r {s : InS} (h : okI s) : okR s.all s.tk s.frm := ⟨h.le, h.len, h.lo, h.hi⟩
theorem okI.i {s : InS} (h : okI s) : okIn (s.all.drop s.tk) (s.frm + s.tk) := by
  obtain ⟨h1, h2, h3, h4⟩ := h
  exact ⟨by rw [List.length_drop]; omega, by omega, by omega⟩
theorem same_0 (D : TabS) (ls : List Nat) (h : okI D.i0) : GCall Try.prog 28 [.ptr 1 10000 0 0, vI 0] (tabO D ls) (vB true) (tabO D ls) := by
  have hr := h.r
  have hA := at_G D.i0.pre (D.i0.all.drop D.i0.tk) (D.i0.frm + D.i0.tk) D.i0.over
  have hH := held_G D.i0.pre (D.i0.all.drop D.i0.tk) (D.i0.frm + D.i0.tk) D.i0.over
  have hE := ended_G D.i0.pre (D.i0.all.drop D.i0.tk) (D.i0.frm + D.i0.tk) D.i0.over
  have rA := rat_G D.i0.all D.i0.tk D.i0.frm D.i0.over hr
  have rH := rheld_G D.i0.all D.i0.tk D.i0.frm D.i0.over hr
  have rE := rended_G D.i0.all D.i0.tk D.i0.frm D.i0.over
  have hd : (D.i0.all.drop D.i0.tk).length = D.i0.all.length - D.i0.tk := List.length_drop ..
  unfold inO at hA hH hE
  unfold rfO at rA rH rE
  cases ls with
  | nil =>
    unfold tabO tabV tabA
    simp only [hd] at hA hH hE ⊢
    refine go_fnG (tyOf_ok _) Try.func28 rfl rfl (by rw [Try.results28]) Try.ntmps28 rfl fun E => ?_
    (repeat' (first
    | exact trivial
    | (with_reducible first | refine awA ?_ | refine awB ?_ | refine awC ?_ | refine awD ?_ | refine awE ?_ | refine awF ?_ | refine awG ?_ | refine awH ?_ | refine awI ?_ | refine awJ ?_ | refine awK ?_ | refine awL ?_ | refine awM (by decide) ?_)
    | (refine aw_draw (id := 1) (t := (.node [0, 1, 2, 3, 4, 5, 7, 8, 9, 10, 11, 12, 6, 13, 14, 15, 16, 17, 18, 19, 20, 21, 23, 24, 25, 26, 27, 28, 22, 29, 30, 31, 32, 33, 34, 35, 36, 37, 38, 40, 41, 42, 43, 44, 45, 39, 46, 47, 48, 49] [])) (drR [10000] [] [11, 18, 27, 34, 44, 51]) mixed (by kernel_rfl) (by kernel_rfl) (fun _ _ h => h) ?_)
    | (refine at_done (by simp only [List.filterMap_cons, List.filterMap_nil, List.getElem?_toArray, List.getElem?_cons_zero, List.getElem?_cons_succ]; exact rfl) ?_) | (refine at_alt (by simp only [List.filterMap_cons, List.filterMap_nil, List.getElem?_toArray, List.getElem?_cons_zero, List.getElem?_cons_succ]; exact rfl) ?_) | refine qalt_normal ?_ | refine ats_cons ?_ ?_ | exact ats_nil
    | ((with_reducible first | refine awN (tyOf_ok _) [] ?_ | refine awO (tyOf_ok _) [] ?_ | refine awP (tyOf_ok _) [] ?_ | refine awQ ?_ | refine awR ?_ | refine awS ?_ | refine awT ?_ | refine awU ?_); intro r hr; simp only [go_sem, Nat.reduceBEq, Nat.reduceBneDiff, Nat.reduceLT, Nat.reduceLeDiff, Nat.reduceAdd, Nat.reduceMul, Nat.reduceSub, Nat.reduceEqDiff, reduceCtorEq, hd, bkL_cut, beq_self_eq_true, decide_true, Int.cast_ofNat_Int, Int.reduceToNat, Int.reduceEq, Int.reduceLT, Int.reduceLE, Int.reduceNe] at hr; subst hr; (first | refine awV ?_ ?_ | refine awW ?_ ?_ | refine endK ?_ ?_ | refine endGK ?_ ?_ ?_ | (refine condK (fun h => ?_) (fun h => ?_) <;> (try simp only [go_sem, reduceCtorEq] at h) <;> (try (exfalso; omega)))))
    | (refine go_callGE [(15001, 10000), (15002, 15000)] [(10000, 15001), (15000, 15002)] [15002] [15001] ?_; intro r hr; simp only [go_sem, Nat.reduceBEq, Nat.reduceBneDiff, Nat.reduceLT, Nat.reduceLeDiff, Nat.reduceAdd, Nat.reduceMul, Nat.reduceSub, Nat.reduceEqDiff, reduceCtorEq, hd, bkL_cut, beq_self_eq_true, decide_true, Int.cast_ofNat_Int, Int.reduceToNat, Int.reduceEq, Int.reduceLT, Int.reduceLE, Int.reduceNe] at hr; subst hr; refine callGK (hA) rfl rfl (by first | exact .inl rfl | exact .inr rfl) ?_ (.inl rfl) ?_)
    | (refine go_callGE [(15003, 10000), (15004, 15000)] [(10000, 15003), (15000, 15004)] [15004] [15003] ?_; intro r hr; simp only [go_sem, Nat.reduceBEq, Nat.reduceBneDiff, Nat.reduceLT, Nat.reduceLeDiff, Nat.reduceAdd, Nat.reduceMul, Nat.reduceSub, Nat.reduceEqDiff, reduceCtorEq, hd, bkL_cut, beq_self_eq_true, decide_true, Int.cast_ofNat_Int, Int.reduceToNat, Int.reduceEq, Int.reduceLT, Int.reduceLE, Int.reduceNe] at hr; subst hr; refine callGK (rA) rfl rfl (by first | exact .inl rfl | exact .inr rfl) ?_ (.inl rfl) ?_)
    | (refine go_callGE [(15001, 10000), (15002, 15000)] [(10000, 15001), (15000, 15002)] [15002] [15001] ?_; intro r hr; simp only [go_sem, Nat.reduceBEq, Nat.reduceBneDiff, Nat.reduceLT, Nat.reduceLeDiff, Nat.reduceAdd, Nat.reduceMul, Nat.reduceSub, Nat.reduceEqDiff, reduceCtorEq, hd, bkL_cut, beq_self_eq_true, decide_true, Int.cast_ofNat_Int, Int.reduceToNat, Int.reduceEq, Int.reduceLT, Int.reduceLE, Int.reduceNe] at hr; subst hr; refine callGK (hH) rfl rfl (by first | exact .inl rfl | exact .inr rfl) ?_ (.inl rfl) ?_)
    | (refine go_callGE [(15003, 10000), (15004, 15000)] [(10000, 15003), (15000, 15004)] [15004] [15003] ?_; intro r hr; simp only [go_sem, Nat.reduceBEq, Nat.reduceBneDiff, Nat.reduceLT, Nat.reduceLeDiff, Nat.reduceAdd, Nat.reduceMul, Nat.reduceSub, Nat.reduceEqDiff, reduceCtorEq, hd, bkL_cut, beq_self_eq_true, decide_true, Int.cast_ofNat_Int, Int.reduceToNat, Int.reduceEq, Int.reduceLT, Int.reduceLE, Int.reduceNe] at hr; subst hr; refine callGK (rH) rfl rfl (by first | exact .inl rfl | exact .inr rfl) ?_ (.inl rfl) ?_)
    | (refine go_callGE [(15001, 10000), (15002, 15000)] [(10000, 15001), (15000, 15002)] [15002] [15001] ?_; intro r hr; simp only [go_sem, Nat.reduceBEq, Nat.reduceBneDiff, Nat.reduceLT, Nat.reduceLeDiff, Nat.reduceAdd, Nat.reduceMul, Nat.reduceSub, Nat.reduceEqDiff, reduceCtorEq, hd, bkL_cut, beq_self_eq_true, decide_true, Int.cast_ofNat_Int, Int.reduceToNat, Int.reduceEq, Int.reduceLT, Int.reduceLE, Int.reduceNe] at hr; subst hr; refine callGK (hE) rfl rfl (by first | exact .inl rfl | exact .inr rfl) ?_ (.inl rfl) ?_)
    | (refine go_callGE [(15003, 10000), (15004, 15000)] [(10000, 15003), (15000, 15004)] [15004] [15003] ?_; intro r hr; simp only [go_sem, Nat.reduceBEq, Nat.reduceBneDiff, Nat.reduceLT, Nat.reduceLeDiff, Nat.reduceAdd, Nat.reduceMul, Nat.reduceSub, Nat.reduceEqDiff, reduceCtorEq, hd, bkL_cut, beq_self_eq_true, decide_true, Int.cast_ofNat_Int, Int.reduceToNat, Int.reduceEq, Int.reduceLT, Int.reduceLE, Int.reduceNe] at hr; subst hr; refine callGK (rE) rfl rfl (by first | exact .inl rfl | exact .inr rfl) ?_ (.inl rfl) ?_) | fail)) <;> (try omega)
    all_goals first | exact AV.up_rfl _ | (repeat first | exact obUp_nil | refine obUp_cons rfl ?_)
  | cons n0 ls0 =>
    generalize hcs : n0 :: ls0 = cs
    rw [tabO_ne D (by rw [← hcs]; exact List.cons_ne_nil _ _)]
    unfold tabV tabA
    simp only [hd] at hA hH hE ⊢
    refine go_fnG (tyOf_ok _) Try.func28 rfl rfl (by rw [Try.results28]) Try.ntmps28 rfl fun E => ?_
    (repeat' (first
    | exact trivial
    | (with_reducible first | refine awA ?_ | refine awB ?_ | refine awC ?_ | refine awD ?_ | refine awE ?_ | refine awF ?_ | refine awG ?_ | refine awH ?_ | refine awI ?_ | refine awJ ?_ | refine awK ?_ | refine awL ?_ | refine awM (by decide) ?_)
    | (refine aw_draw (id := 1) (t := (.node [0, 1, 2, 3, 4, 5, 7, 8, 9, 10, 11, 12, 6, 13, 14, 15, 16, 17, 18, 19, 20, 21, 23, 24, 25, 26, 27, 28, 22, 29, 30, 31, 32, 33, 34, 35, 36, 37, 38, 40, 41, 42, 43, 44, 45, 39, 46, 47, 48, 49] [])) (drR [10000] [] [11, 18, 27, 34, 44, 51]) mixed (by kernel_rfl) (by kernel_rfl) (fun _ _ h => h) ?_)
    | (refine at_done (by simp only [List.filterMap_cons, List.filterMap_nil, List.getElem?_toArray, List.getElem?_cons_zero, List.getElem?_cons_succ]; exact rfl) ?_) | (refine at_alt (by simp only [List.filterMap_cons, List.filterMap_nil, List.getElem?_toArray, List.getElem?_cons_zero, List.getElem?_cons_succ]; exact rfl) ?_) | refine qalt_normal ?_ | refine ats_cons ?_ ?_ | exact ats_nil
    | ((with_reducible first | refine awN (tyOf_ok _) [] ?_ | refine awO (tyOf_ok _) [] ?_ | refine awP (tyOf_ok _) [] ?_ | refine awQ ?_ | refine awR ?_ | refine awS ?_ | refine awT ?_ | refine awU ?_); intro r hr; simp only [go_sem, Nat.reduceBEq, Nat.reduceBneDiff, Nat.reduceLT, Nat.reduceLeDiff, Nat.reduceAdd, Nat.reduceMul, Nat.reduceSub, Nat.reduceEqDiff, reduceCtorEq, hd, bkL_cut, beq_self_eq_true, decide_true, Int.cast_ofNat_Int, Int.reduceToNat, Int.reduceEq, Int.reduceLT, Int.reduceLE, Int.reduceNe] at hr; subst hr; (first | refine awV ?_ ?_ | refine awW ?_ ?_ | refine endK ?_ ?_ | refine endGK ?_ ?_ ?_ | (refine condK (fun h => ?_) (fun h => ?_) <;> (try simp only [go_sem, reduceCtorEq] at h) <;> (try (exfalso; omega)))))
    | (refine go_callGE [(15001, 10000), (15002, 15000)] [(10000, 15001), (15000, 15002)] [15002] [15001] ?_; intro r hr; simp only [go_sem, Nat.reduceBEq, Nat.reduceBneDiff, Nat.reduceLT, Nat.reduceLeDiff, Nat.reduceAdd, Nat.reduceMul, Nat.reduceSub, Nat.reduceEqDiff, reduceCtorEq, hd, bkL_cut, beq_self_eq_true, decide_true, Int.cast_ofNat_Int, Int.reduceToNat, Int.reduceEq, Int.reduceLT, Int.reduceLE, Int.reduceNe] at hr; subst hr; refine callGK (hA) rfl rfl (by first | exact .inl rfl | exact .inr rfl) ?_ (.inl rfl) ?_)
    | (refine go_callGE [(15003, 10000), (15004, 15000)] [(10000, 15003), (15000, 15004)] [15004] [15003] ?_; intro r hr; simp only [go_sem, Nat.reduceBEq, Nat.reduceBneDiff, Nat.reduceLT, Nat.reduceLeDiff, Nat.reduceAdd, Nat.reduceMul, Nat.reduceSub, Nat.reduceEqDiff, reduceCtorEq, hd, bkL_cut, beq_self_eq_true, decide_true, Int.cast_ofNat_Int, Int.reduceToNat, Int.reduceEq, Int.reduceLT, Int.reduceLE, Int.reduceNe] at hr; subst hr; refine callGK (rA) rfl rfl (by first | exact .inl rfl | exact .inr rfl) ?_ (.inl rfl) ?_)
    | (refine go_callGE [(15001, 10000), (15002, 15000)] [(10000, 15001), (15000, 15002)] [15002] [15001] ?_; intro r hr; simp only [go_sem, Nat.reduceBEq, Nat.reduceBneDiff, Nat.reduceLT, Nat.reduceLeDiff, Nat.reduceAdd, Nat.reduceMul, Nat.reduceSub, Nat.reduceEqDiff, reduceCtorEq, hd, bkL_cut, beq_self_eq_true, decide_true, Int.cast_ofNat_Int, Int.reduceToNat, Int.reduceEq, Int.reduceLT, Int.reduceLE, Int.reduceNe] at hr; subst hr; refine callGK (hH) rfl rfl (by first | exact .inl rfl | exact .inr rfl) ?_ (.inl rfl) ?_)
    | (refine go_callGE [(15003, 10000), (15004, 15000)] [(10000, 15003), (15000, 15004)] [15004] [15003] ?_; intro r hr; simp only [go_sem, Nat.reduceBEq, Nat.reduceBneDiff, Nat.reduceLT, Nat.reduceLeDiff, Nat.reduceAdd, Nat.reduceMul, Nat.reduceSub, Nat.reduceEqDiff, reduceCtorEq, hd, bkL_cut, beq_self_eq_true, decide_true, Int.cast_ofNat_Int, Int.reduceToNat, Int.reduceEq, Int.reduceLT, Int.reduceLE, Int.reduceNe] at hr; subst hr; refine callGK (rH) rfl rfl (by first | exact .inl rfl | exact .inr rfl) ?_ (.inl rfl) ?_)
    | (refine go_callGE [(15001, 10000), (15002, 15000)] [(10000, 15001), (15000, 15002)] [15002] [15001] ?_; intro r hr; simp only [go_sem, Nat.reduceBEq, Nat.reduceBneDiff, Nat.reduceLT, Nat.reduceLeDiff, Nat.reduceAdd, Nat.reduceMul, Nat.reduceSub, Nat.reduceEqDiff, reduceCtorEq, hd, bkL_cut, beq_self_eq_true, decide_true, Int.cast_ofNat_Int, Int.reduceToNat, Int.reduceEq, Int.reduceLT, Int.reduceLE, Int.reduceNe] at hr; subst hr; refine callGK (hE) rfl rfl (by first | exact .inl rfl | exact .inr rfl) ?_ (.inl rfl) ?_)
    | (refine go_callGE [(15003, 10000), (15004, 15000)] [(10000, 15003), (15000, 15004)] [15004] [15003] ?_; intro r hr; simp only [go_sem, Nat.reduceBEq, Nat.reduceBneDiff, Nat.reduceLT, Nat.reduceLeDiff, Nat.reduceAdd, Nat.reduceMul, Nat.reduceSub, Nat.reduceEqDiff, reduceCtorEq, hd, bkL_cut, beq_self_eq_true, decide_true, Int.cast_ofNat_Int, Int.reduceToNat, Int.reduceEq, Int.reduceLT, Int.reduceLE, Int.reduceNe] at hr; subst hr; refine callGK (rE) rfl rfl (by first | exact .inl rfl | exact .inr rfl) ?_ (.inl rfl) ?_) | fail)) <;> (try omega)
    all_goals first | exact AV.up_rfl _ | (repeat first | exact obUp_nil | refine obUp_cons rfl ?_)
theorem same_1 (D : TabS) (ls : List Nat) (h : okI D.i1) : GCall Try.prog 28 [.ptr 1 10000 0 0, vI 1] (tabO D ls) (vB true) (tabO D ls) := by
  have hr := h.r
  have hA := at_G D.i1.pre (D.i1.all.drop D.i1.tk) (D.i1.frm + D.i1.tk) D.i1.over
  have hH := held_G D.i1.pre (D.i1.all.drop D.i1.tk) (D.i1.frm + D.i1.tk) D.i1.over
  have hE := ended_G D.i1.pre (D.i1.all.drop D.i1.tk) (D.i1.frm + D.i1.tk) D.i1.over
  have rA := rat_G D.i1.all D.i1.tk D.i1.frm D.i1.over hr
  have rH := rheld_G D.i1.all D.i1.tk D.i1.frm D.i1.over hr
  have rE := rended_G D.i1.all D.i1.tk D.i1.frm D.i1.over
  have hd : (D.i1.all.drop D.i1.tk).length = D.i1.all.length - D.i1.tk := List.length_drop ..
  unfold inO at hA hH hE
  unfold rfO at rA rH rE
  cases ls with
  | nil =>
    unfold tabO tabV tabA
    simp only [hd] at hA hH hE ⊢
    refine go_fnG (tyOf_ok _) Try.func28 rfl rfl (by rw [Try.results28]) Try.ntmps28 rfl fun E => ?_
    (repeat' (first
    | exact trivial
    | (with_reducible first | refine awA ?_ | refine awB ?_ | refine awC ?_ | refine awD ?_ | refine awE ?_ | refine awF ?_ | refine awG ?_ | refine awH ?_ | refine awI ?_ | refine awJ ?_ | refine awK ?_ | refine awL ?_ | refine awM (by decide) ?_)
    | (refine aw_draw (id := 1) (t := (.node [0, 1, 2, 3, 4, 5, 7, 8, 9, 10, 11, 12, 6, 13, 14, 15, 16, 17, 18, 19, 20, 21, 23, 24, 25, 26, 27, 28, 22, 29, 30, 31, 32, 33, 34, 35, 36, 37, 38, 40, 41, 42, 43, 44, 45, 39, 46, 47, 48, 49] [])) (drR [10000] [] [11, 18, 27, 34, 44, 51]) mixed (by kernel_rfl) (by kernel_rfl) (fun _ _ h => h) ?_)
    | (refine at_done (by simp only [List.filterMap_cons, List.filterMap_nil, List.getElem?_toArray, List.getElem?_cons_zero, List.getElem?_cons_succ]; exact rfl) ?_) | (refine at_alt (by simp only [List.filterMap_cons, List.filterMap_nil, List.getElem?_toArray, List.getElem?_cons_zero, List.getElem?_cons_succ]; exact rfl) ?_) | refine qalt_normal ?_ | refine ats_cons ?_ ?_ | exact ats_nil
    | ((with_reducible first | refine awN (tyOf_ok _) [] ?_ | refine awO (tyOf_ok _) [] ?_ | refine awP (tyOf_ok _) [] ?_ | refine awQ ?_ | refine awR ?_ | refine awS ?_ | refine awT ?_ | refine awU ?_); intro r hr; simp only [go_sem, Nat.reduceBEq, Nat.reduceBneDiff, Nat.reduceLT, Nat.reduceLeDiff, Nat.reduceAdd, Nat.reduceMul, Nat.reduceSub, Nat.reduceEqDiff, reduceCtorEq, hd, bkL_cut, beq_self_eq_true, decide_true, Int.cast_ofNat_Int, Int.reduceToNat, Int.reduceEq, Int.reduceLT, Int.reduceLE, Int.reduceNe] at hr; subst hr; (first | refine awV ?_ ?_ | refine awW ?_ ?_ | refine endK ?_ ?_ | refine endGK ?_ ?_ ?_ | (refine condK (fun h => ?_) (fun h => ?_) <;> (try simp only [go_sem, reduceCtorEq] at h) <;> (try (exfalso; omega)))))
    | (refine go_callGE [(15011, 10000), (15012, 15000)] [(10000, 15011), (15000, 15012)] [15012] [15011] ?_; intro r hr; simp only [go_sem, Nat.reduceBEq, Nat.reduceBneDiff, Nat.reduceLT, Nat.reduceLeDiff, Nat.reduceAdd, Nat.reduceMul, Nat.reduceSub, Nat.reduceEqDiff, reduceCtorEq, hd, bkL_cut, beq_self_eq_true, decide_true, Int.cast_ofNat_Int, Int.reduceToNat, Int.reduceEq, Int.reduceLT, Int.reduceLE, Int.reduceNe] at hr; subst hr; refine callGK (hA) rfl rfl (by first | exact .inl rfl | exact .inr rfl) ?_ (.inl rfl) ?_)
    | (refine go_callGE [(15013, 10000), (15014, 15000)] [(10000, 15013), (15000, 15014)] [15014] [15013] ?_; intro r hr; simp only [go_sem, Nat.reduceBEq, Nat.reduceBneDiff, Nat.reduceLT, Nat.reduceLeDiff, Nat.reduceAdd, Nat.reduceMul, Nat.reduceSub, Nat.reduceEqDiff, reduceCtorEq, hd, bkL_cut, beq_self_eq_true, decide_true, Int.cast_ofNat_Int, Int.reduceToNat, Int.reduceEq, Int.reduceLT, Int.reduceLE, Int.reduceNe] at hr; subst hr; refine callGK (rA) rfl rfl (by first | exact .inl rfl | exact .inr rfl) ?_ (.inl rfl) ?_)
    | (refine go_callGE [(15011, 10000), (15012, 15000)] [(10000, 15011), (15000, 15012)] [15012] [15011] ?_; intro r hr; simp only [go_sem, Nat.reduceBEq, Nat.reduceBneDiff, Nat.reduceLT, Nat.reduceLeDiff, Nat.reduceAdd, Nat.reduceMul, Nat.reduceSub, Nat.reduceEqDiff, reduceCtorEq, hd, bkL_cut, beq_self_eq_true, decide_true, Int.cast_ofNat_Int, Int.reduceToNat, Int.reduceEq, Int.reduceLT, Int.reduceLE, Int.reduceNe] at hr; subst hr; refine callGK (hH) rfl rfl (by first | exact .inl rfl | exact .inr rfl) ?_ (.inl rfl) ?_)
    | (refine go_callGE [(15013, 10000), (15014, 15000)] [(10000, 15013), (15000, 15014)] [15014] [15013] ?_; intro r hr; simp only [go_sem, Nat.reduceBEq, Nat.reduceBneDiff, Nat.reduceLT, Nat.reduceLeDiff, Nat.reduceAdd, Nat.reduceMul, Nat.reduceSub, Nat.reduceEqDiff, reduceCtorEq, hd, bkL_cut, beq_self_eq_true, decide_true, Int.cast_ofNat_Int, Int.reduceToNat, Int.reduceEq, Int.reduceLT, Int.reduceLE, Int.reduceNe] at hr; subst hr; refine callGK (rH) rfl rfl (by first | exact .inl rfl | exact .inr rfl) ?_ (.inl rfl) ?_)
    | (refine go_callGE [(15011, 10000), (15012, 15000)] [(10000, 15011), (15000, 15012)] [15012] [15011] ?_; intro r hr; simp only [go_sem, Nat.reduceBEq, Nat.reduceBneDiff, Nat.reduceLT, Nat.reduceLeDiff, Nat.reduceAdd, Nat.reduceMul, Nat.reduceSub, Nat.reduceEqDiff, reduceCtorEq, hd, bkL_cut, beq_self_eq_true, decide_true, Int.cast_ofNat_Int, Int.reduceToNat, Int.reduceEq, Int.reduceLT, Int.reduceLE, Int.reduceNe] at hr; subst hr; refine callGK (hE) rfl rfl (by first | exact .inl rfl | exact .inr rfl) ?_ (.inl rfl) ?_)
    | (refine go_callGE [(15013, 10000), (15014, 15000)] [(10000, 15013), (15000, 15014)] [15014] [15013] ?_; intro r hr; simp only [go_sem, Nat.reduceBEq, Nat.reduceBneDiff, Nat.reduceLT, Nat.reduceLeDiff, Nat.reduceAdd, Nat.reduceMul, Nat.reduceSub, Nat.reduceEqDiff, reduceCtorEq, hd, bkL_cut, beq_self_eq_true, decide_true, Int.cast_ofNat_Int, Int.reduceToNat, Int.reduceEq, Int.reduceLT, Int.reduceLE, Int.reduceNe] at hr; subst hr; refine callGK (rE) rfl rfl (by first | exact .inl rfl | exact .inr rfl) ?_ (.inl rfl) ?_) | fail)) <;> (try omega)
    all_goals first | exact AV.up_rfl _ | (repeat first | exact obUp_nil | refine obUp_cons rfl ?_)
  | cons n0 ls0 =>
    generalize hcs : n0 :: ls0 = cs
    rw [tabO_ne D (by rw [← hcs]; exact List.cons_ne_nil _ _)]
    unfold tabV tabA
    simp only [hd] at hA hH hE ⊢
    refine go_fnG (tyOf_ok _) Try.func28 rfl rfl (by rw [Try.results28]) Try.ntmps28 rfl fun E => ?_
    (repeat' (first
    | exact trivial
    | (with_reducible first | refine awA ?_ | refine awB ?_ | refine awC ?_ | refine awD ?_ | refine awE ?_ | refine awF ?_ | refine awG ?_ | refine awH ?_ | refine awI ?_ | refine awJ ?_ | refine awK ?_ | refine awL ?_ | refine awM (by decide) ?_)
    | (refine aw_draw (id := 1) (t := (.node [0, 1, 2, 3, 4, 5, 7, 8, 9, 10, 11, 12, 6, 13, 14, 15, 16, 17, 18, 19, 20, 21, 23, 24, 25, 26, 27, 28, 22, 29, 30, 31, 32, 33, 34, 35, 36, 37, 38, 40, 41, 42, 43, 44, 45, 39, 46, 47, 48, 49] [])) (drR [10000] [] [11, 18, 27, 34, 44, 51]) mixed (by kernel_rfl) (by kernel_rfl) (fun _ _ h => h) ?_)
    | (refine at_done (by simp only [List.filterMap_cons, List.filterMap_nil, List.getElem?_toArray, List.getElem?_cons_zero, List.getElem?_cons_succ]; exact rfl) ?_) | (refine at_alt (by simp only [List.filterMap_cons, List.filterMap_nil, List.getElem?_toArray, List.getElem?_cons_zero, List.getElem?_cons_succ]; exact rfl) ?_) | refine qalt_normal ?_ | refine ats_cons ?_ ?_ | exact ats_nil
    | ((with_reducible first | refine awN (tyOf_ok _) [] ?_ | refine awO (tyOf_ok _) [] ?_ | refine awP (tyOf_ok _) [] ?_ | refine awQ ?_ | refine awR ?_ | refine awS ?_ | refine awT ?_ | refine awU ?_); intro r hr; simp only [go_sem, Nat.reduceBEq, Nat.reduceBneDiff, Nat.reduceLT, Nat.reduceLeDiff, Nat.reduceAdd, Nat.reduceMul, Nat.reduceSub, Nat.reduceEqDiff, reduceCtorEq, hd, bkL_cut, beq_self_eq_true, decide_true, Int.cast_ofNat_Int, Int.reduceToNat, Int.reduceEq, Int.reduceLT, Int.reduceLE, Int.reduceNe] at hr; subst hr; (first | refine awV ?_ ?_ | refine awW ?_ ?_ | refine endK ?_ ?_ | refine endGK ?_ ?_ ?_ | (refine condK (fun h => ?_) (fun h => ?_) <;> (try simp only [go_sem, reduceCtorEq] at h) <;> (try (exfalso; omega)))))
    | (refine go_callGE [(15011, 10000), (15012, 15000)] [(10000, 15011), (15000, 15012)] [15012] [15011] ?_; intro r hr; simp only [go_sem, Nat.reduceBEq, Nat.reduceBneDiff, Nat.reduceLT, Nat.reduceLeDiff, Nat.reduceAdd, Nat.reduceMul, Nat.reduceSub, Nat.reduceEqDiff, reduceCtorEq, hd, bkL_cut, beq_self_eq_true, decide_true, Int.cast_ofNat_Int, Int.reduceToNat, Int.reduceEq, Int.reduceLT, Int.reduceLE, Int.reduceNe] at hr; subst hr; refine callGK (hA) rfl rfl (by first | exact .inl rfl | exact .inr rfl) ?_ (.inl rfl) ?_)
    | (refine go_callGE [(15013, 10000), (15014, 15000)] [(10000, 15013), (15000, 15014)] [15014] [15013] ?_; intro r hr; simp only [go_sem, Nat.reduceBEq, Nat.reduceBneDiff, Nat.reduceLT, Nat.reduceLeDiff, Nat.reduceAdd, Nat.reduceMul, Nat.reduceSub, Nat.reduceEqDiff, reduceCtorEq, hd, bkL_cut, beq_self_eq_true, decide_true, Int.cast_ofNat_Int, Int.reduceToNat, Int.reduceEq, Int.reduceLT, Int.reduceLE, Int.reduceNe] at hr; subst hr; refine callGK (rA) rfl rfl (by first | exact .inl rfl | exact .inr rfl) ?_ (.inl rfl) ?_)
    | (refine go_callGE [(15011, 10000), (15012, 15000)] [(10000, 15011), (15000, 15012)] [15012] [15011] ?_; intro r hr; simp only [go_sem, Nat.reduceBEq, Nat.reduceBneDiff, Nat.reduceLT, Nat.reduceLeDiff, Nat.reduceAdd, Nat.reduceMul, Nat.reduceSub, Nat.reduceEqDiff, reduceCtorEq, hd, bkL_cut, beq_self_eq_true, decide_true, Int.cast_ofNat_Int, Int.reduceToNat, Int.reduceEq, Int.reduceLT, Int.reduceLE, Int.reduceNe] at hr; subst hr; refine callGK (hH) rfl rfl (by first | exact .inl rfl | exact .inr rfl) ?_ (.inl rfl) ?_)
    | (refine go_callGE [(15013, 10000), (15014, 15000)] [(10000, 15013), (15000, 15014)] [15014] [15013] ?_; intro r hr; simp only [go_sem, Nat.reduceBEq, Nat.reduceBneDiff, Nat.reduceLT, Nat.reduceLeDiff, Nat.reduceAdd, Nat.reduceMul, Nat.reduceSub, Nat.reduceEqDiff, reduceCtorEq, hd, bkL_cut, beq_self_eq_true, decide_true, Int.cast_ofNat_Int, Int.reduceToNat, Int.reduceEq, Int.reduceLT, Int.reduceLE, Int.reduceNe] at hr; subst hr; refine callGK (rH) rfl rfl (by first | exact .inl rfl | exact .inr rfl) ?_ (.inl rfl) ?_)
    | (refine go_callGE [(15011, 10000), (15012, 15000)] [(10000, 15011), (15000, 15012)] [15012] [15011] ?_; intro r hr; simp only [go_sem, Nat.reduceBEq, Nat.reduceBneDiff, Nat.reduceLT, Nat.reduceLeDiff, Nat.reduceAdd, Nat.reduceMul, Nat.reduceSub, Nat.reduceEqDiff, reduceCtorEq, hd, bkL_cut, beq_self_eq_true, decide_true, Int.cast_ofNat_Int, Int.reduceToNat, Int.reduceEq, Int.reduceLT, Int.reduceLE, Int.reduceNe] at hr; subst hr; refine callGK (hE) rfl rfl (by first | exact .inl rfl | exact .inr rfl) ?_ (.inl rfl) ?_)
    | (refine go_callGE [(15013, 10000), (15014, 15000)] [(10000, 15013), (15000, 15014)] [15014] [15013] ?_; intro r hr; simp only [go_sem, Nat.reduceBEq, Nat.reduceBneDiff, Nat.reduceLT, Nat.reduceLeDiff, Nat.reduceAdd, Nat.reduceMul, Nat.reduceSub, Nat.reduceEqDiff, reduceCtorEq, hd, bkL_cut, beq_self_eq_true, decide_true, Int.cast_ofNat_Int, Int.reduceToNat, Int.reduceEq, Int.reduceLT, Int.reduceLE, Int.reduceNe] at hr; subst hr; refine callGK (rE) rfl rfl (by first | exact .inl rfl | exact .inr rfl) ?_ (.inl rfl) ?_) | fail)) <;> (try omega)
    all_goals first | exact AV.up_rfl _ | (repeat first | exact obUp_nil | refine obUp_cons rfl ?_)
end Go.Proofs.Ytopcfnlcapibgaa
end
section
namespace Go.Proofs.Ytopcfnlcapibgaa
open Go.RowKit
set_option maxRecDepth 100000
set_option maxHeartbeats 8000000
/-! Calls of an input. -/
theorem bkL_ren (ρ : List (Nat × Nat)) (ls : List Nat) : AV.ren.renL ρ (bkL ls) = bkL ls := by rw [AV.renL_eq]; exact bkL_map ls fun _ _ => rfl
def setI0 (D : TabS) (s : InS) : TabS := ⟨s, D.i1, D.o0, D.o1⟩
def setI1 (D : TabS) (s : InS) : TabS := ⟨D.i0, s, D.o0, D.o1⟩
def setO0 (D : TabS) (s : OutS) : TabS := ⟨D.i0, D.i1, s, D.o1⟩
def setO1 (D : TabS) (s : OutS) : TabS := ⟨D.i0, D.i1, D.o0, s⟩
/-- a call, as it comes -/
def opV (kind : Int) (which : Bool) (n width v : Int) (b : List Int) : AV := .agg [vI kind, vB which, vI n, vI width, .v (.int .u64 v), .lst 1 (encB b)]
theorem num_any (e : Int) : PCall Try.prog 11 [vI e] (fun r => r = vI e) := by
  refine go_fn (tyOf_ok _) Try.func11 rfl rfl (by rw [Try.results11]) Try.ntmps11 rfl fun E => ?_
  (repeat' (first
    | exact trivial
    | (with_reducible first | refine awA ?_ | refine awB ?_ | refine awC ?_ | refine awD ?_ | refine awE ?_ | refine awF ?_ | refine awG ?_ | refine awH ?_ | refine awI ?_ | refine awJ ?_ | refine awK ?_ | refine awL ?_ | refine awM (by decide) ?_)
    | ((with_reducible first | refine awN (tyOf_ok _) [] ?_ | refine awO (tyOf_ok _) [] ?_ | refine awP (tyOf_ok _) [] ?_ | refine awQ ?_ | refine awR ?_ | refine awS ?_); intro r hr; simp only [go_sem, Nat.reduceBEq, Nat.reduceBneDiff, Nat.reduceLT, Nat.reduceLeDiff, Nat.reduceAdd, Nat.reduceMul, Nat.reduceSub, Nat.reduceEqDiff, reduceCtorEq] at hr; subst hr; (first | refine awV ?_ ?_ | refine awW ?_ ?_ | refine endK ?_ ?_ | (refine condK (fun h => ?_) (fun h => ?_) <;> (try simp only [go_sem, reduceCtorEq] at h) <;> (try (exfalso; omega))))) | fail)) <;> (try omega)
  all_goals exact rfl
theorem tabO_nil (D : TabS) : tabO D [] = (10000, tabV (.v (.slice none 0 0)) (.v (.slice none 0 0))) :: tabA D := rfl
/-- the table, whatever its book -/
theorem tabO_any (D : TabS) (ls : List Nat) : tabO D ls = (10000, tabV (if ls = [] then .v (.slice none 0 0) else .ref 28 1 15021 0 ls.length) (if ls = [] then .v (.slice none 0 0) else .ref 28 1 15022 0 ls.length)) :: ((if ls = [] then [] else [(15021, .var (bkL ls)), (15022, .row 28 1 (bkM ls))]) ++ tabA D) := by
  cases ls <;> rfl
end Go.Proofs.Ytopcfnlcapibgaa
end
section
namespace Go.Proofs.Ytopcfnlcapibgaa
open Go.RowKit
set_option maxRecDepth 100000
set_option maxHeartbeats 8000000
/-! Some answers that the document fixes. -/
section
variable {P : Program}
/-- of which only one choice is left -/
theorem GCallE.toG {f : Nat} {args : List AV} {ob : List (Nat × AObj)} {A : Type} {I : A → Prop} {r : A → AV} {ob1 : A → List (Nat × AObj)} (h : GCallE P f args ob I r ob1) {r0 : AV} {ob0 : List (Nat × AObj)} (hq : ∀ q, I q → r q = r0 ∧ ob1 q = ob0) : GCall P f args ob r0 ob0 :=
  ⟨h.1, fun w F β vs h1 h2 h3 => (h.2 w F β vs h1 h2 h3).mono fun e w' ⟨q, v, β', hI, he, ho, hr⟩ => by
    obtain ⟨g1, g2⟩ := hq q hI
    rw [g1] at hr
    rw [g2] at ho
    exact ⟨v, β', he, ho, hr⟩⟩
/-- known, and so known but for a choice -/
theorem GCall.toE {f : Nat} {args : List AV} {ob : List (Nat × AObj)} {A : Type} {I : A → Prop} {r : A → AV} {ob1 : A → List (Nat × AObj)} {r0 : AV} {ob0 : List (Nat × AObj)} (h : GCall P f args ob r0 ob0) (q : A) (hI : I q) (h1 : r q = r0) (h2 : ob1 q = ob0) : GCallE P f args ob I r ob1 :=
  ⟨h.1, fun w F β vs g1 g2 g3 => (h.2 w F β vs g1 g2 g3).mono fun e w' ⟨v, β', he, ho, hr⟩ => ⟨q, v, β', hI, he, by rw [h2]; exact ho, by rw [h1]; exact hr⟩⟩
theorem GCallE.imp {f : Nat} {args : List AV} {ob : List (Nat × AObj)} {A B : Type} {I : A → Prop} {J : B → Prop} {r : A → AV} {r' : B → AV} {ob1 : A → List (Nat × AObj)} {ob2 : B → List (Nat × AObj)} (h : GCallE P f args ob I r ob1) (g : ∀ q, I q → ∃ p, J p ∧ r' p = r q ∧ ob2 p = ob1 q) : GCallE P f args ob J r' ob2 :=
  ⟨h.1, fun w F β vs g1 g2 g3 => (h.2 w F β vs g1 g2 g3).mono fun e w' ⟨q, v, β', hI, he, ho, hr⟩ => by
    obtain ⟨p, hJ, e1, e2⟩ := g q hI
    exact ⟨p, v, β', hJ, he, by rw [e2]; exact ho, by rw [e1]; exact hr⟩⟩
end
theorem give_overN (pre hs : List Int) (at_ : Int) : GCall Try.prog 12 [.ptr 1 10000 0 0, .v (.slice none 0 0)] (inO pre hs at_ true) (vI 30) (inO pre hs at_ true) := by
  unfold inO
  refine go_fnG (tyOf_ok _) Try.func12 rfl rfl (by rw [Try.results12]) Try.ntmps12 rfl fun E => ?_
  (repeat' (first
    | exact trivial
    | (with_reducible first | refine awA ?_ | refine awB ?_ | refine awC ?_ | refine awD ?_ | refine awE ?_ | refine awF ?_ | refine awG ?_ | refine awH ?_ | refine awI ?_ | refine awJ ?_ | refine awK ?_ | refine awL ?_ | refine awM (by decide) ?_)
    | ((with_reducible first | refine awN (tyOf_ok _) [] ?_ | refine awO (tyOf_ok _) [] ?_ | refine awP (tyOf_ok _) [] ?_ | refine awQ ?_ | refine awR ?_ | refine awS ?_ | refine awT ?_ | refine awU ?_); intro r hr; simp only [go_sem, Nat.reduceBEq, Nat.reduceBneDiff, Nat.reduceLT, Nat.reduceLeDiff, Nat.reduceAdd, Nat.reduceMul, Nat.reduceSub, Nat.reduceEqDiff, reduceCtorEq] at hr; subst hr; (first | refine awV ?_ ?_ | refine awW ?_ ?_ | refine endK ?_ ?_ | refine endGK ?_ ?_ ?_ | (refine condK (fun h => ?_) (fun h => ?_) <;> (try simp only [go_sem, reduceCtorEq] at h) <;> (try (exfalso; omega))))) | fail)) <;> (try omega)
  all_goals first | exact AV.up_rfl _ | exact obUp_cons rfl (obUp_cons rfl obUp_nil)
theorem awake_any : GCall Try.prog 4 [] [] (vB true) [] := by
  have h1 := new_ok 7 (by decide) (by decide)
  have h2 := new_bad (-1) (.inl (by decide))
  have h3 := to_ok 3 (by decide)
  have k1 : GCall Try.prog 12 [.ptr 1 10000 0 0, .lst 1 [[vU8 1], [vU8 2], [vU8 3]]] [(10000, .var [.ref 5 1 15000 0 0, vI 7, vB false]), (15000, .row 5 1 [])] (vI 0) [(10000, .var [.ref 5 1 15000 0 3, vI 7, vB false]), (15000, .row 5 1 [[vU8 1], [vU8 2], [vU8 3]])] := (give_E [] [] [1, 2, 3] 7 (by decide)).toG fun q hq => by
    have : q = [] := hq.elim id id
    subst this
    exact ⟨rfl, rfl⟩
  have k2 : GCall Try.prog 13 [.ptr 1 10000 0 0] [(10000, .var [.ref 5 1 15000 0 3, vI 7, vB false]), (15000, .row 5 1 [[vU8 1], [vU8 2], [vU8 3]])] (.tup [vU8 1, vB true]) [(10000, .var [.ref 5 1 15000 1 2, vI 8, vB false]), (15000, .row 5 1 [[vU8 1], [vU8 2], [vU8 3]])] := take_some [] 1 [2, 3] 7 false ⟨by decide, by decide, by decide⟩
  have k3 : GCall Try.prog 14 [.ptr 1 10000 0 0, vI 2] [(10000, .var [.ref 5 1 15000 1 2, vI 8, vB false]), (15000, .row 5 1 [[vU8 1], [vU8 2], [vU8 3]])] (.tup [.ref 5 1 19 0 2, vB true]) [(19, .row 5 1 [[vU8 2], [vU8 3]]), (10000, .var [.ref 5 1 15000 1 2, vI 8, vB false]), (15000, .row 5 1 [[vU8 1], [vU8 2], [vU8 3]])] := peek_ok [1] [2, 3] 8 false ⟨by decide, by decide, by decide⟩ 2 (by decide)
  have k4 : GCall Try.prog 15 [.ptr 1 10000 0 0, vI 3] [(10000, .var [.ref 5 1 15000 1 2, vI 8, vB false]), (15000, .row 5 1 [[vU8 1], [vU8 2], [vU8 3]])] (vI 3) [(10000, .var [.ref 5 1 15000 1 2, vI 8, vB false]), (15000, .row 5 1 [[vU8 1], [vU8 2], [vU8 3]])] := skip_bad [1] [2, 3] 8 false 3 (.inr (by decide))
  have k5 : GCall Try.prog 15 [.ptr 1 10000 0 0, vI 2] [(10000, .var [.ref 5 1 15000 1 2, vI 8, vB false]), (15000, .row 5 1 [[vU8 1], [vU8 2], [vU8 3]])] (vI 0) [(10000, .var [.ref 5 1 15000 3 0, vI 10, vB false]), (15000, .row 5 1 [[vU8 1], [vU8 2], [vU8 3]])] := skip_ok [1] [2, 3] 8 false ⟨by decide, by decide, by decide⟩ 2 (by decide)
  have k6 : GCall Try.prog 16 [.ptr 1 10000 0 0] [(10000, .var [.ref 5 1 15000 3 0, vI 10, vB false]), (15000, .row 5 1 [[vU8 1], [vU8 2], [vU8 3]])] (vI 10) [(10000, .var [.ref 5 1 15000 3 0, vI 10, vB false]), (15000, .row 5 1 [[vU8 1], [vU8 2], [vU8 3]])] := at_G [1, 2, 3] [] 10 false
  have k7 : GCall Try.prog 17 [.ptr 1 10000 0 0] [(10000, .var [.ref 5 1 15000 3 0, vI 10, vB false]), (15000, .row 5 1 [[vU8 1], [vU8 2], [vU8 3]])] (vI 0) [(10000, .var [.ref 5 1 15000 3 0, vI 10, vB false]), (15000, .row 5 1 [[vU8 1], [vU8 2], [vU8 3]])] := held_G [1, 2, 3] [] 10 false
  have k8 : GCall Try.prog 18 [.ptr 1 10000 0 0] [(10000, .var [.ref 5 1 15000 3 0, vI 10, vB false]), (15000, .row 5 1 [[vU8 1], [vU8 2], [vU8 3]])] (vI 0) [(10000, .var [.ref 5 1 15000 3 0, vI 10, vB true]), (15000, .row 5 1 [[vU8 1], [vU8 2], [vU8 3]])] := end_G [1, 2, 3] [] 10 false
  have k9 : GCall Try.prog 12 [.ptr 1 10000 0 0, .v (.slice none 0 0)] [(10000, .var [.ref 5 1 15000 3 0, vI 10, vB true]), (15000, .row 5 1 [[vU8 1], [vU8 2], [vU8 3]])] (vI 30) [(10000, .var [.ref 5 1 15000 3 0, vI 10, vB true]), (15000, .row 5 1 [[vU8 1], [vU8 2], [vU8 3]])] := give_overN [1, 2, 3] [] 10
  have k10 : GCall Try.prog 19 [.ptr 1 10000 0 0] [(10000, .var [.ref 5 1 15000 3 0, vI 10, vB true]), (15000, .row 5 1 [[vU8 1], [vU8 2], [vU8 3]])] (vB true) [(10000, .var [.ref 5 1 15000 3 0, vI 10, vB true]), (15000, .row 5 1 [[vU8 1], [vU8 2], [vU8 3]])] := ended_G [1, 2, 3] [] 10 true
  have m1 : GCall Try.prog 20 [.ptr 1 10000 0 0, .lst 1 [[vU8 1], [vU8 2]]] [(10000, .var [vI 3, .ref 5 1 15000 0 0]), (15000, .row 5 1 [])] (vI 0) [(10000, .var [vI 3, .ref 5 1 15000 0 2]), (15000, .row 5 1 [[vU8 1], [vU8 2]])] := oput_ok 3 [] [1, 2] ⟨by decide, by decide, by decide⟩ (by decide) (by decide)
  have m2 : GCall Try.prog 20 [.ptr 1 10000 0 0, .lst 1 [[vU8 1], [vU8 2]]] [(10000, .var [vI 3, .ref 5 1 15000 0 2]), (15000, .row 5 1 [[vU8 1], [vU8 2]])] (vI 4) [(10000, .var [vI 3, .ref 5 1 15000 0 2]), (15000, .row 5 1 [[vU8 1], [vU8 2]])] := oput_bad 3 [1, 2] [1, 2] ⟨by decide, by decide, by decide⟩ (by decide)
  have m3 : GCall Try.prog 21 [.ptr 1 10000 0 0, vI 0, vI 2, .v (.int .u64 513)] [(10000, .var [vI 3, .ref 5 1 15000 0 2]), (15000, .row 5 1 [[vU8 1], [vU8 2]])] (vI 0) [(10000, .var [vI 3, .ref 5 1 15000 0 2]), (15000, .row 5 1 [[vU8 1], [vU8 2]])] := opatch_ok 3 [1, 2] 0 2 513 (by decide) (by decide) (by decide) (by decide) ⟨by decide, by decide⟩ (by decide)
  have m4 : GCall Try.prog 22 [.ptr 1 10000 0 0] [(10000, .var [vI 3, .ref 5 1 15000 0 2]), (15000, .row 5 1 [[vU8 1], [vU8 2]])] (.ref 5 1 8000 0 2) [(8000, .row 5 1 [[vU8 1], [vU8 2]]), (10000, .var [vI 3, .ref 5 1 15000 0 2]), (15000, .row 5 1 [[vU8 1], [vU8 2]])] := obytes_G 3 [1, 2] (by decide)
  have m5 : GCall Try.prog 23 [.ptr 1 10000 0 0] [(10000, .var [vI 3, .ref 5 1 15000 0 2]), (15000, .row 5 1 [[vU8 1], [vU8 2]])] (vI 2) [(10000, .var [vI 3, .ref 5 1 15000 0 2]), (15000, .row 5 1 [[vU8 1], [vU8 2]])] := olen_G 3 [1, 2]
  have hall : ∀ x y : Int, allU8 [[vU8 x], [vU8 y]] := fun x y => allU8_encB [x, y]
  have s1 : strOfNums (numsOf [[vU8 2], [vU8 3]]) = ⟨#[2, 3]⟩ := rfl
  have s2 : strOfNums (numsOf [[vU8 1], [vU8 2]]) = ⟨#[1, 2]⟩ := rfl
  refine go_fnG (tyOf_ok _) Try.func4 rfl rfl (by rw [Try.results4]) Try.ntmps4 rfl fun E => ?_
  (repeat' (first
    | exact trivial
    | (refine aw_nilvar 15001 0 5 1 15002 (.inr (by decide)) (by decide) rfl rfl ?_)
    | (refine aw_nilvar 15005 1 5 1 15006 (.inr (by decide)) (by decide) rfl rfl ?_)
    | (with_reducible first | refine awA ?_ | refine awB ?_ | refine awC ?_ | refine awD ?_ | refine awE ?_ | refine awF ?_ | refine awG ?_ | refine awH ?_ | refine awI ?_ | refine awJ ?_ | refine awK ?_ | refine awL ?_ | refine awM (by decide) ?_)
    | ((with_reducible first | refine awN (tyOf_ok _) [] ?_ | refine awO (tyOf_ok _) [] ?_ | refine awP (tyOf_ok _) [] ?_ | refine awQ ?_ | refine awR ?_ | refine awS ?_ | refine awT ?_ | refine awU ?_); intro r hr; simp only [go_sem, Nat.reduceBEq, Nat.reduceBneDiff, Nat.reduceLT, Nat.reduceLeDiff, Nat.reduceAdd, Nat.reduceMul, Nat.reduceSub, Nat.reduceEqDiff, reduceCtorEq, AState.nilvar, List.set_cons_succ, List.set_cons_zero, s1, s2, beq_self_eq_true, decide_true, Int.cast_ofNat_Int, Int.reduceToNat, Int.reduceEq, Int.reduceLT, Int.reduceLE, Int.reduceNe] at hr; subst hr; (first | refine caA (fun _ => num_any _) rfl ?_ ?_ ?_ | refine awV ?_ ?_ | refine awW ?_ ?_ | refine endK ?_ ?_ | refine endGK ?_ ?_ ?_ | (refine condK (fun h => ?_) (fun h => ?_) <;> (try simp only [go_sem, reduceCtorEq] at h) <;> (try (exfalso; omega)))))
    | (refine al_conv (tyOf_ok _) rfl rfl ⟨by decide, by decide⟩ rfl rfl (show _ ∧ _ ∧ _ ≤ _ from ⟨rfl, rfl, by decide⟩) (by simp only [List.drop_zero, Nat.zero_add, go_sem, Nat.reduceBEq, Nat.reduceBneDiff, Nat.reduceLT, Nat.reduceLeDiff, Nat.reduceAdd, Nat.reduceMul, Nat.reduceSub, Nat.reduceEqDiff, reduceCtorEq]; exact rfl) (hall _ _) rfl ?_)
    | (refine go_callGd 12 rfl [] [(12, 15001)] [15001] [] (by simp only [go_sem, Nat.reduceBEq, Nat.reduceBneDiff, Nat.reduceLT, Nat.reduceLeDiff, Nat.reduceAdd, Nat.reduceMul, Nat.reduceSub, Nat.reduceEqDiff, reduceCtorEq, AState.nilvar, List.set_cons_succ, List.set_cons_zero, s1, s2, beq_self_eq_true, decide_true, Int.cast_ofNat_Int, Int.reduceToNat, Int.reduceEq, Int.reduceLT, Int.reduceLE, Int.reduceNe]; exact rfl) ?_ rfl rfl (by first | exact .inl rfl | exact .inr rfl) (by simp only [go_sem, Nat.reduceBEq, Nat.reduceBneDiff, Nat.reduceLT, Nat.reduceLeDiff, Nat.reduceAdd, Nat.reduceMul, Nat.reduceSub, Nat.reduceEqDiff, reduceCtorEq, AState.nilvar, List.set_cons_succ, List.set_cons_zero, s1, s2, beq_self_eq_true, decide_true, Int.cast_ofNat_Int, Int.reduceToNat, Int.reduceEq, Int.reduceLT, Int.reduceLE, Int.reduceNe] <;> exact rfl) (h1) (.inr ⟨rfl, ?_⟩) ?_)
    | (refine go_callGd 16 rfl [] [] [] [] (by simp only [go_sem, Nat.reduceBEq, Nat.reduceBneDiff, Nat.reduceLT, Nat.reduceLeDiff, Nat.reduceAdd, Nat.reduceMul, Nat.reduceSub, Nat.reduceEqDiff, reduceCtorEq, AState.nilvar, List.set_cons_succ, List.set_cons_zero, s1, s2, beq_self_eq_true, decide_true, Int.cast_ofNat_Int, Int.reduceToNat, Int.reduceEq, Int.reduceLT, Int.reduceLE, Int.reduceNe]; exact rfl) ?_ rfl rfl (by first | exact .inl rfl | exact .inr rfl) (by simp only [go_sem, Nat.reduceBEq, Nat.reduceBneDiff, Nat.reduceLT, Nat.reduceLeDiff, Nat.reduceAdd, Nat.reduceMul, Nat.reduceSub, Nat.reduceEqDiff, reduceCtorEq, AState.nilvar, List.set_cons_succ, List.set_cons_zero, s1, s2, beq_self_eq_true, decide_true, Int.cast_ofNat_Int, Int.reduceToNat, Int.reduceEq, Int.reduceLT, Int.reduceLE, Int.reduceNe] <;> exact rfl) (h2) (.inr ⟨rfl, ?_⟩) ?_)
    | (refine go_callGd 20 rfl [] [(8, 15005)] [15005] [] (by simp only [go_sem, Nat.reduceBEq, Nat.reduceBneDiff, Nat.reduceLT, Nat.reduceLeDiff, Nat.reduceAdd, Nat.reduceMul, Nat.reduceSub, Nat.reduceEqDiff, reduceCtorEq, AState.nilvar, List.set_cons_succ, List.set_cons_zero, s1, s2, beq_self_eq_true, decide_true, Int.cast_ofNat_Int, Int.reduceToNat, Int.reduceEq, Int.reduceLT, Int.reduceLE, Int.reduceNe]; exact rfl) ?_ rfl rfl (by first | exact .inl rfl | exact .inr rfl) (by simp only [go_sem, Nat.reduceBEq, Nat.reduceBneDiff, Nat.reduceLT, Nat.reduceLeDiff, Nat.reduceAdd, Nat.reduceMul, Nat.reduceSub, Nat.reduceEqDiff, reduceCtorEq, AState.nilvar, List.set_cons_succ, List.set_cons_zero, s1, s2, beq_self_eq_true, decide_true, Int.cast_ofNat_Int, Int.reduceToNat, Int.reduceEq, Int.reduceLT, Int.reduceLE, Int.reduceNe] <;> exact rfl) (h3) (.inr ⟨rfl, ?_⟩) ?_)
    | (refine go_callGd 50 rfl [(15001, 10000), (15002, 15000)] [(10000, 15001), (15000, 15002)] [15002] [15001] (by simp only [go_sem, Nat.reduceBEq, Nat.reduceBneDiff, Nat.reduceLT, Nat.reduceLeDiff, Nat.reduceAdd, Nat.reduceMul, Nat.reduceSub, Nat.reduceEqDiff, reduceCtorEq, AState.nilvar, List.set_cons_succ, List.set_cons_zero, s1, s2, beq_self_eq_true, decide_true, Int.cast_ofNat_Int, Int.reduceToNat, Int.reduceEq, Int.reduceLT, Int.reduceLE, Int.reduceNe]; exact rfl) ?_ rfl rfl (by first | exact .inl rfl | exact .inr rfl) (by simp only [go_sem, Nat.reduceBEq, Nat.reduceBneDiff, Nat.reduceLT, Nat.reduceLeDiff, Nat.reduceAdd, Nat.reduceMul, Nat.reduceSub, Nat.reduceEqDiff, reduceCtorEq, AState.nilvar, List.set_cons_succ, List.set_cons_zero, s1, s2, beq_self_eq_true, decide_true, Int.cast_ofNat_Int, Int.reduceToNat, Int.reduceEq, Int.reduceLT, Int.reduceLE, Int.reduceNe] <;> exact rfl) (k1) (.inl rfl) ?_)
    | (refine go_callGd 53 rfl [(15001, 10000), (15002, 15000)] [(10000, 15001), (15000, 15002)] [15002] [15001] (by simp only [go_sem, Nat.reduceBEq, Nat.reduceBneDiff, Nat.reduceLT, Nat.reduceLeDiff, Nat.reduceAdd, Nat.reduceMul, Nat.reduceSub, Nat.reduceEqDiff, reduceCtorEq, AState.nilvar, List.set_cons_succ, List.set_cons_zero, s1, s2, beq_self_eq_true, decide_true, Int.cast_ofNat_Int, Int.reduceToNat, Int.reduceEq, Int.reduceLT, Int.reduceLE, Int.reduceNe]; exact rfl) ?_ rfl rfl (by first | exact .inl rfl | exact .inr rfl) (by simp only [go_sem, Nat.reduceBEq, Nat.reduceBneDiff, Nat.reduceLT, Nat.reduceLeDiff, Nat.reduceAdd, Nat.reduceMul, Nat.reduceSub, Nat.reduceEqDiff, reduceCtorEq, AState.nilvar, List.set_cons_succ, List.set_cons_zero, s1, s2, beq_self_eq_true, decide_true, Int.cast_ofNat_Int, Int.reduceToNat, Int.reduceEq, Int.reduceLT, Int.reduceLE, Int.reduceNe] <;> exact rfl) (k2) (.inl rfl) ?_)
    | (refine go_callGd 58 rfl [(15001, 10000), (15002, 15000)] [(10000, 15001), (15000, 15002), (19, 8001)] [15002, 8001] [15001] (by simp only [go_sem, Nat.reduceBEq, Nat.reduceBneDiff, Nat.reduceLT, Nat.reduceLeDiff, Nat.reduceAdd, Nat.reduceMul, Nat.reduceSub, Nat.reduceEqDiff, reduceCtorEq, AState.nilvar, List.set_cons_succ, List.set_cons_zero, s1, s2, beq_self_eq_true, decide_true, Int.cast_ofNat_Int, Int.reduceToNat, Int.reduceEq, Int.reduceLT, Int.reduceLE, Int.reduceNe]; exact rfl) ?_ rfl rfl (by first | exact .inl rfl | exact .inr rfl) (by simp only [go_sem, Nat.reduceBEq, Nat.reduceBneDiff, Nat.reduceLT, Nat.reduceLeDiff, Nat.reduceAdd, Nat.reduceMul, Nat.reduceSub, Nat.reduceEqDiff, reduceCtorEq, AState.nilvar, List.set_cons_succ, List.set_cons_zero, s1, s2, beq_self_eq_true, decide_true, Int.cast_ofNat_Int, Int.reduceToNat, Int.reduceEq, Int.reduceLT, Int.reduceLE, Int.reduceNe] <;> exact rfl) (k3) (.inl rfl) ?_)
    | (refine go_callGd 78 rfl [(15001, 10000), (15002, 15000)] [(10000, 15001), (15000, 15002)] [15002] [15001] (by simp only [go_sem, Nat.reduceBEq, Nat.reduceBneDiff, Nat.reduceLT, Nat.reduceLeDiff, Nat.reduceAdd, Nat.reduceMul, Nat.reduceSub, Nat.reduceEqDiff, reduceCtorEq, AState.nilvar, List.set_cons_succ, List.set_cons_zero, s1, s2, beq_self_eq_true, decide_true, Int.cast_ofNat_Int, Int.reduceToNat, Int.reduceEq, Int.reduceLT, Int.reduceLE, Int.reduceNe]; exact rfl) ?_ rfl rfl (by first | exact .inl rfl | exact .inr rfl) (by simp only [go_sem, Nat.reduceBEq, Nat.reduceBneDiff, Nat.reduceLT, Nat.reduceLeDiff, Nat.reduceAdd, Nat.reduceMul, Nat.reduceSub, Nat.reduceEqDiff, reduceCtorEq, AState.nilvar, List.set_cons_succ, List.set_cons_zero, s1, s2, beq_self_eq_true, decide_true, Int.cast_ofNat_Int, Int.reduceToNat, Int.reduceEq, Int.reduceLT, Int.reduceLE, Int.reduceNe] <;> exact rfl) (k4) (.inl rfl) ?_)
    | (refine go_callGd 84 rfl [(15001, 10000), (15002, 15000)] [(10000, 15001), (15000, 15002)] [15002] [15001] (by simp only [go_sem, Nat.reduceBEq, Nat.reduceBneDiff, Nat.reduceLT, Nat.reduceLeDiff, Nat.reduceAdd, Nat.reduceMul, Nat.reduceSub, Nat.reduceEqDiff, reduceCtorEq, AState.nilvar, List.set_cons_succ, List.set_cons_zero, s1, s2, beq_self_eq_true, decide_true, Int.cast_ofNat_Int, Int.reduceToNat, Int.reduceEq, Int.reduceLT, Int.reduceLE, Int.reduceNe]; exact rfl) ?_ rfl rfl (by first | exact .inl rfl | exact .inr rfl) (by simp only [go_sem, Nat.reduceBEq, Nat.reduceBneDiff, Nat.reduceLT, Nat.reduceLeDiff, Nat.reduceAdd, Nat.reduceMul, Nat.reduceSub, Nat.reduceEqDiff, reduceCtorEq, AState.nilvar, List.set_cons_succ, List.set_cons_zero, s1, s2, beq_self_eq_true, decide_true, Int.cast_ofNat_Int, Int.reduceToNat, Int.reduceEq, Int.reduceLT, Int.reduceLE, Int.reduceNe] <;> exact rfl) (k5) (.inl rfl) ?_)
    | (refine go_callGd 90 rfl [(15001, 10000), (15002, 15000)] [(10000, 15001), (15000, 15002)] [15002] [15001] (by simp only [go_sem, Nat.reduceBEq, Nat.reduceBneDiff, Nat.reduceLT, Nat.reduceLeDiff, Nat.reduceAdd, Nat.reduceMul, Nat.reduceSub, Nat.reduceEqDiff, reduceCtorEq, AState.nilvar, List.set_cons_succ, List.set_cons_zero, s1, s2, beq_self_eq_true, decide_true, Int.cast_ofNat_Int, Int.reduceToNat, Int.reduceEq, Int.reduceLT, Int.reduceLE, Int.reduceNe]; exact rfl) ?_ rfl rfl (by first | exact .inl rfl | exact .inr rfl) (by simp only [go_sem, Nat.reduceBEq, Nat.reduceBneDiff, Nat.reduceLT, Nat.reduceLeDiff, Nat.reduceAdd, Nat.reduceMul, Nat.reduceSub, Nat.reduceEqDiff, reduceCtorEq, AState.nilvar, List.set_cons_succ, List.set_cons_zero, s1, s2, beq_self_eq_true, decide_true, Int.cast_ofNat_Int, Int.reduceToNat, Int.reduceEq, Int.reduceLT, Int.reduceLE, Int.reduceNe] <;> exact rfl) (k6) (.inl rfl) ?_)
    | (refine go_callGd 95 rfl [(15001, 10000), (15002, 15000)] [(10000, 15001), (15000, 15002)] [15002] [15001] (by simp only [go_sem, Nat.reduceBEq, Nat.reduceBneDiff, Nat.reduceLT, Nat.reduceLeDiff, Nat.reduceAdd, Nat.reduceMul, Nat.reduceSub, Nat.reduceEqDiff, reduceCtorEq, AState.nilvar, List.set_cons_succ, List.set_cons_zero, s1, s2, beq_self_eq_true, decide_true, Int.cast_ofNat_Int, Int.reduceToNat, Int.reduceEq, Int.reduceLT, Int.reduceLE, Int.reduceNe]; exact rfl) ?_ rfl rfl (by first | exact .inl rfl | exact .inr rfl) (by simp only [go_sem, Nat.reduceBEq, Nat.reduceBneDiff, Nat.reduceLT, Nat.reduceLeDiff, Nat.reduceAdd, Nat.reduceMul, Nat.reduceSub, Nat.reduceEqDiff, reduceCtorEq, AState.nilvar, List.set_cons_succ, List.set_cons_zero, s1, s2, beq_self_eq_true, decide_true, Int.cast_ofNat_Int, Int.reduceToNat, Int.reduceEq, Int.reduceLT, Int.reduceLE, Int.reduceNe] <;> exact rfl) (k7) (.inl rfl) ?_)
    | (refine go_callGd 100 rfl [(15001, 10000), (15002, 15000)] [(10000, 15001), (15000, 15002)] [15002] [15001] (by simp only [go_sem, Nat.reduceBEq, Nat.reduceBneDiff, Nat.reduceLT, Nat.reduceLeDiff, Nat.reduceAdd, Nat.reduceMul, Nat.reduceSub, Nat.reduceEqDiff, reduceCtorEq, AState.nilvar, List.set_cons_succ, List.set_cons_zero, s1, s2, beq_self_eq_true, decide_true, Int.cast_ofNat_Int, Int.reduceToNat, Int.reduceEq, Int.reduceLT, Int.reduceLE, Int.reduceNe]; exact rfl) ?_ rfl rfl (by first | exact .inl rfl | exact .inr rfl) (by simp only [go_sem, Nat.reduceBEq, Nat.reduceBneDiff, Nat.reduceLT, Nat.reduceLeDiff, Nat.reduceAdd, Nat.reduceMul, Nat.reduceSub, Nat.reduceEqDiff, reduceCtorEq, AState.nilvar, List.set_cons_succ, List.set_cons_zero, s1, s2, beq_self_eq_true, decide_true, Int.cast_ofNat_Int, Int.reduceToNat, Int.reduceEq, Int.reduceLT, Int.reduceLE, Int.reduceNe] <;> exact rfl) (k8) (.inl rfl) ?_)
    | (refine go_callGd 106 rfl [(15001, 10000), (15002, 15000)] [(10000, 15001), (15000, 15002)] [15002] [15001] (by simp only [go_sem, Nat.reduceBEq, Nat.reduceBneDiff, Nat.reduceLT, Nat.reduceLeDiff, Nat.reduceAdd, Nat.reduceMul, Nat.reduceSub, Nat.reduceEqDiff, reduceCtorEq, AState.nilvar, List.set_cons_succ, List.set_cons_zero, s1, s2, beq_self_eq_true, decide_true, Int.cast_ofNat_Int, Int.reduceToNat, Int.reduceEq, Int.reduceLT, Int.reduceLE, Int.reduceNe]; exact rfl) ?_ rfl rfl (by first | exact .inl rfl | exact .inr rfl) (by simp only [go_sem, Nat.reduceBEq, Nat.reduceBneDiff, Nat.reduceLT, Nat.reduceLeDiff, Nat.reduceAdd, Nat.reduceMul, Nat.reduceSub, Nat.reduceEqDiff, reduceCtorEq, AState.nilvar, List.set_cons_succ, List.set_cons_zero, s1, s2, beq_self_eq_true, decide_true, Int.cast_ofNat_Int, Int.reduceToNat, Int.reduceEq, Int.reduceLT, Int.reduceLE, Int.reduceNe] <;> exact rfl) (k9) (.inl rfl) ?_)
    | (refine go_callGd 112 rfl [(15001, 10000), (15002, 15000)] [(10000, 15001), (15000, 15002)] [15002] [15001] (by simp only [go_sem, Nat.reduceBEq, Nat.reduceBneDiff, Nat.reduceLT, Nat.reduceLeDiff, Nat.reduceAdd, Nat.reduceMul, Nat.reduceSub, Nat.reduceEqDiff, reduceCtorEq, AState.nilvar, List.set_cons_succ, List.set_cons_zero, s1, s2, beq_self_eq_true, decide_true, Int.cast_ofNat_Int, Int.reduceToNat, Int.reduceEq, Int.reduceLT, Int.reduceLE, Int.reduceNe]; exact rfl) ?_ rfl rfl (by first | exact .inl rfl | exact .inr rfl) (by simp only [go_sem, Nat.reduceBEq, Nat.reduceBneDiff, Nat.reduceLT, Nat.reduceLeDiff, Nat.reduceAdd, Nat.reduceMul, Nat.reduceSub, Nat.reduceEqDiff, reduceCtorEq, AState.nilvar, List.set_cons_succ, List.set_cons_zero, s1, s2, beq_self_eq_true, decide_true, Int.cast_ofNat_Int, Int.reduceToNat, Int.reduceEq, Int.reduceLT, Int.reduceLE, Int.reduceNe] <;> exact rfl) (k10) (.inl rfl) ?_)
    | (refine go_callGd 117 rfl [(15005, 10000), (15006, 15000)] [(10000, 15005), (15000, 15006)] [15006] [15005] (by simp only [go_sem, Nat.reduceBEq, Nat.reduceBneDiff, Nat.reduceLT, Nat.reduceLeDiff, Nat.reduceAdd, Nat.reduceMul, Nat.reduceSub, Nat.reduceEqDiff, reduceCtorEq, AState.nilvar, List.set_cons_succ, List.set_cons_zero, s1, s2, beq_self_eq_true, decide_true, Int.cast_ofNat_Int, Int.reduceToNat, Int.reduceEq, Int.reduceLT, Int.reduceLE, Int.reduceNe]; exact rfl) ?_ rfl rfl (by first | exact .inl rfl | exact .inr rfl) (by simp only [go_sem, Nat.reduceBEq, Nat.reduceBneDiff, Nat.reduceLT, Nat.reduceLeDiff, Nat.reduceAdd, Nat.reduceMul, Nat.reduceSub, Nat.reduceEqDiff, reduceCtorEq, AState.nilvar, List.set_cons_succ, List.set_cons_zero, s1, s2, beq_self_eq_true, decide_true, Int.cast_ofNat_Int, Int.reduceToNat, Int.reduceEq, Int.reduceLT, Int.reduceLE, Int.reduceNe] <;> exact rfl) (m1) (.inl rfl) ?_)
    | (refine go_callGd 123 rfl [(15005, 10000), (15006, 15000)] [(10000, 15005), (15000, 15006)] [15006] [15005] (by simp only [go_sem, Nat.reduceBEq, Nat.reduceBneDiff, Nat.reduceLT, Nat.reduceLeDiff, Nat.reduceAdd, Nat.reduceMul, Nat.reduceSub, Nat.reduceEqDiff, reduceCtorEq, AState.nilvar, List.set_cons_succ, List.set_cons_zero, s1, s2, beq_self_eq_true, decide_true, Int.cast_ofNat_Int, Int.reduceToNat, Int.reduceEq, Int.reduceLT, Int.reduceLE, Int.reduceNe]; exact rfl) ?_ rfl rfl (by first | exact .inl rfl | exact .inr rfl) (by simp only [go_sem, Nat.reduceBEq, Nat.reduceBneDiff, Nat.reduceLT, Nat.reduceLeDiff, Nat.reduceAdd, Nat.reduceMul, Nat.reduceSub, Nat.reduceEqDiff, reduceCtorEq, AState.nilvar, List.set_cons_succ, List.set_cons_zero, s1, s2, beq_self_eq_true, decide_true, Int.cast_ofNat_Int, Int.reduceToNat, Int.reduceEq, Int.reduceLT, Int.reduceLE, Int.reduceNe] <;> exact rfl) (m2) (.inl rfl) ?_)
    | (refine go_callGd 129 rfl [(15005, 10000), (15006, 15000)] [(10000, 15005), (15000, 15006)] [15006] [15005] (by simp only [go_sem, Nat.reduceBEq, Nat.reduceBneDiff, Nat.reduceLT, Nat.reduceLeDiff, Nat.reduceAdd, Nat.reduceMul, Nat.reduceSub, Nat.reduceEqDiff, reduceCtorEq, AState.nilvar, List.set_cons_succ, List.set_cons_zero, s1, s2, beq_self_eq_true, decide_true, Int.cast_ofNat_Int, Int.reduceToNat, Int.reduceEq, Int.reduceLT, Int.reduceLE, Int.reduceNe]; exact rfl) ?_ rfl rfl (by first | exact .inl rfl | exact .inr rfl) (by simp only [go_sem, Nat.reduceBEq, Nat.reduceBneDiff, Nat.reduceLT, Nat.reduceLeDiff, Nat.reduceAdd, Nat.reduceMul, Nat.reduceSub, Nat.reduceEqDiff, reduceCtorEq, AState.nilvar, List.set_cons_succ, List.set_cons_zero, s1, s2, beq_self_eq_true, decide_true, Int.cast_ofNat_Int, Int.reduceToNat, Int.reduceEq, Int.reduceLT, Int.reduceLE, Int.reduceNe] <;> exact rfl) (m3) (.inl rfl) ?_)
    | (refine go_callGd 135 rfl [(15005, 10000), (15006, 15000)] [(10000, 15005), (15000, 15006), (8000, 8002)] [15006, 8002] [15005] (by simp only [go_sem, Nat.reduceBEq, Nat.reduceBneDiff, Nat.reduceLT, Nat.reduceLeDiff, Nat.reduceAdd, Nat.reduceMul, Nat.reduceSub, Nat.reduceEqDiff, reduceCtorEq, AState.nilvar, List.set_cons_succ, List.set_cons_zero, s1, s2, beq_self_eq_true, decide_true, Int.cast_ofNat_Int, Int.reduceToNat, Int.reduceEq, Int.reduceLT, Int.reduceLE, Int.reduceNe]; exact rfl) ?_ rfl rfl (by first | exact .inl rfl | exact .inr rfl) (by simp only [go_sem, Nat.reduceBEq, Nat.reduceBneDiff, Nat.reduceLT, Nat.reduceLeDiff, Nat.reduceAdd, Nat.reduceMul, Nat.reduceSub, Nat.reduceEqDiff, reduceCtorEq, AState.nilvar, List.set_cons_succ, List.set_cons_zero, s1, s2, beq_self_eq_true, decide_true, Int.cast_ofNat_Int, Int.reduceToNat, Int.reduceEq, Int.reduceLT, Int.reduceLE, Int.reduceNe] <;> exact rfl) (m4) (.inl rfl) ?_)
    | (refine go_callGd 141 rfl [(15005, 10000), (15006, 15000)] [(10000, 15005), (15000, 15006)] [15006] [15005] (by simp only [go_sem, Nat.reduceBEq, Nat.reduceBneDiff, Nat.reduceLT, Nat.reduceLeDiff, Nat.reduceAdd, Nat.reduceMul, Nat.reduceSub, Nat.reduceEqDiff, reduceCtorEq, AState.nilvar, List.set_cons_succ, List.set_cons_zero, s1, s2, beq_self_eq_true, decide_true, Int.cast_ofNat_Int, Int.reduceToNat, Int.reduceEq, Int.reduceLT, Int.reduceLE, Int.reduceNe]; exact rfl) ?_ rfl rfl (by first | exact .inl rfl | exact .inr rfl) (by simp only [go_sem, Nat.reduceBEq, Nat.reduceBneDiff, Nat.reduceLT, Nat.reduceLeDiff, Nat.reduceAdd, Nat.reduceMul, Nat.reduceSub, Nat.reduceEqDiff, reduceCtorEq, AState.nilvar, List.set_cons_succ, List.set_cons_zero, s1, s2, beq_self_eq_true, decide_true, Int.cast_ofNat_Int, Int.reduceToNat, Int.reduceEq, Int.reduceLT, Int.reduceLE, Int.reduceNe] <;> exact rfl) (m5) (.inl rfl) ?_) | fail)) <;> (try omega)
  all_goals first | exact ⟨rfl, trivial⟩ | exact ⟨rfl, rfl, trivial⟩ | exact AV.up_rfl _ | (repeat first | exact obUp_nil | refine obUp_cons rfl ?_)
end Go.Proofs.Ytopcfnlcapibgaa
end

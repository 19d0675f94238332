import Derived.Maps.RangeRun
import Derived.Laws.Externs
import Derived.Laws.CopyRow
import Derived.Lib.SliceRun
import Derived.Test.YtjeplogcfedmeaaP6
set_option linter.all false
section
namespace Go.Proofs.Ytjeplogcfedmeaa
open Go.RowKit Go.MapKept
open Go.ChangeMaps (setBlock)
section
variable {α : Type}
def mf (k : Int) : List (Nat × Int × α) → Option α
 | [] => none
 | (_, k', a) :: L => if k' = k then some a else mf k L
def mset (c : Nat) (k : Int) (a : α) : List (Nat × Int × α) → List (Nat × Int × α)
 | [] => [(c, k, a)]
 | (b, k', a') :: L => if k' = k then (b, k, a) :: L else (b, k', a') :: mset c k a L
def mclk (c : Nat) (k : Int) (L : List (Nat × Int × α)) : Nat := bif (mf k L).isSome then c else c + 1
def mdel (k : Int) : List (Nat × Int × α) → List (Nat × Int × α)
 | [] => []
 | e :: L => if e.2.1 = k then L else e :: mdel k L
def mI (f : α → AV) (L : List (Nat × Int × α)) : List (Nat × AV × AV) := L.map fun e => (e.1, vI e.2.1, f e.2.2)
theorem mI_len (f : α → AV) (L : List (Nat × Int × α)) : (mI f L).length = L.length := by simp [mI]
theorem mI_get {f : α → AV} {L : List (Nat × Int × α)} {i : Nat} {e : Nat × AV × AV} (h : (mI f L)[i]? = some e) : ∃ x, L[i]? = some x ∧ e = (x.1, vI x.2.1, f x.2.2) := by
 rw [mI, List.getElem?_map] at h
 cases hc : L[i]? with
 | none => rw [hc] at h; cases h
 | some x => rw [hc] at h; injection h with h; exact ⟨x, rfl, h.symm⟩
def lookR (ok : Bool) (x : Option α) (f : α → AV) (z : Value) : AV :=
 match ok, x with
 | true, some a => .tup [f a, vB true]
 | true, none => .tup [.v z, vB false]
 | false, some a => f a
 | false, none => .v z
theorem mapM_mI {g : AV → AV} {f : α → AV} (h : ∀ a, g (f a) = f a) (L : List (Nat × Int × α)) : mapM g (mI f L) = mI f L := by
 rw [mapM_eq, mI, List.map_map]
 exact List.map_congr_left fun e _ => by simp [h]
end
section
variable {P : Program} {T : Nat → Option TyD} {E : Env} {s : AState} {tm : Array Value} {w w' : World} {β : Nat → Option Nat} {n : Nat} {ops : Array Oper} {Q : Exit → AState → Prop} {rest : List Oper} {o : Oper} {α : Type} {F : Nat → Prop}
def EntR (F : Nat → Prop) (β : Nat → Option Nat) (w : World) (es : List (Nat × AV × AV)) (ms : List MapEntry) : Prop := ms.length = es.length ∧ ∀ (i : Nat) (e : Nat × AV × AV) (m : MapEntry), es[i]? = some e → ms[i]? = some m → m.born = e.1 ∧ SVR F w e.2.1 m.key ∧ AVR F β w e.2.2 m.val
theorem EntR.cons {e : Nat × AV × AV} {es : List (Nat × AV × AV)} {ms : List MapEntry} (h : EntR F β w (e :: es) ms) : ∃ m ms', ms = m :: ms' ∧ (m.born = e.1 ∧ SVR F w e.2.1 m.key ∧ AVR F β w e.2.2 m.val) ∧ EntR F β w es ms' := by
 obtain ⟨h1, h2⟩ := h
 cases ms with
 | nil => simp at h1
 | cons m ms => exact ⟨m, ms, rfl, h2 0 e m rfl rfl, by simpa using h1, fun i e m g1 g2 => h2 (i + 1) e m (by simpa using g1) (by simpa using g2)⟩
theorem svr_int {k : Int} {x : Value} (h : SVR F w (vI k) x) : x = .int .i64 k := by cases h; rfl
theorem mfind {f : α → AV} (key : Int) : ∀ (L : List (Nat × Int × α)) (ms : List MapEntry) (i : Nat), EntR F β w (mI f L) ms →
  (∃ q e m, L[q]? = some e ∧ ms[q]? = some m ∧ m.key = .int .i64 key ∧ mf key L = some e.2.2 ∧ (∀ c v, mset c key v L = L.set q (e.1, key, v)) ∧ mdel key L = L.eraseIdx q ∧ Instr.findNow (.int .i64) (.int .i64 key) ms i = some (some (i + q, m.val))) ∨
  (mf key L = none ∧ (∀ c v, mset c key v L = L ++ [(c, key, v)]) ∧ mdel key L = L ∧ Instr.findNow (.int .i64) (.int .i64 key) ms i = some none) := by
 intro L
 induction L with
 | nil =>
  intro ms i h
  have : ms = [] := List.eq_nil_of_length_eq_zero (by simpa [mI] using h.1)
  subst this
  exact .inr ⟨rfl, fun _ _ => rfl, rfl, rfl⟩
 | cons e L ih =>
  intro ms i h
  obtain ⟨b, k, a⟩ := e
  obtain ⟨m, ms', rfl, ⟨h1, h2, h3⟩, h4⟩ := EntR.cons (e := (b, vI k, f a)) (es := mI f L) h
  have hk := svr_int h2
  have hn : Instr.sameNow (.int .i64) (.int .i64 key) m.key = some (decide (key = k)) := by rw [hk]; simp [Instr.sameNow, int_beq]
  by_cases hkk : k = key
  ·subst hkk
   refine .inl ⟨0, _, m, rfl, rfl, hk, by simp [mf], fun c v => by simp [mset], by simp [mdel], ?_⟩
   rw [decide_eq_true rfl] at hn
   simp [Instr.findNow, hn]
  ·rw [decide_eq_false (Ne.symm hkk)] at hn
   rcases ih ms' (i + 1) h4 with ⟨q, e, m', g1, g2, g3, g4, g5, g6, g7⟩ | ⟨g4, g5, g6, g7⟩
   ·exact .inl ⟨q + 1, e, m', by simpa using g1, by simpa using g2, g3, by simp [mf, hkk, g4], fun c v => by simp [mset, hkk, g5 c v], by simp [mdel, hkk, g6], by simp [Instr.findNow, hn, g7]; omega⟩
   ·exact .inr ⟨by simp [mf, hkk, g4], fun c v => by simp [mset, hkk, g5 c v], by simp [mdel, hkk, g6], by simp [Instr.findNow, hn, g7]⟩
theorem EntR.snoc {es : List (Nat × AV × AV)} {ms : List MapEntry} (h : EntR F β w es ms) {e : Nat × AV × AV} {m : MapEntry} (hm : m.born = e.1 ∧ SVR F w e.2.1 m.key ∧ AVR F β w e.2.2 m.val) : EntR F β w (es ++ [e]) (ms ++ [m]) := by
 refine ⟨by simp [h.1], fun i x y hx hy => ?_⟩
 by_cases hi : i < es.length
 ·rw [List.getElem?_append_left hi] at hx
  rw [List.getElem?_append_left (by rw [h.1]; exact hi)] at hy
  exact h.2 i x y hx hy
 ·rw [List.getElem?_append_right (by omega)] at hx
  rw [List.getElem?_append_right (by rw [h.1]; omega), h.1] at hy
  have hie : i - es.length = 0 := by have := lt_of_get hx; simp at this; omega
  rw [hie] at hx hy
  simp only [List.getElem?_cons_zero, Option.some.injEq] at hx hy
  subst hx
  subst hy
  exact hm
theorem EntR.set {es : List (Nat × AV × AV)} {ms : List MapEntry} (h : EntR F β w es ms) (q : Nat) {e : Nat × AV × AV} {m : MapEntry} (hm : m.born = e.1 ∧ SVR F w e.2.1 m.key ∧ AVR F β w e.2.2 m.val) : EntR F β w (es.set q e) (ms.set q m) := by
 refine ⟨by simp [h.1], fun i x y hx hy => ?_⟩
 rw [List.getElem?_set] at hx hy
 by_cases hi : q = i
 ·subst hi
  rw [if_pos rfl] at hx hy
  split at hx
  ·split at hy
   ·injection hx with hx
    injection hy with hy
    subst hx
    subst hy
    exact hm
   ·cases hy
  ·cases hx
 ·rw [if_neg hi] at hx hy
  exact h.2 i x y hx hy
theorem EntR.erase {es : List (Nat × AV × AV)} {ms : List MapEntry} (h : EntR F β w es ms) (q : Nat) : EntR F β w (es.eraseIdx q) (ms.eraseIdx q) := by
 refine ⟨by rw [List.length_eraseIdx, List.length_eraseIdx, h.1], fun i x y hx hy => ?_⟩
 rw [List.getElem?_eraseIdx] at hx hy
 by_cases hi : i < q
 ·rw [if_pos hi] at hx hy; exact h.2 i x y hx hy
 ·rw [if_neg hi] at hx hy; exact h.2 _ x y hx hy
theorem mapr_obj {clk d : Nat} {es : List (Nat × AV × AV)} (h : ObjR F β w d (.mapr clk es)) : ∃ b arr, β d = some b ∧ w.heap[b]? = some (.map arr clk) ∧ EntR F β w es arr.toList := by
 obtain ⟨b, arr, h1, h2, h3, h4⟩ := h
 exact ⟨b, arr, h1, h2, by simpa using h3, fun i e m he hm => h4 i e m he (by simpa using hm)⟩
theorem setBlock_keeps {b : Nat} {ob : Obj} {X : Nat → Prop} (hX : X b) : Keeps X w (setBlock w b ob) := ⟨rfl, rfl, rfl, by simp [setBlock], fun c _ hc => by
 have : c ≠ b := fun h => hc (h ▸ hX)
 exact Array.getElem?_setIfInBounds_ne (Ne.symm this)⟩
theorem SRel.mapr (hs : SRel E s tm w β) {d b clk clk' : Nat} {arr arr' : Array MapEntry} {es' : List (Nat × AV × AV)} (hb : β d = some b) (hold : w.heap[b]? = some (.map arr clk)) (hrel : EntR (FF E β w) β w es' arr'.toList) :
  SRel E { fr := s.fr, ob := (d, .mapr clk' es') :: rmo d s.ob } tm (setBlock w b (.map arr' clk')) β ∧ ExtX (fun b => β d = some b) w (setBlock w b (.map arr' clk')) := by
 have hlt : b < w.heap.size := (hs.rng d b hb).2
 have hK : Keeps (fun c => β d = some c) w (setBlock w b (.map arr' clk')) := setBlock_keeps hb
 have hnew : (setBlock w b (.map arr' clk')).heap[b]? = some (.map arr' clk') := by simp [setBlock, hlt]
 have nosh : ∀ c te n, β d = some c → Shp w c te n → False := fun c te n hc' ⟨a', e1, _⟩ => by
  rw [hb] at hc'; injection hc' with hc'; subst hc'; rw [hold] at e1; cases e1
 have hS := hs.content d hK fun c te n hc' h => (nosh c te n hc' h).elim
 have hF : ∀ c, FF E β w c → FF E β (setBlock w b (.map arr' clk')) c := fun c ⟨h1, h2, h3⟩ => ⟨Nat.lt_of_lt_of_le h1 hK.size, h2, h3⟩
 have hFw : ∀ c, FF E β w c → (setBlock w b (.map arr' clk')).heap[c]? = w.heap[c]? := fun c hc => hK.block c hc.1 (hc.2.2 d)
 have hSh : ∀ e c t n, β e = some c → Shp w c t n → Shp (setBlock w b (.map arr' clk')) c t n := fun e c t n hc h => by
  by_cases he : e = d
  ·subst he; exact (nosh c t n hc h).elim
  ·exact h.of_heap (hK.block c (hs.rng e c hc).2 fun g => he (hs.inj e d c hc g))
 refine ⟨hS.add d _ ⟨b, arr', hb, hnew, by simpa using hrel.1, fun i e m he hm => ?_⟩, ⟨hK.size, fun c hc hn => hK.block c hc hn⟩⟩
 obtain ⟨g1, g2, g3⟩ := hrel.2 i e m he (by simpa using hm)
 exact ⟨g1, g2.mono hF hFw, g3.mono hF hFw (fun _ _ h => h) hSh⟩
theorem seq_write {β : Nat → Option Nat} {d : Nat} (h : ExtX (fun b => β d = some b) w w') (hd : seqD.dst o = true) : StepX (seqD.dst o) (XW seqD β) w (XW seqD β) w' := ⟨fun h => (by rw [hd] at h; cases h), ⟨h.1, fun b hb hn => h.2 b hb fun hd' => hn ⟨d, rfl, hd'⟩⟩, fun _ _ h => h⟩
theorem seq_same {β : Nat → Option Nat} : StepX (seqD.dst o) (XW seqD β) w (XW seqD β) w := ⟨fun _ => ⟨Nat.le_refl _, fun _ _ _ => rfl⟩, ⟨Nat.le_refl _, fun _ _ _ => rfl⟩, fun _ _ h => h⟩
theorem map_rel {d : Nat} {v : Value} (h : AVR F β w (.map d) v) : ∃ b, v = .map (some b) ∧ β d = some b := by
 cases h with
 | s h => cases h
 | map h => exact ⟨_, rfl, h⟩
theorem int_rel {k : Int} {v : Value} (h : AVR F β w (vI k) v) : v = .int .i64 k := by
 cases h with
 | s h => exact svr_int h
theorem al_mlookU (hT : TOK P T) {m k : Operand} {t d kt vt clk : Nat} {ok : Bool} {L : List (Nat × Int × α)} {f : α → AV} {key : Int} {dt dk : TyD} {z : Value} {r : AV} (hG : guardAV ops s o.guard = some true) (ho : o.op = .lookup t m k ok) (hdst : dstOK n o.dst) (hgm : s.gd m = true) (hgk : s.gd k = true)
  (hm : s.ev m = .map d) (hk : s.ev k = vI key) (hTt : T t = some dt) (hsh : dt.sh = .map kt vt) (hTk : T kt = some dk) (hsk : dk.sh = .int .i64) (hz : ∀ w, (zeroValue vt).run P w = .ok z w) (hfz : flatV z = true)
  (hob : lk s.ob d = some (.mapr clk (mI f L))) (hr0 : (lookR ok (mf key L) f z).up r) (hr : AListD P E n ops seqD rest Q (s.put o.dst true r)) : AListR P E n ops seqD (o :: rest) Q s := by
 intro a w β hn hd hs
 have hw := guard_ok (ops := ops) hs hG
 have vm := hs.ev m hgm (a := a) rfl
 have vk := hs.ev k hgk (a := a) rfl
 rw [hm] at vm
 rw [hk] at vk
 obtain ⟨b, hmb, hb⟩ := map_rel vm
 have hkv := int_rel vk
 obtain ⟨b', arr, hb', harr, hent⟩ := mapr_obj (hs.ob d _ hob)
 rw [hb] at hb'
 injection hb' with hb'
 subst hb'
 have hu := T_map hT hTt hsh
 have hku := T_int hT hTk hsk
 have hget := run_getObj_at (P := P) harr (fun _ _ _ h => by cases h)
 have hcheck : ∀ em, (Instr.checkKey em 10000 kt (.int .i64 key)).run P w = .ok () w := fun em => run_checkKey (P := P) (w := w) hku (show IsKey (.int .i64) (.int .i64 key) from rfl) em 9999
 have hrun : ∃ v, (Instr.lookup t (.map (some b)) (.int .i64 key) ok).run P w = .ok v w ∧ AVR (FF E β w) β w r v := by
  suffices hsuf : ∃ v, (Instr.lookup t (.map (some b)) (.int .i64 key) ok).run P w = .ok v w ∧ AVR (FF E β w) β w (lookR ok (mf key L) f z) v by
   obtain ⟨v, h1, h2⟩ := hsuf
   exact ⟨v, h1, hr0 _ _ _ _ h2⟩
  have tup2 : ∀ (x : AV) (v : Value) (c : Bool), AVR (FF E β w) β w x v → AVR (FF E β w) β w (.tup [x, vB c]) (.tuple #[v, .bool c]) := fun x v c hx => .tup rfl fun i y u hy hu => by
   rcases i with _ | _ | i
   ·simp only [List.getElem?_cons_zero, Option.some.injEq, List.getElem?_toArray] at hy hu; subst hy; subst hu; exact hx
   ·simp only [List.getElem?_cons_zero, List.getElem?_cons_succ, Option.some.injEq, List.getElem?_toArray] at hy hu; subst hy; subst hu; exact .s (.v rfl)
   ·simp at hy
  rcases mfind (f := f) key L arr.toList 0 hent with ⟨q, e, me, g1, g2, g3, g4, g5, g6, g7⟩ | ⟨g4, g5, g6, g7⟩
  ·have hr1 : AVR (FF E β w) β w (f e.2.2) me.val := (hent.2 q (e.1, vI e.2.1, f e.2.2) me (by rw [mI, List.getElem?_map, g1]; rfl) g2).2.2
   rw [g4]
   refine ⟨if ok then .tuple #[me.val, .bool true] else me.val, ?_, ?_⟩
   ·simp only [Instr.lookup, Sem.run_bind, run_underlying hu, Result.andThen_ok, hget, Sem.run_pure, hcheck, run_findKey hku g7]
   ·cases ok
    ·exact hr1
    ·exact tup2 _ _ _ hr1
  ·rw [g4]
   refine ⟨if ok then .tuple #[z, .bool false] else z, ?_, ?_⟩
   ·simp only [Instr.lookup, Sem.run_bind, run_underlying hu, Result.andThen_ok, hget, Sem.run_pure, hcheck, run_findKey hku g7, hz]
   ·cases ok
    ·exact .s (.v hfz)
    ·exact tup2 _ _ _ (.s (.v hfz))
 obtain ⟨v, h1, h2⟩ := hrun
 refine step_list (by rw [ho]; rfl) hw (fun _ => ?_) (fun hGf => by cases hGf)
 obtain ⟨g1, g2, g3⟩ := putRel hn hd hs hdst true r (v := v) (fun _ => h2) (fun h => by cases h)
 exact wp_value (w' := w) (by simp [execOp, ho, hmb, hkv, h1]) ⟨XW seqD β, seq_same, hr _ _ _ g1 g2 g3⟩
theorem al_mlook (hT : TOK P T) {m k : Operand} {t d kt vt clk : Nat} {ok : Bool} {L : List (Nat × Int × α)} {f : α → AV} {key : Int} {dt dk : TyD} {z : Value} {r : AV} (hG : guardAV ops s o.guard = some true) (ho : o.op = .lookup t m k ok) (hdst : dstOK n o.dst) (hgm : s.gd m = true) (hgk : s.gd k = true)
  (hm : s.ev m = .map d) (hk : s.ev k = vI key) (hTt : T t = some dt) (hsh : dt.sh = .map kt vt) (hTk : T kt = some dk) (hsk : dk.sh = .int .i64) (hz : ∀ w, (zeroValue vt).run P w = .ok z w) (hfz : flatV z = true)
  (hob : lk s.ob d = some (.mapr clk (mI f L))) (hr0 : lookR ok (mf key L) f z = r) (hr : AListD P E n ops seqD rest Q (s.put o.dst true r)) : AListR P E n ops seqD (o :: rest) Q s :=
 al_mlookU hT hG ho hdst hgm hgk hm hk hTt hsh hTk hsk hz hfz hob (hr0 ▸ AV.up_rfl _) hr
theorem al_mput (hT : TOK P T) {m k x : Operand} {t d kt vt clk : Nat} {L : List (Nat × Int × α)} {f : α → AV} {key : Int} {dt dk : TyD} (v : α) (hG : guardAV ops s o.guard = some true) (ho : o.op = .mapUpdate t m k x) (hdst : o.dst = none) (hgm : s.gd m = true) (hgk : s.gd k = true) (hgx : s.gd x = true)
  (hm : s.ev m = .map d) (hk : s.ev k = vI key) (hx : s.ev x = f v ∨ f v = .dead) (hTt : T t = some dt) (hsh : dt.sh = .map kt vt) (hTk : T kt = some dk) (hsk : dk.sh = .int .i64)
  (hob : lk s.ob d = some (.mapr clk (mI f L))) {c' : Nat} {L' : List (Nat × Int × α)} (hc' : mclk clk key L = c') (hL' : mset clk key v L = L') (hr : AListD P E n ops seqD rest Q { fr := s.fr, ob := (d, .mapr c' (mI f L')) :: rmo d s.ob }) : AListR P E n ops seqD (o :: rest) Q s := by
 subst hc'
 subst hL'
 intro a w β hn hd hs
 have hw := guard_ok (ops := ops) hs hG
 have vm := hs.ev m hgm (a := a) rfl
 have vk := hs.ev k hgk (a := a) rfl
 have vx := hs.ev x hgx (a := a) rfl
 rw [hm] at vm
 rw [hk] at vk
 obtain ⟨b, hmb, hb⟩ := map_rel vm
 have hkv := int_rel vk
 have hxv : AVR (FF E β w) β w (f v) (a.eval x) := by
  rcases hx with hx | hx
  ·rw [← hx]; exact vx
  ·rw [hx]; exact .dead
 obtain ⟨b', arr, hb', harr, hent⟩ := mapr_obj (hs.ob d _ hob)
 rw [hb] at hb'
 injection hb' with hb'
 subst hb'
 have hu := T_map hT hTt hsh
 have hku := T_int hT hTk hsk
 have hget := run_getObj_at (P := P) harr (fun _ _ _ h => by cases h)
 have hik : IsKey (.int .i64) (.int .i64 key) := rfl
 have hcheck : ∀ em, (Instr.checkKey em 10000 kt (.int .i64 key)).run P w = .ok () w := fun em => run_checkKey (P := P) (w := w) hku hik em 9999
 have hset : ∀ o' : Obj, (setObj b o').run P w = .ok () (setBlock w b o') := fun o' => by simp [setObj, Sem.run, harr, setBlock]
 have hrun : ∃ arr', (Instr.mapUpdate t (.map (some b)) (.int .i64 key) (a.eval x)).run P w = .ok () (setBlock w b (.map arr' (mclk clk key L))) ∧ EntR (FF E β w) β w (mI f (mset clk key v L)) arr'.toList := by
  rcases mfind (f := f) key L arr.toList 0 hent with ⟨q, e, me, g1, g2, g3, g4, g5, g6, g7⟩ | ⟨g4, g5, g6, g7⟩
  ·have hq2 : arr[q]? = some me := by simpa using g2
   refine ⟨arr.modify q fun e => { e with key := .int .i64 key, val := a.eval x }, ?_, ?_⟩
   ·simp only [Instr.mapUpdate, Sem.run_bind, run_underlying hu, Result.andThen_ok, hget, hcheck, run_findKey hku g7, Nat.zero_add, hq2, Option.map_some, Option.getD_some, g3, run_keyThatStays hik, hset, mclk, g4, Option.isSome_some, cond_true]
   ·rw [g5, mI, List.map_set]
    have he : (arr.modify q fun e => { e with key := .int .i64 key, val := a.eval x }).toList = arr.toList.set q { me with key := .int .i64 key, val := a.eval x } := by
     apply List.ext_getElem?
     intro i
     rw [Array.getElem?_toList, Array.getElem?_modify, List.getElem?_set, Array.getElem?_toList]
     by_cases hi : q = i
     ·subst hi
      have hlt : q < arr.size := (Array.getElem?_eq_some_iff.1 hq2).1
      rw [if_pos rfl, if_pos rfl, hq2, if_pos (by simpa using hlt)]
      rfl
     ·rw [if_neg hi, if_neg hi]
    rw [he]
    have hborn := (hent.2 q (e.1, vI e.2.1, f e.2.2) me (by rw [mI, List.getElem?_map, g1]; rfl) g2).1
    exact hent.set q ⟨hborn, .v rfl, hxv⟩
  ·refine ⟨arr.push { key := .int .i64 key, val := a.eval x, born := clk }, ?_, ?_⟩
   ·simp only [Instr.mapUpdate, Sem.run_bind, run_underlying hu, Result.andThen_ok, hget, hcheck, run_findKey hku g7, hset, mclk, g4, Option.isSome_none, cond_false]
   ·rw [g5, mI, List.map_append, Array.toList_push]
    exact hent.snoc ⟨rfl, .v rfl, hxv⟩
 obtain ⟨arr', h1, h2⟩ := hrun
 obtain ⟨h3, h4⟩ := hs.mapr (clk' := mclk clk key L) hb harr h2
 refine step_list (by rw [ho]; rfl) hw (fun _ => ?_) (fun hGf => by cases hGf)
 refine wp_skip' (w' := setBlock w b (.map arr' (mclk clk key L))) (by simp [execOp, ho, hmb, hkv, h1]) ⟨XW seqD β, seq_write (d := d) h4 (by rw [Dr.dst, ho]; rfl), hr _ _ _ ?_ ?_ ?_⟩
 ·rw [hdst]; exact hn
 ·rw [hdst]; exact hd
 ·rw [hdst]; exact h3
end
attribute [go_sem] lookR
end Go.Proofs.Ytjeplogcfedmeaa
end
section
namespace Go.Proofs.Ytjeplogcfedmeaa
open Go.RowKit Go.MapKept
open Go.ChangeMaps (setBlock)
section
variable {P : Program} {T : Nat → Option TyD} {E : Env} {s : AState} {tm : Array Value} {w w' : World} {β : Nat → Option Nat} {n : Nat} {ops : Array Oper} {Q : Exit → AState → Prop} {rest : List Oper} {o : Oper} {α : Type} {F : Nat → Prop}
theorem drew_below (w : World) : Below w.heap.size w w.drew := ⟨rfl, rfl, rfl, Nat.le_refl _, fun _ _ => rfl⟩
theorem al_mdel (hT : TOK P T) {m k : Operand} {t t2 d kt vt clk : Nat} {L : List (Nat × Int × α)} {f : α → AV} {key : Int} {dt dk : TyD} (hG : guardAV ops s o.guard = some true) (ho : o.op = .call ⟨.builtin .delete, #[m, k], #[t, t2]⟩) (hdst : o.dst = none) (hgm : s.gd m = true) (hgk : s.gd k = true)
  (hm : s.ev m = .map d) (hk : s.ev k = vI key) (hTt : T t = some dt) (hsh : dt.sh = .map kt vt) (hTk : T kt = some dk) (hsk : dk.sh = .int .i64)
  (hob : lk s.ob d = some (.mapr clk (mI f L))) (hr : AListD P E n ops seqD rest Q { fr := s.fr, ob := (d, .mapr clk (mI f (mdel key L))) :: rmo d s.ob }) : AListR P E n ops seqD (o :: rest) Q s := by
 intro a w β hn hd hs
 have hw := guard_ok (ops := ops) hs hG
 have vm := hs.ev m hgm (a := a) rfl
 have vk := hs.ev k hgk (a := a) rfl
 rw [hm] at vm
 rw [hk] at vk
 obtain ⟨b, hmb, hb⟩ := map_rel vm
 have hkv := int_rel vk
 obtain ⟨b', arr, hb', harr, hent⟩ := mapr_obj (hs.ob d _ hob)
 rw [hb] at hb'
 injection hb' with hb'
 subst hb'
 have hu := T_map hT hTt hsh
 have hku := T_int hT hTk hsk
 have hget := run_getObj_at (P := P) harr (fun _ _ _ h => by cases h)
 have hik : IsKey (.int .i64) (.int .i64 key) := rfl
 have hcheck : ∀ em, (Instr.checkKey em 10000 kt (.int .i64 key)).run P w = .ok () w := fun em => run_checkKey (P := P) (w := w) hku hik em 9999
 have hset : ∀ o' : Obj, (setObj b o').run P w = .ok () (setBlock w b o') := fun o' => by simp [setObj, Sem.run, harr, setBlock]
 have hrun : ∃ arr', (Builtin.delete_ #[t, t2] o.type #[.map (some b), .int .i64 key]).run P w = .ok (.tuple #[]) (setBlock w b (.map arr' clk)) ∧ EntR (FF E β w) β w (mI f (mdel key L)) arr'.toList := by
  rcases mfind (f := f) key L arr.toList 0 hent with ⟨q, e, me, g1, g2, g3, g4, g5, g6, g7⟩ | ⟨g4, g5, g6, g7⟩
  ·refine ⟨arr.eraseIdxIfInBounds q, ?_, ?_⟩
   ·simp [Builtin.delete_, run_underlying hu, hget, hcheck, run_findKey hku g7, hset]
   ·have he : (arr.eraseIdxIfInBounds q).toList = arr.toList.eraseIdx q := by simp
    rw [he, g6, mI, Go.ChangeMaps.map_eraseIdx]
    exact hent.erase q
  ·refine ⟨arr, ?_, ?_⟩
   ·simp [Builtin.delete_, run_underlying hu, hget, hcheck, run_findKey hku g7, hset]
   ·rw [g6]; exact hent
 obtain ⟨arr', h1, h2⟩ := hrun
 obtain ⟨h3, h4⟩ := hs.mapr (clk' := clk) hb harr h2
 refine step_list (by rw [ho]; rfl) hw (fun _ => ?_) (fun hGf => by cases hGf)
 refine wp_value (w' := setBlock w b (.map arr' clk)) (v := .tuple #[]) (by simp [execOp, ho, resolve, invoke, builtin, hmb, hkv, h1]) ⟨XW seqD β, seq_write (d := d) h4 (by rw [Dr.dst, ho]; rfl), hr _ _ _ ?_ ?_ ?_⟩
 ·rw [hdst]; exact hn
 ·rw [hdst]; exact hd
 ·rw [hdst]; exact h3
theorem al_mlen (hT : TOK P T) {m : Operand} {t d kt vt clk : Nat} {es : List (Nat × AV × AV)} {dt : TyD} (hG : guardAV ops s o.guard = some true) (ho : o.op = .call ⟨.builtin .len, #[m], #[t]⟩) (hdst : dstOK n o.dst) (hgm : s.gd m = true)
  (hm : s.ev m = .map d) (hTt : T t = some dt) (hsh : dt.sh = .map kt vt) (hob : lk s.ob d = some (.mapr clk es)) (hr : AListD P E n ops seqD rest Q (s.put o.dst true (vI es.length))) : AListR P E n ops seqD (o :: rest) Q s := by
 intro a w β hn hd hs
 have hw := guard_ok (ops := ops) hs hG
 have vm := hs.ev m hgm (a := a) rfl
 rw [hm] at vm
 obtain ⟨b, hmb, hb⟩ := map_rel vm
 obtain ⟨b', arr, hb', harr, hent⟩ := mapr_obj (hs.ob d _ hob)
 rw [hb] at hb'
 injection hb' with hb'
 subst hb'
 have hu := T_map hT hTt hsh
 have hget : ∀ w', w'.heap[b]? = some (.map arr clk) → (getObj b).run P w' = .ok (.map arr clk) w' := fun w' h => run_getObj_at (P := P) h (fun _ _ _ h => by cases h)
 obtain ⟨g1, g2, g3⟩ := putRel hn hd hs hdst true (vI es.length) (v := .int .i64 es.length) (fun _ => .s (.v rfl)) (fun h => by cases h)
 refine step_N (v := .int .i64 es.length) (by rw [ho]; rfl) hw (fun _ w' hw' => ?_) (fun h => by cases h) (hr _ _ _ g1 g2 g3)
 have hh : w'.heap[b]? = some (.map arr clk) := by
  have h1 : ExtX noX w w' := by simpa [seqD] using hw'
  exact (h1.2 b (hs.rng d b hb).2 (noX_not b)).trans harr
 have hsz : arr.size = es.length := by simpa using hent.1
 simp [execOp, ho, resolve, invoke, builtin, hmb, Builtin.len_, run_underlying hu, hget w' hh, hsz, goInt]
theorem run_eqmap {t k e d b : Nat} (h : P.underlying t = some (.map k e)) : (Op.equalIn (d + 1) t (.map (some b)) (.map none)).run P w = .ok false w := by
 simp [Op.equalIn, run_underlying h]
theorem al_mnil (hT : TOK P T) {x y : Operand} {t t2 d kt vt : Nat} {dt : TyD} (hG : guardAV ops s o.guard = some true) (ho : o.op = .binOp .eql t x y t2) (hdst : dstOK n o.dst) (hgx : s.gd x = true) (hgy : s.gd y = true)
  (hx : s.ev x = .map d) (hy : s.ev y = .v (.map none)) (hTt : T t = some dt) (hsh : dt.sh = .map kt vt) (hr : AListD P E n ops seqD rest Q (s.put o.dst true (vB false))) : AListR P E n ops seqD (o :: rest) Q s := by
 intro a w β hn hd hs
 have hw := guard_ok (ops := ops) hs hG
 have vx := hs.ev x hgx (a := a) rfl
 have vy := hs.ev y hgy (a := a) rfl
 rw [hx] at vx
 rw [hy] at vy
 obtain ⟨b, hmb, hb⟩ := map_rel vx
 have hyv : a.eval y = .map none := by
  generalize a.eval y = u at vy
  cases vy with | s vy => cases vy; rfl
 have hu := T_map hT hTt hsh
 obtain ⟨g1, g2, g3⟩ := putRel hn hd hs hdst true (vB false) (v := .bool false) (fun _ => .s (.v rfl)) (fun h => by cases h)
 refine step_N (v := .bool false) (by rw [ho]; rfl) hw (fun _ w' _ => ?_) (fun h => by cases h) (hr _ _ _ g1 g2 g3)
 have he : (binOp .eql t (.map (some b)) (.map none)).run P w' = .ok (.bool false) w' := by
  simp only [binOp]
  simp [show Op.equal t (.map (some b)) (.map none) = Op.equalIn (9999 + 1) t (.map (some b)) (.map none) from rfl, run_eqmap hu]
 simp [execOp, ho, hmb, hyv, eqGuard, he]
theorem al_mrange (hT : TOK P T) {x : Operand} {t d u kt vt clk : Nat} {es : List (Nat × AV × AV)} {dt : TyD} (hG : guardAV ops s o.guard = some true) (ho : o.op = .range t x) (hdst : o.dst = some u) (hdo : dstOK n (some u)) (hgx : s.gd x = true)
  (hx : s.ev x = .map d) (hTt : T t = some dt) (hsh : dt.sh = .map kt vt) (hob : lk s.ob d = some (.mapr clk es)) (hdu : d ≠ u) (hr : AListD P E n ops seqD rest Q ({ fr := (u, true, .ptr 1 u 0 0) :: (s.drop u).fr, ob := (u, .iter d true clk []) :: (s.drop u).ob })) : AListR P E n ops seqD (o :: rest) Q s := by
 intro a w β hn hd hs
 have hw := guard_ok (ops := ops) hs hG
 have vx := hs.ev x hgx (a := a) rfl
 rw [hx] at vx
 obtain ⟨b, hmb, hb⟩ := map_rel vx
 obtain ⟨b', arr, hb', harr, hent⟩ := mapr_obj (hs.ob d _ hob)
 rw [hb] at hb'
 injection hb' with hb'
 subst hb'
 have hu := T_map hT hTt hsh
 have hget := run_getObj_at (P := P) harr (fun _ _ _ h => by cases h)
 have hS := (hs.new u (dst_own (dst := some u) hdo) (.mapIter (some b) clk #[] clk)).add u (.iter d true clk []) ⟨_, b, 0, upd_same _ _ _, heap_alloc_new w _, fun _ => by rw [upd_other β _ hdu]; exact hb⟩
 obtain ⟨g1, g2, g3⟩ := putRel (dst := some u) hn hd hS hdo true (.ptr 1 u 0 0) (v := .pointer (some ⟨w.heap.size, 0, none⟩)) (fun _ => .ptr (k := 1) (i := 0) (j := 0) (upd_same _ _ _)) (fun h => by cases h)
 refine step_list (by rw [ho]; rfl) hw (fun _ => ?_) (fun hGf => by cases hGf)
 refine wp_value (w' := w.alloc (.mapIter (some b) clk #[] clk)) (v := .pointer (some ⟨w.heap.size, 0, none⟩)) (by simp [execOp, ho, hmb, Instr.range, run_underlying hu, hget]) ⟨XW seqD (upd β u (some w.heap.size)), StepX.below ((Below.refl _ _).alloc (Nat.le_refl _) _) (fun e b hb he => upd_old he hb), hr _ _ _ ?_ ?_ ?_⟩
 ·rw [hdst]; exact g1
 ·rw [hdst]; exact g2
 ·rw [hdst]; exact g3
theorem al_mnext {x : Operand} {ty d u c : Nat} {seen : List Nat} {L : List (Nat × Int × α)} {f : α → AV} (hG : guardAV ops s o.guard = some true) (ho : o.op = .next x false) (hdst : dstOK n o.dst) (hgx : s.gd x = true) (hx : s.ev x = .ptr 1 u 0 0)
  (hit : lk s.ob u = some (.iter d true c seen)) (hob : lk s.ob d = some (.mapr c (mI f L))) (hall : ∀ e ∈ L, e.1 < c) (hty : o.type = ty)
  (h0 : (∀ e ∈ L, e.1 ∈ seen) → AListD P E n ops seqD rest Q (s.put o.dst true (.tup [vB false])))
  (h1 : ∀ e ∈ L, e.1 ∉ seen → AListD P E n ops seqD rest Q (({ fr := s.fr, ob := (u, .iter d true c (seen ++ [e.1])) :: rmo u s.ob } : AState).put o.dst true (.tup [vB true, .dead, .dead]))) : AListR P E n ops seqD (o :: rest) Q s := by
 intro a w β hn hd hs
 have hw := guard_ok (ops := ops) hs hG
 have vx := hs.ev x hgx (a := a) rfl
 rw [hx] at vx
 obtain ⟨r, hxr, hr⟩ : ∃ r, a.eval x = .pointer (some ⟨r, 0, none⟩) ∧ β u = some r := by
  generalize a.eval x = v at vx
  cases vx with
  | s h => cases h
  | ptr h => exact ⟨_, rfl, h⟩
 obtain ⟨r', b, _, hr', hit1, hit2⟩ := hs.ob u _ hit
 rw [hr] at hr'
 injection hr' with hr'
 subst hr'
 have hb := hit2 rfl
 obtain ⟨b', arr, hb', harr, hent⟩ := mapr_obj (hs.ob d _ hob)
 rw [hb] at hb'
 injection hb' with hb'
 subst hb'
 have hmem : ∀ m ∈ arr.toList, ∃ e ∈ L, m.born = e.1 := fun m hm => by
  obtain ⟨i, hi⟩ := List.mem_iff_getElem?.1 hm
  have hlt : i < (mI f L).length := by rw [← hent.1]; exact lt_of_get hi
  obtain ⟨e, he1, he2⟩ := mI_get (List.getElem?_eq_getElem hlt)
  exact ⟨e, List.mem_of_getElem? he1, by have := (hent.2 i _ m (List.getElem?_eq_getElem hlt) hi).1; rw [he2] at this; exact this⟩
 have hmem2 : ∀ e ∈ L, ∃ m ∈ arr.toList, m.born = e.1 := fun e he => by
  obtain ⟨i, hi⟩ := List.mem_iff_getElem?.1 he
  have hlt : i < arr.toList.length := by rw [hent.1, mI_len]; exact lt_of_get hi
  exact ⟨arr.toList[i], List.getElem_mem hlt, (hent.2 i (e.1, vI e.2.1, f e.2.2) _ (by rw [mI, List.getElem?_map, hi]; rfl) (List.getElem?_eq_getElem hlt)).1⟩
 refine step_list (by rw [ho]; rfl) hw (fun _ => ?_) (fun hGf => by cases hGf)
 rcases run_next_at (P := P) w ty r b c c seen.toArray arr c hit1 harr (fun m hm => by obtain ⟨e, he, h⟩ := hmem m hm; rw [h]; exact hall e he) (Nat.le_refl _) with ⟨hz, hrun⟩ | ⟨m, hm, w1, hw1, hrun⟩
 ·obtain ⟨g1, g2, g3⟩ := putRel hn hd hs hdst true (.tup [vB false]) (v := .tuple #[.bool false]) (fun _ => .tup rfl fun i y u hy hu => by
   rcases i with _ | i
   ·simp only [List.getElem?_cons_zero, Option.some.injEq, List.getElem?_toArray] at hy hu; subst hy; subst hu; exact .s (.v rfl)
   ·simp at hy) (fun h => by cases h)
  refine wp_value (w' := w) (v := .tuple #[.bool false]) (by simp [execOp, ho, hxr, hty, hrun]) ⟨XW seqD β, seq_same, h0 (fun e he => ?_) _ _ _ g1 g2 g3⟩
  obtain ⟨m, hm, hme⟩ := hmem2 e he
  refine Classical.byContradiction fun hne => ?_
  have hin : m ∈ (leftOf arr seen.toArray).toList := by
   unfold leftOf
   simp only [Array.toList_filter, List.mem_filter]
   refine ⟨hm, ?_⟩
   simp only [Bool.not_eq_true', ← Bool.not_eq_true, Array.contains_iff, List.mem_toArray, hme]
   exact hne
  have : (leftOf arr seen.toArray).toList = [] := List.eq_nil_of_length_eq_zero (by simpa using hz)
  rw [this] at hin
  cases hin
 ·unfold leftOf at hm
  simp only [Array.toList_filter, List.mem_filter, Bool.not_eq_true', ← Bool.not_eq_true, Array.contains_iff, List.mem_toArray] at hm
  obtain ⟨e, he, hme⟩ := hmem m hm.1
  have hB : Below w.heap.size w w1 := by
   rcases hw1 with rfl | rfl
   ·exact Below.refl _ _
   ·exact drew_below w
  have hs1 := hs.ext hB
  have hh1 : w1.heap = w.heap := by rcases hw1 with rfl | rfl <;> rfl
  have hK : Keeps (fun q => β u = some q) w1 (setBlock w1 r (.mapIter (some b) c (seen.toArray.push m.born) c)) := setBlock_keeps hr
  have hS := hs1.content u hK (fun q t' n' hq ⟨arr', e1, _⟩ => by
   rw [hr] at hq
   injection hq with hq
   subst hq
   rw [hh1, hit1] at e1
   cases e1)
  have hlt : r < w1.heap.size := (hs1.rng u r hr).2
  have hS2 := hS.add u (.iter d true c (seen ++ [e.1])) ⟨r, b, 0, hr, by rw [← hme]; simp [setBlock, hlt], fun _ => hb⟩
  obtain ⟨g1, g2, g3⟩ := putRel hn hd hS2 hdst true (.tup [vB true, .dead, .dead]) (v := .tuple #[.bool true, m.key, m.val]) (fun _ => .tup rfl fun i y u hy hu => by
   rcases i with _ | _ | _ | i
   ·simp only [List.getElem?_cons_zero, Option.some.injEq, List.getElem?_toArray] at hy hu; subst hy; subst hu; exact .s (.v rfl)
   ·simp only [List.getElem?_cons_zero, List.getElem?_cons_succ, Option.some.injEq] at hy; subst hy; exact .dead
   ·simp only [List.getElem?_cons_zero, List.getElem?_cons_succ, Option.some.injEq] at hy; subst hy; exact .dead
   ·simp at hy) (fun h => by cases h)
  have hX : ExtX (fun q => β u = some q) w (setBlock w1 r (.mapIter (some b) c (seen.toArray.push m.born) c)) := ⟨Nat.le_trans hB.size hK.size, fun q hq hne => (hK.block q (Nat.lt_of_lt_of_le hq hB.size) hne).trans (hB.block q hq)⟩
  exact wp_value (w' := setBlock w1 r (.mapIter (some b) c (seen.toArray.push m.born) c)) (v := .tuple #[.bool true, m.key, m.val]) (by simp [execOp, ho, hxr, hty, hrun]) ⟨XW seqD β, seq_write (d := u) hX (by rw [Dr.dst, ho]; rfl), h1 e he (by rw [← hme]; exact hm.2) _ _ _ g1 g2 g3⟩
theorem al_mentry {x : Operand} {d u c : Nat} {seen : List Nat} {L : List (Nat × Int × α)} {f : α → AV} {e : Nat × Int × α} (hG : guardAV ops s o.guard = some true) (ho : o.op = .entry x) (hdst : dstOK n o.dst) (hgx : s.gd x = true) (hx : s.ev x = .ptr 1 u 0 0)
  (hit : lk s.ob u = some (.iter d true c (seen ++ [e.1]))) (hob : lk s.ob d = some (.mapr c (mI f L))) (he : e ∈ L) (hnd : (L.map (·.1)).Nodup)
  (hr : AListD P E n ops seqD rest Q (s.put o.dst true (.tup [vI e.2.1, f e.2.2]))) : AListR P E n ops seqD (o :: rest) Q s := by
 intro a w β hn hd hs
 have hw := guard_ok (ops := ops) hs hG
 have vx := hs.ev x hgx (a := a) rfl
 rw [hx] at vx
 obtain ⟨r, hxr, hr0⟩ : ∃ r, a.eval x = .pointer (some ⟨r, 0, none⟩) ∧ β u = some r := by
  generalize a.eval x = v at vx
  cases vx with
  | s h => cases h
  | ptr h => exact ⟨_, rfl, h⟩
 obtain ⟨r', b, _, hr', hit1, hit2⟩ := hs.ob u _ hit
 rw [hr0] at hr'
 injection hr' with hr'
 subst hr'
 have hb := hit2 rfl
 obtain ⟨b', arr, hb', harr, hent⟩ := mapr_obj (hs.ob d _ hob)
 rw [hb] at hb'
 injection hb' with hb'
 subst hb'
 obtain ⟨i, hi⟩ := List.mem_iff_getElem?.1 he
 have hlt : i < arr.toList.length := by rw [hent.1, mI_len]; exact lt_of_get hi
 have hm := hent.2 i (e.1, vI e.2.1, f e.2.2) _ (by rw [mI, List.getElem?_map, hi]; rfl) (List.getElem?_eq_getElem hlt)
 generalize hmm : arr.toList[i] = m at hm
 have hmi : m ∈ arr.toList := by rw [← hmm]; exact List.getElem_mem hlt
 have hborn : arr.toList.map (·.born) = L.map (·.1) := by
  apply List.ext_getElem?
  intro j
  rw [List.getElem?_map, List.getElem?_map]
  rcases Nat.lt_or_ge j L.length with hj | hj
  ·have hj2 : j < arr.toList.length := by rw [hent.1, mI_len]; exact hj
   rw [List.getElem?_eq_getElem hj, List.getElem?_eq_getElem hj2]
   have := (hent.2 j (L[j].1, vI L[j].2.1, f L[j].2.2) _ (by rw [mI, List.getElem?_map, List.getElem?_eq_getElem hj]; rfl) (List.getElem?_eq_getElem hj2)).1
   simpa using this
  ·rw [List.getElem?_eq_none hj, List.getElem?_eq_none (by rw [hent.1, mI_len]; exact hj)]
   rfl
 have hrun := run_entry_at (P := P) w r b c seen.toArray arr c m (by rw [hm.1]; simpa using hit1) harr hmi (by rw [hborn]; exact hnd)
 obtain ⟨g1, g2, g3⟩ := putRel hn hd hs hdst true (.tup [vI e.2.1, f e.2.2]) (v := .tuple #[m.key, m.val]) (fun _ => .tup rfl fun i y u hy hu => by
   rcases i with _ | _ | i
   ·simp only [List.getElem?_cons_zero, Option.some.injEq, List.getElem?_toArray] at hy hu; subst hy; subst hu; exact .s hm.2.1
   ·simp only [List.getElem?_cons_zero, List.getElem?_cons_succ, Option.some.injEq, List.getElem?_toArray] at hy hu; subst hy; subst hu; exact hm.2.2
   ·simp at hy) (fun h => by cases h)
 refine step_list (by rw [ho]; rfl) hw (fun _ => ?_) (fun hGf => by cases hGf)
 exact wp_value (w' := w) (v := .tuple #[m.key, m.val]) (by simp [execOp, ho, hxr, hrun]) ⟨XW seqD β, seq_same, hr _ _ _ g1 g2 g3⟩
end
end Go.Proofs.Ytjeplogcfedmeaa
end
section
namespace Go.Proofs.Ytjeplogcfedmeaa
open Go.RowKit Go.MapKept
section
variable {P : Program} {T : Nat → Option TyD} {E : Env} {s : AState} {tm : Array Value} {w w' : World} {β : Nat → Option Nat} {n : Nat} {ops : Array Oper} {Q : Exit → AState → Prop} {rest : List Oper} {o : Oper} {α : Type} {F : Nat → Prop}
theorem al_mclone {x : Operand} {ats : Array TypeId} {g t d u clk : Nat} {L : List (Nat × Int × α)} {f : α → AV} {fn : Func} (hG : guardAV ops s o.guard = some true) (ho : o.op = .call ⟨.value (.func g), #[x], ats⟩) (hdst : o.dst = some u) (hdo : dstOK n (some u)) (hgx : s.gd x = true) (hx : s.ev x = .ifc t (.map d))
  (hob : lk s.ob d = some (.mapr clk (mI f L))) (hfk : ∀ a, (f a).kill u = f a) (hf : P.funcs[g]? = some fn) (h1 : (fn.name == "runtime.NumGoroutine") = false) (h2 : fn.body.isNone = true) (h3 : Extern.findNext fn = none) (h4 : Extern.find fn = some Extern.MapsClone.clone)
  (hr : AListD P E n ops seqD rest Q { fr := (u, true, .ifc t (.map u)) :: (s.drop u).fr, ob := (u, .mapr clk (mI f L)) :: (s.drop u).ob }) : AListR P E n ops seqD (o :: rest) Q s := by
 intro a w β hn hd hs
 have hw := guard_ok (ops := ops) hs hG
 obtain ⟨v, hxv, vx⟩ := ifc_rel (hs.ev x hgx (a := a) rfl) hx
 obtain ⟨b, rfl, hb⟩ := map_rel vx
 obtain ⟨b', arr, hb', harr, hent⟩ := mapr_obj (hs.ob d _ hob)
 rw [hb] at hb'
 injection hb' with hb'
 subst hb'
 have hget := run_getObj_at (P := P) harr (fun _ _ _ h => by cases h)
 have hcl : (Extern.MapsClone.clone #[.iface t (.map (some b))]).run P w = .ok (.iface t (.map (some w.heap.size))) (w.alloc (.map arr clk)) := by
  have e : Extern.MapsClone.clone #[.iface t (.map (some b))] = (getObj b >>= fun o => match o with
    | .map entries clock => (newObj (.map entries clock) >>= fun n => pure (.iface t (.map (some n))))
    | _ => stuck "maps.clone: a map expected") := rfl
  rw [e]
  simp [hget]
 have hS := (hs.new u (dst_own (dst := some u) hdo) (.map arr clk)).add u (.mapr clk (mI f L)) ⟨_, arr, upd_same _ _ _, heap_alloc_new w _, by simpa [mI] using hent.1, fun i e m he hm => by
  obtain ⟨g1, g2, g3⟩ := hent.2 i e m he (by simpa using hm)
  have hnb : ∀ c, c < w.heap.size → (w.alloc (.map arr clk)).heap[c]? = w.heap[c]? := fun c hc => Below.heap_alloc w _ c hc
  have hk := g3.kill (F' := FF E (upd β u (some w.heap.size)) (w.alloc (.map arr clk))) (β' := upd β u (some w.heap.size)) (w' := w.alloc (.map arr clk)) u (fun _ h => FF_new h) (fun c hc => hnb c hc.1) (fun e he => upd_other β _ he) (fun e c t n _ hc h => h.of_heap (hnb c (hs.rng e c hc).2))
  obtain ⟨y, _, rfl⟩ := mI_get he
  refine ⟨g1, g2.mono (fun _ h => FF_new h) (fun c hc => hnb c hc.1), ?_⟩
  rw [hfk] at hk
  exact hk⟩
 obtain ⟨g1, g2, g3⟩ := putRel (dst := some u) hn hd hS hdo true (.ifc t (.map u)) (v := .iface t (.map (some w.heap.size))) (fun _ => .ifc (.map (upd_same _ _ _))) (fun h => by cases h)
 refine step_list (by rw [ho]; rfl) hw (fun _ => ?_) (fun hGf => by cases hGf)
 refine wp_value (w' := w.alloc (.map arr clk)) (v := .iface t (.map (some w.heap.size))) ?_ ⟨XW seqD (upd β u (some w.heap.size)), StepX.below ((Below.refl _ _).alloc (Nat.le_refl _) _) (fun e b hb he => upd_old he hb), hr _ _ _ ?_ ?_ ?_⟩
 ·have hc := run_callFunc_extern hf h1 h2 h3 h4 #[.iface t (.map (some b))] w
  rw [hcl] at hc
  have hc2 : (callFunc g #[.iface t (.map (some b))]).run P w = .ok (.value (.iface t (.map (some w.heap.size)))) (w.alloc (.map arr clk)) := hc
  have he : a.eval (.func g) = .func (.func g) #[] #[] := rfl
  simp [execOp, ho, resolve, invoke, he, Deferred.ofValue, hxv, hc2]
 ·rw [hdst]; exact g1
 ·rw [hdst]; exact g2
 ·rw [hdst]; exact g3
theorem al_clear (hT : TOK P T) {x : Operand} {t e d off m : Nat} {xs : List (List AV)} {dt de : TyD} (hG : guardAV ops s o.guard = some true) (ho : o.op = .call ⟨.builtin .clear, #[x], #[t]⟩) (hdst : o.dst = none) (hgx : s.gd x = true) (hx : s.ev x = .ref e 1 d off m)
  (hTt : T t = some dt) (hsh : dt.sh = .slice e) (hTe : T e = some de) (hk : de.size = 1) (hob : lk s.ob d = some (.row e 1 xs)) (hr : AListD P E n ops seqD rest Q { fr := s.fr, ob := (d, .row e 1 (xs.take off)) :: rmo d s.ob }) : AListR P E n ops seqD (o :: rest) Q s := by
 intro a w β hn hd hs
 have hw := guard_ok (ops := ops) hs hG
 have vx := hs.ev x hgx (a := a) rfl
 rw [hx] at vx
 have hu := T_slice hT hTt hsh
 have hlt : ∀ {c : Nat} {y : List AV}, (xs.take off)[c]? = some y → c < off ∧ xs[c]? = some y := fun {c y} h => by
  have := lt_of_get h
  rw [List.length_take] at this
  exact ⟨by omega, by rwa [List.getElem?_take_of_lt (by omega)] at h⟩
 have same : SRel E { fr := s.fr, ob := (d, .row e 1 (xs.take off)) :: rmo d s.ob } a.tmps w β := by
  have h0 := (hs.content d (Keeps.refl _ w) (fun _ _ _ _ h => h)).add d (.row e 1 (xs.take off)) (by
   obtain ⟨hk1, h⟩ := hs.ob d _ hob
   refine ⟨fun cs hcs => hk1 cs (List.mem_of_mem_take hcs), ?_⟩
   rcases h with rfl | ⟨b, arr, h1, h2, h3, h4⟩
   ·exact .inl (by simp)
   ·refine .inr ⟨b, arr, h1, h2, ?_, fun i j cs u hc hu' => h4 i j cs u (hlt hc).2 hu'⟩
    rw [List.length_take]
    exact Nat.le_trans (Nat.mul_le_mul_right _ (Nat.min_le_right _ _)) h3)
  exact h0
 have none0 : ∀ (A : Option Addr) (c : Nat), a.eval x = .slice A 0 c → (o.wp P a w (fun a' w' => ∃ X', StepX (seqD.dst o) (XW seqD β) w X' w' ∧ wpListS P ops seqD (lift E n Q) (nrm E n seqD (Q .normal)) rest X' a' w') (lift E n Q)) := fun A c hxv => by
  refine wp_value (w' := w) (v := .tuple #[]) (by cases A <;> simp [execOp, ho, resolve, invoke, builtin, hxv, Builtin.clear_, run_underlying hu]) ⟨XW seqD β, seq_same, hr _ _ _ ?_ ?_ ?_⟩
  ·rw [hdst]; exact hn
  ·rw [hdst]; exact hd
  ·rw [hdst]; exact same
 refine step_list (by rw [ho]; rfl) hw (fun _ => ?_) (fun hGf => by cases hGf)
 generalize hxv : a.eval x = v at vx
 cases vx with
 | s h => cases h
 | nil => exact none0 _ _ hxv
 | empty h => exact none0 _ _ hxv
 | @ref _ _ _ _ _ c b A g1 g2 g3 g4 g5 =>
  subst g4
  rcases Nat.eq_zero_or_pos m with h0 | h0
  ·subst h0; exact none0 _ _ hxv
  obtain ⟨arr, harr, hasz⟩ := g5
  rw [Nat.mul_one] at hasz
  obtain ⟨⟨i, z, hi, hsz, hby, hz, hzc⟩, hzl, hzf, _⟩ := hT e de hTe
  have hz1 : z.cells.size = 1 := by rw [hzc]; simp [hzl, hk]
  have hlen : (Builtin.zeroCells z.cells m).toList.length = m := by rw [Array.length_toList, size_zeroCells, hz1, Nat.mul_one]
  have hone : ∀ v ∈ (Builtin.zeroCells z.cells m).toList, v.oneCell' = true := fun v hv => by
   simp only [Builtin.zeroCells, Array.toList_map, List.mem_map] at hv
   obtain ⟨q, _, rfl⟩ := hv
   have hq : q % z.cells.size < z.cells.size := Nat.mod_lt _ (by omega)
   rw [getElem!_pos z.cells _ hq]
   refine flatV_one (hzf _ ?_)
   have key : ∀ zc : Array Value, zc = de.zero.toArray → ∀ (i : Nat) (h : i < zc.size), zc[i] ∈ de.zero := fun zc e i h => by
    subst e
    have := Array.getElem_mem h
    simpa using this
   exact key _ hzc _ hq
  have hst := run_storeCells_at P b off e (Builtin.zeroCells z.cells m).toList 0 arr w harr (by rw [hlen]; omega) hone
  have hK : Keeps (fun c => β d = some c) w (w.setRow b (arr.toList.take (off + 0) ++ (Builtin.zeroCells z.cells m).toList ++ arr.toList.drop (off + 0 + (Builtin.zeroCells z.cells m).toList.length)).toArray) := ⟨rfl, rfl, rfl, by simp, fun q _ hq => setRow_other w b q _ fun h => hq (by rw [h]; exact g1)⟩
  have hnew := setRow_heap w b arr (arr.toList.take (off + 0) ++ (Builtin.zeroCells z.cells m).toList ++ arr.toList.drop (off + 0 + (Builtin.zeroCells z.cells m).toList.length)).toArray e (0, 0) harr
  have hsz2 : (arr.toList.take (off + 0) ++ (Builtin.zeroCells z.cells m).toList ++ arr.toList.drop (off + 0 + (Builtin.zeroCells z.cells m).toList.length)).toArray.size = arr.size := by
   simp only [List.size_toArray, List.length_append, List.length_take, List.length_drop, hlen, Array.length_toList]
   omega
  generalize hww : w.setRow b (arr.toList.take (off + 0) ++ (Builtin.zeroCells z.cells m).toList ++ arr.toList.drop (off + 0 + (Builtin.zeroCells z.cells m).toList.length)).toArray = w2 at hst hK hnew
  have hS := (hs.content d hK (fun q t' n' hq ⟨arr', e1, e2⟩ => by
   rw [g1] at hq
   injection hq with hq
   subst hq
   rw [harr] at e1
   injection e1 with e1
   injection e1 with e1 e3
   subst e1
   subst e3
   exact ⟨_, hnew, hsz2.trans e2⟩)).add d (.row e 1 (xs.take off)) (by
   obtain ⟨hk1, h⟩ := hs.ob d _ hob
   refine ⟨fun cs hcs => hk1 cs (List.mem_of_mem_take hcs), ?_⟩
   rcases h with rfl | ⟨b', arr', h1, h2, h3, h4⟩
   ·exact .inl (by simp)
   ·rw [g1] at h1
    injection h1 with h1
    subst h1
    rw [harr] at h2
    injection h2 with h2
    injection h2 with h2 _
    subst h2
    refine .inr ⟨b, _, g1, hnew, ?_, fun i j cs u hc hu' => ?_⟩
    ·rw [hsz2, List.length_take]
     exact Nat.le_trans (Nat.mul_le_mul_right _ (Nat.min_le_right _ _)) h3
    ·obtain ⟨hi, hc'⟩ := hlt hc
     obtain ⟨x0, q1, q2⟩ := h4 i j cs u hc' hu'
     have hj : j = 0 := by have h5 := lt_of_get hu'; rw [hk1 cs (List.mem_of_getElem? hc')] at h5; omega
     subst hj
     rw [Nat.mul_one, Nat.add_zero] at q1 ⊢
     refine ⟨x0, ?_, q2.mono (fun c ⟨h1, h2, h3⟩ => ⟨Nat.lt_of_lt_of_le h1 hK.size, h2, h3⟩) (fun c hc => hK.block c hc.1 (hc.2.2 d))⟩
     rw [List.getElem?_toArray, List.append_assoc, List.getElem?_append_left (by rw [List.length_take, Array.length_toList]; omega), List.getElem?_take_of_lt (by omega), Array.getElem?_toList]
     exact q1)
  have hz0 : (zeroValue e).run P w = .ok z w := by simp [zeroValue, typeInfo, hi, hz]
  obtain ⟨m', rfl⟩ : ∃ m', m = m' + 1 := ⟨m - 1, by omega⟩
  rw [Nat.mul_one] at hxv
  refine wp_value (w' := w2) (v := .tuple #[]) (by simp [execOp, ho, resolve, invoke, builtin, hxv, Builtin.clear_, run_underlying hu, hz0, hst]) ⟨XW seqD β, seq_write (d := d) ⟨hK.size, fun q hq hne => hK.block q hq hne⟩ (by rw [Dr.dst, ho]; rfl), hr _ _ _ ?_ ?_ ?_⟩
  ·rw [hdst]; exact hn
  ·rw [hdst]; exact hd
  ·rw [hdst]; exact hS
end
end Go.Proofs.Ytjeplogcfedmeaa
end
section
namespace Go.Proofs.Ytjeplogcfedmeaa
open Go.RowKit
set_option maxRecDepth 100000
set_option maxHeartbeats 8000000
def takesX (x : InsM) (p : Bool) (w : Int) : Bool :=
 if x.op = 1 ∨ x.op = 2 ∨ x.op = 3 ∨ x.op = 4 ∨ x.op = 7 ∨ x.op = 8 ∨ x.op = 10 then true
 else if x.op = 33 ∨ x.op = 34 ∨ x.op = 35 ∨ x.op = 36 ∨ x.op = 37 ∨ x.op = 38 ∨ x.op = 39 ∨ x.op = 40 ∨ x.op = 41 ∨ x.op = 44 ∨ x.op = 45 ∨ x.op = 46 then true
 else if x.op = 11 then decide (w = 0) else if x.op = 16 then p else if x.op = 17 then decide (x.a = -1) else false
def takesF (C : List InsM) (B : List Bool) (k : Nat) (w : Int) : Bool := takesX (insAt C k) (B.getD (insAt C k).c.toNat false) w
def encT (B : List Bool) : List (List AV) := B.map fun b => [vB b]
theorem encT_len (B : List Bool) : (encT B).length = B.length := by simp [encT]
theorem encT_get {B : List Bool} {k : Nat} (h : k < B.length) : (encT B)[k]? = some [vB (B.getD k false)] := by simp [encT, List.getD, h]
theorem encT_app (B : List Bool) (b : Bool) : encT B ++ [[vB b]] = encT (B ++ [b]) := by simp [encT]
abbrev mK (L : List (Nat × Int × Unit)) : List (Nat × AV × AV) := mI (fun _ => AV.dead) L
theorem mK_kill (d : Nat) (L : List (Nat × Int × Unit)) : mapM (AV.kill d) (mK L) = mK L := mapM_mI (f := fun _ => AV.dead) (fun _ => rfl) L
theorem mK_cut (K V : List Nat) (L : List (Nat × Int × Unit)) : mapM (AV.cut K V) (mK L) = mK L := mapM_mI (f := fun _ => AV.dead) (fun _ => rfl) L
theorem mK_ren (r : List (Nat × Nat)) (L : List (Nat × Int × Unit)) : mapM (AV.ren r) (mK L) = mK L := mapM_mI (f := fun _ => AV.dead) (fun _ => rfl) L
def rtV (e : Bool) (C : List InsM) (N : List Int) (B : List Bool) (en : Int) (cm : AV) : AObj := .var [vB e, .lst 4 (encIs C), .lst 1 (v8 N), .ref 4 1 10002 0 B.length, vI en, cm]
def rtO (e : Bool) (C : List InsM) (N : List Int) (B : List Bool) (en : Int) (c : Nat) (M : List (Nat × Int × Unit)) : List (Nat × AObj) :=
 [(10000, rtV e C N B en (.map 10003)), (10002, .row 4 1 (encT B)), (10003, .mapr c (mK M))]
theorem takes_G (e : Bool) (C : List InsM) (N : List Int) (B : List Bool) (en : Int) (c : Nat) (M : List (Nat × Int × Unit)) (k : Nat) (hk : k < C.length) (w : Int) (hc : (insAt C k).op = 16 → 0 ≤ (insAt C k).c ∧ (insAt C k).c < B.length) :
  GCall Try.prog 59 [.ptr 1 10000 0 0, vI k, vI w] (rtO e C N B en c M) (vB (takesF C B k w)) (rtO e C N B en c M) := by
 have zk : ((k : Int)).toNat = k := by omega
 have gk := insAt_get hk
 unfold takesF
 generalize insAt C k = x at *
 obtain ⟨op, a, b, c'⟩ := x
 dsimp only at hc ⊢
 unfold rtO rtV
 have fin' : ∀ (u v : Bool), u = v → (oneOf [vB u]).up (vB v) := fun u v h => by subst h; exact AV.up_rfl _
 by_cases h16 : op = 16
 ·subst h16
  obtain ⟨h1, h2⟩ := hc rfl
  obtain ⟨m, rfl⟩ : ∃ m : Nat, c' = m := ⟨c'.toNat, by omega⟩
  have zm : ((m : Int)).toNat = m := by omega
  have gb := encT_get (B := B) (k := m) (by omega)
  rw [zm]
  generalize B.getD m false = p at gb
  refine go_fnG (tyOf_ok _) Try.func59 rfl rfl (by rw [Try.results59]) Try.ntmps59 rfl fun E => ?_
  (repeat' (first | exact trivial | (with_reducible first | apply awA | apply awB | apply awD | apply awF | apply awG | apply awJ) | (refine aw_draw (id := 27) (t := (.node [0, 1, 2, 3, 4, 5, 6, 7, 8] [])) (drR [10000, 7] [52] []) mixed (by kernel_rfl) (by kernel_rfl) (fun _ _ h => h) ?_) | (refine at_done (by simp only [go_sem]; exact rfl) ?_) | (refine at_alt (by simp only [go_sem]; exact rfl) ?_) | refine qalt_normal ?_ | refine ats_cons ?_ ?_ | exact ats_nil | ((with_reducible first | apply awn | apply awp | refine awQ ?_ | refine awT ?_); intro r hr; simp only [go_sem, Nat.reduceBEq, Nat.reduceLT, Nat.reduceLeDiff, Nat.reduceAdd, Nat.reduceMul, reduceCtorEq, zk, gk, encIs_len, zm, gb, mK_kill, Int.reduceEq] at hr; subst hr; (first | refine awV ?_ ?_ | refine endGK ?_ ?_ ?_ | (refine condK (fun h => ?_) (fun h => ?_) <;> (try simp only [go_sem, reduceCtorEq] at h) <;> (try (exfalso; omega))))))) <;> (try omega)
  all_goals first | exact AV.up_rfl _ | (repeat first | exact obUp_nil | refine obUp_cons rfl ?_) | skip
 ·have e16 : (op = 16) = False := eq_false h16
  refine go_fnG (tyOf_ok _) Try.func59 rfl rfl (by rw [Try.results59]) Try.ntmps59 rfl fun E => ?_
  (repeat' (first | exact trivial | (with_reducible first | apply awA | apply awB | apply awC | apply awD | apply awF | apply awG | apply awI | apply awJ) | ((with_reducible first | apply awn | refine awQ ?_ | refine awT ?_); intro r hr; simp only [go_sem, Nat.reduceBEq, Nat.reduceLT, Nat.reduceLeDiff, Nat.reduceAdd, Nat.reduceMul, zk, gk, encIs_len, e16, mK_kill] at hr; subst hr; (first | refine awV ?_ ?_ | refine endGK ?_ ?_ ?_ | (refine condK (fun h => ?_) (fun h => ?_) <;> (try simp only [go_sem, reduceCtorEq] at h) <;> (try (exfalso; omega))))))) <;> (try omega)
  all_goals first | (refine fin' _ _ ?_; simp_all [takesX]) | (repeat first | exact obUp_nil | refine obUp_cons rfl ?_) | skip
theorem bare_G (e : Bool) (C : List InsM) (N : List Int) (B : List Bool) (en : Int) (c : Nat) (M : List (Nat × Int × Unit)) (k : Nat) (hk : k < C.length) (w : Int) (hc : (insAt C k).op = 16 → 0 ≤ (insAt C k).c ∧ (insAt C k).c < B.length) :
  GCall Try.prog 54 [.ptr 1 10000 0 0, vI k, vI w] (rtO e C N B en c M) (vB !(takesF C B k w)) (rtO e C N B en c M) := by
 have ht := takes_G e C N B en c M k hk w hc
 generalize takesF C B k w = p at ht ⊢
 unfold rtO rtV at *
 refine go_fnG (tyOf_ok _) Try.func54 rfl rfl (by rw [Try.results54]) Try.ntmps54 rfl fun E => ?_
 (repeat' (first | exact trivial | (with_reducible first | apply awA | apply awD | apply awF) | ((with_reducible first | apply awn | apply awo | refine awT ?_); intro r hr; simp only [go_sem, Nat.reduceBEq, Nat.reduceLT, Nat.reduceAdd, mK_ren] at hr; subst hr; (first | refine awV ?_ ?_ | refine awW ?_ ?_ | refine endGK ?_ ?_ ?_)) | (refine go_callGE [(10000, 10000), (10002, 10002), (10003, 10003)] [(10000, 10000), (10002, 10002), (10003, 10003)] [] [10000, 10002, 10003] ?_; intro r hr; simp only [go_sem, Nat.reduceBEq, Nat.reduceLT, mK_ren] at hr; subst hr; refine callGK (ht) rfl rfl (by first | exact .inl rfl | exact .inr rfl) ?_ (.inl rfl) ?_))) <;> (try omega)
 all_goals first | exact AV.up_rfl _ | (repeat first | exact obUp_nil | refine obUp_cons rfl ?_)
theorem always_G (k w : Int) : GCall Try.prog 38 [vI k, vI w] [] (vB true) [] := by
 refine go_fnG (tyOf_ok _) Try.func38 rfl rfl (by rw [Try.results38]) Try.ntmps38 rfl fun E => ?_
 (repeat' (first | exact trivial | (with_reducible first | apply awA | apply awD | apply awF) | ((with_reducible first | apply awn | refine awT ?_); intro r hr; simp only [go_sem, Nat.reduceBEq, Nat.reduceLT] at hr; subst hr; (first | refine awV ?_ ?_ | refine endGK ?_ ?_ ?_)))) <;> (try omega)
 all_goals first | exact AV.up_rfl _ | (repeat first | exact obUp_nil | refine obUp_cons rfl ?_)
def paysF (C : List InsM) (B : List Bool) (k : Nat) (w : Int) : Bool := decide ((insAt C k).op = 17) || !(takesF C B k w)
theorem pay1_G (e : Bool) (C : List InsM) (N : List Int) (B : List Bool) (en : Int) (c : Nat) (M : List (Nat × Int × Unit)) (k : Nat) (hk : k < C.length) (w : Int) (hc : (insAt C k).op = 16 → 0 ≤ (insAt C k).c ∧ (insAt C k).c < B.length) :
  GCall Try.prog 58 [vI k, vI w, .ptr 1 10005 0 0] ((10005, .var [.ptr 1 10000 0 0]) :: rtO e C N B en c M) (vB (paysF C B k w)) ((10005, .var [.ptr 1 10000 0 0]) :: rtO e C N B en c M) := by
 have ht := takes_G e C N B en c M k hk w hc
 have zk : ((k : Int)).toNat = k := by omega
 have gk := insAt_get hk
 unfold paysF
 generalize takesF C B k w = p at ht ⊢
 generalize insAt C k = x at *
 unfold rtO rtV at *
 by_cases h17 : x.op = 17
 ·have e17 : (x.op = 17) = True := eq_true h17
  simp only [e17, decide_true, Bool.true_or]
  refine go_fnG (tyOf_ok _) Try.func58 rfl rfl (by rw [Try.results58]) Try.ntmps58 rfl fun E => ?_
  (repeat' (first | exact trivial | (with_reducible first | apply awA | apply awD | apply awF) | ((with_reducible first | apply awn | apply awo | refine awT ?_); intro r hr; simp only [go_sem, Nat.reduceBEq, Nat.reduceLT, Nat.reduceLeDiff, Nat.reduceAdd, Nat.reduceMul, reduceCtorEq, zk, gk, encIs_len, e17] at hr; subst hr; (first | refine awV ?_ ?_ | refine awW ?_ ?_ | refine endGK ?_ ?_ ?_)) | (refine al_skipC (vB true) rfl rfl ⟨by decide, by decide⟩ ?_))) <;> (try omega)
  all_goals first | exact AV.up_rfl _ | (repeat first | exact obUp_nil | refine obUp_cons rfl ?_)
 ·have e17 : (x.op = 17) = False := eq_false h17
  simp only [e17, decide_false, Bool.false_or]
  refine go_fnG (tyOf_ok _) Try.func58 rfl rfl (by rw [Try.results58]) Try.ntmps58 rfl fun E => ?_
  (repeat' (first | exact trivial | (with_reducible first | apply awA | apply awD | apply awF) | ((with_reducible first | apply awn | apply awo | refine awT ?_); intro r hr; simp only [go_sem, Nat.reduceBEq, Nat.reduceLT, Nat.reduceLeDiff, Nat.reduceAdd, Nat.reduceMul, reduceCtorEq, zk, gk, encIs_len, e17, mK_ren] at hr; subst hr; (first | refine awV ?_ ?_ | refine awW ?_ ?_ | refine endGK ?_ ?_ ?_)) | (refine go_callGE [(10000, 10000), (10002, 10002), (10003, 10003)] [(10000, 10000), (10002, 10002), (10003, 10003)] [] [10000, 10002, 10003] ?_; intro r hr; simp only [go_sem, Nat.reduceBEq, Nat.reduceLT, mK_ren] at hr; subst hr; refine callGK (ht) rfl rfl (by first | exact .inl rfl | exact .inr rfl) ?_ (.inl rfl) ?_))) <;> (try omega)
  all_goals first | exact AV.up_rfl _ | (repeat first | exact obUp_nil | refine obUp_cons rfl ?_)
end Go.Proofs.Ytjeplogcfedmeaa
end
section
namespace Go.Proofs.Ytjeplogcfedmeaa
open Go.RowKit
set_option maxRecDepth 100000
set_option maxHeartbeats 8000000
section
variable {P : Program} {T : Nat → Option TyD} {E : Env} {s : AState} {n : Nat} {ops : Array Oper} {Q : Exit → AState → Prop} {rest : List Oper} {o : Oper} {D : Dr}
theorem al_refnil (hT : TOK P T) {x y : Operand} {t t2 e d off m k : Nat} {te : Nat} {dt : TyD} (hG : guardAV ops s o.guard = some true) (ho : o.op = .binOp .eql t x y t2) (hdst : dstOK n o.dst) (hgx : s.gd x = true) (hgy : s.gd y = true)
  (hx : s.ev x = .ref te k d off m) (hy : s.ev y = .v (.slice none 0 0)) (hTt : T t = some dt) (hsh : dt.sh = .slice e) (hm : 0 < m) (hr : AListD P E n ops D rest Q (s.put o.dst true (.v (.bool false)))) : AListR P E n ops D (o :: rest) Q s := by
 intro a w β hn hd hs
 have hw := guard_ok (ops := ops) hs hG
 have vx := hs.ev x hgx (a := a) rfl
 have vy := hs.ev y hgy (a := a) rfl
 rw [hx] at vx
 rw [hy] at vy
 generalize hux : a.eval x = ux at vx
 generalize huy : a.eval y = uy at vy
 cases vy with | s vy => cases vy with | v _ =>
 obtain ⟨d1, d2, d3, d4⟩ := dt
 dsimp only at hsh
 subst hsh
 have hu := T_slice hT hTt rfl
 cases vx with
 | s h => cases h
 | nil => omega
 | empty => omega
 | @ref _ _ _ _ _ c b A h1 h2 h3 h4 h5 =>
  subst h4
  obtain ⟨g1, g2, g3⟩ := putRel hn hd hs hdst true (.v (.bool false)) (v := .bool false) (fun _ => .s (.v rfl)) (fun h => by cases h)
  exact step_N (v := .bool false) (by rw [ho]; rfl) hw (fun _ w' _ => by simp [execOp, ho, hux, huy, eqGuard, Lib.run_eql_slice_nil w' t e (some ⟨b, off * k, none⟩) m c 0 0 hu]) (fun h => by cases h) (hr _ _ _ g1 g2 g3)
end
theorem zero_of {P : Program} {t : Nat} {z : Value} (h : (P.info? t).bind (·.zero) = some z) (w : World) : (zeroValue t).run P w = .ok z w := by
 cases hi : P.info? t with
 | none => rw [hi] at h; cases h
 | some i =>
  rw [hi] at h
  have h2 : i.zero = some z := h
  simp [zeroValue, typeInfo, hi, h2]
theorem zero_int (w : World) : (zeroValue 3).run Try.prog w = .ok (.int .i64 0) w := zero_of (by kernel_rfl) w
theorem zero_ints (w : World) : (zeroValue 23).run Try.prog w = .ok (.slice none 0 0) w := zero_of (by kernel_rfl) w
theorem clone_G (l : List Int) (h0 : 0 < l.length) (hl : l.length ≤ 1000000000) :
  GCall Try.prog 53 [.ref 3 1 10004 0 l.length] [(10004, .row 3 1 (v8 l))] (.ref 3 1 5 0 l.length) [(5, .row 3 1 (v8 l)), (10004, .row 3 1 (v8 l))] := by
 have ht : (v8 l).take l.length = v8 l := by rw [v8_take, List.take_length]
 refine go_fnG (tyOf_ok _) Try.func53 rfl rfl (by rw [Try.results53]) Try.ntmps53 rfl fun E => ?_
 (repeat' (first | exact trivial | (with_reducible first | apply awA | apply awC | apply awD | apply awF) | ((with_reducible first | refine awN (tyOf_ok _) [5] ?_ | refine awO (tyOf_ok _) [5] ?_ | refine awQ ?_ | refine awT ?_); intro r hr; simp only [go_sem, Nat.reduceBEq, Nat.reduceLT, Nat.reduceLeDiff, Nat.reduceAdd, Nat.reduceMul, v8_len, ht, List.take_nil] at hr; subst hr; (first | refine awV ?_ ?_ | refine awW ?_ ?_ | refine endGK ?_ ?_ ?_ | (refine condK (fun h => ?_) (fun h => ?_) <;> (try simp only [go_sem, reduceCtorEq] at h) <;> (try (exfalso; omega))))) | (refine al_refnil (tyOf_ok _) rfl rfl ⟨by decide, by decide⟩ rfl rfl rfl rfl t23 rfl h0 ?_))) <;> (try omega)
 all_goals first | exact AV.up_rfl _ | (repeat first | exact obUp_nil | refine obUp_cons rfl ?_)
def natI (l : List Nat) : List Int := l.map fun k : Nat => ((k : Nat) : Int)
theorem natI_len (l : List Nat) : (natI l).length = l.length := by simp [natI]
theorem natI_get {l : List Nat} {i k : Nat} (h : l[i]? = some k) : (v8 (natI l))[i]? = some [vI k] := by simp [v8, natI, h]
theorem natI_app (l : List Nat) (k : Nat) : v8 (natI l) ++ [[vI k]] = v8 (natI (l ++ [k])) := by simp [v8, natI]
def qL (Q : List Nat) : List (Nat × Int × Unit) := Q.zipIdx.map fun p => (p.2, (p.1 : Int), ())
theorem qL_app (Q : List Nat) (k : Nat) : qL (Q ++ [k]) = qL Q ++ [(Q.length, (k : Int), ())] := by simp [qL, List.zipIdx_append]
theorem mset_app {α : Type} (c : Nat) (k : Int) (a : α) : ∀ (L : List (Nat × Int × α)), mf k L = none → mset c k a L = L ++ [(c, k, a)]
 | [], _ => rfl
 | (b, k', a') :: L, h => by
  unfold mf at h
  by_cases hk : k' = k
  ·rw [if_pos hk] at h; cases h
  ·rw [if_neg hk] at h
   simp [mset, hk, mset_app c k a L h]
theorem mf_keys {α : Type} (k : Int) (L : List (Nat × Int × α)) : mf k L = none ↔ k ∉ L.map (·.2.1) := by
 induction L with
 | nil => simp [mf]
 | cons e L ih =>
  obtain ⟨b, k', a⟩ := e
  simp only [mf, List.map_cons, List.mem_cons, not_or]
  by_cases h : k' = k
  ·simp [h]
  ·rw [if_neg h, ih]
   exact ⟨fun g => ⟨fun e => h e.symm, g⟩, fun g => g.2⟩
theorem qL_keys (Q : List Nat) : (qL Q).map (·.2.1) = natI Q := by
 apply List.ext_getElem?
 intro i
 simp [qL, natI]
 cases Q[i]? <;> rfl
theorem natI_mem {Q : List Nat} {k : Nat} : (k : Int) ∈ natI Q ↔ k ∈ Q := by
  simp only [natI, List.mem_map]
  exact ⟨fun ⟨x, h1, h2⟩ => by have : x = k := by omega
                               rw [← this]; exact h1, fun h => ⟨k, h, rfl⟩⟩
theorem mf_qL_none {Q : List Nat} {k : Nat} (h : k ∉ Q) : mf (k : Int) (qL Q) = none := by rw [mf_keys, qL_keys, natI_mem]; exact h
theorem mf_qL_some {Q : List Nat} {k : Nat} (h : k ∈ Q) : mf (k : Int) (qL Q) = some () := by
 cases hq : mf (k : Int) (qL Q) with
 | some a => rfl
 | none => rw [mf_keys, qL_keys, natI_mem] at hq; exact absurd h hq
theorem mset_qL {Q : List Nat} {k : Nat} (h : k ∉ Q) : mset Q.length (k : Int) () (qL Q) = qL (Q ++ [k]) := by rw [mset_app _ _ _ _ (mf_qL_none h), qL_app]
theorem mclk_qL {Q : List Nat} {k : Nat} (h : k ∉ Q) : mclk Q.length (k : Int) (qL Q) = (Q ++ [k]).length := by simp [mclk, mf_qL_none h]
def alwaysF (_ : Nat) (_ : Int) : Bool := true
def bareF (C : List InsM) (B : List Bool) (k : Nat) (w : Int) : Bool := !(takesF C B k w)
def wayR (C : List InsM) (g : Nat → Int → Bool) (a b : Nat) : Prop := ∃ w : Nat, (waysF C a (insAt C a))[w]? = some (b : Int) ∧ g a w = true
structure ReachI (C : List InsM) (g : Nat → Int → Bool) (fr Q : List Nat) : Prop where
 nd : Q.Nodup
 iff : ∀ k, k ∈ Q ↔ RchS (wayR C g) fr k
structure ClosedS (C : List InsM) (B : List Bool) (S : Nat → Prop) : Prop where
 lt : ∀ k, S k → k < C.length
 ways : ∀ k, S k → ∀ j ∈ waysF C k (insAt C k), 0 ≤ j ∧ S j.toNat
 calls : ∀ k, S k → (insAt C k).op = 16 → 0 ≤ (insAt C k).c ∧ (insAt C k).c < B.length
theorem reach1 (e : Bool) (C : List InsM) (N : List Int) (B : List Bool) (en : Int) (hok : CodeOK C N) (S : Nat → Prop) (hS : ClosedS C B S) (fr : List Nat) (hne : fr ≠ []) (hfr : ∀ k ∈ fr, S k) (hlf : fr.length ≤ 1048576) :
  GCallE Try.prog 37 [.ptr 1 10000 0 0, .ref 3 1 10004 0 fr.length, .v (.func (.func 38) #[] #[])] ([(10000, rtV e C N B en (.v (.map none))), (10002, .row 4 1 (encT B))] ++ [(10004, .row 3 1 (v8 (natI fr)))]) (fun Q : List Nat => ReachI C (alwaysF) fr Q) (fun _ => .map 14) (fun Q => ([(10000, rtV e C N B en (.v (.map none))), (10002, .row 4 1 (encT B))] ++ [(10004, .row 3 1 (v8 (natI fr)))]) ++ [(14, .mapr Q.length (mK (qL Q)))]) := by
 have hC := hok.len
 have h0 : 0 < fr.length := List.length_pos_iff.2 hne
 have hcl := clone_G (natI fr) (by rw [natI_len]; exact h0) (by rw [natI_len]; omega)
 rw [natI_len] at hcl
 first | unfold rtO rtV | unfold rtV
 refine go_fnE (tyOf_ok _) Try.func37 rfl rfl (by rw [Try.results37]) Try.ntmps37 rfl fun E => ?_
 (repeat' (first | exact trivial | (with_reducible first | apply awA | apply awB | apply awF) | ((with_reducible first | refine awN (tyOf_ok _) [4000014] ?_ | refine awO (tyOf_ok _) [4000014] ?_); intro r hr; simp only [go_sem, Nat.reduceBEq, Nat.reduceLT, Nat.reduceAdd] at hr; subst hr; (first | refine awV ?_ ?_ | refine awW ?_ ?_)) | (refine go_callGE [(10004, 10004)] [(5, 16), (10004, 10004)] [16] [10004] ?_; intro r hr; simp only [go_sem, Nat.reduceBEq, Nat.reduceLT] at hr; subst hr; refine callGK (hcl) rfl rfl (by first | exact .inl rfl | exact .inr rfl) ?_ (.inl rfl) ?_))) <;> (try omega)
 refine go_loop [0, 2, 7, 8, 9] [10000, 10002, 10004, 14, 16] (fun q : Nat × List Nat => ⟨[(0, true, .ptr 1 10000 0 0), (2, true, .v (.func (.func 38) #[] #[])), (7, true, .map 14), (8, true, .ref 3 1 16 0 (fr ++ q.2).length), (9, true, vI q.1)],
  [(10000, .var [vB e, .lst 4 (encIs C), .lst 1 (v8 N), .ref 4 1 10002 0 B.length, vI en, .v (.map none)]), (10002, .row 4 1 (encT B)), (10004, .row 3 1 (v8 (natI fr))), (14, .mapr q.2.length (mK (qL q.2))), (16, .row 3 1 (v8 (natI (fr ++ q.2))))]⟩)
  (fun q => Srch (wayR C (alwaysF)) fr q.2 q.1 ∧ q.1 ≤ (fr ++ q.2).length ∧ ∀ k ∈ q.2, S k) (fun q => fr.length + C.length - q.1) (0, []) (by simp only [go_sem, Nat.reduceBEq] <;> exact rfl) ⟨Srch.nil _ _, Nat.zero_le _, fun k hk => by cases hk⟩ ?_
 intro ⟨i, Q⟩ ⟨hs, hi, hQ⟩
 simp only at hs hi hQ ⊢
 have hQl : Q.length ≤ C.length := nodup_le hs.nd fun k hk => hS.lt k (hQ k hk)
 have hll : (fr ++ Q).length = fr.length + Q.length := List.length_append
 have hwi := wrap_i64 (n := (i : Int) + 1) (by omega)
 have zi : ((i : Int)).toNat = i := by omega
 by_cases hlt : i < (fr ++ Q).length
 ·have e1 : ((i : Int) < ((fr ++ Q).length : Int)) = True := eq_true (by omega)
  obtain ⟨x, hx⟩ : ∃ x, (fr ++ Q)[i]? = some x := ⟨_, List.getElem?_eq_getElem hlt⟩
  have hSx : S x := by
   rcases List.mem_append.1 (List.mem_of_getElem? hx) with h | h
   ·exact hfr x h
   ·exact hQ x h
  have hxC := hS.lt x hSx
  have hxw := hS.ways x hSx
  have gi := natI_get hx
  have hw := ways_any e C N (by omega) x hxC (hok.arms x hxC)
  have hgo : ∀ j : Nat, j < (waysF C x (insAt C x)).length → GCall Try.prog 38 [vI x, vI j] [] (vB (alwaysF x j)) [] := fun j _ => always_G x j
  have hR : ∀ k, wayR C (alwaysF) x k → ∃ w : Nat, w < (waysF C x (insAt C x)).length ∧ (waysF C x (insAt C x))[w]? = some (k : Int) ∧ (alwaysF) x w = true := fun k ⟨w, h1, h2⟩ => ⟨w, lt_of_get h1, h1, h2⟩
  have hR2 : ∀ (k w : Nat), (waysF C x (insAt C x))[w]? = some (k : Int) → (alwaysF) x w = true → wayR C (alwaysF) x k := fun k w h1 h2 => ⟨w, h1, h2⟩
  have hkl : (waysF C x (insAt C x)).length ≤ 10000000 := by
   unfold waysF
   split
   ·simp
   ·split
    ·simp
    ·split
     ·rename_i h8
      have := hok.arms x hxC h8
      simp
      omega
     ·split <;> simp
  generalize waysF C x (insAt C x) = ks at hw hxw hgo hR hR2 hkl
  unfold pG at hw
  (repeat' (first | exact trivial | (with_reducible first | apply awA | apply awB | apply awC | apply awF) | (refine aw_draw (id := 6) (t := (.node [0, 1, 2, 3, 4, 5, 6, 7, 10, 8, 9] [])) (drR [10000] [30] []) mixed (by kernel_rfl) (by kernel_rfl) (fun _ _ h => h) ?_) | (refine at_done (by simp only [go_sem]; exact rfl) ?_) | (refine at_alt (by simp only [go_sem]; exact rfl) ?_) | refine qalt_normal ?_ | refine ats_cons ?_ ?_ | exact ats_nil | ((with_reducible first | apply awn | apply awp | refine awQ ?_); intro r hr; simp only [go_sem, Nat.reduceBEq, Nat.reduceLT, Nat.reduceLeDiff, Nat.reduceAdd, Nat.reduceMul, reduceCtorEq, e1, zi, gi, v8_len, Nat.zero_add] at hr; subst hr; (first | refine caC (hw) rfl ?_ ?_ ?_ | refine awV ?_ ?_ | (refine condK (fun h => ?_) (fun h => ?_) <;> (try simp only [go_sem, reduceCtorEq] at h) <;> (try (exfalso; omega))))))) <;> (try omega)
  all_goals
   refine go_loop [0, 2, 7, 8, 9, 31, 32, 33] [10000, 10002, 10004, 14, 16] (fun q : Nat × List Nat => ⟨[(0, true, .ptr 1 10000 0 0), (2, true, .v (.func (.func 38) #[] #[])), (7, true, .map 14), (8, true, .ref 3 1 16 0 (fr ++ q.2).length), (9, true, vI i), (31, true, .lst 1 (v8 ks)), (32, true, vI ks.length), (33, true, vI q.1)],
    [(10000, .var [vB e, .lst 4 (encIs C), .lst 1 (v8 N), .ref 4 1 10002 0 B.length, vI en, .v (.map none)]), (10002, .row 4 1 (encT B)), (10004, .row 3 1 (v8 (natI fr))), (14, .mapr q.2.length (mK (qL q.2))), (16, .row 3 1 (v8 (natI (fr ++ q.2))))]⟩)
    (fun q => Srch (wayR C (alwaysF)) fr q.2 i ∧ (fr ++ q.2)[i]? = some x ∧ (∀ k ∈ q.2, S k) ∧ q.1 ≤ ks.length ∧ ∀ w, w < q.1 → ∀ k : Nat, ks[w]? = some (k : Int) → (alwaysF) x w = true → k ∈ q.2) (fun q => ks.length - q.1) (0, Q) (by simp only [go_sem, Nat.reduceBEq] <;> exact rfl) ⟨hs, hx, hQ, Nat.zero_le _, fun w hw => by omega⟩ ?_
   intro ⟨j, Q'⟩ ⟨hs', hx', hQ', hj, hin⟩
   simp only at hs' hx' hQ' hj hin ⊢
   have hQl' : Q'.length ≤ C.length := nodup_le hs'.nd fun k hk => hS.lt k (hQ' k hk)
   have hll' : (fr ++ Q').length = fr.length + Q'.length := List.length_append
   have gi' := natI_get hx'
   have hi' : i < (fr ++ Q').length := lt_of_get hx'
   have hwj := wrap_i64 (n := (j : Int) + 1) (by omega)
   have zj : ((j : Int)).toNat = j := by omega
   by_cases hjl : j < ks.length
   ·have e2 : ((j : Int) < (ks.length : Int)) = True := eq_true (by omega)
    obtain ⟨m, hm⟩ : ∃ m : Nat, ks[j] = m := ⟨ks[j].toNat, by have := (hxw _ (List.getElem_mem hjl)).1; omega⟩
    have hSm : S m := by have := (hxw _ (List.getElem_mem hjl)).2; rwa [hm, Int.toNat_natCast] at this
    have hkj : ks[j]? = some (m : Int) := by rw [List.getElem?_eq_getElem hjl, hm]
    have gj := v8_get hjl
    rw [hm] at gj
    have hgj := hgo j hjl
    have more : ∀ Q2 : List Nat, (∀ k ∈ Q', k ∈ Q2) → ((alwaysF) x j = true → m ∈ Q2) → ∀ w, w < j + 1 → ∀ k : Nat, ks[w]? = some (k : Int) → (alwaysF) x w = true → k ∈ Q2 := fun Q2 h1 h2 w hw k hk hg => by
     rcases Nat.lt_or_ge w j with h | h
     ·exact h1 k (hin w h k hk hg)
     ·have : w = j := by omega
      subst this
      rw [hkj] at hk
      injection hk with hk
      have : m = k := by omega
      subst this
      exact h2 hg
    by_cases hmq : m ∈ Q'
    ·have hf := mf_qL_some hmq
     (repeat' (first | exact trivial | (with_reducible first | apply awA | apply awB | apply awC | apply awF | apply awI) | ((with_reducible first | apply awn | apply awo | refine awQ ?_); intro r hr; simp only [go_sem, Nat.reduceBEq, Nat.reduceLT, Nat.reduceLeDiff, reduceCtorEq, e2, zj, hwj, gj, zi, gi', v8_len, Nat.zero_add] at hr; subst hr; (first | refine awV ?_ ?_ | refine awW ?_ ?_ | (refine condK (fun h => ?_) (fun h => ?_) <;> (try simp only [go_sem, reduceCtorEq] at h) <;> (try (exfalso; omega))))) | (refine al_mlook (tyOf_ok _) (d := 14) (L := qL Q') (f := fun _ => AV.dead) (key := (m : Int)) (z := .int .i64 0) rfl rfl ⟨by decide, by decide⟩ rfl rfl rfl rfl t74 rfl t3 rfl zero_int rfl rfl (by rw [hf]) ?_) | (refine al_skipC (vB true) rfl rfl ⟨by decide, by decide⟩ ?_))) <;> (try omega)
     refine ⟨(j + 1, Q'), ?_, ⟨hs', hx', hQ', hjl, more Q' (fun _ h => h) fun _ => hmq⟩, by show ks.length - (j + 1) < ks.length - j; omega⟩
     simp only [go_sem, Nat.reduceBEq]
     try exact rfl
    ·have hf := mf_qL_none hmq
     cases hg : (alwaysF) x j with
     | false =>
      rw [hg] at hgj
      skip
      (repeat' (first | exact trivial | (with_reducible first | apply awA | apply awB | apply awC | apply awF | apply awI) | ((with_reducible first | apply awn | apply awo | refine awQ ?_); intro r hr; simp only [go_sem, Nat.reduceBEq, Nat.reduceLT, Nat.reduceLeDiff, reduceCtorEq, e2, zj, hwj, gj, zi, gi', v8_len, Nat.zero_add, mK_cut] at hr; subst hr; (first | refine awV ?_ ?_ | refine awW ?_ ?_ | (refine condK (fun h => ?_) (fun h => ?_) <;> (try simp only [go_sem, reduceCtorEq] at h) <;> (try (exfalso; omega))))) | (refine al_mlook (tyOf_ok _) (d := 14) (L := qL Q') (f := fun _ => AV.dead) (key := (m : Int)) (z := .int .i64 0) rfl rfl ⟨by decide, by decide⟩ rfl rfl rfl rfl t74 rfl t3 rfl zero_int rfl rfl (by rw [hf]) ?_) | (refine go_callI (tyOf_ok _) [] [] [] [] (by simp only [go_sem, Nat.reduceBEq, Nat.reduceLT] <;> exact rfl) ?_ rfl rfl (by first | exact .inl rfl | exact .inr rfl) (by simp only [go_sem] <;> exact rfl) (hgj) (.inl rfl) ?_))) <;> (try omega)
      refine ⟨(j + 1, Q'), ?_, ⟨hs', hx', hQ', hjl, more Q' (fun _ h => h) fun h => by rw [hg] at h; cases h⟩, by show ks.length - (j + 1) < ks.length - j; omega⟩
      simp only [go_sem, Nat.reduceBEq]
      try exact rfl
     | true =>
      rw [hg] at hgj
      skip
      have hset := mset_qL hmq
      have hclk := mclk_qL hmq
      have hadd := hs'.add hx' (hR2 m j hkj hg) hmq
      have ht : (v8 (natI (fr ++ Q'))).take (fr ++ Q').length = v8 (natI (fr ++ Q')) := by rw [v8_take, List.take_of_length_le (by rw [natI_len]; omega)]
      have ha := natI_app (fr ++ Q') m
      rw [List.append_assoc] at ha
      have hl2 : (fr ++ (Q' ++ [m])).length = (fr ++ Q').length + 1 := by simp [Nat.add_assoc]
      (repeat' (first | exact trivial | (with_reducible first | apply awA | apply awB | apply awC | apply awF | apply awI) | ((with_reducible first | apply awn | apply awo | refine awQ ?_); intro r hr; simp only [go_sem, Nat.reduceBEq, Nat.reduceLT, Nat.reduceLeDiff, Nat.reduceAdd, Nat.reduceMul, Nat.reduceEqDiff, reduceCtorEq, e2, zj, hwj, gj, zi, gi', v8_len, natI_len, Nat.zero_add, ht, ha, hl2, mK_kill, mK_cut] at hr; subst hr; (first | refine awV ?_ ?_ | refine awW ?_ ?_ | (refine condK (fun h => ?_) (fun h => ?_) <;> (try simp only [go_sem, reduceCtorEq] at h) <;> (try (exfalso; omega))))) | (refine al_mlook (tyOf_ok _) (d := 14) (L := qL Q') (f := fun _ => AV.dead) (key := (m : Int)) (z := .int .i64 0) rfl rfl ⟨by decide, by decide⟩ rfl rfl rfl rfl t74 rfl t3 rfl zero_int rfl rfl (by rw [hf]) ?_) | (refine go_callI (tyOf_ok _) [] [] [] [] (by simp only [go_sem, Nat.reduceBEq, Nat.reduceLT, reduceCtorEq] <;> exact rfl) ?_ rfl rfl (by first | exact .inl rfl | exact .inr rfl) (by simp only [go_sem] <;> exact rfl) (hgj) (.inl rfl) ?_) | (refine al_mlen (tyOf_ok _) rfl rfl ⟨by decide, by decide⟩ rfl rfl t74 rfl rfl ?_) | (refine al_mput (tyOf_ok _) (d := 14) (L := qL Q') (f := fun _ => AV.dead) (key := (m : Int)) () rfl rfl rfl rfl rfl rfl rfl rfl (.inr rfl) t74 rfl t3 rfl rfl hclk hset ?_))) <;> (try omega)
      refine ⟨(j + 1, Q' ++ [m]), ?_, ⟨hadd, by rw [← List.append_assoc, List.getElem?_append_left hi']; exact hx', fun k hk => ?_, hjl, more _ (fun _ h => List.mem_append_left _ h) fun _ => by simp⟩, by show ks.length - (j + 1) < ks.length - j; omega⟩
      ·simp only [hl2, go_sem, Nat.reduceBEq]
       try exact rfl
      ·rcases List.mem_append.1 hk with h | h
       ·exact hQ' k h
       ·simp at h; subst h; exact hSm
   ·have e2 : ((j : Int) < (ks.length : Int)) = False := eq_false (by omega)
    (repeat' (first | exact trivial | (with_reducible first | apply awA | apply awE | apply awF | apply awH | apply awI | apply awK) | ((with_reducible first | apply awn | refine awQ ?_); intro r hr; simp only [go_sem, Nat.reduceBEq, Nat.reduceLT, e2, hwi] at hr; subst hr; (first | refine awV ?_ ?_ | (refine condK (fun h => ?_) (fun h => ?_) <;> (try simp only [go_sem, reduceCtorEq] at h) <;> (try (exfalso; omega))))))) <;> (try omega)
    refine ⟨(i + 1, Q'), ?_, ⟨hs'.next hx' (fun k hk => ?_), hi', hQ'⟩, by show fr.length + C.length - (i + 1) < fr.length + C.length - i; omega⟩
    ·simp only [go_sem, Nat.reduceBEq]
     try exact rfl
    ·obtain ⟨w, h1, h2, h3⟩ := hR k hk
     exact hin w (by omega) k h2 h3
 ·have e1 : ((i : Int) < ((fr ++ Q).length : Int)) = False := eq_false (by omega)
  (repeat' (first | exact trivial | (with_reducible first | apply awA | apply awD | apply awE | apply awF | apply awH | apply awK) | ((with_reducible first | apply awn | refine awQ ?_ | refine aweR ?_); intro r hr; simp only [go_sem, Nat.reduceBEq, Nat.reduceLT, e1] at hr; subst hr; (first | refine awV ?_ ?_ | refine endEK ?_ ?_ | (refine condK (fun h => ?_) (fun h => ?_) <;> (try simp only [go_sem, reduceCtorEq] at h) <;> (try (exfalso; omega))))))) <;> (try omega)
  all_goals first | (refine ⟨Q, ⟨hs.nd, fun k => hs.done (by omega) k⟩, AV.up_rfl _, ?_⟩; repeat first | exact obUp_nil | refine obUp_cons rfl ?_) | skip
theorem reach2 (e : Bool) (C : List InsM) (N : List Int) (B : List Bool) (en : Int) (c : Nat) (M : List (Nat × Int × Unit)) (hok : CodeOK C N) (S : Nat → Prop) (hS : ClosedS C B S) (fr : List Nat) (hne : fr ≠ []) (hfr : ∀ k ∈ fr, S k) (hlf : fr.length ≤ 1048576) :
  GCallE Try.prog 37 [.ptr 1 10000 0 0, .ref 3 1 10004 0 fr.length, .fn (54 + 1000000) [.ptr 1 10000 0 0]] (rtO e C N B en c M ++ [(10004, .row 3 1 (v8 (natI fr)))]) (fun Q : List Nat => ReachI C (bareF C B) fr Q) (fun _ => .map 14) (fun Q => (rtO e C N B en c M ++ [(10004, .row 3 1 (v8 (natI fr)))]) ++ [(14, .mapr Q.length (mK (qL Q)))]) := by
 have hC := hok.len
 have h0 : 0 < fr.length := List.length_pos_iff.2 hne
 have hcl := clone_G (natI fr) (by rw [natI_len]; exact h0) (by rw [natI_len]; omega)
 rw [natI_len] at hcl
 first | unfold rtO rtV | unfold rtV
 refine go_fnE (tyOf_ok _) Try.func37 rfl rfl (by rw [Try.results37]) Try.ntmps37 rfl fun E => ?_
 (repeat' (first | exact trivial | (with_reducible first | apply awA | apply awB | apply awF) | ((with_reducible first | refine awN (tyOf_ok _) [4000014] ?_ | refine awO (tyOf_ok _) [4000014] ?_); intro r hr; simp only [go_sem, Nat.reduceBEq, Nat.reduceLT, Nat.reduceAdd, mK_kill, mK_cut] at hr; subst hr; (first | refine awV ?_ ?_ | refine awW ?_ ?_)) | (refine go_callGE [(10004, 10004)] [(5, 16), (10004, 10004)] [16] [10004] ?_; intro r hr; simp only [go_sem, Nat.reduceBEq, Nat.reduceLT] at hr; subst hr; refine callGK (hcl) rfl rfl (by first | exact .inl rfl | exact .inr rfl) ?_ (.inl rfl) ?_))) <;> (try omega)
 refine go_loop [0, 2, 7, 8, 9] [10000, 10002, 10003, 10004, 14, 16] (fun q : Nat × List Nat => ⟨[(0, true, .ptr 1 10000 0 0), (2, true, .fn (54 + 1000000) [.ptr 1 10000 0 0]), (7, true, .map 14), (8, true, .ref 3 1 16 0 (fr ++ q.2).length), (9, true, vI q.1)],
  [(10000, .var [vB e, .lst 4 (encIs C), .lst 1 (v8 N), .ref 4 1 10002 0 B.length, vI en, .map 10003]), (10002, .row 4 1 (encT B)), (10003, .mapr c (mK M)), (10004, .row 3 1 (v8 (natI fr))), (14, .mapr q.2.length (mK (qL q.2))), (16, .row 3 1 (v8 (natI (fr ++ q.2))))]⟩)
  (fun q => Srch (wayR C (bareF C B)) fr q.2 q.1 ∧ q.1 ≤ (fr ++ q.2).length ∧ ∀ k ∈ q.2, S k) (fun q => fr.length + C.length - q.1) (0, []) (by simp only [go_sem, Nat.reduceBEq, Nat.reduceAdd] <;> exact rfl) ⟨Srch.nil _ _, Nat.zero_le _, fun k hk => by cases hk⟩ ?_
 intro ⟨i, Q⟩ ⟨hs, hi, hQ⟩
 simp only at hs hi hQ ⊢
 have hQl : Q.length ≤ C.length := nodup_le hs.nd fun k hk => hS.lt k (hQ k hk)
 have hll : (fr ++ Q).length = fr.length + Q.length := List.length_append
 have hwi := wrap_i64 (n := (i : Int) + 1) (by omega)
 have zi : ((i : Int)).toNat = i := by omega
 by_cases hlt : i < (fr ++ Q).length
 ·have e1 : ((i : Int) < ((fr ++ Q).length : Int)) = True := eq_true (by omega)
  obtain ⟨x, hx⟩ : ∃ x, (fr ++ Q)[i]? = some x := ⟨_, List.getElem?_eq_getElem hlt⟩
  have hSx : S x := by
   rcases List.mem_append.1 (List.mem_of_getElem? hx) with h | h
   ·exact hfr x h
   ·exact hQ x h
  have hxC := hS.lt x hSx
  have hxw := hS.ways x hSx
  have gi := natI_get hx
  have hw := ways_any e C N (by omega) x hxC (hok.arms x hxC)
  have hgo : ∀ j : Nat, j < (waysF C x (insAt C x)).length → GCall Try.prog 54 [.ptr 1 10000 0 0, vI x, vI j] (rtO e C N B en c M) (vB (bareF C B x j)) (rtO e C N B en c M) := fun j _ => bare_G e C N B en c M x hxC j (hS.calls x hSx)
  have hR : ∀ k, wayR C (bareF C B) x k → ∃ w : Nat, w < (waysF C x (insAt C x)).length ∧ (waysF C x (insAt C x))[w]? = some (k : Int) ∧ (bareF C B) x w = true := fun k ⟨w, h1, h2⟩ => ⟨w, lt_of_get h1, h1, h2⟩
  have hR2 : ∀ (k w : Nat), (waysF C x (insAt C x))[w]? = some (k : Int) → (bareF C B) x w = true → wayR C (bareF C B) x k := fun k w h1 h2 => ⟨w, h1, h2⟩
  have hkl : (waysF C x (insAt C x)).length ≤ 10000000 := by
   unfold waysF
   split
   ·simp
   ·split
    ·simp
    ·split
     ·rename_i h8
      have := hok.arms x hxC h8
      simp
      omega
     ·split <;> simp
  generalize waysF C x (insAt C x) = ks at hw hxw hgo hR hR2 hkl
  unfold pG at hw
  (repeat' (first | exact trivial | (with_reducible first | apply awA | apply awB | apply awC | apply awF) | (refine aw_draw (id := 6) (t := (.node [0, 1, 2, 3, 4, 5, 6, 7, 10, 8, 9] [])) (drR [10000] [30] []) mixed (by kernel_rfl) (by kernel_rfl) (fun _ _ h => h) ?_) | (refine at_done (by simp only [go_sem]; exact rfl) ?_) | (refine at_alt (by simp only [go_sem]; exact rfl) ?_) | refine qalt_normal ?_ | refine ats_cons ?_ ?_ | exact ats_nil | ((with_reducible first | apply awn | apply awp | refine awQ ?_); intro r hr; simp only [go_sem, Nat.reduceBEq, Nat.reduceLT, Nat.reduceLeDiff, Nat.reduceAdd, Nat.reduceMul, reduceCtorEq, e1, zi, gi, v8_len, Nat.zero_add] at hr; subst hr; (first | refine caC (hw) rfl ?_ ?_ ?_ | refine awV ?_ ?_ | (refine condK (fun h => ?_) (fun h => ?_) <;> (try simp only [go_sem, reduceCtorEq] at h) <;> (try (exfalso; omega))))))) <;> (try omega)
  all_goals
   refine go_loop [0, 2, 7, 8, 9, 31, 32, 33] [10000, 10002, 10003, 10004, 14, 16] (fun q : Nat × List Nat => ⟨[(0, true, .ptr 1 10000 0 0), (2, true, .fn (54 + 1000000) [.ptr 1 10000 0 0]), (7, true, .map 14), (8, true, .ref 3 1 16 0 (fr ++ q.2).length), (9, true, vI i), (31, true, .lst 1 (v8 ks)), (32, true, vI ks.length), (33, true, vI q.1)],
    [(10000, .var [vB e, .lst 4 (encIs C), .lst 1 (v8 N), .ref 4 1 10002 0 B.length, vI en, .map 10003]), (10002, .row 4 1 (encT B)), (10003, .mapr c (mK M)), (10004, .row 3 1 (v8 (natI fr))), (14, .mapr q.2.length (mK (qL q.2))), (16, .row 3 1 (v8 (natI (fr ++ q.2))))]⟩)
    (fun q => Srch (wayR C (bareF C B)) fr q.2 i ∧ (fr ++ q.2)[i]? = some x ∧ (∀ k ∈ q.2, S k) ∧ q.1 ≤ ks.length ∧ ∀ w, w < q.1 → ∀ k : Nat, ks[w]? = some (k : Int) → (bareF C B) x w = true → k ∈ q.2) (fun q => ks.length - q.1) (0, Q) (by simp only [go_sem, Nat.reduceBEq, Nat.reduceAdd] <;> exact rfl) ⟨hs, hx, hQ, Nat.zero_le _, fun w hw => by omega⟩ ?_
   intro ⟨j, Q'⟩ ⟨hs', hx', hQ', hj, hin⟩
   simp only at hs' hx' hQ' hj hin ⊢
   have hQl' : Q'.length ≤ C.length := nodup_le hs'.nd fun k hk => hS.lt k (hQ' k hk)
   have hll' : (fr ++ Q').length = fr.length + Q'.length := List.length_append
   have gi' := natI_get hx'
   have hi' : i < (fr ++ Q').length := lt_of_get hx'
   have hwj := wrap_i64 (n := (j : Int) + 1) (by omega)
   have zj : ((j : Int)).toNat = j := by omega
   by_cases hjl : j < ks.length
   ·have e2 : ((j : Int) < (ks.length : Int)) = True := eq_true (by omega)
    obtain ⟨m, hm⟩ : ∃ m : Nat, ks[j] = m := ⟨ks[j].toNat, by have := (hxw _ (List.getElem_mem hjl)).1; omega⟩
    have hSm : S m := by have := (hxw _ (List.getElem_mem hjl)).2; rwa [hm, Int.toNat_natCast] at this
    have hkj : ks[j]? = some (m : Int) := by rw [List.getElem?_eq_getElem hjl, hm]
    have gj := v8_get hjl
    rw [hm] at gj
    have hgj := hgo j hjl
    have more : ∀ Q2 : List Nat, (∀ k ∈ Q', k ∈ Q2) → ((bareF C B) x j = true → m ∈ Q2) → ∀ w, w < j + 1 → ∀ k : Nat, ks[w]? = some (k : Int) → (bareF C B) x w = true → k ∈ Q2 := fun Q2 h1 h2 w hw k hk hg => by
     rcases Nat.lt_or_ge w j with h | h
     ·exact h1 k (hin w h k hk hg)
     ·have : w = j := by omega
      subst this
      rw [hkj] at hk
      injection hk with hk
      have : m = k := by omega
      subst this
      exact h2 hg
    by_cases hmq : m ∈ Q'
    ·have hf := mf_qL_some hmq
     (repeat' (first | exact trivial | (with_reducible first | apply awA | apply awB | apply awC | apply awF | apply awI) | ((with_reducible first | apply awn | apply awo | refine awQ ?_); intro r hr; simp only [go_sem, Nat.reduceBEq, Nat.reduceLT, Nat.reduceLeDiff, Nat.reduceAdd, reduceCtorEq, e2, zj, hwj, gj, zi, gi', v8_len, Nat.zero_add] at hr; subst hr; (first | refine awV ?_ ?_ | refine awW ?_ ?_ | (refine condK (fun h => ?_) (fun h => ?_) <;> (try simp only [go_sem, reduceCtorEq] at h) <;> (try (exfalso; omega))))) | (refine al_mlook (tyOf_ok _) (d := 14) (L := qL Q') (f := fun _ => AV.dead) (key := (m : Int)) (z := .int .i64 0) rfl rfl ⟨by decide, by decide⟩ rfl rfl rfl rfl t74 rfl t3 rfl zero_int rfl rfl (by rw [hf]) ?_) | (refine al_skipC (vB true) rfl rfl ⟨by decide, by decide⟩ ?_))) <;> (try omega)
     refine ⟨(j + 1, Q'), ?_, ⟨hs', hx', hQ', hjl, more Q' (fun _ h => h) fun _ => hmq⟩, by show ks.length - (j + 1) < ks.length - j; omega⟩
     simp only [go_sem, Nat.reduceBEq, Nat.reduceAdd]
     try exact rfl
    ·have hf := mf_qL_none hmq
     cases hg : (bareF C B) x j with
     | false =>
      rw [hg] at hgj
      unfold rtO rtV at hgj
      (repeat' (first | exact trivial | (with_reducible first | apply awA | apply awB | apply awC | apply awF | apply awI) | ((with_reducible first | apply awn | apply awo | refine awQ ?_); intro r hr; simp only [go_sem, Nat.reduceBEq, Nat.reduceLT, Nat.reduceLeDiff, Nat.reduceAdd, reduceCtorEq, e2, zj, hwj, gj, zi, gi', v8_len, Nat.zero_add, mK_cut, mK_ren] at hr; subst hr; (first | refine awV ?_ ?_ | refine awW ?_ ?_ | (refine condK (fun h => ?_) (fun h => ?_) <;> (try simp only [go_sem, reduceCtorEq] at h) <;> (try (exfalso; omega))))) | (refine al_mlook (tyOf_ok _) (d := 14) (L := qL Q') (f := fun _ => AV.dead) (key := (m : Int)) (z := .int .i64 0) rfl rfl ⟨by decide, by decide⟩ rfl rfl rfl rfl t74 rfl t3 rfl zero_int rfl rfl (by rw [hf]) ?_) | (refine go_callI (tyOf_ok _) [(10000, 10000), (10002, 10002), (10003, 10003)] [(10000, 10000), (10002, 10002), (10003, 10003)] [] [10000, 10002, 10003] (by simp only [go_sem, Nat.reduceBEq, Nat.reduceLT, Nat.reduceSub] <;> exact rfl) ?_ rfl rfl (by first | exact .inl rfl | exact .inr rfl) (by simp only [go_sem, Nat.reduceBEq, mK_ren] <;> exact rfl) (hgj) (.inl rfl) ?_))) <;> (try omega)
      refine ⟨(j + 1, Q'), ?_, ⟨hs', hx', hQ', hjl, more Q' (fun _ h => h) fun h => by rw [hg] at h; cases h⟩, by show ks.length - (j + 1) < ks.length - j; omega⟩
      simp only [go_sem, Nat.reduceBEq, Nat.reduceAdd]
      try exact rfl
     | true =>
      rw [hg] at hgj
      unfold rtO rtV at hgj
      have hset := mset_qL hmq
      have hclk := mclk_qL hmq
      have hadd := hs'.add hx' (hR2 m j hkj hg) hmq
      have ht : (v8 (natI (fr ++ Q'))).take (fr ++ Q').length = v8 (natI (fr ++ Q')) := by rw [v8_take, List.take_of_length_le (by rw [natI_len]; omega)]
      have ha := natI_app (fr ++ Q') m
      rw [List.append_assoc] at ha
      have hl2 : (fr ++ (Q' ++ [m])).length = (fr ++ Q').length + 1 := by simp [Nat.add_assoc]
      (repeat' (first | exact trivial | (with_reducible first | apply awA | apply awB | apply awC | apply awF | apply awI) | ((with_reducible first | apply awn | apply awo | refine awQ ?_); intro r hr; simp only [go_sem, Nat.reduceBEq, Nat.reduceLT, Nat.reduceLeDiff, Nat.reduceAdd, Nat.reduceMul, Nat.reduceEqDiff, reduceCtorEq, e2, zj, hwj, gj, zi, gi', v8_len, natI_len, Nat.zero_add, ht, ha, hl2, mK_kill, mK_cut, mK_ren] at hr; subst hr; (first | refine awV ?_ ?_ | refine awW ?_ ?_ | (refine condK (fun h => ?_) (fun h => ?_) <;> (try simp only [go_sem, reduceCtorEq] at h) <;> (try (exfalso; omega))))) | (refine al_mlook (tyOf_ok _) (d := 14) (L := qL Q') (f := fun _ => AV.dead) (key := (m : Int)) (z := .int .i64 0) rfl rfl ⟨by decide, by decide⟩ rfl rfl rfl rfl t74 rfl t3 rfl zero_int rfl rfl (by rw [hf]) ?_) | (refine go_callI (tyOf_ok _) [(10000, 10000), (10002, 10002), (10003, 10003)] [(10000, 10000), (10002, 10002), (10003, 10003)] [] [10000, 10002, 10003] (by simp only [go_sem, Nat.reduceBEq, Nat.reduceLT, Nat.reduceSub, reduceCtorEq] <;> exact rfl) ?_ rfl rfl (by first | exact .inl rfl | exact .inr rfl) (by simp only [go_sem, Nat.reduceBEq, mK_ren] <;> exact rfl) (hgj) (.inl rfl) ?_) | (refine al_mlen (tyOf_ok _) rfl rfl ⟨by decide, by decide⟩ rfl rfl t74 rfl rfl ?_) | (refine al_mput (tyOf_ok _) (d := 14) (L := qL Q') (f := fun _ => AV.dead) (key := (m : Int)) () rfl rfl rfl rfl rfl rfl rfl rfl (.inr rfl) t74 rfl t3 rfl rfl hclk hset ?_))) <;> (try omega)
      refine ⟨(j + 1, Q' ++ [m]), ?_, ⟨hadd, by rw [← List.append_assoc, List.getElem?_append_left hi']; exact hx', fun k hk => ?_, hjl, more _ (fun _ h => List.mem_append_left _ h) fun _ => by simp⟩, by show ks.length - (j + 1) < ks.length - j; omega⟩
      ·simp only [hl2, go_sem, Nat.reduceBEq, Nat.reduceAdd]
       try exact rfl
      ·rcases List.mem_append.1 hk with h | h
       ·exact hQ' k h
       ·simp at h; subst h; exact hSm
   ·have e2 : ((j : Int) < (ks.length : Int)) = False := eq_false (by omega)
    (repeat' (first | exact trivial | (with_reducible first | apply awA | apply awE | apply awF | apply awH | apply awI | apply awK) | ((with_reducible first | apply awn | refine awQ ?_); intro r hr; simp only [go_sem, Nat.reduceBEq, Nat.reduceLT, Nat.reduceAdd, e2, hwi] at hr; subst hr; (first | refine awV ?_ ?_ | (refine condK (fun h => ?_) (fun h => ?_) <;> (try simp only [go_sem, reduceCtorEq] at h) <;> (try (exfalso; omega))))))) <;> (try omega)
    refine ⟨(i + 1, Q'), ?_, ⟨hs'.next hx' (fun k hk => ?_), hi', hQ'⟩, by show fr.length + C.length - (i + 1) < fr.length + C.length - i; omega⟩
    ·simp only [go_sem, Nat.reduceBEq, Nat.reduceAdd]
     try exact rfl
    ·obtain ⟨w, h1, h2, h3⟩ := hR k hk
     exact hin w (by omega) k h2 h3
 ·have e1 : ((i : Int) < ((fr ++ Q).length : Int)) = False := eq_false (by omega)
  (repeat' (first | exact trivial | (with_reducible first | apply awA | apply awD | apply awE | apply awF | apply awH | apply awK) | ((with_reducible first | apply awn | refine awQ ?_ | refine aweR ?_); intro r hr; simp only [go_sem, Nat.reduceBEq, Nat.reduceLT, Nat.reduceAdd, e1] at hr; subst hr; (first | refine awV ?_ ?_ | refine endEK ?_ ?_ | (refine condK (fun h => ?_) (fun h => ?_) <;> (try simp only [go_sem, reduceCtorEq] at h) <;> (try (exfalso; omega))))))) <;> (try omega)
  all_goals first | (refine ⟨Q, ⟨hs.nd, fun k => hs.done (by omega) k⟩, AV.up_rfl _, ?_⟩; repeat first | exact obUp_nil | refine obUp_cons rfl ?_) | skip
theorem reach3 (e : Bool) (C : List InsM) (N : List Int) (B : List Bool) (en : Int) (c : Nat) (M : List (Nat × Int × Unit)) (hok : CodeOK C N) (S : Nat → Prop) (hS : ClosedS C B S) (fr : List Nat) (hne : fr ≠ []) (hfr : ∀ k ∈ fr, S k) (hlf : fr.length ≤ 1048576) :
  GCallE Try.prog 37 [.ptr 1 10000 0 0, .ref 3 1 10004 0 fr.length, .fn 58 [.ptr 1 10005 0 0]] (((10005, AObj.var [.ptr 1 10000 0 0]) :: rtO e C N B en c M) ++ [(10004, .row 3 1 (v8 (natI fr)))]) (fun Q : List Nat => ReachI C (paysF C B) fr Q) (fun _ => .map 14) (fun Q => (((10005, AObj.var [.ptr 1 10000 0 0]) :: rtO e C N B en c M) ++ [(10004, .row 3 1 (v8 (natI fr)))]) ++ [(14, .mapr Q.length (mK (qL Q)))]) := by
 have hC := hok.len
 have h0 : 0 < fr.length := List.length_pos_iff.2 hne
 have hcl := clone_G (natI fr) (by rw [natI_len]; exact h0) (by rw [natI_len]; omega)
 rw [natI_len] at hcl
 first | unfold rtO rtV | unfold rtV
 refine go_fnE (tyOf_ok _) Try.func37 rfl rfl (by rw [Try.results37]) Try.ntmps37 rfl fun E => ?_
 (repeat' (first | exact trivial | (with_reducible first | apply awA | apply awB | apply awF) | ((with_reducible first | refine awN (tyOf_ok _) [4000014] ?_ | refine awO (tyOf_ok _) [4000014] ?_); intro r hr; simp only [go_sem, Nat.reduceBEq, Nat.reduceLT, Nat.reduceAdd, mK_kill, mK_cut] at hr; subst hr; (first | refine awV ?_ ?_ | refine awW ?_ ?_)) | (refine go_callGE [(10004, 10004)] [(5, 16), (10004, 10004)] [16] [10004] ?_; intro r hr; simp only [go_sem, Nat.reduceBEq, Nat.reduceLT] at hr; subst hr; refine callGK (hcl) rfl rfl (by first | exact .inl rfl | exact .inr rfl) ?_ (.inl rfl) ?_))) <;> (try omega)
 refine go_loop [0, 2, 7, 8, 9] [10005, 10000, 10002, 10003, 10004, 14, 16] (fun q : Nat × List Nat => ⟨[(0, true, .ptr 1 10000 0 0), (2, true, .fn 58 [.ptr 1 10005 0 0]), (7, true, .map 14), (8, true, .ref 3 1 16 0 (fr ++ q.2).length), (9, true, vI q.1)],
  [(10005, .var [.ptr 1 10000 0 0]), (10000, .var [vB e, .lst 4 (encIs C), .lst 1 (v8 N), .ref 4 1 10002 0 B.length, vI en, .map 10003]), (10002, .row 4 1 (encT B)), (10003, .mapr c (mK M)), (10004, .row 3 1 (v8 (natI fr))), (14, .mapr q.2.length (mK (qL q.2))), (16, .row 3 1 (v8 (natI (fr ++ q.2))))]⟩)
  (fun q => Srch (wayR C (paysF C B)) fr q.2 q.1 ∧ q.1 ≤ (fr ++ q.2).length ∧ ∀ k ∈ q.2, S k) (fun q => fr.length + C.length - q.1) (0, []) (by simp only [go_sem, Nat.reduceBEq] <;> exact rfl) ⟨Srch.nil _ _, Nat.zero_le _, fun k hk => by cases hk⟩ ?_
 intro ⟨i, Q⟩ ⟨hs, hi, hQ⟩
 simp only at hs hi hQ ⊢
 have hQl : Q.length ≤ C.length := nodup_le hs.nd fun k hk => hS.lt k (hQ k hk)
 have hll : (fr ++ Q).length = fr.length + Q.length := List.length_append
 have hwi := wrap_i64 (n := (i : Int) + 1) (by omega)
 have zi : ((i : Int)).toNat = i := by omega
 by_cases hlt : i < (fr ++ Q).length
 ·have e1 : ((i : Int) < ((fr ++ Q).length : Int)) = True := eq_true (by omega)
  obtain ⟨x, hx⟩ : ∃ x, (fr ++ Q)[i]? = some x := ⟨_, List.getElem?_eq_getElem hlt⟩
  have hSx : S x := by
   rcases List.mem_append.1 (List.mem_of_getElem? hx) with h | h
   ·exact hfr x h
   ·exact hQ x h
  have hxC := hS.lt x hSx
  have hxw := hS.ways x hSx
  have gi := natI_get hx
  have hw := ways_any e C N (by omega) x hxC (hok.arms x hxC)
  have hgo : ∀ j : Nat, j < (waysF C x (insAt C x)).length → GCall Try.prog 58 [vI x, vI j, .ptr 1 10005 0 0] ((10005, .var [.ptr 1 10000 0 0]) :: rtO e C N B en c M) (vB (paysF C B x j)) ((10005, .var [.ptr 1 10000 0 0]) :: rtO e C N B en c M) := fun j _ => pay1_G e C N B en c M x hxC j (hS.calls x hSx)
  have hR : ∀ k, wayR C (paysF C B) x k → ∃ w : Nat, w < (waysF C x (insAt C x)).length ∧ (waysF C x (insAt C x))[w]? = some (k : Int) ∧ (paysF C B) x w = true := fun k ⟨w, h1, h2⟩ => ⟨w, lt_of_get h1, h1, h2⟩
  have hR2 : ∀ (k w : Nat), (waysF C x (insAt C x))[w]? = some (k : Int) → (paysF C B) x w = true → wayR C (paysF C B) x k := fun k w h1 h2 => ⟨w, h1, h2⟩
  have hkl : (waysF C x (insAt C x)).length ≤ 10000000 := by
   unfold waysF
   split
   ·simp
   ·split
    ·simp
    ·split
     ·rename_i h8
      have := hok.arms x hxC h8
      simp
      omega
     ·split <;> simp
  generalize waysF C x (insAt C x) = ks at hw hxw hgo hR hR2 hkl
  unfold pG at hw
  (repeat' (first | exact trivial | (with_reducible first | apply awA | apply awB | apply awC | apply awF) | (refine aw_draw (id := 6) (t := (.node [0, 1, 2, 3, 4, 5, 6, 7, 10, 8, 9] [])) (drR [10000] [30] []) mixed (by kernel_rfl) (by kernel_rfl) (fun _ _ h => h) ?_) | (refine at_done (by simp only [go_sem]; exact rfl) ?_) | (refine at_alt (by simp only [go_sem]; exact rfl) ?_) | refine qalt_normal ?_ | refine ats_cons ?_ ?_ | exact ats_nil | ((with_reducible first | apply awn | apply awp | refine awQ ?_); intro r hr; simp only [go_sem, Nat.reduceBEq, Nat.reduceLT, Nat.reduceLeDiff, Nat.reduceAdd, Nat.reduceMul, reduceCtorEq, e1, zi, gi, v8_len, Nat.zero_add] at hr; subst hr; (first | refine caC (hw) rfl ?_ ?_ ?_ | refine awV ?_ ?_ | (refine condK (fun h => ?_) (fun h => ?_) <;> (try simp only [go_sem, reduceCtorEq] at h) <;> (try (exfalso; omega))))))) <;> (try omega)
  all_goals
   refine go_loop [0, 2, 7, 8, 9, 31, 32, 33] [10005, 10000, 10002, 10003, 10004, 14, 16] (fun q : Nat × List Nat => ⟨[(0, true, .ptr 1 10000 0 0), (2, true, .fn 58 [.ptr 1 10005 0 0]), (7, true, .map 14), (8, true, .ref 3 1 16 0 (fr ++ q.2).length), (9, true, vI i), (31, true, .lst 1 (v8 ks)), (32, true, vI ks.length), (33, true, vI q.1)],
    [(10005, .var [.ptr 1 10000 0 0]), (10000, .var [vB e, .lst 4 (encIs C), .lst 1 (v8 N), .ref 4 1 10002 0 B.length, vI en, .map 10003]), (10002, .row 4 1 (encT B)), (10003, .mapr c (mK M)), (10004, .row 3 1 (v8 (natI fr))), (14, .mapr q.2.length (mK (qL q.2))), (16, .row 3 1 (v8 (natI (fr ++ q.2))))]⟩)
    (fun q => Srch (wayR C (paysF C B)) fr q.2 i ∧ (fr ++ q.2)[i]? = some x ∧ (∀ k ∈ q.2, S k) ∧ q.1 ≤ ks.length ∧ ∀ w, w < q.1 → ∀ k : Nat, ks[w]? = some (k : Int) → (paysF C B) x w = true → k ∈ q.2) (fun q => ks.length - q.1) (0, Q) (by simp only [go_sem, Nat.reduceBEq] <;> exact rfl) ⟨hs, hx, hQ, Nat.zero_le _, fun w hw => by omega⟩ ?_
   intro ⟨j, Q'⟩ ⟨hs', hx', hQ', hj, hin⟩
   simp only at hs' hx' hQ' hj hin ⊢
   have hQl' : Q'.length ≤ C.length := nodup_le hs'.nd fun k hk => hS.lt k (hQ' k hk)
   have hll' : (fr ++ Q').length = fr.length + Q'.length := List.length_append
   have gi' := natI_get hx'
   have hi' : i < (fr ++ Q').length := lt_of_get hx'
   have hwj := wrap_i64 (n := (j : Int) + 1) (by omega)
   have zj : ((j : Int)).toNat = j := by omega
   by_cases hjl : j < ks.length
   ·have e2 : ((j : Int) < (ks.length : Int)) = True := eq_true (by omega)
    obtain ⟨m, hm⟩ : ∃ m : Nat, ks[j] = m := ⟨ks[j].toNat, by have := (hxw _ (List.getElem_mem hjl)).1; omega⟩
    have hSm : S m := by have := (hxw _ (List.getElem_mem hjl)).2; rwa [hm, Int.toNat_natCast] at this
    have hkj : ks[j]? = some (m : Int) := by rw [List.getElem?_eq_getElem hjl, hm]
    have gj := v8_get hjl
    rw [hm] at gj
    have hgj := hgo j hjl
    have more : ∀ Q2 : List Nat, (∀ k ∈ Q', k ∈ Q2) → ((paysF C B) x j = true → m ∈ Q2) → ∀ w, w < j + 1 → ∀ k : Nat, ks[w]? = some (k : Int) → (paysF C B) x w = true → k ∈ Q2 := fun Q2 h1 h2 w hw k hk hg => by
     rcases Nat.lt_or_ge w j with h | h
     ·exact h1 k (hin w h k hk hg)
     ·have : w = j := by omega
      subst this
      rw [hkj] at hk
      injection hk with hk
      have : m = k := by omega
      subst this
      exact h2 hg
    by_cases hmq : m ∈ Q'
    ·have hf := mf_qL_some hmq
     (repeat' (first | exact trivial | (with_reducible first | apply awA | apply awB | apply awC | apply awF | apply awI) | ((with_reducible first | apply awn | apply awo | refine awQ ?_); intro r hr; simp only [go_sem, Nat.reduceBEq, Nat.reduceLT, Nat.reduceLeDiff, reduceCtorEq, e2, zj, hwj, gj, zi, gi', v8_len, Nat.zero_add] at hr; subst hr; (first | refine awV ?_ ?_ | refine awW ?_ ?_ | (refine condK (fun h => ?_) (fun h => ?_) <;> (try simp only [go_sem, reduceCtorEq] at h) <;> (try (exfalso; omega))))) | (refine al_mlook (tyOf_ok _) (d := 14) (L := qL Q') (f := fun _ => AV.dead) (key := (m : Int)) (z := .int .i64 0) rfl rfl ⟨by decide, by decide⟩ rfl rfl rfl rfl t74 rfl t3 rfl zero_int rfl rfl (by rw [hf]) ?_) | (refine al_skipC (vB true) rfl rfl ⟨by decide, by decide⟩ ?_))) <;> (try omega)
     refine ⟨(j + 1, Q'), ?_, ⟨hs', hx', hQ', hjl, more Q' (fun _ h => h) fun _ => hmq⟩, by show ks.length - (j + 1) < ks.length - j; omega⟩
     simp only [go_sem, Nat.reduceBEq]
     try exact rfl
    ·have hf := mf_qL_none hmq
     cases hg : (paysF C B) x j with
     | false =>
      rw [hg] at hgj
      unfold rtO rtV at hgj
      (repeat' (first | exact trivial | (with_reducible first | apply awA | apply awB | apply awC | apply awF | apply awI) | ((with_reducible first | apply awn | apply awo | refine awQ ?_); intro r hr; simp only [go_sem, Nat.reduceBEq, Nat.reduceLT, Nat.reduceLeDiff, reduceCtorEq, e2, zj, hwj, gj, zi, gi', v8_len, Nat.zero_add, mK_cut, mK_ren] at hr; subst hr; (first | refine awV ?_ ?_ | refine awW ?_ ?_ | (refine condK (fun h => ?_) (fun h => ?_) <;> (try simp only [go_sem, reduceCtorEq] at h) <;> (try (exfalso; omega))))) | (refine al_mlook (tyOf_ok _) (d := 14) (L := qL Q') (f := fun _ => AV.dead) (key := (m : Int)) (z := .int .i64 0) rfl rfl ⟨by decide, by decide⟩ rfl rfl rfl rfl t74 rfl t3 rfl zero_int rfl rfl (by rw [hf]) ?_) | (refine go_callI (tyOf_ok _) [(10005, 10005), (10000, 10000), (10002, 10002), (10003, 10003)] [(10005, 10005), (10000, 10000), (10002, 10002), (10003, 10003)] [] [10005, 10000, 10002, 10003] (by simp only [go_sem, Nat.reduceBEq, Nat.reduceLT, Nat.reduceSub] <;> exact rfl) ?_ rfl rfl (by first | exact .inl rfl | exact .inr rfl) (by simp only [go_sem, Nat.reduceBEq, mK_ren] <;> exact rfl) (hgj) (.inl rfl) ?_))) <;> (try omega)
      refine ⟨(j + 1, Q'), ?_, ⟨hs', hx', hQ', hjl, more Q' (fun _ h => h) fun h => by rw [hg] at h; cases h⟩, by show ks.length - (j + 1) < ks.length - j; omega⟩
      simp only [go_sem, Nat.reduceBEq]
      try exact rfl
     | true =>
      rw [hg] at hgj
      unfold rtO rtV at hgj
      have hset := mset_qL hmq
      have hclk := mclk_qL hmq
      have hadd := hs'.add hx' (hR2 m j hkj hg) hmq
      have ht : (v8 (natI (fr ++ Q'))).take (fr ++ Q').length = v8 (natI (fr ++ Q')) := by rw [v8_take, List.take_of_length_le (by rw [natI_len]; omega)]
      have ha := natI_app (fr ++ Q') m
      rw [List.append_assoc] at ha
      have hl2 : (fr ++ (Q' ++ [m])).length = (fr ++ Q').length + 1 := by simp [Nat.add_assoc]
      (repeat' (first | exact trivial | (with_reducible first | apply awA | apply awB | apply awC | apply awF | apply awI) | ((with_reducible first | apply awn | apply awo | refine awQ ?_); intro r hr; simp only [go_sem, Nat.reduceBEq, Nat.reduceLT, Nat.reduceLeDiff, Nat.reduceAdd, Nat.reduceMul, Nat.reduceEqDiff, reduceCtorEq, e2, zj, hwj, gj, zi, gi', v8_len, natI_len, Nat.zero_add, ht, ha, hl2, mK_kill, mK_cut, mK_ren] at hr; subst hr; (first | refine awV ?_ ?_ | refine awW ?_ ?_ | (refine condK (fun h => ?_) (fun h => ?_) <;> (try simp only [go_sem, reduceCtorEq] at h) <;> (try (exfalso; omega))))) | (refine al_mlook (tyOf_ok _) (d := 14) (L := qL Q') (f := fun _ => AV.dead) (key := (m : Int)) (z := .int .i64 0) rfl rfl ⟨by decide, by decide⟩ rfl rfl rfl rfl t74 rfl t3 rfl zero_int rfl rfl (by rw [hf]) ?_) | (refine go_callI (tyOf_ok _) [(10005, 10005), (10000, 10000), (10002, 10002), (10003, 10003)] [(10005, 10005), (10000, 10000), (10002, 10002), (10003, 10003)] [] [10005, 10000, 10002, 10003] (by simp only [go_sem, Nat.reduceBEq, Nat.reduceLT, Nat.reduceSub, reduceCtorEq] <;> exact rfl) ?_ rfl rfl (by first | exact .inl rfl | exact .inr rfl) (by simp only [go_sem, Nat.reduceBEq, mK_ren] <;> exact rfl) (hgj) (.inl rfl) ?_) | (refine al_mlen (tyOf_ok _) rfl rfl ⟨by decide, by decide⟩ rfl rfl t74 rfl rfl ?_) | (refine al_mput (tyOf_ok _) (d := 14) (L := qL Q') (f := fun _ => AV.dead) (key := (m : Int)) () rfl rfl rfl rfl rfl rfl rfl rfl (.inr rfl) t74 rfl t3 rfl rfl hclk hset ?_))) <;> (try omega)
      refine ⟨(j + 1, Q' ++ [m]), ?_, ⟨hadd, by rw [← List.append_assoc, List.getElem?_append_left hi']; exact hx', fun k hk => ?_, hjl, more _ (fun _ h => List.mem_append_left _ h) fun _ => by simp⟩, by show ks.length - (j + 1) < ks.length - j; omega⟩
      ·simp only [hl2, go_sem, Nat.reduceBEq]
       try exact rfl
      ·rcases List.mem_append.1 hk with h | h
       ·exact hQ' k h
       ·simp at h; subst h; exact hSm
   ·have e2 : ((j : Int) < (ks.length : Int)) = False := eq_false (by omega)
    (repeat' (first | exact trivial | (with_reducible first | apply awA | apply awE | apply awF | apply awH | apply awI | apply awK) | ((with_reducible first | apply awn | refine awQ ?_); intro r hr; simp only [go_sem, Nat.reduceBEq, Nat.reduceLT, e2, hwi] at hr; subst hr; (first | refine awV ?_ ?_ | (refine condK (fun h => ?_) (fun h => ?_) <;> (try simp only [go_sem, reduceCtorEq] at h) <;> (try (exfalso; omega))))))) <;> (try omega)
    refine ⟨(i + 1, Q'), ?_, ⟨hs'.next hx' (fun k hk => ?_), hi', hQ'⟩, by show fr.length + C.length - (i + 1) < fr.length + C.length - i; omega⟩
    ·simp only [go_sem, Nat.reduceBEq]
     try exact rfl
    ·obtain ⟨w, h1, h2, h3⟩ := hR k hk
     exact hin w (by omega) k h2 h3
 ·have e1 : ((i : Int) < ((fr ++ Q).length : Int)) = False := eq_false (by omega)
  (repeat' (first | exact trivial | (with_reducible first | apply awA | apply awD | apply awE | apply awF | apply awH | apply awK) | ((with_reducible first | apply awn | refine awQ ?_ | refine aweR ?_); intro r hr; simp only [go_sem, Nat.reduceBEq, Nat.reduceLT, e1] at hr; subst hr; (first | refine awV ?_ ?_ | refine endEK ?_ ?_ | (refine condK (fun h => ?_) (fun h => ?_) <;> (try simp only [go_sem, reduceCtorEq] at h) <;> (try (exfalso; omega))))))) <;> (try omega)
  all_goals first | (refine ⟨Q, ⟨hs.nd, fun k => hs.done (by omega) k⟩, AV.up_rfl _, ?_⟩; repeat first | exact obUp_nil | refine obUp_cons rfl ?_) | skip
end Go.Proofs.Ytjeplogcfedmeaa
end
section
namespace Go.Proofs.Ytjeplogcfedmeaa
open Go.RowKit
set_option maxRecDepth 100000
set_option maxHeartbeats 8000000
structure FormM where
 name : ByteArray
 has : ByteArray
 known : Bool
def formS (op : Int) : FormM :=
 if op = 9 then ⟨⟨#[97, 114, 109]⟩, ⟨#[103, 116, 32]⟩, true⟩ else
 if op = 19 then ⟨⟨#[106, 117, 109, 112]⟩, ⟨#[32, 116, 32]⟩, true⟩ else
 if op = 20 then ⟨⟨#[114, 101, 116]⟩, ⟨#[32, 32, 32]⟩, true⟩ else
 ⟨ByteArray.empty, ByteArray.empty, false⟩
def formD (op : Int) : FormM :=
 if op = 1 then ⟨⟨#[117, 105, 110, 116]⟩, ⟨#[107, 119, 32]⟩, true⟩ else
 if op = 2 then ⟨⟨#[117, 105, 110, 116, 115]⟩, ⟨#[75, 110, 119]⟩, true⟩ else
 if op = 3 then ⟨⟨#[98, 111, 111, 108]⟩, ⟨#[107, 32, 32]⟩, true⟩ else
 if op = 4 then ⟨⟨#[118, 97, 114, 105, 110, 116]⟩, ⟨#[107, 32, 32]⟩, true⟩ else
 if op = 5 then ⟨⟨#[115, 101, 113]⟩, ⟨#[32, 32, 32]⟩, true⟩ else
 if op = 6 then ⟨⟨#[115, 116, 114, 117, 99, 116]⟩, ⟨#[32, 32, 32]⟩, true⟩ else
 if op = 7 then ⟨⟨#[111, 112, 116, 105, 111, 110]⟩, ⟨#[32, 116, 32]⟩, true⟩ else
 if op = 8 then ⟨⟨#[117, 110, 105, 111, 110]⟩, ⟨#[97, 32, 32]⟩, true⟩ else
 if op = 10 then ⟨⟨#[111, 102, 102, 115, 101, 116]⟩, ⟨#[102, 32, 32]⟩, true⟩ else
 if op = 11 then ⟨⟨#[102, 105, 114, 115, 116]⟩, ⟨#[109, 116, 32]⟩, true⟩ else
 if op = 12 then ⟨⟨#[115, 108, 111, 116, 115]⟩, ⟨#[32, 116, 32]⟩, true⟩ else
 if op = 13 then ⟨⟨#[105, 116, 101, 109]⟩, ⟨#[109, 116, 32]⟩, true⟩ else
 if op = 14 then ⟨⟨#[108, 101, 115, 115]⟩, ⟨#[109, 116, 32]⟩, true⟩ else
 if op = 15 then ⟨⟨#[112, 97, 114, 116, 115]⟩, ⟨#[32, 116, 32]⟩, true⟩ else
 if op = 16 then ⟨⟨#[99, 97, 108, 108]⟩, ⟨#[107, 32, 121]⟩, true⟩ else
 if op = 17 then ⟨⟨#[112, 97, 114, 116]⟩, ⟨#[107, 112, 121]⟩, true⟩ else
 if op = 18 then ⟨⟨#[116, 97, 105, 108]⟩, ⟨#[112, 32, 32]⟩, true⟩ else
 formS op
def formE (op : Int) : FormM :=
 if op = 33 then ⟨⟨#[110, 117, 109, 98, 101, 114]⟩, ⟨#[80, 119, 32]⟩, true⟩ else
 if op = 34 then ⟨⟨#[110, 117, 109, 98, 101, 114, 115]⟩, ⟨#[113, 110, 119]⟩, true⟩ else
 if op = 35 then ⟨⟨#[102, 108, 97, 103]⟩, ⟨#[80, 32, 32]⟩, true⟩ else
 if op = 36 then ⟨⟨#[108, 101, 98]⟩, ⟨#[32, 32, 32]⟩, true⟩ else
 if op = 37 then ⟨⟨#[109, 97, 110, 121]⟩, ⟨#[109, 32, 32]⟩, true⟩ else
 if op = 38 then ⟨⟨#[117, 112, 116, 111]⟩, ⟨#[109, 32, 32]⟩, true⟩ else
 if op = 39 then ⟨⟨#[102, 105, 101, 108, 100, 115]⟩, ⟨#[115, 32, 32]⟩, true⟩ else
 if op = 40 then ⟨⟨#[109, 97, 121, 98, 101]⟩, ⟨#[32, 116, 32]⟩, true⟩ else
 if op = 41 then ⟨⟨#[99, 104, 111, 105, 99, 101]⟩, ⟨#[97, 32, 32]⟩, true⟩ else
 if op = 42 then ⟨⟨#[114, 111, 111, 109]⟩, ⟨#[98, 32, 32]⟩, true⟩ else
 if op = 43 then ⟨⟨#[115, 108, 111, 116]⟩, ⟨#[80, 32, 32]⟩, true⟩ else
 if op = 44 then ⟨⟨#[101, 110, 116, 101, 114]⟩, ⟨#[113, 32, 121]⟩, true⟩ else
 if op = 45 then ⟨⟨#[101, 97, 99, 104]⟩, ⟨#[122, 32, 121]⟩, true⟩ else
 if op = 46 then ⟨⟨#[97, 112, 112, 101, 110, 100]⟩, ⟨#[32, 32, 121]⟩, true⟩ else
 if op = 47 then ⟨⟨#[97, 103, 97, 105, 110]⟩, ⟨#[32, 116, 32]⟩, true⟩ else
 formS op
def formF (e : Bool) (op : Int) : FormM := if e = true then formE op else formD op
abbrev vForm (f : FormM) : AV := .tup [.agg [.v (.string f.name), .v (.string f.has)], vB f.known]
theorem cshared_any (op : Int) : PCall Try.prog 68 [vI op] (fun r => r = vForm (formS op)) := by
 refine go_fn (tyOf_ok _) Try.func68 rfl rfl (by rw [Try.results68]) Try.ntmps68 rfl fun E => ?_
 (repeat' (first | exact trivial | (with_reducible first | apply awA | apply awB | apply awC | apply awD | apply awF | apply awG | apply awI | apply awJ) | ((with_reducible first | apply awn | refine awQ ?_ | refine awR ?_); intro r hr; simp only [go_sem, Nat.reduceBEq, Nat.reduceLT, Nat.reduceLeDiff, Nat.reduceAdd, Nat.reduceMul] at hr; subst hr; (first | refine awV ?_ ?_ | refine endK ?_ ?_ | (refine condK (fun h => ?_) (fun h => ?_) <;> (try simp only [go_sem] at h) <;> (try (exfalso; omega))))))) <;> (try omega)
 all_goals first | (subst_vars; rfl) | (unfold formS vForm; simp only [*, if_false]; rfl) | skip
theorem cdecodes_any (op : Int) : PCall Try.prog 61 [vI op] (fun r => r = vForm (formD op)) := by
 have hs := cshared_any op
 refine go_fn (tyOf_ok _) Try.func61 rfl rfl (by rw [Try.results61]) Try.ntmps61 rfl fun E => ?_
 (repeat' (first | exact trivial | (with_reducible first | apply awA | apply awB | apply awC | apply awD | apply awF | apply awG | apply awI | apply awJ) | ((with_reducible first | apply awn | apply awo | refine awQ ?_ | refine awR ?_); intro r hr; simp only [go_sem, Nat.reduceBEq, Nat.reduceLT, Nat.reduceLeDiff, Nat.reduceAdd, Nat.reduceMul] at hr; subst hr; (first | refine caA (fun _ => hs) rfl ?_ ?_ ?_ | refine awV ?_ ?_ | refine endK ?_ ?_ | (refine condK (fun h => ?_) (fun h => ?_) <;> (try simp only [go_sem] at h) <;> (try (exfalso; omega))))))) <;> (try omega)
 all_goals first | (subst_vars; rfl) | (unfold formD vForm; simp only [*, if_false]; rfl) | skip
theorem cencodes_any (op : Int) : PCall Try.prog 60 [vI op] (fun r => r = vForm (formE op)) := by
 have hs := cshared_any op
 refine go_fn (tyOf_ok _) Try.func60 rfl rfl (by rw [Try.results60]) Try.ntmps60 rfl fun E => ?_
 (repeat' (first | exact trivial | (with_reducible first | apply awA | apply awB | apply awC | apply awD | apply awF | apply awG | apply awI | apply awJ) | ((with_reducible first | apply awn | apply awo | refine awQ ?_ | refine awR ?_); intro r hr; simp only [go_sem, Nat.reduceBEq, Nat.reduceLT, Nat.reduceLeDiff, Nat.reduceAdd, Nat.reduceMul] at hr; subst hr; (first | refine caA (fun _ => hs) rfl ?_ ?_ ?_ | refine awV ?_ ?_ | refine endK ?_ ?_ | (refine condK (fun h => ?_) (fun h => ?_) <;> (try simp only [go_sem] at h) <;> (try (exfalso; omega))))))) <;> (try omega)
 all_goals first | (subst_vars; rfl) | (unfold formE vForm; simp only [*, if_false]; rfl) | skip
theorem cof_any (e : Bool) (C : List InsM) (N : List Int) (op : Int) : PCall Try.prog 43 [pG e C N, vI op] (fun r => r = vForm (formF e op)) := by
 unfold pG formF
 cases e with
 | true =>
  simp only [if_true]
  have hf := cencodes_any op
  generalize formE op = f at hf ⊢
  refine go_fn (tyOf_ok _) Try.func43 rfl rfl (by rw [Try.results43]) Try.ntmps43 rfl fun E => ?_
  (repeat' (first | exact trivial | (with_reducible first | apply awA | apply awD | apply awF | apply awG) | ((with_reducible first | apply awn | apply awo | refine awQ ?_ | refine awR ?_); intro r hr; simp only [go_sem, Nat.reduceBEq, Nat.reduceLT, Nat.reduceLeDiff, Nat.reduceAdd, Nat.reduceMul] at hr; subst hr; (first | refine caA (fun _ => hf) rfl ?_ ?_ ?_ | refine awV ?_ ?_ | refine endK ?_ ?_ | (refine condK (fun h => ?_) (fun h => ?_) <;> (try simp only [go_sem, reduceCtorEq] at h) <;> (try (exfalso; omega))))))) <;> (try omega)
  all_goals rfl
 | false =>
  simp only [reduceCtorEq, if_false]
  have hf := cdecodes_any op
  generalize formD op = f at hf ⊢
  refine go_fn (tyOf_ok _) Try.func43 rfl rfl (by rw [Try.results43]) Try.ntmps43 rfl fun E => ?_
  (repeat' (first | exact trivial | (with_reducible first | apply awA | apply awC | apply awD | apply awF) | ((with_reducible first | apply awn | apply awo | refine awQ ?_ | refine awR ?_); intro r hr; simp only [go_sem, Nat.reduceBEq, Nat.reduceLT, Nat.reduceLeDiff, Nat.reduceAdd, Nat.reduceMul] at hr; subst hr; (first | refine caA (fun _ => hf) rfl ?_ ?_ ?_ | refine awV ?_ ?_ | refine endK ?_ ?_ | (refine condK (fun h => ?_) (fun h => ?_) <;> (try simp only [go_sem, reduceCtorEq] at h) <;> (try (exfalso; omega))))))) <;> (try omega)
  all_goals rfl
end Go.Proofs.Ytjeplogcfedmeaa
end

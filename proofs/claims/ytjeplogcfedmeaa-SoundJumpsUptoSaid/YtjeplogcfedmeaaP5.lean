import Derived.Test.YtjeplogcfedmeaaP4
set_option linter.all false
section
namespace Go.Proofs.Ytjeplogcfedmeaa
open Go.RowKit
def methOf (P : Program) (t : Nat) (nm : String) : Option (Nat × Bool × Nat) :=
 match P.info? t, P.underlying t with
 | some i, some (.pointer e) =>
  match i.methods.find? (·.name == nm) with
  | some m => if m.path.isEmpty = true then m.func.map fun q => (q.1, q.2, e) else none
  | none => none
 | _, _ => none
def AV.isPtr : AV → Prop
 | .ptr .. => True
 | _ => False
def calleeI (T : Nat → Option TyD) (M : Nat → String → Option (Nat × Bool × Nat)) (s : AState) : Op → Option (Nat × List AV × Prop)
 | .call ⟨.value x, args, _⟩ =>
  match s.ev x with
  | .fn f cs => some ((fnGo f cs (args.toList.map s.ev)).1, (fnGo f cs (args.toList.map s.ev)).2, True)
  | .v (.func (.func f) ⟨[]⟩ ⟨[]⟩) => some (f, args.toList.map s.ev, True)
  | _ => none
 | .call ⟨.invoke x nm, args, _⟩ =>
  match s.ev x with
  | .ifc t y =>
   match M t nm with
   | some (f, true, _) => some (f, y :: args.toList.map s.ev, y.isPtr)
   | some (f, false, e) =>
    match loadAV T s e y with
    | some (p, z) => some (f, z :: args.toList.map s.ev, p)
    | none => none
   | none => none
  | _ => none
 | _ => none
def callI (T : Nat → Option TyD) (M : Nat → String → Option (Nat × Bool × Nat)) (n : Nat) (ops : Array Oper) (s : AState) (o : Oper) (hi : List (Nat × Nat)) : Option (Nat × List AV × Prop × Bool) :=
 match guardAV ops s o.guard, calleeI T M s o.op with
 | some G, some (f, as0, p) => some (f, AV.hand.handL hi s as0, G = true ∧ dstOK n o.dst ∧ o.op.operands.toList.all s.gd = true ∧ p ∧ AV.handT.handTL hi s as0, AV.allIn.allInL hi as0)
 | _, _ => none
section
variable {P : Program} {T : Nat → Option TyD} {E : Env} {s s' : AState} {a : Act} {tm : Array Value} {w w' : World} {β β' : Nat → Option Nat} {F F' : Nat → Prop} {n : Nat} {ops : Array Oper} {Q : Exit → AState → Prop} {D : Dr} {rest : List Oper} {o : Oper}
theorem ifc_rel {x : AV} {t : Nat} {y : AV} {v : Value} (h : AVR F β w x v) (hx : x = .ifc t y) : ∃ u, v = .iface t u ∧ AVR F β w y u := by
 subst hx
 cases h with
 | s h => cases h
 | ifc h => exact ⟨_, rfl, h⟩
theorem exec_inv {x : Operand} {nm : String} {args : Array Operand} {ats : Array TypeId} (ho : o.op = .call ⟨.invoke x nm, args, ats⟩) {t : Nat} {u rv : Value} (hx : a.eval x = .iface t u) {f : Nat}
  (hm : (method (P.types.size + Made.depth) t u nm).run P w = .ok (f, rv) w) {fn : Func} (hf : P.funcs[f]? = some fn) (hb : fn.body.isSome = true) (hn : (fn.name == "runtime.NumGoroutine") = false) :
  (execOp a.eval o).run P w = .ok (.enter f (#[rv] ++ args.map a.eval)) w := by
 have hb' : fn.body.isNone = false := by cases h : fn.body <;> simp_all
 unfold execOp
 simp only [ho, resolve, hx, Sem.run_bind, Sem.run_pure, Result.andThen_ok, invoke, callMethod]
 have h0 : (#[Value.iface t u] ++ args.map a.eval)[0]? = some (.iface t u) := by rw [Array.getElem?_append_left (by simp)]; rfl
 have h1 : (#[Value.iface t u] ++ args.map a.eval).extract 1 (#[Value.iface t u] ++ args.map a.eval).size = args.map a.eval := by
  apply Array.ext'
  simp [List.take_of_length_le]
 simp only [h0, h1, Sem.run_bind, run_program, Result.andThen_ok, hm, callFunc, hf, hn, hb', Bool.false_eq_true, if_false, Sem.run_pure]
theorem wrapchk (ats : Array TypeId) (t : TypeId) (A : Addr) (x y : ByteArray) : Builtin.ssaWrapNilChk_ ats t #[.pointer (some A), .string x, .string y] = pure (.pointer (some A)) := rfl
theorem method_run {t : Nat} {nm : String} {f e : Nat} {b : Bool} (h : methOf P t nm = some (f, b, e)) {A : Addr} (w : World) {rv : Value} (hrv : b = true ∧ rv = .pointer (some A) ∨ b = false ∧ (loadVar e A).run P w = .ok rv w) :
  (method (P.types.size + Made.depth) t (.pointer (some A)) nm).run P w = .ok (f, rv) w := by
 unfold methOf at h
 split at h
 case h_2 => cases h
 rename_i i e' hi hu
 split at h
 case h_2 => cases h
 rename_i m hm
 split at h
 case isFalse => cases h
 rename_i hp
 cases hmf : m.func with
 | none => rw [hmf] at h; cases h
 | some q =>
  rw [hmf] at h
  obtain ⟨q1, q2⟩ := q
  simp only [Option.map_some, Option.some.injEq, Prod.mk.injEq] at h
  obtain ⟨rfl, rfl, rfl⟩ := h
  have hpath : m.path.toList = [] := by simpa [Array.isEmpty] using hp
  have hd0 : Made.depth ≠ 0 := by decide
  obtain ⟨k, hk⟩ : ∃ k, P.types.size + Made.depth = k + 1 := ⟨P.types.size + Made.depth - 1, by omega⟩
  rw [hk]
  have hti : (typeInfo t).run P w = .ok i w := by simp [typeInfo, hi]
  unfold method
  simp only [Sem.run_bind, hti, Result.andThen_ok, hm, hpath, follow, Sem.run_pure, hmf, receiverAt, run_underlying hu, Place.get]
  rcases hrv with ⟨rfl, rfl⟩ | ⟨rfl, hl⟩
  ·rfl
  ·simp only [hp, if_true, strVal, wrapchk, Sem.run_bind, Sem.run_pure, Result.andThen_ok, asAddr, hl]
theorem callI_spec (hTk : TOK P T) {f : Nat} {as' : List AV} {p : Prop} {al : Bool} {hi : List (Nat × Nat)} (h : callI T (methOf P) n ops s o hi = some (f, as', p, al)) (hp : p) {fn : Func} (hf : P.funcs[f]? = some fn) (hb : fn.body.isSome = true) (hn : (fn.name == "runtime.NumGoroutine") = false) :
  guardAV ops s o.guard = some true ∧ kindN o.op = false ∧ dstOK n o.dst ∧ ∃ as0, as' = AV.hand.handL hi s as0 ∧ AV.handT.handTL hi s as0 ∧ al = AV.allIn.allInL hi as0 ∧
   ∀ (a : Act) (w : World) (β : Nat → Option Nat), SRel E s a.tmps w β → ∃ vs : Array Value, (execOp a.eval o).run P w = .ok (.enter f vs) w ∧ vs.size = as0.length ∧ ∀ (i : Nat) (x : AV) (v : Value), as0[i]? = some x → vs[i]? = some v → AVR (FF E β w) β w x v := by
 unfold callI at h
 split at h
 case h_2 => cases h
 rename_i G f' as0 p0 hg hci
 simp only [Option.some.injEq, Prod.mk.injEq] at h
 obtain ⟨rfl, rfl, rfl, rfl⟩ := h
 obtain ⟨rfl, h1, h2, h3, h4⟩ := hp
 unfold calleeI at hci
 split at hci
 ·rename_i x args ats ho
  have hopl : o.op.operands.toList = x :: args.toList := by rw [ho]; simp [Op.operands, Call.operands]
  rw [hopl, List.all_cons, Bool.and_eq_true] at h2
  split at hci
  ·rename_i f' cs hx
   simp only [Option.some.injEq, Prod.mk.injEq] at hci
   obtain ⟨rfl, rfl, rfl⟩ := hci
   exact ⟨hg, by rw [ho]; rfl, h1, _, rfl, h4, rfl, hex_fn ho hx h2.1 h2.2 hf hb hn⟩
  ·rename_i f' hx
   simp only [Option.some.injEq, Prod.mk.injEq] at hci
   obtain ⟨rfl, rfl, rfl⟩ := hci
   exact ⟨hg, by rw [ho]; rfl, h1, _, rfl, h4, rfl, hex_fc ho hx h2.1 h2.2 hf hb hn⟩
  ·cases hci
 ·rename_i x nm args ats ho
  have hopl : o.op.operands.toList = x :: args.toList := by rw [ho]; simp [Op.operands, Call.operands]
  rw [hopl, List.all_cons, Bool.and_eq_true] at h2
  split at hci
  case h_2 => cases hci
  rename_i t y hx
  have fin : ∀ (z : AV), as0 = z :: args.toList.map s.ev → (∀ (a : Act) (w : World) (β : Nat → Option Nat), SRel E s a.tmps w β → ∃ u rv, a.eval x = .iface t u ∧ (method (P.types.size + Made.depth) t u nm).run P w = .ok (f', rv) w ∧ AVR (FF E β w) β w z rv) →
    ∀ (a : Act) (w : World) (β : Nat → Option Nat), SRel E s a.tmps w β → ∃ vs : Array Value, (execOp a.eval o).run P w = .ok (.enter f' vs) w ∧ vs.size = as0.length ∧ ∀ (i : Nat) (x : AV) (v : Value), as0[i]? = some x → vs[i]? = some v → AVR (FF E β w) β w x v := fun z hz hh a w β hs => by
   obtain ⟨u, rv, g1, g2, g3⟩ := hh a w β hs
   refine ⟨#[rv] ++ args.map a.eval, exec_inv ho g1 g2 hf hb hn, by rw [hz]; simp [Nat.add_comm], fun i y' v hy hv => ?_⟩
   rw [hz] at hy
   cases i with
   | zero =>
    simp only [List.getElem?_cons_zero, Option.some.injEq] at hy
    rw [Array.getElem?_append_left (by simp)] at hv
    simp only [List.getElem?_toArray, List.getElem?_cons_zero, Option.some.injEq] at hv
    subst hy
    subst hv
    exact g3
   | succ i =>
    simp only [List.getElem?_cons_succ] at hy
    rw [Array.getElem?_append_right (by simp)] at hv
    simp only [List.size_toArray, List.length_cons, List.length_nil, Nat.zero_add, Nat.add_sub_cancel] at hv
    exact ev_all hs h2.2 i y' v hy hv
  split at hci
  ·rename_i f2 e hM
   simp only [Option.some.injEq, Prod.mk.injEq] at hci
   obtain ⟨rfl, rfl, rfl⟩ := hci
   cases y with
   | ptr k d i j =>
    refine ⟨hg, by rw [ho]; rfl, h1, _, rfl, h4, rfl, fin _ rfl fun a w β hs => ?_⟩
    obtain ⟨u, hu, hr⟩ := ifc_rel (hs.ev x h2.1 (a := a) rfl) hx
    cases hr with
    | s hr => cases hr
    | ptr hb' => exact ⟨_, _, hu, method_run hM w (.inl ⟨rfl, rfl⟩), .ptr hb'⟩
   | _ => exact absurd h3 id
  ·rename_i f2 e hM
   split at hci
   case h_2 => cases hci
   rename_i p1 z hl
   simp only [Option.some.injEq, Prod.mk.injEq] at hci
   obtain ⟨rfl, rfl, rfl⟩ := hci
   refine ⟨hg, by rw [ho]; rfl, h1, _, rfl, h4, rfl, fin _ rfl fun a w β hs => ?_⟩
   obtain ⟨u, hu, hr⟩ := ifc_rel (hs.ev x h2.1 (a := a) rfl) hx
   obtain ⟨v, g1, g2⟩ := loadAV_ok (X := noX) hTk hs hl h3 (fun b _ => noX_not b) (fun _ _ _ _ b _ _ => noX_not b) hr
   have g3 := g2 w (ExtX.refl _ w)
   have hptr : ∃ A, u = .pointer (some A) := by
    unfold loadAV at hl
    split at hl
    ·cases hl
    ·split at hl
     ·cases hr with
      | s hr => cases hr
      | ptr => exact ⟨_, rfl⟩
     ·cases hr with
      | s hr => cases hr
      | elt => exact ⟨_, rfl⟩
     ·cases hl
   obtain ⟨A, rfl⟩ := hptr
   simp only [Instr.loadAt, Instr.sureAddr, Sem.run_bind, Sem.run_pure, Result.andThen_ok] at g3
   exact ⟨_, v, hu, method_run hM w (.inr ⟨rfl, g3⟩), g1⟩
  ·cases hci
 ·cases hci
theorem go_callI (hTk : TOK P T) (hi bk : List (Nat × Nat)) (K V : List Nat) {f : Nat} {as' : List AV} {p : Prop} {al : Bool} {ob ob1 : List (Nat × AObj)} {r : AV} (h : callI T (methOf P) n ops s o hi = some (f, as', p, al)) (hp : p) (hk : handOK hi bk K V = true)
  (hD : hi.all (fun p => D.W p.1) = true) (hds : D.dst o = true ∨ hi = []) (hob : obIn s hi hi = ob) (hc : GCall P f as' ob r ob1) (hm : al = true ∨ (r.nm = true ∧ obNm ob1))
  (hr : AListD P E n ops D rest Q ((s.back K V bk ob1).put o.dst true (r.ren bk))) : AListR P E n ops D (o :: rest) Q s := by
 obtain ⟨fn, hf, hb, hn⟩ := hc.1
 obtain ⟨h1, h2, h3, as0, rfl, h4, rfl, h5⟩ := callI_spec (E := E) hTk h hp hf hb hn
 exact go_callX hi bk K V h1 h2 h3 h5 h4 hk hD hds hob hc hm hr
theorem go_callId (d : Nat) (_ : o.dst = some d) (hTk : TOK P T) (hi bk : List (Nat × Nat)) (K V : List Nat) {f : Nat} {as' : List AV} {p : Prop} {al : Bool} {ob ob1 : List (Nat × AObj)} {r : AV} (h : callI T (methOf P) n ops s o hi = some (f, as', p, al)) (hp : p) (hk : handOK hi bk K V = true)
  (hD : hi.all (fun p => D.W p.1) = true) (hds : D.dst o = true ∨ hi = []) (hob : obIn s hi hi = ob) (hc : GCall P f as' ob r ob1) (hm : al = true ∨ (r.nm = true ∧ obNm ob1))
  (hr : AListD P E n ops D rest Q ((s.back K V bk ob1).put o.dst true (r.ren bk))) : AListR P E n ops D (o :: rest) Q s := go_callI hTk hi bk K V h hp hk hD hds hob hc hm hr
end
attribute [go_sem] callI calleeI AV.isPtr fnGo Nat.add_sub_cancel
end Go.Proofs.Ytjeplogcfedmeaa
end
section
namespace Go.Proofs.Ytjeplogcfedmeaa
open Go.RowKit
section
variable {P : Program} {E : Env} {s : AState} {n : Nat} {Q : Exit → AState → Prop}
end
end Go.Proofs.Ytjeplogcfedmeaa
end
section
namespace Go.Proofs.Ytjeplogcfedmeaa
open Go.RowKit
abbrev vU8 (c : Int) : AV := .v (.int .u8 c)
abbrev vB (b : Bool) : AV := .v (.bool b)
abbrev vI (n : Int) : AV := .v (.int .i64 n)
end Go.Proofs.Ytjeplogcfedmeaa
end
section
namespace Go.Proofs.Ytjeplogcfedmeaa
open Go.RowKit
section
variable {P : Program} {E : Env} {s : AState} {n : Nat} {Q : Exit → AState → Prop}
theorem go_cutK {α : Type} {c d : Code} (id : Nat) (ts os : List Nat) (sh : α → AState) (inv : α → Prop)
  (h1 : AWp P E n (.block id c) (ASeq (fun s' => ∃ y, s'.keep ts os = sh y ∧ inv y) Q) s) (h2 : ∀ y, inv y → AWp P E n d Q (sh y)) : AWp P E n (.block id c) (ASeq (AWp P E n d Q) Q) s := fun a w hw => wp_mono (h1 a w hw) fun e a' w' hl => by
 cases e with
 | normal =>
  obtain ⟨s', ⟨y, g1, g2⟩, g3⟩ := hl
  refine ⟨s'.keep ts os, ?_, g3.weaken (fun t p => lk_keep s'.fr t p ts) (fun d o => lk_keep s'.ob d o os)⟩
  rw [g1]
  exact h2 y g2
 | _ => exact hl
end
section
variable {P : Program} {E : Env} {s : AState} {n : Nat} {Q : Exit → AState → Prop}
structure Hold (p : Prop) : Prop where
 out : p
theorem hold {p : Prop} (h : Hold p) : p := h.out
end
end Go.Proofs.Ytjeplogcfedmeaa
end
section
namespace Go.Proofs.Ytjeplogcfedmeaa
open Go.RowKit
set_option maxRecDepth 100000
structure InsM where
 op : Int
 a : Int
 b : Int
 c : Int
deriving DecidableEq
def encI (x : InsM) : List AV := [vI x.op, vI x.a, vI x.b, vI x.c]
def encIs (l : List InsM) : List (List AV) := l.map encI
theorem encIs_len (l : List InsM) : (encIs l).length = l.length := by simp [encIs]
theorem encIs_get {l : List InsM} {k : Nat} (h : k < l.length) : (encIs l)[k]? = some [vI l[k].op, vI l[k].a, vI l[k].b, vI l[k].c] := by simp [encIs, encI, h]
def pG (e : Bool) (C : List InsM) (N : List Int) : AV := .agg [.v (.bool e), .lst 4 (encIs C), .lst 1 (v8 N)]
end Go.Proofs.Ytjeplogcfedmeaa
end
section
namespace Go.Proofs.Ytjeplogcfedmeaa
def swapL (l : List Int) (i j : Nat) : List Int := (l.set i (l.getD j 0)).set j (l.getD i 0)
theorem swapL_len (l : List Int) (i j : Nat) : (swapL l i j).length = l.length := by simp [swapL]
theorem getD_set (l : List Int) (i k : Nat) (x : Int) (hi : i < l.length) : (l.set i x).getD k 0 = if i = k then x else l.getD k 0 := by
 by_cases h : i = k
 ·subst h; simp [List.getD, hi]
 ·simp [List.getD, List.getElem?_set_ne h, h]
theorem swapL_get (l : List Int) (i j k : Nat) (hi : i < l.length) (hj : j < l.length) : (swapL l i j).getD k 0 = if k = j then l.getD i 0 else if k = i then l.getD j 0 else l.getD k 0 := by
 unfold swapL
 rw [getD_set _ _ _ _ (by simpa using hj), getD_set _ _ _ _ hi]
 by_cases h1 : j = k
 ·simp [h1]
 ·by_cases h2 : i = k
  ·simp [h1, h2, Ne.symm h1]
  ·simp [h1, h2, Ne.symm h1, Ne.symm h2]
theorem perm_swap_aux : ∀ (l : List Int) (i j : Nat), i < j → j < l.length → (swapL l i j).Perm l := by
 intro l
 induction l with
 | nil => intro i j _ h; simp at h
 | cons x l ih =>
  intro i j hij hj
  cases i with
  | zero =>
   obtain ⟨j, rfl⟩ : ∃ j', j = j' + 1 := ⟨j - 1, by omega⟩
   have hj' : j < l.length := by simpa using hj
   have : swapL (x :: l) 0 (j + 1) = l[j] :: l.set j x := by simp [swapL, List.getD, hj']
   rw [this]
   have h1 : (l.set j x).Perm (x :: (l.take j ++ l.drop (j + 1))) := by
    rw [List.set_eq_take_append_cons_drop, if_pos hj']; exact List.perm_middle
   have h2 : l.Perm (l[j] :: (l.take j ++ l.drop (j + 1))) := by
    conv => lhs; rw [← List.take_append_drop j l, List.drop_eq_getElem_cons hj']
    exact List.perm_middle
   exact ((h1.cons _).trans (List.Perm.swap _ _ _)).trans (h2.symm.cons _)
  | succ i =>
   obtain ⟨j, rfl⟩ : ∃ j', j = j' + 1 := ⟨j - 1, by omega⟩
   have : swapL (x :: l) (i + 1) (j + 1) = x :: swapL l i j := by simp [swapL, List.getD]
   rw [this]
   exact (ih i j (by omega) (by simpa using hj)).cons x
theorem swapL_perm (l : List Int) (i j : Nat) (hi : i < l.length) (hj : j < l.length) : (swapL l i j).Perm l := by
 rcases Nat.lt_trichotomy i j with h | h | h
 ·exact perm_swap_aux l i j h hj
 ·subst h
  have : swapL l i i = l := by simp [swapL, List.getD, hi]
  rw [this]
 ·have : swapL l i j = swapL l j i := by
   unfold swapL
   rw [List.set_comm _ _ (by omega)]
  rw [this]; exact perm_swap_aux l j i h hi
def heapAt (l : List Int) (k : Nat) : Prop := 0 < k → k < l.length → l.getD ((k - 1) / 2) 0 ≤ l.getD k 0
def isHeap (l : List Int) : Prop := ∀ k, heapAt l k
theorem heap_min {l : List Int} (h : isHeap l) : ∀ k, k < l.length → l.getD 0 0 ≤ l.getD k 0 := by
 intro k
 induction k using Nat.strongRecOn with
 | _ k ih =>
  intro hk
  rcases Nat.eq_zero_or_pos k with h0 | h0
  ·subst h0; exact Int.le_refl _
  ·exact Int.le_trans (ih ((k - 1) / 2) (by omega) (by omega)) (h k h0 hk)
def heapUp (l : List Int) (j : Nat) : Prop := (∀ k, k ≠ j → heapAt l k) ∧ ∀ k, 0 < k → k < l.length → (k - 1) / 2 = j → 0 < j → l.getD ((j - 1) / 2) 0 ≤ l.getD k 0
def upF : Nat → List Int → Nat → List Int
 | 0, l, _ => l
 | n + 1, l, j =>
  if (j - 1) / 2 = j ∨ ¬ l.getD j 0 < l.getD ((j - 1) / 2) 0 then l else upF n (swapL l ((j - 1) / 2) j) ((j - 1) / 2)
theorem upF_perm : ∀ (n : Nat) (l : List Int) (j : Nat), j < l.length → (upF n l j).Perm l := by
 intro n
 induction n with
 | zero => intro l j _; exact List.Perm.refl _
 | succ n ih =>
  intro l j hj
  unfold upF
  split
  ·exact List.Perm.refl _
  ·exact (ih _ _ (by rw [swapL_len]; omega)).trans (swapL_perm l _ _ (by omega) hj)
theorem heapUp_swap {l : List Int} {j : Nat} (h : heapUp l j) (hj : j < l.length) (h0 : 0 < j) (hlt : l.getD j 0 < l.getD ((j - 1) / 2) 0) : heapUp (swapL l ((j - 1) / 2) j) ((j - 1) / 2) := by
 obtain ⟨h1, h2⟩ := h
 have hp : (j - 1) / 2 < l.length := by omega
 have hg := fun k => swapL_get l ((j - 1) / 2) j k hp hj
 refine ⟨fun k hk h0' hkl => ?_, fun k h0' hkl hkp hp0 => ?_⟩
 ·rw [swapL_len] at hkl
  rw [hg, hg]
  by_cases e1 : k = j
  ·subst e1
   rw [if_pos rfl, if_neg (by omega), if_pos rfl]
   omega
  ·rw [if_neg e1]
   by_cases e2 : (k - 1) / 2 = j
   ·rw [if_pos e2, if_neg hk]
    exact h2 k h0' hkl e2 h0
   ·rw [if_neg e2]
    by_cases e3 : (k - 1) / 2 = (j - 1) / 2
    ·rw [if_pos e3, if_neg hk]
     have := h1 k e1 h0' hkl
     rw [e3] at this
     omega
    ·rw [if_neg e3, if_neg hk]
     exact h1 k e1 h0' hkl
 ·rw [swapL_len] at hkl
  rw [hg, hg]
  have e1 : ((j - 1) / 2 - 1) / 2 ≠ j := by omega
  have e2 : ((j - 1) / 2 - 1) / 2 ≠ (j - 1) / 2 := by omega
  rw [if_neg e1, if_neg e2]
  have hpp := h1 ((j - 1) / 2) (by omega) hp0 hp
  by_cases e3 : k = j
  ·subst e3; rw [if_pos rfl]; exact hpp
  ·have e4 : k ≠ (j - 1) / 2 := by omega
   rw [if_neg e3, if_neg e4]
   have := h1 k e3 h0' hkl
   rw [hkp] at this
   omega
theorem upF_heap : ∀ (n : Nat) (l : List Int) (j : Nat), j < l.length → j < n → heapUp l j → isHeap (upF n l j) := by
 intro n
 induction n with
 | zero => intro l j _ h; omega
 | succ n ih =>
  intro l j hj hn h
  unfold upF
  split
  ·rename_i hc
   intro k
   by_cases hk : k = j
   ·subst hk
    intro h0 hkl
    rcases hc with hc | hc
    ·omega
    ·omega
   ·exact h.1 k hk
  ·rename_i hc
   have h0 : 0 < j := by omega
   exact ih _ _ (by rw [swapL_len]; omega) (by omega) (heapUp_swap h hj h0 (by omega))
theorem push_heap {l : List Int} (h : isHeap l) (x : Int) : isHeap (upF (l.length + 1) (l ++ [x]) l.length) := by
 refine upF_heap _ _ _ (by simp) (by omega) ⟨fun k hk h0 hkl => ?_, fun k h0 hkl hkp _ => ?_⟩
 ·have hkl' : k < l.length := by simp at hkl; omega
  have := h k h0 hkl'
  simpa [List.getD, List.getElem?_append_left hkl', List.getElem?_append_left (show (k - 1) / 2 < l.length by omega)] using this
 ·simp at hkl; omega
def heapDn (l : List Int) (n i : Nat) : Prop := (∀ k, 0 < k → k < n → (k - 1) / 2 ≠ i → l.getD ((k - 1) / 2) 0 ≤ l.getD k 0) ∧ ∀ k, 0 < k → k < n → (k - 1) / 2 = i → 0 < i → l.getD ((i - 1) / 2) 0 ≤ l.getD k 0
def kidF (l : List Int) (n i : Nat) : Nat := if 2 * i + 2 < n ∧ l.getD (2 * i + 2) 0 < l.getD (2 * i + 1) 0 then 2 * i + 2 else 2 * i + 1
def downF : Nat → List Int → Nat → Nat → List Int
 | 0, l, _, _ => l
 | f + 1, l, n, i =>
  if n ≤ 2 * i + 1 ∨ ¬ l.getD (kidF l n i) 0 < l.getD i 0 then l else downF f (swapL l i (kidF l n i)) n (kidF l n i)
theorem kidF_lt {l : List Int} {n i : Nat} (h : 2 * i + 1 < n) : kidF l n i < n ∧ i < kidF l n i ∧ (kidF l n i - 1) / 2 = i := by
 unfold kidF; split <;> omega
theorem downF_perm : ∀ (f : Nat) (l : List Int) (n i : Nat), n ≤ l.length → (downF f l n i).Perm l := by
 intro f
 induction f with
 | zero => intro l n i _; exact List.Perm.refl _
 | succ f ih =>
  intro l n i hn
  unfold downF
  split
  ·exact List.Perm.refl _
  ·rename_i hc
   have hk := kidF_lt (l := l) (n := n) (i := i) (by omega)
   exact (ih _ _ _ (by rw [swapL_len]; exact hn)).trans (swapL_perm l _ _ (by omega) (by omega))
theorem downF_len (f : Nat) (l : List Int) (n i : Nat) (h : n ≤ l.length) : (downF f l n i).length = l.length := (downF_perm f l n i h).length_eq
theorem downF_tail : ∀ (f : Nat) (l : List Int) (n i : Nat), n ≤ l.length → ∀ k, n ≤ k → (downF f l n i).getD k 0 = l.getD k 0 := by
 intro f
 induction f with
 | zero => intro l n i _ k _; rfl
 | succ f ih =>
  intro l n i hn k hk
  unfold downF
  split
  ·rfl
  ·rename_i hc
   have h := kidF_lt (l := l) (n := n) (i := i) (by omega)
   rw [ih _ _ _ (by rw [swapL_len]; exact hn) k hk, swapL_get l _ _ _ (by omega) (by omega), if_neg (by omega), if_neg (by omega)]
theorem heapDn_swap {l : List Int} {n i : Nat} (h : heapDn l n i) (hn : n ≤ l.length) (hi : 2 * i + 1 < n) (hlt : l.getD (kidF l n i) 0 < l.getD i 0) : heapDn (swapL l i (kidF l n i)) n (kidF l n i) := by
 obtain ⟨h1, h2⟩ := h
 have hk := kidF_lt (l := l) (n := n) (i := i) hi
 have hmin : ∀ k, 0 < k → k < n → (k - 1) / 2 = i → l.getD (kidF l n i) 0 ≤ l.getD k 0 := fun k k0 kn kp => by
  have hk12 : k = 2 * i + 1 ∨ k = 2 * i + 2 := by omega
  unfold kidF
  rcases hk12 with rfl | rfl
  ·split <;> omega
  ·split <;> omega
 generalize hj : kidF l n i = j at *
 have hg := fun k => swapL_get l i j k (by omega) (by omega)
 refine ⟨fun k h0 hkn hkp => ?_, fun k h0 hkn hkp _ => ?_⟩
 ·rw [hg, hg, if_neg hkp]
  by_cases e1 : (k - 1) / 2 = i
  ·rw [if_pos e1]
   by_cases e2 : k = j
   ·rw [if_pos e2]; omega
   ·rw [if_neg e2, if_neg (by omega)]
    exact hmin k h0 hkn e1
  ·rw [if_neg e1]
   by_cases e2 : k = i
   ·subst e2
    rw [if_neg (by omega), if_pos rfl]
    exact h2 j (by omega) hk.1 hk.2.2 h0
   ·rw [if_neg (by omega : k ≠ j), if_neg e2]
    exact h1 k h0 hkn e1
 ·rw [hg, hg, hk.2.2, if_neg (by omega), if_pos rfl, if_neg (by omega), if_neg (by omega)]
  have := h1 k h0 hkn (by omega)
  rw [hkp] at this
  exact this
theorem downF_heap : ∀ (f : Nat) (l : List Int) (n i : Nat), n ≤ l.length → n ≤ i + f → heapDn l n i → ∀ k, 0 < k → k < n → (downF f l n i).getD ((k - 1) / 2) 0 ≤ (downF f l n i).getD k 0 := by
 intro f
 induction f with
 | zero =>
  intro l n i hn hf h k h0 hkn
  exact h.1 k h0 hkn (by omega)
 | succ f ih =>
  intro l n i hn hf h
  unfold downF
  split
  ·rename_i hc
   intro k h0 hkn
   by_cases hkp : (k - 1) / 2 = i
   ·rcases hc with hc | hc
    ·omega
    ·have hk12 : k = 2 * i + 1 ∨ k = 2 * i + 2 := by omega
     rw [hkp]
     unfold kidF at hc
     rcases hk12 with rfl | rfl
     ·split at hc <;> omega
     ·split at hc <;> omega
   ·exact h.1 k h0 hkn hkp
  ·rename_i hc
   have hk := kidF_lt (l := l) (n := n) (i := i) (by omega)
   exact ih _ _ _ (by rw [swapL_len]; exact hn) (by omega) (heapDn_swap h hn (by omega) (by omega))
def popF (l : List Int) : List Int := (downF l.length (swapL l 0 (l.length - 1)) (l.length - 1) 0).take (l.length - 1)
theorem pop_last {l : List Int} (h : l ≠ []) : (downF l.length (swapL l 0 (l.length - 1)) (l.length - 1) 0).getD (l.length - 1) 0 = l.getD 0 0 := by
 have hl : 0 < l.length := List.length_pos_iff.2 h
 rw [downF_tail _ _ _ _ (by rw [swapL_len]; omega) _ (Nat.le_refl _), swapL_get l _ _ _ hl (by omega), if_pos rfl]
theorem pop_perm {l : List Int} (h : l ≠ []) : (l.getD 0 0 :: popF l).Perm l := by
 have hl : 0 < l.length := List.length_pos_iff.2 h
 have h1 := downF_perm l.length (swapL l 0 (l.length - 1)) (l.length - 1) 0 (by rw [swapL_len]; omega)
 have h2 := swapL_perm l 0 (l.length - 1) hl (by omega)
 have h3 := pop_last h
 have h4 := h1.length_eq
 rw [swapL_len] at h4
 unfold popF
 generalize downF l.length (swapL l 0 (l.length - 1)) (l.length - 1) 0 = m at *
 have hm : m = m.take (l.length - 1) ++ [l.getD 0 0] := by
  conv => lhs; rw [← List.take_append_drop (l.length - 1) m]
  rw [List.drop_eq_getElem_cons (by omega), List.drop_of_length_le (by omega)]
  congr 2
  rw [← h3, List.getD, List.getElem?_eq_getElem (by omega)]
  rfl
 have h5 : (l.getD 0 0 :: m.take (l.length - 1)).Perm m := by
  conv => rhs; rw [hm]
  exact (List.perm_append_comm (l₁ := [l.getD 0 0]) (l₂ := m.take (l.length - 1)))
 exact h5.trans (h1.trans h2)
theorem pop_heap {l : List Int} (h : isHeap l) : isHeap (popF l) := by
 intro k h0 hkl
 have hlen : (popF l).length ≤ l.length - 1 := by unfold popF; rw [List.length_take]; omega
 have hn : l.length - 1 ≤ (swapL l 0 (l.length - 1)).length := by rw [swapL_len]; omega
 have hk : k < l.length - 1 := by omega
 have hd : heapDn (swapL l 0 (l.length - 1)) (l.length - 1) 0 := by
  refine ⟨fun k k0 kn kp => ?_, fun k _ _ _ h => by omega⟩
  rw [swapL_get l _ _ _ (by omega) (by omega), swapL_get l _ _ _ (by omega) (by omega), if_neg (by omega), if_neg (by omega), if_neg (by omega), if_neg (by omega)]
  exact h k k0 (by omega)
 have := downF_heap l.length _ _ 0 hn (by omega) hd k h0 hk
 unfold popF
 have ht : ∀ (m : List Int) (n k : Nat), k < n → (m.take n).getD k 0 = m.getD k 0 := fun m n k hk => by
  rw [List.getD, List.getD, List.getElem?_take_of_lt hk]
 rw [ht _ _ _ hk, ht _ _ _ (by omega)]
 exact this
end Go.Proofs.Ytjeplogcfedmeaa
end
section
namespace Go.Proofs.Ytjeplogcfedmeaa
inductive Rch (R : Nat → Nat → Prop) : Nat → Nat → Prop
 | one {a b : Nat} : R a b → Rch R a b
 | more {a b c : Nat} : Rch R a b → R b c → Rch R a c
theorem Rch.trans {R : Nat → Nat → Prop} {a b c : Nat} (h : Rch R a b) (g : Rch R b c) : Rch R a c := by
 induction g with
 | one h1 => exact .more h h1
 | more _ h1 ih => exact .more ih h1
theorem Rch.front {R : Nat → Nat → Prop} {a c : Nat} (h : Rch R a c) : ∃ b, R a b ∧ (b = c ∨ Rch R b c) := by
 induction h with
 | one h1 => exact ⟨_, h1, .inl rfl⟩
 | more _ h1 ih =>
  obtain ⟨b, hb, h2⟩ := ih
  refine ⟨b, hb, .inr ?_⟩
  rcases h2 with rfl | h2
  ·exact .one h1
  ·exact .more h2 h1
def RchS (R : Nat → Nat → Prop) (fr : List Nat) (k : Nat) : Prop := ∃ a ∈ fr, Rch R a k
structure Srch (R : Nat → Nat → Prop) (fr Q : List Nat) (i : Nat) : Prop where
 nd : Q.Nodup
 ok : ∀ k ∈ Q, RchS R fr k
 cl : ∀ x ∈ (fr ++ Q).take i, ∀ k, R x k → k ∈ Q
theorem Srch.nil (R : Nat → Nat → Prop) (fr : List Nat) : Srch R fr [] 0 := ⟨List.nodup_nil, fun _ h => (by cases h), fun _ h => (by simp at h)⟩
theorem Srch.done {R : Nat → Nat → Prop} {fr Q : List Nat} {i : Nat} (h : Srch R fr Q i) (hi : (fr ++ Q).length ≤ i) (k : Nat) : k ∈ Q ↔ RchS R fr k := by
 refine ⟨h.ok k, fun ⟨a, ha, hr⟩ => ?_⟩
 have hall : ∀ x ∈ fr ++ Q, ∀ k, R x k → k ∈ Q := fun x hx k hk => h.cl x (by rw [List.take_of_length_le hi]; exact hx) k hk
 have gen : ∀ c, Rch R a c → c ∈ Q := fun c hr => by
  induction hr with
  | one h1 => exact hall _ (List.mem_append_left _ ha) _ h1
  | more _ h1 ih => exact hall _ (List.mem_append_right _ ih) _ h1
 exact gen k hr
theorem Srch.add {R : Nat → Nat → Prop} {fr Q : List Nat} {i x k : Nat} (h : Srch R fr Q i) (hx : (fr ++ Q)[i]? = some x) (hk : R x k) (hn : k ∉ Q) : Srch R fr (Q ++ [k]) i := by
 have hlt : i < (fr ++ Q).length := by
  rcases Nat.lt_or_ge i (fr ++ Q).length with h' | h'
  ·exact h'
  ·rw [List.getElem?_eq_none h'] at hx; cases hx
 have hxm := List.mem_of_getElem? hx
 refine ⟨?_, fun y hy => ?_, fun y hy z hz => ?_⟩
 ·rw [List.nodup_append]
  exact ⟨h.nd, by simp, fun a ha b hb hab => by simp at hb; subst hb; subst hab; exact hn ha⟩
 ·rcases List.mem_append.1 hy with hy | hy
  ·exact h.ok y hy
  ·simp at hy
   subst hy
   rcases List.mem_append.1 hxm with hxm | hxm
   ·exact ⟨x, hxm, .one hk⟩
   ·obtain ⟨a, ha, hr⟩ := h.ok x hxm
    exact ⟨a, ha, .more hr hk⟩
 ·rw [← List.append_assoc, List.take_append_of_le_length (by omega)] at hy
  exact List.mem_append_left _ (h.cl y hy z hz)
theorem Srch.next {R : Nat → Nat → Prop} {fr Q : List Nat} {i x : Nat} (h : Srch R fr Q i) (hx : (fr ++ Q)[i]? = some x) (hall : ∀ k, R x k → k ∈ Q) : Srch R fr Q (i + 1) := by
 refine ⟨h.nd, h.ok, fun y hy z hz => ?_⟩
 have hlt : i < (fr ++ Q).length := by
  rcases Nat.lt_or_ge i (fr ++ Q).length with h' | h'
  ·exact h'
  ·rw [List.getElem?_eq_none h'] at hx; cases hx
 rw [List.take_succ_eq_append_getElem hlt] at hy
 rcases List.mem_append.1 hy with hy | hy
 ·exact h.cl y hy z hz
 ·simp at hy
  rw [List.getElem?_eq_getElem hlt] at hx
  injection hx with hx
  rw [hx] at hy
  subst hy
  exact hall z hz
theorem nodup_le {n : Nat} : ∀ {Q : List Nat}, Q.Nodup → (∀ k ∈ Q, k < n) → Q.length ≤ n := by
 induction n with
 | zero =>
  intro Q _ h
  cases Q with
  | nil => simp
  | cons k Q => exact absurd (h k (.head _)) (by omega)
 | succ n ih =>
  intro Q hn h
  have h1 : (Q.filter (· ≠ n)).length ≤ n := ih (hn.filter _) fun k hk => by
   simp at hk
   have := h k hk.1
   omega
  have h2 : Q.length ≤ (Q.filter (· ≠ n)).length + 1 := by
   clear h1 h ih
   induction Q with
   | nil => simp
   | cons k Q ih =>
    rw [List.nodup_cons] at hn
    by_cases hk : k = n
    ·subst hk
     have hf : Q.filter (· ≠ k) = Q := List.filter_eq_self.2 fun a ha => by simp; rintro rfl; exact hn.1 ha
     rw [List.filter_cons_of_neg (by simp), hf]
     simp
    ·rw [List.filter_cons_of_pos (by simpa using hk)]
     have := ih hn.2
     simp only [List.length_cons]
     omega
  omega
def dcnt (K gone : List Nat) (l : List Nat) : Nat := (l.filter fun k => decide (k ∈ K) && !decide (k ∈ gone)).length
theorem dcnt_pos {K gone l : List Nat} {y : Nat} (h1 : y ∈ l) (h2 : y ∈ K) (h3 : y ∉ gone) : 0 < dcnt K gone l := by
 unfold dcnt
 exact List.length_pos_of_mem (List.mem_filter.2 ⟨h1, by simp [h2, h3]⟩)
theorem dcnt_snoc {K gone l : List Nat} {b : Nat} (hb : b ∈ K) (hg : b ∉ gone) : dcnt K gone l = dcnt K (gone ++ [b]) l + l.count b := by
 unfold dcnt
 induction l with
 | nil => rfl
 | cons x l ih =>
  by_cases hx : x = b
  ·subst hx
   rw [List.filter_cons_of_pos (by simp [hb, hg]), List.filter_cons_of_neg (by simp [hb]), List.count_cons_self, List.length_cons, ih]
   omega
  ·rw [List.count_cons_of_ne hx]
   by_cases hk : x ∈ K ∧ x ∉ gone
   ·rw [List.filter_cons_of_pos (by simp [hk.1, hk.2]), List.filter_cons_of_pos (by simp [hk.1, hk.2, hx]), List.length_cons, List.length_cons, ih]
    omega
   ·rw [List.filter_cons_of_neg (by simp only [Bool.and_eq_true, decide_eq_true_eq, Bool.not_eq_true', decide_eq_false_iff_not]; exact hk), List.filter_cons_of_neg (by simp only [Bool.and_eq_true, decide_eq_true_eq, Bool.not_eq_true', decide_eq_false_iff_not, List.mem_append, List.mem_singleton, hx, or_false]; exact hk), ih]
def Cyc (K : List Nat) (on : Nat → List Nat) (C : Nat → Prop) : Prop := ∀ x, C x → x ∈ K ∧ ∃ y ∈ on x, C y
structure Peel (K : List Nat) (on : Nat → List Nat) (bare : List Nat) (i : Nat) (cnt : Nat → Int) : Prop where
 nd : bare.Nodup
 sub : ∀ x ∈ bare, x ∈ K
 cn : ∀ x ∈ K, cnt x = dcnt K (bare.take i) (on x)
 zr : ∀ x ∈ K, x ∈ bare ↔ cnt x = 0
 cy : ∀ C, Cyc K on C → ∀ x, C x → x ∉ bare
structure PeelIn (K : List Nat) (on back : Nat → List Nat) (bare0 bare : List Nat) (i j b : Nat) (cnt : Nat → Int) : Prop where
 nd : bare.Nodup
 sub : ∀ x ∈ bare, x ∈ K
 pre : ∃ m, bare = bare0 ++ m
 at_ : bare0[i]? = some b
 nd0 : bare0.Nodup
 sub0 : ∀ x ∈ bare0, x ∈ K
 cn : ∀ x ∈ K, cnt x + ((back b).take j).count x = dcnt K (bare0.take i) (on x)
 z0 : ∀ x ∈ K, x ∈ bare0 ↔ dcnt K (bare0.take i) (on x) = 0
 zr : ∀ x ∈ K, x ∈ bare ↔ cnt x = 0
 cy : ∀ C, Cyc K on C → ∀ x, C x → x ∉ bare
section
variable {K : List Nat} {on back : Nat → List Nat} {bare bare0 : List Nat} {i j b : Nat} {cnt : Nat → Int}
theorem Peel.enter (h : Peel K on bare i cnt) (hb : bare[i]? = some b) : PeelIn K on back bare bare i 0 b cnt :=
 ⟨h.nd, h.sub, ⟨[], by simp⟩, hb, h.nd, h.sub, fun x hx => by rw [List.take_zero, List.count_nil, h.cn x hx]; simp, fun x hx => by rw [h.zr x hx, h.cn x hx]; omega, h.zr, h.cy⟩
theorem not_mem_take {l : List Nat} (h : l.Nodup) {i : Nat} {b : Nat} (hb : l[i]? = some b) : b ∉ l.take i := by
 have hlt : i < l.length := by
  rcases Nat.lt_or_ge i l.length with h' | h'
  ·exact h'
  ·rw [List.getElem?_eq_none h'] at hb; cases hb
 rw [List.getElem?_eq_getElem hlt] at hb
 injection hb with hb
 intro hm
 rw [← List.take_append_drop i l, List.nodup_append] at h
 exact h.2.2 b hm b (by rw [List.drop_eq_getElem_cons hlt, hb]; exact .head _) rfl
theorem PeelIn.b_in (h : PeelIn K on back bare0 bare i j b cnt) : b ∈ K := h.sub0 b (List.mem_of_getElem? h.at_)
theorem PeelIn.left (hc : ∀ x y, (on x).count y = (back y).count x) (h : PeelIn K on back bare0 bare i j b cnt) {x : Nat} (hx : (back b)[j]? = some x) (hK : x ∈ K) : x ∉ bare0.take (i + 1) := by
 intro hm
 have hx0 : x ∈ bare0 := List.mem_of_mem_take hm
 have h1 := (h.z0 x hK).1 hx0
 have h2 : 0 < (on x).count b := by rw [hc]; exact List.count_pos_iff.2 (List.mem_of_getElem? hx)
 have h3 := dcnt_pos (List.count_pos_iff.1 h2) h.b_in (not_mem_take h.nd0 h.at_)
 omega
theorem count_take_succ {l : List Nat} {j x : Nat} (hx : l[j]? = some x) (y : Nat) : (l.take (j + 1)).count y = (l.take j).count y + if x = y then 1 else 0 := by
 have hlt : j < l.length := by
  rcases Nat.lt_or_ge j l.length with h' | h'
  ·exact h'
  ·rw [List.getElem?_eq_none h'] at hx; cases hx
 rw [List.getElem?_eq_getElem hlt] at hx
 injection hx with hx
 rw [List.take_succ_eq_append_getElem hlt, List.count_append, hx, List.count_singleton]
 by_cases hxy : x = y <;> simp [hxy]
theorem PeelIn.skip (h : PeelIn K on back bare0 bare i j b cnt) {x : Nat} (hx : (back b)[j]? = some x) (hK : x ∉ K) : PeelIn K on back bare0 bare i (j + 1) b cnt :=
 ⟨h.nd, h.sub, h.pre, h.at_, h.nd0, h.sub0, fun y hy => by
  rw [count_take_succ hx, if_neg (by rintro rfl; exact hK hy), Nat.add_zero]; exact h.cn y hy, h.z0, h.zr, h.cy⟩
theorem PeelIn.step (hc : ∀ x y, (on x).count y = (back y).count x) (h : PeelIn K on back bare0 bare i j b cnt) {x : Nat} (hx : (back b)[j]? = some x) (hK : x ∈ K) {cnt' : Nat → Int} (h' : ∀ y, cnt' y = if y = x then cnt x - 1 else cnt y) :
  PeelIn K on back bare0 (if cnt x - 1 = 0 then bare ++ [x] else bare) i (j + 1) b cnt' := by
 have hcx := h.cn x hK
 have hct := count_take_succ hx
 have hle : ((back b).take (j + 1)).count x ≤ dcnt K (bare0.take i) (on x) := by
  have h1 : ((back b).take (j + 1)).count x ≤ (back b).count x := List.Sublist.count_le _ (List.take_sublist _ _)
  rw [← hc] at h1
  have h2 := dcnt_snoc (l := on x) h.b_in (not_mem_take h.nd0 h.at_)
  omega
 rw [hct, if_pos rfl] at hle
 have hpos : 0 < cnt x := by omega
 have hnb : x ∉ bare := fun hm => by have := (h.zr x hK).1 hm; omega
 have hcn : ∀ y ∈ K, cnt' y + ((back b).take (j + 1)).count y = dcnt K (bare0.take i) (on y) := fun y hy => by
  have := h.cn y hy
  rw [hct, h']
  by_cases hyx : y = x
  ·subst hyx; rw [if_pos rfl, if_pos rfl]; omega
  ·rw [if_neg hyx, if_neg (Ne.symm hyx)]; omega
 have hcy : ∀ C, Cyc K on C → ∀ y, C y → 0 < cnt' y := fun C hC y hy => by
  obtain ⟨hyK, z, hz, hCz⟩ := hC y hy
  have h1 := hcn y hyK
  have hzb : z ∉ bare := h.cy C hC z hCz
  have hz0 : z ∉ bare0.take i ++ [b] := fun hm => hzb (by
   obtain ⟨m, hm'⟩ := h.pre
   rw [hm']
   refine List.mem_append_left _ ?_
   rcases List.mem_append.1 hm with hm | hm
   ·exact List.mem_of_mem_take hm
   ·simp at hm; subst hm; exact List.mem_of_getElem? h.at_)
  have h2 := dcnt_snoc (l := on y) h.b_in (not_mem_take h.nd0 h.at_)
  have h3 := dcnt_pos hz (hC z hCz).1 hz0
  have h4 : ((back b).take (j + 1)).count y ≤ (back b).count y := List.Sublist.count_le _ (List.take_sublist _ _)
  rw [← hc] at h4
  omega
 by_cases hz : cnt x - 1 = 0
 ·rw [if_pos hz]
  refine ⟨?_, fun y hy => ?_, ?_, h.at_, h.nd0, h.sub0, hcn, h.z0, fun y hy => ?_, fun C hC y hy hm => ?_⟩
  ·rw [List.nodup_append]
   exact ⟨h.nd, by simp, fun a ha c hc' hac => by simp at hc'; subst hc'; subst hac; exact hnb ha⟩
  ·rcases List.mem_append.1 hy with hy | hy
   ·exact h.sub y hy
   ·simp at hy; subst hy; exact hK
  ·obtain ⟨m, hm⟩ := h.pre
   exact ⟨m ++ [x], by rw [hm, List.append_assoc]⟩
  ·rw [List.mem_append, List.mem_singleton, h']
   by_cases hyx : y = x
   ·subst hyx; rw [if_pos rfl]; simp [hz]
   ·rw [if_neg hyx]; simp only [hyx, or_false]; exact h.zr y hy
  ·rcases List.mem_append.1 hm with hm | hm
   ·exact h.cy C hC y hy hm
   ·simp at hm
    subst hm
    have := hcy C hC y hy
    rw [h', if_pos rfl] at this
    omega
 ·rw [if_neg hz]
  refine ⟨h.nd, h.sub, h.pre, h.at_, h.nd0, h.sub0, hcn, h.z0, fun y hy => ?_, h.cy⟩
  rw [h']
  by_cases hyx : y = x
  ·subst hyx; rw [if_pos rfl]; exact ⟨fun hm => absurd hm hnb, fun h0 => absurd h0 hz⟩
  ·rw [if_neg hyx]; exact h.zr y hy
theorem PeelIn.leave (hc : ∀ x y, (on x).count y = (back y).count x) (h : PeelIn K on back bare0 bare i j b cnt) (hj : (back b).length ≤ j) : Peel K on bare (i + 1) cnt := by
 obtain ⟨m, hm⟩ := h.pre
 have hlt : i < bare0.length := by
  have := h.at_
  rcases Nat.lt_or_ge i bare0.length with h' | h'
  ·exact h'
  ·rw [List.getElem?_eq_none h'] at this; cases this
 have ht : bare.take (i + 1) = bare0.take i ++ [b] := by
  rw [hm, List.take_append_of_le_length (by omega), List.take_succ_eq_append_getElem hlt]
  have := h.at_
  rw [List.getElem?_eq_getElem hlt] at this
  injection this with this
  rw [this]
 refine ⟨h.nd, h.sub, fun x hx => ?_, h.zr, h.cy⟩
 have h1 := h.cn x hx
 rw [List.take_of_length_le hj, ← hc] at h1
 have h2 := dcnt_snoc (l := on x) h.b_in (not_mem_take h.nd0 h.at_)
 rw [ht]
 omega
theorem Peel.init (hnd : bare.Nodup) (hb : ∀ x, x ∈ bare ↔ x ∈ K ∧ dcnt K [] (on x) = 0) (hcn : ∀ x ∈ K, cnt x = dcnt K [] (on x)) : Peel K on bare 0 cnt :=
 ⟨hnd, fun x hx => ((hb x).1 hx).1, fun x hx => by rw [List.take_zero]; exact hcn x hx, fun x hx => by
  rw [hb, hcn x hx]
  exact ⟨fun h => by omega, fun h => ⟨hx, by omega⟩⟩, fun C hC x hx hm => by
  obtain ⟨_, y, hy, hCy⟩ := hC x hx
  have := dcnt_pos (gone := []) hy (hC y hCy).1 (by simp)
  have := ((hb x).1 hm).2
  omega⟩
end
section
variable {R : Nat → Nat → Prop} {K : List Nat} {on back : Nat → List Nat}
theorem cyc_on (hon : ∀ x ∈ K, ∀ y, y ∈ on x ↔ R x y) (hcl : ∀ x ∈ K, ∀ y, R x y → y ∈ K) {x : Nat} (hx : x ∈ K) : Cyc K on (fun y => Rch R x y ∧ Rch R y x) := fun y ⟨h1, h2⟩ => by
 have hK : ∀ z, Rch R x z → z ∈ K := fun z hz => by
  induction hz with
  | one h => exact hcl x hx _ h
  | more _ h ih => exact hcl _ ih _ h
 have hyK := hK y h1
 refine ⟨hyK, ?_⟩
 obtain ⟨z, hz, h3⟩ := h2.front
 refine ⟨z, (hon y hyK z).2 hz, h1.more hz, ?_⟩
 rcases h3 with rfl | h3
 ·exact h1.trans h2
 ·exact h3
theorem cyc_back {x : Nat} {K1 : List Nat} (hK1 : ∀ y, Rch R x y → Rch R y x → y ∈ K1) (hback : ∀ y ∈ K1, ∀ z, z ∈ K1 → (z ∈ back y ↔ R z y)) : Cyc K1 back (fun y => Rch R x y ∧ Rch R y x) := fun y ⟨h1, h2⟩ => by
 have hy := hK1 y h1 h2
 refine ⟨hy, ?_⟩
 cases h1 with
 | one h =>
  have hxx : Rch R x x := (Rch.one h).trans h2
  exact ⟨x, (hback y hy x (hK1 x hxx hxx)).2 h, hxx, hxx⟩
 | @more z _ h h' =>
  have hzx : Rch R z x := (Rch.one h').trans h2
  exact ⟨z, (hback y hy z (hK1 z h hzx)).2 h', h, hzx⟩
end
end Go.Proofs.Ytjeplogcfedmeaa
end
section
namespace Go.Proofs.Ytjeplogcfedmeaa
open Go.RowKit
set_option maxRecDepth 100000
structure StM where
 place : Int
 kids : Int
 table : Int
 parts : Int
 free : Int
 left : Int
deriving DecidableEq
def StM.zero : StM := ⟨0, 0, 0, 0, 0, 0⟩
def StM.still (s : StM) : StM := { s with free := 0 }
def StM.at_ (s : StM) (p : Int) : StM := { s with place := p, free := 0 }
def StM.wth (s : StM) (f : Int) : StM := { s with free := f }
def bitG (kids k : Int) : Bool := decide (bits .and .u64 (kids.fdiv (2 ^ min k.toNat 64)) 1 = 1)
def bitS (kids k : Int) : Int := bits .or .u64 kids (IntKind.u64.wrap (1 * 2 ^ min k.toNat 64))
def StM.fill (s : StM) (k : Int) : StM × Bool :=
 if s.place = 0 then (s.at_ 4, decide (k = -1)) else if s.place = 3 then (s.at_ 4, decide (k ≤ 0))
 else if s.place = 1 then (s.still, decide (k = -1) && (decide (s.free = 1) || decide (s.free = 2)))
 else if s.place = 2 then (if k < 0 ∨ bitG s.kids k = true then (s, false) else (({ s with kids := bitS s.kids k } : StM).still, true))
 else (s, false)
def StM.take (s : StM) (n : Int) : StM × Bool :=
 if s.place = 5 ∧ n = 1 then (⟨6, 0, 0, 0, 0, 0⟩, true)
 else if s.place = 6 then ({ s with left := IntKind.i64.wrap (s.left - n) }, decide (0 ≤ IntKind.i64.wrap (s.left - n)))
 else (s, false)
def StM.turn (s : StM) : StM × Bool := (s.still, decide (s.place = 7) && decide (s.free = 2))
def StM.over (s : StM) : Bool :=
 if s.place = 1 ∨ s.place = 4 then true
 else if s.place = 2 then decide (s.kids ≠ 0) && decide (bits .and .u64 s.kids (IntKind.u64.wrap (s.kids + 1)) = 0)
 else if s.place = 6 then decide (s.left = 0)
 else false
structure EfM where
 next : StM
 target : StM
deriving DecidableEq
def both (s : StM) : EfM := ⟨s, s⟩
def EfM.zero : EfM := ⟨.zero, .zero⟩
def StM.offset (s : StM) (f : Int) : EfM × Bool :=
 if s.place = 2 then (both ({ s with table := IntKind.i64.wrap (s.table + 1) } : StM).still, decide (s.parts = 0) && decide (s.table < 64))
 else (both ({ s with table := -1 } : StM).still, decide (s.place = 1) && (decide (s.free = 1) && decide (f ≤ 4194304) || decide (s.free = 3)))
def StM.part (s : StM) (x : InsM) : EfM × Bool :=
 if x.a = -1 then (both s.still, decide (s.place = 1) && decide (s.free = 4))
 else (both { (s.fill x.a).1 with parts := IntKind.i64.wrap ((s.fill x.a).1.parts + 1) }, (s.fill x.a).2 && decide (s.place = 2) && decide (x.b = s.parts) && decide (x.b < s.table))
def runN : Nat → Int → StM → Bool → StM × Bool
 | 0, _, s, ok => (s, ok)
 | n + 1, k, s, ok => if ok = true then runN n (k + 1) (s.fill k).1 (s.fill k).2 else (s, ok)
def StM.run (s : StM) (x : InsM) : EfM × Bool :=
 let r := runN x.b.toNat x.a s (decide (s.place = 2))
 (both r.1, r.2)
def StM.rounds (s : StM) (x : InsM) : EfM × Bool :=
 let q := decide (s.place = 1)
 let t := decide (s.table = -1)
 if x.op = 11 then (⟨{ s.still with table := -1 }, s.still⟩, q && decide (s.table = 0))
 else if x.op = 12 then (⟨s.still, s.still.wth 3⟩, q && t)
 else if x.op = 13 then (⟨s.still.wth 2, s.still⟩, q)
 else if x.op = 14 then (⟨s.still, s.still.wth 2⟩, q)
 else if x.op = 15 then (⟨s.still, s.still.wth 4⟩, q && t)
 else (both s.still, decide (x.a = -1) && q && t || decide (x.a ≠ -1) && decide (s.place = 2) && decide (x.a < s.parts))
def decS (s : StM) (x : InsM) (t : Int) : EfM × Bool :=
 let nobody := decide (s.place = 0)
 if x.op = 16 then (if t ≤ x.c then (.zero, false) else (both (s.fill x.a).1, (s.fill x.a).2))
 else if x.op = 1 ∨ x.op = 3 ∨ x.op = 4 then (both (s.fill x.a).1, (s.fill x.a).2)
 else if x.op = 2 then s.run x
 else if x.op = 5 then (both ((s.at_ 1).wth 1), nobody)
 else if x.op = 6 then (both (s.at_ 2), nobody)
 else if x.op = 7 then (⟨s.at_ 3, s.at_ 4⟩, nobody)
 else if x.op = 8 then (both (s.at_ 3), nobody)
 else if x.op = 10 then s.offset x.a
 else if x.op = 17 then (if t ≤ x.c then (.zero, false) else s.part x)
 else if x.op = 11 ∨ x.op = 12 ∨ x.op = 13 ∨ x.op = 14 ∨ x.op = 15 ∨ x.op = 18 then s.rounds x
 else if x.op = 19 then (both s, true)
 else if x.op = 20 then (.zero, s.over)
 else (.zero, false)
def encS (s : StM) (x : InsM) (t : Int) : EfM × Bool :=
  let anew := decide (s.place = 5)
  if x.op = 44 ∨ x.op = 45 ∨ x.op = 46 then
    (if t ≤ x.c then (.zero, false)
     else if x.op = 45 ∨ x.op = 46 ∧ s.place = 7 then (both s.turn.1, s.turn.2) else (both (s.take 1).1, (s.take 1).2))
  else if x.op = 33 ∨ x.op = 35 ∨ x.op = 36 then (if x.a = -1 then (both s.turn.1, s.turn.2) else (both (s.take 1).1, (s.take 1).2))
  else if x.op = 34 then (both (s.take x.b).1, (s.take x.b).2 && decide (s.place = 6))
  else if x.op = 37 then (both ⟨7, 0, 0, 0, 2, 0⟩, anew)
  else if x.op = 38 then (both ⟨7, 0, 0, 0, 0, 0⟩, anew)
  else if x.op = 39 then (both ⟨6, 0, 0, 0, 0, x.a⟩, anew)
  else if x.op = 40 then (⟨⟨6, 0, 0, 0, 0, 1⟩, ⟨6, 0, 0, 0, 0, 0⟩⟩, anew)
  else if x.op = 41 then (both ⟨6, 0, 0, 0, 0, 1⟩, anew)
  else if x.op = 42 then (both s, decide (s.place = 7) || decide (s.place = 6) && !decide (x.a = -1))
  else if x.op = 43 then (both s, decide (s.place = 6) && !decide (x.a = -1) || decide (s.place = 7) && decide (x.a = -1) && decide (s.free = 2))
  else if x.op = 47 then (⟨⟨6, 0, 0, 0, 0, 0⟩, ⟨7, 0, 0, 0, 2, 0⟩⟩, decide (s.place = 7))
  else if x.op = 19 then (both s, true)
  else if x.op = 20 then (.zero, decide (s.place = 6) && s.over)
  else (.zero, false)
def standF (e : Bool) (x : InsM) (s : StM) (t : Int) : EfM × Bool := if e = true then encS s x t else decS s x t
def waysF (C : List InsM) (at_ : Nat) (x : InsM) : List Int :=
 if x.op = 19 then [x.b]
 else if x.op = 20 ∨ x.op = 9 then []
 else if x.op = 8 ∨ x.op = 41 then (List.range x.a.toNat).map fun k => ((C[at_ + 1 + k]?).map (·.b)).getD 0
 else if x.op = 7 ∨ x.op = 11 ∨ x.op = 12 ∨ x.op = 13 ∨ x.op = 14 ∨ x.op = 15 ∨ x.op = 40 ∨ x.op = 47 then [(at_ : Int) + 1, x.b]
 else [(at_ : Int) + 1]
end Go.Proofs.Ytjeplogcfedmeaa
end
section
namespace Go.Proofs.Ytjeplogcfedmeaa
open Go.RowKit
set_option maxRecDepth 100000
instance : Inhabited InsM := ⟨⟨0, 0, 0, 0⟩⟩
abbrev LkM := List (Option StM)
def insAt (C : List InsM) (k : Nat) : InsM := C.getD k ⟨0, 0, 0, 0⟩
def stAt (L : LkM) (k : Nat) : StM := (L.getD k none).getD .zero
def handF (e : Bool) (C : List InsM) (L : LkM) (k : Nat) (s : StM) (t : Int) : Option LkM :=
 match L.getD k none with
 | none => some (L.set k (some s))
 | some s0 => if s0 = s then some L else if (standF e (insAt C k) s t).2 = true ∧ (standF e (insAt C k) s0 t).1 = (standF e (insAt C k) s t).1 then some L else none
def handS (e : Bool) (C : List InsM) (t : Int) (E : EfM) (arms : Bool) : List Int → Nat → LkM → Except Int LkM
 | [], _, L => .ok L
 | k :: ks, w, L =>
  match handF e C L k.toNat (if w = 1 ∧ arms = false then E.target else E.next) t with
  | none => .error k
  | some L' => handS e C t E arms ks (w + 1) L'
def armsB (x : InsM) : Bool := decide (x.op = 8) || decide (x.op = 41)
def goesF (e : Bool) (C : List InsM) (k : Nat) (L : LkM) (t : Int) : Except Int LkM :=
 let x := insAt C k
 let r := standF e x (stAt L k) t
 if r.2 = false ∨ (waysF C k x).any (fun j => decide ((C.length : Int) ≤ j)) = true then .error k
 else handS e C t r.1 (armsB x) (waysF C k x) 0 L
def waitsB (L : LkM) (D : List Nat) (k : Nat) : Bool := (L.getD k none).isSome && !decide (k ∈ D)
def nextF (L : LkM) (D : List Nat) : Option Nat := (List.range L.length).find? (waitsB L D)
def loopF (e : Bool) (C : List InsM) (t : Int) : Nat → LkM → List Nat → Except Int (LkM × List Nat)
 | 0, L, D => .ok (L, D)
 | f + 1, L, D =>
  match nextF L D with
  | none => .ok (L, D)
  | some k =>
   match goesF e C k L t with
   | .error j => .error j
   | .ok L' => loopF e C t f L' (k :: D)
def beginS (e : Bool) : StM := if e = true then ⟨5, 0, 0, 0, 0, 0⟩ else .zero
def firstL (e : Bool) (C : List InsM) : List Int → Int → LkM → List Nat → Except Int (LkM × List Nat)
 | [], _, L, D => .ok (L, D)
 | n :: ns, t, L, D =>
  match handF e C L n.toNat (beginS e) t with
  | none => .error n
  | some L' =>
   match loopF e C t (C.length + 1 - D.length) L' D with
   | .error j => .error j
   | .ok (L2, D2) => firstL e C ns (t + 1) L2 D2
def firstF (e : Bool) (C : List InsM) (N : List Int) : Except Int (LkM × List Nat) := firstL e C N 0 (List.replicate C.length none) []
structure WtH (L : LkM) (D : List Nat) (W : List Int) : Prop where
 heap : isHeap W
 nd : W.Nodup
 mem : ∀ k : Int, k ∈ W ↔ 0 ≤ k ∧ waitsB L D k.toNat = true
theorem waits_lt {L : LkM} {D : List Nat} {k : Nat} (h : waitsB L D k = true) : k < L.length := by
 unfold waitsB at h
 rcases Nat.lt_or_ge k L.length with h' | h'
 ·exact h'
 ·simp [List.getD, List.getElem?_eq_none h'] at h
theorem getD_memW {W : List Int} (h : W ≠ []) : W.getD 0 0 ∈ W := by
 cases W with
 | nil => exact absurd rfl h
 | cons a W => simp [List.getD]
theorem heap_le {W : List Int} (h : isHeap W) {k : Int} (hk : k ∈ W) : W.getD 0 0 ≤ k := by
 obtain ⟨i, hi, rfl⟩ := List.mem_iff_getElem.1 hk
 have := heap_min h i hi
 rw [show W.getD i 0 = W[i] by simp [List.getD, hi]] at this
 exact this
theorem WtH.empty {L : LkM} {D : List Nat} {W : List Int} (h : WtH L D W) : W = [] ↔ nextF L D = none := by
 constructor
 ·rintro rfl
  rw [nextF, List.find?_eq_none]
  intro k _ hk
  have := (h.mem k).2 ⟨by omega, by simpa using hk⟩
  cases this
 ·intro hn
  rw [nextF, List.find?_eq_none] at hn
  cases W with
  | nil => rfl
  | cons a W =>
   have := (h.mem a).1 (.head _)
   exact absurd this.2 (hn _ (by rw [List.mem_range]; exact waits_lt this.2))
theorem range_find {n : Nat} {p : Nat → Bool} {k : Nat} (hk : k < n) (hp : p k = true) (hm : ∀ j, j < k → p j = false) : (List.range n).find? p = some k := by
 rw [List.find?_eq_some_iff_append]
 refine ⟨hp, List.range k, (List.range' (k + 1) (n - k - 1)), ?_, fun j hj => by rw [List.mem_range] at hj; simp [hm j hj]⟩
 rw [List.range_eq_range', List.range_eq_range']
 have h1 : List.range' 0 n = List.range' 0 k ++ List.range' (0 + 1 * k) (n - k) := by rw [List.range'_append]; congr 1; omega
 rw [h1]
 congr 1
 obtain ⟨m, hm⟩ : ∃ m, n - k = m + 1 := ⟨n - k - 1, by omega⟩
 rw [hm, List.range'_succ]
 simp
theorem WtH.next {L : LkM} {D : List Nat} {W : List Int} (h : WtH L D W) (hne : W ≠ []) : 0 ≤ W.getD 0 0 ∧ nextF L D = some (W.getD 0 0).toNat := by
 have h1 := (h.mem _).1 (getD_memW hne)
 refine ⟨h1.1, range_find (waits_lt h1.2) h1.2 fun j hj => ?_⟩
 cases hw : waitsB L D j with
 | false => rfl
 | true =>
  have := heap_le h.heap ((h.mem j).2 ⟨by omega, by simpa using hw⟩)
  omega
theorem WtH.pop {L : LkM} {D : List Nat} {W : List Int} (h : WtH L D W) (hne : W ≠ []) : WtH L ((W.getD 0 0).toNat :: D) (popF W) := by
 have hp := pop_perm hne
 have h1 := (h.mem _).1 (getD_memW hne)
 have hnd := hp.nodup_iff.2 h.nd
 rw [List.nodup_cons] at hnd
 refine ⟨pop_heap h.heap, hnd.2, fun k => ?_⟩
 have h2 : k ∈ W ↔ k = W.getD 0 0 ∨ k ∈ popF W := by rw [← hp.mem_iff, List.mem_cons]
 have hw : waitsB L ((W.getD 0 0).toNat :: D) k.toNat = (waitsB L D k.toNat && !decide (k.toNat = (W.getD 0 0).toNat)) := by
  unfold waitsB
  by_cases e1 : k.toNat = (W.getD 0 0).toNat <;> by_cases e2 : k.toNat ∈ D <;> simp [e1, e2]
 rw [hw]
 constructor
 ·intro hk
  have h3 := (h.mem k).1 (h2.2 (.inr hk))
  refine ⟨h3.1, ?_⟩
  have : k ≠ W.getD 0 0 := by rintro rfl; exact hnd.1 hk
  simp only [h3.2, Bool.true_and, Bool.not_eq_true', decide_eq_false_iff_not]
  omega
 ·intro ⟨h3, h4⟩
  simp only [Bool.and_eq_true, Bool.not_eq_true', decide_eq_false_iff_not] at h4
  rcases h2.1 ((h.mem k).2 ⟨h3, h4.1⟩) with h5 | h5
  ·rw [h5] at h4; exact absurd rfl h4.2
  ·exact h5
theorem WtH.push {L : LkM} {D : List Nat} {W : List Int} (h : WtH L D W) {k : Nat} (hk : k < L.length) (hn : L.getD k none = none) (hD : k ∉ D) (s : StM) : WtH (L.set k (some s)) D (upF (W.length + 1) (W ++ [(k : Int)]) W.length) := by
 have hp := upF_perm (W.length + 1) (W ++ [(k : Int)]) W.length (by simp)
 have hnk : (k : Int) ∉ W := fun hm => by
  have := ((h.mem k).1 hm).2
  unfold waitsB at this
  simp only [Int.toNat_natCast, hn] at this
  simp at this
 refine ⟨push_heap h.heap _, hp.nodup_iff.2 ?_, fun j => ?_⟩
 ·rw [List.nodup_append]
  exact ⟨h.nd, by simp, fun a ha b hb hab => by simp at hb; subst hb; subst hab; exact hnk ha⟩
 ·rw [hp.mem_iff, List.mem_append, List.mem_singleton, h.mem]
  have hw : waitsB (L.set k (some s)) D j.toNat = (waitsB L D j.toNat || decide (j.toNat = k)) := by
   unfold waitsB
   by_cases e : j.toNat = k
   ·rw [e]
    simp [List.getD, hk, hD]
   ·simp [List.getD, List.getElem?_set_ne (Ne.symm e), e]
  rw [hw, Bool.or_eq_true, decide_eq_true_eq]
  constructor
  ·rintro (⟨h1, h2⟩ | h1)
   ·exact ⟨h1, .inl h2⟩
   ·exact ⟨by omega, .inr (by omega)⟩
  ·rintro ⟨h1, h2 | h2⟩
   ·exact .inl ⟨h1, h2⟩
   ·exact .inr (by omega)
end Go.Proofs.Ytjeplogcfedmeaa
end
section
namespace Go.Proofs.Ytjeplogcfedmeaa
open Go.RowKit
set_option maxRecDepth 100000
set_option maxHeartbeats 8000000
theorem me_Len : methOf Try.prog 72 "Len" = some (99, false, 55) := by kernel_rfl
theorem me_Less : methOf Try.prog 72 "Less" = some (100, false, 55) := by kernel_rfl
theorem me_Swap : methOf Try.prog 72 "Swap" = some (101, false, 55) := by kernel_rfl
theorem me_Push : methOf Try.prog 72 "Push" = some (103, true, 55) := by kernel_rfl
theorem me_Pop : methOf Try.prog 72 "Pop" = some (102, true, 55) := by kernel_rfl
attribute [go_sem] me_Len me_Less me_Swap me_Push me_Pop
section
variable {P : Program} {T : Nat → Option TyD} {E : Env} {s : AState} {n : Nat} {ops : Array Oper} {Q : Exit → AState → Prop} {rest : List Oper} {o : Oper} {D : Dr}
theorem al_skipC (ra : AV) (hg : guardAV ops s o.guard = some false) (hkd : kindN o.op = false) (hdst : dstOK n o.dst) (hr : AListD P E n ops D rest Q (s.put o.dst false ra)) : AListR P E n ops D (o :: rest) Q s := by
 intro a w β hn hd hs
 have hw := guard_ok (ops := ops) hs hg
 obtain ⟨g1, g2, g3⟩ := putRel hn hd hs hdst false ra (v := undef) (fun h => by cases h) (fun _ => rfl)
 exact step_list hkd hw (fun h => by cases h) fun _ => hr _ _ _ g1 g2 g3
end
theorem v8_getD {W : List Int} {i : Nat} (h : i < W.length) : (v8 W)[i]? = some [.v (.int .i64 (W.getD i 0))] := by
 rw [v8_get h]; simp [List.getD, h]
theorem nlen_G (W : List Int) : GCall Try.prog 99 [.lst 1 (v8 W)] [] (vI W.length) [] := by
 refine go_fnG (tyOf_ok _) Try.func99 rfl rfl (by rw [Try.results99]) Try.ntmps99 rfl fun E => ?_
 (repeat' (first | exact trivial | (with_reducible first | apply awA | apply awD | apply awF) | ((with_reducible first | apply awn | refine awT ?_); intro r hr; simp only [go_sem, Nat.reduceBEq, Nat.reduceLT, v8_len] at hr; subst hr; (first | refine awV ?_ ?_ | refine endGK ?_ ?_ ?_)))) <;> (try omega)
 all_goals first | exact AV.up_rfl _ | exact obUp_nil
theorem nless_G (W : List Int) (hW : W.length ≤ 1000000000) (i j : Nat) (hi : i < W.length) (hj : j < W.length) : GCall Try.prog 100 [.lst 1 (v8 W), vI i, vI j] [] (vB (decide (W.getD i 0 < W.getD j 0))) [] := by
 have zi : ((i : Int)).toNat = i := by omega
 have zj : ((j : Int)).toNat = j := by omega
 have gi := v8_getD hi
 have gj := v8_getD hj
 refine go_fnG (tyOf_ok _) Try.func100 rfl rfl (by rw [Try.results100]) Try.ntmps100 rfl fun E => ?_
 (repeat' (first | exact trivial | (with_reducible first | apply awA | apply awD | apply awF) | (refine aw_draw (id := 1) (t := (.node [0, 1, 2, 3, 4, 5, 6, 7, 8, 9] [])) (drR [] [10, 14] []) mixed (by kernel_rfl) (by kernel_rfl) (fun _ _ h => h) ?_) | (refine at_done (by simp only [go_sem]; exact rfl) ?_) | (refine at_alt (by simp only [go_sem]; exact rfl) ?_) | refine qalt_normal ?_ | refine ats_cons ?_ ?_ | exact ats_nil | ((with_reducible first | apply awn | apply awp | refine awT ?_); intro r hr; simp only [go_sem, Nat.reduceBEq, Nat.reduceLT, Nat.reduceLeDiff, Nat.reduceAdd, reduceCtorEq, v8_len, zi, zj, gi, gj] at hr; subst hr; (first | refine awV ?_ ?_ | refine endGK ?_ ?_ ?_)))) <;> (try omega)
 all_goals first | exact AV.up_rfl _ | exact obUp_nil
theorem v8_setW (l : List Int) (k : Nat) (z : Int) : (v8 l).set k [vI z] = v8 (l.set k z) := by simp [v8, List.map_set]
theorem nswap_G (W : List Int) (hW : W.length ≤ 1000000000) (m : Nat) (hm : m ≤ W.length) (i j : Nat) (hi : i < m) (hj : j < m) : GCall Try.prog 101 [.ref 3 1 10001 0 m, vI i, vI j] [(10001, .row 3 1 (v8 W))] (.tup []) [(10001, .row 3 1 (v8 (swapL W i j)))] := by
 have zi : ((i : Int)).toNat = i := by omega
 have zj : ((j : Int)).toNat = j := by omega
 have gi := v8_getD (show i < W.length by omega)
 have gj := v8_getD (show j < W.length by omega)
 have s1 := v8_setW W i (W.getD j 0)
 have s2 := v8_setW (W.set i (W.getD j 0)) j (W.getD i 0)
 have g2 := v8_getD (W := W.set i (W.getD j 0)) (show j < (W.set i (W.getD j 0)).length by simp; omega)
 unfold swapL
 refine go_fnG (tyOf_ok _) Try.func101 rfl rfl (by rw [Try.results101]) Try.ntmps101 rfl fun E => ?_
 (repeat' (first | exact trivial | (refine aw_draw (id := 0) (t := (.node [0, 1, 2, 3, 4, 5, 6, 7, 8, 9, 10, 11, 12, 13, 14, 15] [])) (drR [] [13, 17] []) mixed (by kernel_rfl) (by kernel_rfl) (fun _ _ h => h) ?_) | (refine at_done (by simp only [go_sem]; exact rfl) ?_) | (refine at_alt (by simp only [go_sem]; exact rfl) ?_) | refine qalt_normal ?_ | refine ats_cons ?_ ?_ | exact ats_nil | ((with_reducible first | apply awp | refine awU ?_); intro r hr; simp only [go_sem, Nat.reduceBEq, Nat.reduceLT, Nat.reduceLeDiff, Nat.reduceAdd, reduceCtorEq, v8_len, setXs, zi, zj, gi, gj, g2, s1, s2, List.length_set, Nat.zero_add] at hr; subst hr; (first | refine awV ?_ ?_ | refine endGK ?_ ?_ ?_)))) <;> (try omega)
 all_goals first | exact AV.up_rfl _ | exact obUp_cons rfl obUp_nil
def encSt (s : StM) : List AV := [vI s.place, .v (.int .u64 s.kids), vI s.table, vI s.parts, vI s.free, vI s.left]
def encSts (L : LkM) : List (List AV) := L.map fun s => encSt (s.getD .zero)
def encHas (L : LkM) : List (List AV) := L.map fun s => [vB s.isSome]
def lkV (e : Bool) (C : List InsM) (N : List Int) (n w : Nat) : AObj := .var [vB e, .lst 4 (encIs C), .lst 1 (v8 N), .ref 62 6 15000 0 n, .ref 4 1 15001 0 n, .ref 3 1 15002 0 w]
def lkO (e : Bool) (C : List InsM) (N : List Int) (L : LkM) (W : List Int) : List (Nat × AObj) :=
 [(10000, lkV e C N L.length W.length), (15000, .row 62 6 (encSts L)), (15001, .row 4 1 (encHas L)), (15002, .row 3 1 (v8 W))]
theorem npush_G (e : Bool) (C : List InsM) (N : List Int) (L : LkM) (W : List Int) (hW : W.length ≤ 1000000000) (x : Int) :
  GCall Try.prog 103 [.ptr 1 10000 0 5, .ifc 3 (vI x)] (lkO e C N L W) (.tup []) (lkO e C N L (W ++ [x])) := by
 have ht : (v8 W).take W.length = v8 W := by rw [v8_take, List.take_length]
 have ha := v8_app W x
 have hl : (W ++ [x]).length = W.length + 1 := by simp
 unfold lkO lkV
 rw [hl]
 refine go_fnG (tyOf_ok _) Try.func103 rfl rfl (by rw [Try.results103]) Try.ntmps103 rfl fun E => ?_
 (repeat' (first | exact trivial | (refine aw_draw (id := 0) (t := (.node [0, 1, 2, 3, 4, 5, 6, 7, 8, 9] [])) (drR [] [7] []) mixed (by kernel_rfl) (by kernel_rfl) (fun _ _ h => h) ?_) | (refine at_done (by simp only [go_sem]; exact rfl) ?_) | (refine at_alt (by simp only [go_sem]; exact rfl) ?_) | refine qalt_normal ?_ | refine ats_cons ?_ ?_ | exact ats_nil | ((with_reducible first | apply awp | refine awU ?_); intro r hr; simp only [go_sem, Nat.reduceBEq, Nat.reduceLT, Nat.reduceLeDiff, Nat.reduceAdd, Nat.reduceMul, Nat.reduceEqDiff, reduceCtorEq, v8_len, ht, ha, hl] at hr; subst hr; (first | refine awV ?_ ?_ | refine endGK ?_ ?_ ?_)))) <;> (try omega)
 all_goals first | exact AV.up_rfl _ | (repeat first | exact obUp_nil | refine obUp_cons rfl ?_)
theorem npop_G (e : Bool) (C : List InsM) (N : List Int) (L : LkM) (W : List Int) (hW : W.length ≤ 1000000000) (hne : 0 < W.length) :
  GCall Try.prog 102 [.ptr 1 10000 0 5] (lkO e C N L W) (.ifc 3 (vI (W.getD (W.length - 1) 0))) (lkO e C N L (W.take (W.length - 1))) := by
 have hw := wrap_i64 (n := (W.length : Int) - 1) (by omega)
 have zw : ((W.length : Int) - 1).toNat = W.length - 1 := by omega
 have gw := v8_getD (W := W) (i := W.length - 1) (by omega)
 have hl : (W.take (W.length - 1)).length = W.length - 1 := by rw [List.length_take]; omega
 unfold lkO lkV
 rw [hl, ← v8_take]
 refine go_fnG (tyOf_ok _) Try.func102 rfl rfl (by rw [Try.results102]) Try.ntmps102 rfl fun E => ?_
 (repeat' (first | exact trivial | (with_reducible first | apply awA | apply awD | apply awF) | ((with_reducible first | apply awn | refine awT ?_); intro r hr; simp only [go_sem, Nat.reduceBEq, Nat.reduceLT, Nat.reduceLeDiff, Nat.reduceAdd, Nat.reduceMul, hw, zw, gw, Int.toNat_zero, Nat.sub_zero, Nat.zero_add] at hr; subst hr; (first | refine awV ?_ ?_ | refine endGK ?_ ?_ ?_)))) <;> (try omega)
 all_goals first | exact AV.up_rfl _ | exact obUp_cons rfl (obUp_cons rfl (obUp_cons rfl (obUp_take rfl obUp_nil)))
theorem hup_G (e : Bool) (C : List InsM) (N : List Int) (L : LkM) (W : List Int) (hW : W.length ≤ 1000000000) (j0 : Nat) (hj0 : j0 < W.length) :
  GCall Try.prog 63 [.ifc 72 (.ptr 1 10000 0 5), vI j0] (lkO e C N L W) (.tup []) (lkO e C N L (upF (j0 + 1) W j0)) := by
 have hlen : (upF (j0 + 1) W j0).length = W.length := (upF_perm _ _ _ hj0).length_eq
 generalize hR : upF (j0 + 1) W j0 = R at hlen
 unfold lkO lkV
 rw [hlen]
 refine go_fnG (tyOf_ok _) Try.func63 rfl rfl (by rw [Try.results63]) Try.ntmps63 rfl fun E => ?_
 (repeat' (first | exact trivial | (with_reducible apply awB) | ((with_reducible first | apply awn | apply awo | apply awp | refine awQ ?_ | refine awR ?_ | refine awS ?_ | refine awT ?_ | refine awU ?_); intro r hr; simp only [go_sem, Nat.reduceBEq, Nat.reduceBneDiff, Nat.reduceLT, Nat.reduceLeDiff, Nat.reduceAdd, Nat.reduceMul, Nat.reduceSub, Nat.reduceEqDiff, reduceCtorEq] at hr; subst hr))) <;> (try omega)
 refine go_loop [0, 1] [10000, 15000, 15001, 15002] (fun x : Nat × Nat × List Int => ⟨[(0, true, .ifc 72 (.ptr 1 10000 0 5)), (1, true, vI x.2.1)],
  [(10000, .var [vB e, .lst 4 (encIs C), .lst 1 (v8 N), .ref 62 6 15000 0 L.length, .ref 4 1 15001 0 L.length, .ref 3 1 15002 0 W.length]), (15000, .row 62 6 (encSts L)), (15001, .row 4 1 (encHas L)), (15002, .row 3 1 (v8 x.2.2))]⟩)
  (fun x => x.2.1 < x.1 ∧ x.2.1 < W.length ∧ x.2.2.length = W.length ∧ upF x.1 x.2.2 x.2.1 = R) (fun x => x.1) (j0 + 1, j0, W) (by simp only [go_sem, Nat.reduceBEq] <;> exact rfl) ⟨Nat.lt_succ_self _, hj0, rfl, hR⟩ ?_
 clear hR hj0 j0
 intro ⟨f, j, W'⟩ ⟨h1, h2, h3, h4⟩
 simp only at h1 h2 h3 h4 ⊢
 obtain ⟨f, rfl⟩ : ∃ f', f = f' + 1 := ⟨f - 1, by omega⟩
 have hw1 := wrap_i64 (n := (j : Int) - 1) (by omega)
 have hw2 : IntKind.i64.wrap (((j : Int) - 1).tdiv 2) = (((j - 1) / 2 : Nat) : Int) := by
  rcases Nat.eq_zero_or_pos j with h0 | h0
  ·subst h0; rfl
  ·rw [show ((j : Int) - 1) = ((j - 1 : Nat) : Int) by omega, Int.tdiv_eq_ediv_of_nonneg (by omega), show ((j - 1 : Nat) : Int) / 2 = (((j - 1) / 2 : Nat) : Int) by omega, wrap_i64 (by omega)]
 generalize hi : (j - 1) / 2 = i at hw2
 have hil : i < W'.length := by omega
 have hjl : j < W'.length := by omega
 unfold upF at h4
 rw [hi] at h4
 by_cases h0 : i = j
 ·rw [if_pos (.inl h0)] at h4
  subst h4
  have e0 : ((i : Int) = (j : Int)) = True := eq_true (by omega)
  (repeat' (first | exact trivial | (with_reducible first | apply awA | apply awB | apply awE | apply awF | apply awH | apply awK | refine awM (by decide) ?_) | ((with_reducible first | apply awn | apply awo | refine awQ ?_ | refine awU ?_); intro r hr; simp only [go_sem, Nat.reduceBEq, Nat.reduceLT, reduceCtorEq, hw1, hw2, e0, Int.reduceEq] at hr; subst hr; (first | refine awV ?_ ?_ | refine awW ?_ ?_ | refine endGK ?_ ?_ ?_ | (refine condK (fun h => ?_) (fun h => ?_) <;> (try simp only [go_sem, reduceCtorEq] at h) <;> (try (exfalso; omega))))) | (refine al_skipC (vB true) rfl rfl ⟨by decide, by decide⟩ ?_))) <;> (try omega)
  all_goals first | exact AV.up_rfl _ | (repeat first | exact obUp_nil | refine obUp_cons rfl ?_)
 ·have e0 : ((i : Int) = (j : Int)) = False := eq_false (by omega)
  have hls := nless_G W' (by omega) j i hjl hil
  have ht : (v8 W').take W.length = v8 W' := by rw [v8_take, List.take_of_length_le (by omega)]
  by_cases hlt : W'.getD j 0 < W'.getD i 0
  ·rw [if_neg (by rintro (h | h) <;> omega)] at h4
   have hsw := nswap_G W' (by omega) W.length (by omega) i j (by omega) (by omega)
   rw [decide_eq_true hlt] at hls
   (repeat' (first | exact trivial | (with_reducible first | apply awA | apply awB | apply awC | apply awF | apply awI) | ((with_reducible first | apply awn | apply awo | refine awQ ?_); intro r hr; simp only [go_sem, Nat.reduceBEq, Nat.reduceLT, reduceCtorEq, hw1, hw2, e0, Int.reduceEq] at hr; subst hr; (first | refine awV ?_ ?_ | refine awW ?_ ?_ | (refine condK (fun h => ?_) (fun h => ?_) <;> (try simp only [go_sem, reduceCtorEq] at h) <;> (try (exfalso; omega))))) | (refine go_callI (tyOf_ok _) [] [] [] [] (by simp only [go_sem, Nat.reduceBEq, Nat.reduceLT, Nat.reduceLeDiff, Nat.reduceAdd, Nat.reduceMul, h3, ht, v8_len] <;> exact rfl) ?_ rfl rfl (by first | exact .inl rfl | exact .inr rfl) (by simp only [go_sem] <;> exact rfl) (hls) (.inr ⟨rfl, ?_⟩) ?_) | (refine go_callI (tyOf_ok _) [(15002, 10001)] [(10001, 15002)] [] [15002] (by simp only [go_sem, Nat.reduceBEq, Nat.reduceLT, Nat.reduceLeDiff, Nat.reduceAdd, Nat.reduceMul] <;> exact rfl) ?_ rfl rfl (by first | exact .inl rfl | exact .inr rfl) (by simp only [go_sem, Nat.reduceBEq] <;> exact rfl) (hsw) (.inl rfl) ?_))) <;> (try omega)
   refine ⟨(f, i, swapL W' i j), ?_, ⟨by show i < f; omega, by show i < W.length; omega, by show (swapL W' i j).length = _; rw [swapL_len]; exact h3, h4⟩, by show f < f + 1; omega⟩
   simp only [go_sem, Nat.reduceBEq]
  ·rw [if_pos (.inr hlt)] at h4
   subst h4
   rw [decide_eq_false hlt] at hls
   (repeat' (first | exact trivial | (with_reducible first | apply awA | apply awB | apply awE | apply awF | apply awH | apply awK | refine awM (by decide) ?_) | ((with_reducible first | apply awn | apply awo | refine awQ ?_ | refine awU ?_); intro r hr; simp only [go_sem, Nat.reduceBEq, Nat.reduceLT, reduceCtorEq, hw1, hw2, e0, Int.reduceEq] at hr; subst hr; (first | refine awV ?_ ?_ | refine awW ?_ ?_ | refine endGK ?_ ?_ ?_ | (refine condK (fun h => ?_) (fun h => ?_) <;> (try simp only [go_sem, reduceCtorEq] at h) <;> (try (exfalso; omega))))) | (refine go_callI (tyOf_ok _) [] [] [] [] (by simp only [go_sem, Nat.reduceBEq, Nat.reduceLT, Nat.reduceLeDiff, Nat.reduceAdd, Nat.reduceMul, h3, ht, v8_len] <;> exact rfl) ?_ rfl rfl (by first | exact .inl rfl | exact .inr rfl) (by simp only [go_sem] <;> exact rfl) (hls) (.inr ⟨rfl, ?_⟩) ?_))) <;> (try omega)
   all_goals first | exact AV.up_rfl _ | (repeat first | exact obUp_nil | refine obUp_cons rfl ?_)
end Go.Proofs.Ytjeplogcfedmeaa
end
section
namespace Go.Proofs.Ytjeplogcfedmeaa
open Go.RowKit
set_option maxRecDepth 100000
set_option maxHeartbeats 8000000
abbrev vSt (s : StM) : AV := .agg [vI s.place, .v (.int .u64 s.kids), vI s.table, vI s.parts, vI s.free, vI s.left]
abbrev vEf (e : EfM) : AV := .agg [vI e.next.place, .v (.int .u64 e.next.kids), vI e.next.table, vI e.next.parts, vI e.next.free, vI e.next.left, vI e.target.place, .v (.int .u64 e.target.kids), vI e.target.table, vI e.target.parts, vI e.target.free, vI e.target.left]
theorem both_any (s : StM) : PCall Try.prog 71 [vSt s] (fun r => r = vEf (both s)) := by
 refine go_fn (tyOf_ok _) Try.func71 rfl rfl (by rw [Try.results71]) Try.ntmps71 rfl fun E => ?_
 (repeat' (first | exact trivial | (with_reducible first | apply awA | apply awD | apply awF) | ((with_reducible first | apply awn | refine awR ?_); intro r hr; simp only [go_sem, Nat.reduceBEq, Nat.reduceLT, Nat.reduceLeDiff, Nat.reduceAdd, Nat.reduceMul] at hr; subst hr; (first | refine awV ?_ ?_ | refine endK ?_ ?_)))) <;> (try omega)
 all_goals exact rfl
theorem still_any (s : StM) : PCall Try.prog 81 [vSt s] (fun r => r = vSt s.still) := by
 refine go_fn (tyOf_ok _) Try.func81 rfl rfl (by rw [Try.results81]) Try.ntmps81 rfl fun E => ?_
 (repeat' (first | exact trivial | (with_reducible first | apply awA | apply awD | apply awF) | ((with_reducible first | apply awn | refine awR ?_); intro r hr; simp only [go_sem, Nat.reduceBEq, Nat.reduceLT, Nat.reduceLeDiff, Nat.reduceAdd, Nat.reduceMul] at hr; subst hr; (first | refine awV ?_ ?_ | refine endK ?_ ?_)))) <;> (try omega)
 all_goals exact rfl
theorem at_any (s : StM) (p : Int) : PCall Try.prog 75 [vSt s, vI p] (fun r => r = vSt (s.at_ p)) := by
 have h := still_any { s with place := p }
 refine go_fn (tyOf_ok _) Try.func75 rfl rfl (by rw [Try.results75]) Try.ntmps75 rfl fun E => ?_
 (repeat' (first | exact trivial | (with_reducible first | apply awA | apply awD | apply awF) | ((with_reducible first | apply awn | apply awo | refine awR ?_); intro r hr; simp only [go_sem, Nat.reduceBEq, Nat.reduceLT, Nat.reduceLeDiff, Nat.reduceAdd, Nat.reduceMul] at hr; subst hr; (first | refine caC (h) rfl ?_ ?_ ?_ | refine awV ?_ ?_ | refine endK ?_ ?_)))) <;> (try omega)
 all_goals exact rfl
theorem with_any (s : StM) (p : Int) : PCall Try.prog 76 [vSt s, vI p] (fun r => r = vSt (s.wth p)) := by
 refine go_fn (tyOf_ok _) Try.func76 rfl rfl (by rw [Try.results76]) Try.ntmps76 rfl fun E => ?_
 (repeat' (first | exact trivial | (with_reducible first | apply awA | apply awD | apply awF) | ((with_reducible first | apply awn | refine awR ?_); intro r hr; simp only [go_sem, Nat.reduceBEq, Nat.reduceLT, Nat.reduceLeDiff, Nat.reduceAdd, Nat.reduceMul] at hr; subst hr; (first | refine awV ?_ ?_ | refine endK ?_ ?_)))) <;> (try omega)
 all_goals exact rfl
theorem fill_any (s : StM) (k : Int) : PCall Try.prog 73 [vSt s, vI k] (fun r => r = .tup [vSt (s.fill k).1, vB (s.fill k).2]) := by
 have h4 := at_any s 4
 have hs := still_any s
 have hb := still_any { s with kids := bitS s.kids k }
 unfold StM.fill
 by_cases h0 : s.place = 0
 ·simp only [h0, if_true]
  have e0 : (s.place = 0) = True := eq_true h0
  refine go_fn (tyOf_ok _) Try.func73 rfl rfl (by rw [Try.results73]) Try.ntmps73 rfl fun E => ?_
  (repeat' (first | exact trivial | (with_reducible first | apply awA | apply awB | apply awD | apply awF | apply awG | apply awJ) | ((with_reducible first | apply awn | apply awo | refine awQ ?_ | refine awR ?_); intro r hr; simp only [go_sem, Nat.reduceBEq, Nat.reduceLT, Nat.reduceLeDiff, Nat.reduceAdd, Nat.reduceMul, e0] at hr; subst hr; (first | refine caC (h4) rfl ?_ ?_ ?_ | refine awV ?_ ?_ | refine endK ?_ ?_ | (refine condK (fun h => ?_) (fun h => ?_) <;> (try simp only [go_sem, reduceCtorEq] at h) <;> (try (exfalso; omega))))))) <;> (try omega)
  all_goals exact rfl
 have e0 : (s.place = 0) = False := eq_false h0
 rw [if_neg h0]
 by_cases h3 : s.place = 3
 ·simp only [h3, if_true]
  have e3 : (s.place = 3) = True := eq_true h3
  refine go_fn (tyOf_ok _) Try.func73 rfl rfl (by rw [Try.results73]) Try.ntmps73 rfl fun E => ?_
  (repeat' (first | exact trivial | (with_reducible first | apply awA | apply awB | apply awD | apply awF | apply awG | apply awJ) | ((with_reducible first | apply awn | apply awo | refine awQ ?_ | refine awR ?_); intro r hr; simp only [go_sem, Nat.reduceBEq, Nat.reduceLT, Nat.reduceLeDiff, Nat.reduceAdd, Nat.reduceMul, e0, e3] at hr; subst hr; (first | refine caC (h4) rfl ?_ ?_ ?_ | refine awV ?_ ?_ | refine endK ?_ ?_ | (refine condK (fun h => ?_) (fun h => ?_) <;> (try simp only [go_sem, reduceCtorEq] at h) <;> (try (exfalso; omega))))))) <;> (try omega)
  all_goals exact rfl
 have e3 : (s.place = 3) = False := eq_false h3
 rw [if_neg h3]
 by_cases h1 : s.place = 1
 ·simp only [h1, if_true]
  have e1 : (s.place = 1) = True := eq_true h1
  refine go_fn (tyOf_ok _) Try.func73 rfl rfl (by rw [Try.results73]) Try.ntmps73 rfl fun E => ?_
  (repeat' (first | exact trivial | (with_reducible first | apply awA | apply awB | apply awD | apply awF | apply awG | apply awJ) | (refine aw_draw (id := 7) (t := (.node [0, 2, 3, 1, 4, 5, 6, 7, 8, 9, 10, 11, 12, 13, 14, 15] [])) (drR [2] [] []) mixed (by kernel_rfl) (by kernel_rfl) (fun _ _ h => h) ?_) | (refine at_done (by simp only [go_sem]; exact rfl) ?_) | (refine at_alt (by simp only [go_sem]; exact rfl) ?_) | refine qalt_normal ?_ | refine ats_cons ?_ ?_ | exact ats_nil | ((with_reducible first | apply awn | apply awp | refine awQ ?_ | refine awR ?_); intro r hr; simp only [go_sem, Nat.reduceBEq, Nat.reduceLT, Nat.reduceLeDiff, Nat.reduceAdd, Nat.reduceMul, e0, e3, e1] at hr; subst hr; (first | refine caC (hs) rfl ?_ ?_ ?_ | refine awV ?_ ?_ | refine endK ?_ ?_ | (refine condK (fun h => ?_) (fun h => ?_) <;> (try simp only [go_sem, reduceCtorEq] at h) <;> (try (exfalso; omega))))))) <;> (try omega)
  all_goals trace_state
  all_goals exact rfl
 have e1 : (s.place = 1) = False := eq_false h1
 rw [if_neg h1]
 by_cases h2 : s.place = 2
 ·have e2 : (s.place = 2) = True := eq_true h2
  rw [if_pos h2]
  by_cases hk : k < 0
  ·have ek : (k < 0) = True := eq_true hk
   rw [if_pos (.inl hk)]
   refine go_fn (tyOf_ok _) Try.func73 rfl rfl (by rw [Try.results73]) Try.ntmps73 rfl fun E => ?_
   (repeat' (first | exact trivial | (with_reducible first | apply awA | apply awB | apply awD | apply awF | apply awG | apply awJ) | ((with_reducible first | apply awn | refine awQ ?_ | refine awR ?_); intro r hr; simp only [go_sem, Nat.reduceBEq, Nat.reduceLT, Nat.reduceLeDiff, Nat.reduceAdd, Nat.reduceMul, reduceCtorEq, e0, e3, e1, e2, ek] at hr; subst hr; (first | refine awV ?_ ?_ | refine endK ?_ ?_ | (refine condK (fun h => ?_) (fun h => ?_) <;> (try simp only [go_sem, reduceCtorEq] at h) <;> (try (exfalso; omega))))))) <;> (try omega)
   all_goals trace_state
   all_goals exact rfl
  ·have ek : (k < 0) = False := eq_false hk
   by_cases hg : bits .and .u64 (s.kids.fdiv (2 ^ min k.toNat 64)) 1 = 1
   ·rw [if_pos (.inr (decide_eq_true hg))]
    have eg : (bits .and .u64 (s.kids.fdiv (2 ^ min k.toNat 64)) 1 = 1) = True := eq_true hg
    refine go_fn (tyOf_ok _) Try.func73 rfl rfl (by rw [Try.results73]) Try.ntmps73 rfl fun E => ?_
    (repeat' (first | exact trivial | (with_reducible first | apply awA | apply awB | apply awD | apply awF | apply awG | apply awJ) | ((with_reducible first | apply awn | refine awQ ?_ | refine awR ?_); intro r hr; simp only [go_sem, Nat.reduceBEq, Nat.reduceLT, Nat.reduceLeDiff, Nat.reduceAdd, Nat.reduceMul, reduceCtorEq, e0, e3, e1, e2, ek, eg] at hr; subst hr; (first | refine awV ?_ ?_ | refine endK ?_ ?_ | (refine condK (fun h => ?_) (fun h => ?_) <;> (try simp only [go_sem, reduceCtorEq] at h) <;> (try (exfalso; omega))))))) <;> (try omega)
    all_goals trace_state
    all_goals exact rfl
   ·rw [if_neg (by rintro (h | h); (· exact hk h); exact hg (of_decide_eq_true h))]
    have eg : (bits .and .u64 (s.kids.fdiv (2 ^ min k.toNat 64)) 1 = 1) = False := eq_false hg
    unfold bitS at hb ⊢
    refine go_fn (tyOf_ok _) Try.func73 rfl rfl (by rw [Try.results73]) Try.ntmps73 rfl fun E => ?_
    (repeat' (first | exact trivial | (with_reducible first | apply awA | apply awB | apply awC | apply awD | apply awF | apply awG | apply awJ) | (refine aw_draw (id := 11) (t := (.node [0, 1, 2, 3, 4, 5, 6] [])) (drR [] [50] []) mixed (by kernel_rfl) (by kernel_rfl) (fun _ _ h => h) ?_) | (refine at_done (by simp only [go_sem]; exact rfl) ?_) | (refine at_alt (by simp only [go_sem]; exact rfl) ?_) | refine qalt_normal ?_ | refine ats_cons ?_ ?_ | exact ats_nil | ((with_reducible first | apply awn | apply awo | apply awp | refine awQ ?_ | refine awR ?_); intro r hr; simp only [go_sem, Nat.reduceBEq, Nat.reduceLT, Nat.reduceLeDiff, Nat.reduceAdd, Nat.reduceMul, reduceCtorEq, e0, e3, e1, e2, ek, eg] at hr; subst hr; (first | refine caC (hb) rfl ?_ ?_ ?_ | refine awV ?_ ?_ | refine endK ?_ ?_ | (refine condK (fun h => ?_) (fun h => ?_) <;> (try simp only [go_sem, reduceCtorEq] at h) <;> (try (exfalso; omega))))))) <;> (try omega)
    all_goals trace_state
    all_goals exact rfl
 have e2 : (s.place = 2) = False := eq_false h2
 rw [if_neg h2]
 refine go_fn (tyOf_ok _) Try.func73 rfl rfl (by rw [Try.results73]) Try.ntmps73 rfl fun E => ?_
 (repeat' (first | exact trivial | (with_reducible first | apply awA | apply awB | apply awC | apply awD | apply awF | apply awI) | ((with_reducible first | apply awn | refine awQ ?_ | refine awR ?_); intro r hr; simp only [go_sem, Nat.reduceBEq, Nat.reduceLT, Nat.reduceLeDiff, Nat.reduceAdd, Nat.reduceMul, e0, e3, e1, e2] at hr; subst hr; (first | refine awV ?_ ?_ | refine endK ?_ ?_ | (refine condK (fun h => ?_) (fun h => ?_) <;> (try simp only [go_sem, reduceCtorEq] at h) <;> (try (exfalso; omega))))))) <;> (try omega)
 all_goals exact rfl
end Go.Proofs.Ytjeplogcfedmeaa
end
section
namespace Go.Proofs.Ytjeplogcfedmeaa
open Go.RowKit
set_option maxRecDepth 100000
set_option maxHeartbeats 8000000
def inF (n lo hi : Int) : Bool := decide (lo ≤ n) && decide (n ≤ hi)
theorem cin_any (n lo hi : Int) : PCall Try.prog 33 [vI n, vI lo, vI hi] (fun r => r = vB (inF n lo hi)) := by
 unfold inF
 refine go_fn (tyOf_ok _) Try.func33 rfl rfl (by rw [Try.results33]) Try.ntmps33 rfl fun E => ?_
 (repeat' (first | exact trivial | (with_reducible first | apply awA | apply awD | apply awF) | ((with_reducible first | apply awn | refine awR ?_); intro r hr; simp only [go_sem, Nat.reduceBEq, Nat.reduceLT, Nat.reduceAdd] at hr; subst hr; (first | refine awV ?_ ?_ | refine endK ?_ ?_)))) <;> (try omega)
 all_goals exact rfl
theorem rin_any (n lo hi : Int) : PCall Try.prog 27 [vI n, vI lo, vI hi] (fun r => r = vB (inF n lo hi)) := by
 unfold inF
 refine go_fn (tyOf_ok _) Try.func27 rfl rfl (by rw [Try.results27]) Try.ntmps27 rfl fun E => ?_
 (repeat' (first | exact trivial | (with_reducible first | apply awA | apply awD | apply awF) | ((with_reducible first | apply awn | refine awR ?_); intro r hr; simp only [go_sem, Nat.reduceBEq, Nat.reduceLT, Nat.reduceAdd] at hr; subst hr; (first | refine awV ?_ ?_ | refine endK ?_ ?_)))) <;> (try omega)
 all_goals exact rfl
end Go.Proofs.Ytjeplogcfedmeaa
end
section
namespace Go.Proofs.Ytjeplogcfedmeaa
open Go.RowKit
set_option maxRecDepth 100000
set_option maxHeartbeats 8000000
def mayF (nC nN : Nat) (w n : Int) : Bool :=
 if w = 32 then decide (n = 0) else
 if w = 107 then inF n (-1) 63 else
 if w = 112 then inF n (-1) 63 else
 if w = 75 then inF n 0 63 else
 if w = 119 then decide (n = 1) || decide (n = 2) || decide (n = 4) || decide (n = 8) else
 if w = 110 then inF n 2 64 else
 if w = 102 then inF n 4 16777216 else
 if w = 109 then inF n 1 1048576 else
 if w = 115 then inF n 1 64 else
 if w = 97 then inF n 1 64 else
 if w = 103 then inF n 0 255 else
 if w = 80 then inF n (-1) 16777215 else
 if w = 113 then inF n 0 16777215 else
 if w = 98 then decide (n = -1) || inF n 1 16777216 else
 if w = 122 then inF n 1 16777216 else
 if w = 116 then inF n 0 ((nC : Int) - 1) else
 inF n 0 ((nN : Int) - 1)
theorem may_any (e : Bool) (C : List InsM) (N : List Int) (hC : C.length ≤ 1000000000) (hN : N.length ≤ 1000000000) (w n : Int) : PCall Try.prog 44 [pG e C N, vU8 w, vI n] (fun r => r = vB (mayF C.length N.length w n)) := by
 have hw1 := wrap_i64 (n := (C.length : Int) - 1) (by omega)
 have hw2 := wrap_i64 (n := (N.length : Int) - 1) (by omega)
 unfold mayF pG
 by_cases h32 : w = 32
 ·subst h32
  simp only [reduceIte, Int.reduceEq]
  refine go_fn (tyOf_ok _) Try.func44 rfl rfl (by rw [Try.results44]) Try.ntmps44 rfl fun E => ?_
  (repeat' (first | exact trivial | (with_reducible first | apply awA | apply awB | apply awD | apply awF | apply awG | apply awJ) | ((with_reducible first | apply awn | refine awQ ?_ | refine awR ?_); intro r hr; simp only [go_sem, Nat.reduceBEq, Nat.reduceLT, Nat.reduceAdd] at hr; subst hr; (first | refine caA (fun _ => cin_any _ _ _) rfl ?_ ?_ ?_ | refine awV ?_ ?_ | refine endK ?_ ?_ | (refine condK (fun h => ?_) (fun h => ?_) <;> (try simp only [go_sem, reduceCtorEq] at h) <;> (try (exfalso; omega))))))) <;> (try omega)
  all_goals exact rfl
 by_cases h107 : w = 107
 ·subst h107
  simp only [reduceIte, Int.reduceEq]
  refine go_fn (tyOf_ok _) Try.func44 rfl rfl (by rw [Try.results44]) Try.ntmps44 rfl fun E => ?_
  (repeat' (first | exact trivial | (with_reducible first | apply awA | apply awB | apply awC | apply awD | apply awF | apply awG | apply awJ) | ((with_reducible first | apply awn | apply awo | refine awQ ?_ | refine awR ?_); intro r hr; simp only [go_sem, Nat.reduceBEq, Nat.reduceLT, Nat.reduceAdd, Int.reduceEq] at hr; subst hr; (first | refine caA (fun _ => cin_any _ _ _) rfl ?_ ?_ ?_ | refine awV ?_ ?_ | refine endK ?_ ?_ | (refine condK (fun h => ?_) (fun h => ?_) <;> (try simp only [go_sem, reduceCtorEq] at h) <;> (try (exfalso; omega))))))) <;> (try omega)
  all_goals exact rfl
 by_cases h112 : w = 112
 ·subst h112
  simp only [reduceIte, Int.reduceEq]
  refine go_fn (tyOf_ok _) Try.func44 rfl rfl (by rw [Try.results44]) Try.ntmps44 rfl fun E => ?_
  (repeat' (first | exact trivial | (with_reducible first | apply awA | apply awB | apply awD | apply awF | apply awG | apply awJ) | ((with_reducible first | apply awn | apply awo | refine awQ ?_ | refine awR ?_); intro r hr; simp only [go_sem, Nat.reduceBEq, Nat.reduceLT, Nat.reduceAdd, Int.reduceEq] at hr; subst hr; (first | refine caA (fun _ => cin_any _ _ _) rfl ?_ ?_ ?_ | refine awV ?_ ?_ | refine endK ?_ ?_ | (refine condK (fun h => ?_) (fun h => ?_) <;> (try simp only [go_sem, reduceCtorEq] at h) <;> (try (exfalso; omega))))))) <;> (try omega)
  all_goals exact rfl
 by_cases h75 : w = 75
 ·subst h75
  simp only [reduceIte, Int.reduceEq]
  refine go_fn (tyOf_ok _) Try.func44 rfl rfl (by rw [Try.results44]) Try.ntmps44 rfl fun E => ?_
  (repeat' (first | exact trivial | (with_reducible first | apply awA | apply awB | apply awD | apply awF | apply awG | apply awJ) | ((with_reducible first | apply awn | apply awo | refine awQ ?_ | refine awR ?_); intro r hr; simp only [go_sem, Nat.reduceBEq, Nat.reduceLT, Nat.reduceAdd, Int.reduceEq] at hr; subst hr; (first | refine caA (fun _ => cin_any _ _ _) rfl ?_ ?_ ?_ | refine awV ?_ ?_ | refine endK ?_ ?_ | (refine condK (fun h => ?_) (fun h => ?_) <;> (try simp only [go_sem, reduceCtorEq] at h) <;> (try (exfalso; omega))))))) <;> (try omega)
  all_goals exact rfl
 by_cases h119 : w = 119
 ·subst h119
  simp only [reduceIte, Int.reduceEq]
  refine go_fn (tyOf_ok _) Try.func44 rfl rfl (by rw [Try.results44]) Try.ntmps44 rfl fun E => ?_
  (repeat' (first | exact trivial | (with_reducible first | apply awA | apply awB | apply awD | apply awF | apply awG | apply awJ) | ((with_reducible first | apply awn | refine awQ ?_ | refine awR ?_); intro r hr; simp only [go_sem, Nat.reduceBEq, Nat.reduceLT, Nat.reduceAdd, Int.reduceEq] at hr; subst hr; (first | refine caA (fun _ => cin_any _ _ _) rfl ?_ ?_ ?_ | refine awV ?_ ?_ | refine endK ?_ ?_ | (refine condK (fun h => ?_) (fun h => ?_) <;> (try simp only [go_sem, reduceCtorEq] at h) <;> (try (exfalso; omega))))))) <;> (try omega)
  all_goals exact rfl
 by_cases h110 : w = 110
 ·subst h110
  simp only [reduceIte, Int.reduceEq]
  refine go_fn (tyOf_ok _) Try.func44 rfl rfl (by rw [Try.results44]) Try.ntmps44 rfl fun E => ?_
  (repeat' (first | exact trivial | (with_reducible first | apply awA | apply awB | apply awD | apply awF | apply awG | apply awJ) | ((with_reducible first | apply awn | apply awo | refine awQ ?_ | refine awR ?_); intro r hr; simp only [go_sem, Nat.reduceBEq, Nat.reduceLT, Nat.reduceAdd, Int.reduceEq] at hr; subst hr; (first | refine caA (fun _ => cin_any _ _ _) rfl ?_ ?_ ?_ | refine awV ?_ ?_ | refine endK ?_ ?_ | (refine condK (fun h => ?_) (fun h => ?_) <;> (try simp only [go_sem, reduceCtorEq] at h) <;> (try (exfalso; omega))))))) <;> (try omega)
  all_goals exact rfl
 by_cases h102 : w = 102
 ·subst h102
  simp only [reduceIte, Int.reduceEq]
  refine go_fn (tyOf_ok _) Try.func44 rfl rfl (by rw [Try.results44]) Try.ntmps44 rfl fun E => ?_
  (repeat' (first | exact trivial | (with_reducible first | apply awA | apply awB | apply awD | apply awF | apply awG | apply awJ) | ((with_reducible first | apply awn | apply awo | refine awQ ?_ | refine awR ?_); intro r hr; simp only [go_sem, Nat.reduceBEq, Nat.reduceLT, Nat.reduceAdd, Int.reduceEq] at hr; subst hr; (first | refine caA (fun _ => cin_any _ _ _) rfl ?_ ?_ ?_ | refine awV ?_ ?_ | refine endK ?_ ?_ | (refine condK (fun h => ?_) (fun h => ?_) <;> (try simp only [go_sem, reduceCtorEq] at h) <;> (try (exfalso; omega))))))) <;> (try omega)
  all_goals exact rfl
 by_cases h109 : w = 109
 ·subst h109
  simp only [reduceIte, Int.reduceEq]
  refine go_fn (tyOf_ok _) Try.func44 rfl rfl (by rw [Try.results44]) Try.ntmps44 rfl fun E => ?_
  (repeat' (first | exact trivial | (with_reducible first | apply awA | apply awB | apply awD | apply awF | apply awG | apply awJ) | ((with_reducible first | apply awn | apply awo | refine awQ ?_ | refine awR ?_); intro r hr; simp only [go_sem, Nat.reduceBEq, Nat.reduceLT, Nat.reduceAdd, Int.reduceEq] at hr; subst hr; (first | refine caA (fun _ => cin_any _ _ _) rfl ?_ ?_ ?_ | refine awV ?_ ?_ | refine endK ?_ ?_ | (refine condK (fun h => ?_) (fun h => ?_) <;> (try simp only [go_sem, reduceCtorEq] at h) <;> (try (exfalso; omega))))))) <;> (try omega)
  all_goals exact rfl
 by_cases h115 : w = 115
 ·subst h115
  simp only [reduceIte, Int.reduceEq]
  refine go_fn (tyOf_ok _) Try.func44 rfl rfl (by rw [Try.results44]) Try.ntmps44 rfl fun E => ?_
  (repeat' (first | exact trivial | (with_reducible first | apply awA | apply awB | apply awD | apply awF | apply awG | apply awJ) | ((with_reducible first | apply awn | apply awo | refine awQ ?_ | refine awR ?_); intro r hr; simp only [go_sem, Nat.reduceBEq, Nat.reduceLT, Nat.reduceAdd, Int.reduceEq] at hr; subst hr; (first | refine caA (fun _ => cin_any _ _ _) rfl ?_ ?_ ?_ | refine awV ?_ ?_ | refine endK ?_ ?_ | (refine condK (fun h => ?_) (fun h => ?_) <;> (try simp only [go_sem, reduceCtorEq] at h) <;> (try (exfalso; omega))))))) <;> (try omega)
  all_goals exact rfl
 by_cases h97 : w = 97
 ·subst h97
  simp only [reduceIte, Int.reduceEq]
  refine go_fn (tyOf_ok _) Try.func44 rfl rfl (by rw [Try.results44]) Try.ntmps44 rfl fun E => ?_
  (repeat' (first | exact trivial | (with_reducible first | apply awA | apply awB | apply awD | apply awF | apply awG | apply awJ) | ((with_reducible first | apply awn | apply awo | refine awQ ?_ | refine awR ?_); intro r hr; simp only [go_sem, Nat.reduceBEq, Nat.reduceLT, Nat.reduceAdd, Int.reduceEq] at hr; subst hr; (first | refine caA (fun _ => cin_any _ _ _) rfl ?_ ?_ ?_ | refine awV ?_ ?_ | refine endK ?_ ?_ | (refine condK (fun h => ?_) (fun h => ?_) <;> (try simp only [go_sem, reduceCtorEq] at h) <;> (try (exfalso; omega))))))) <;> (try omega)
  all_goals exact rfl
 by_cases h103 : w = 103
 ·subst h103
  simp only [reduceIte, Int.reduceEq]
  refine go_fn (tyOf_ok _) Try.func44 rfl rfl (by rw [Try.results44]) Try.ntmps44 rfl fun E => ?_
  (repeat' (first | exact trivial | (with_reducible first | apply awA | apply awB | apply awD | apply awF | apply awG | apply awJ) | ((with_reducible first | apply awn | apply awo | refine awQ ?_ | refine awR ?_); intro r hr; simp only [go_sem, Nat.reduceBEq, Nat.reduceLT, Nat.reduceAdd, Int.reduceEq] at hr; subst hr; (first | refine caA (fun _ => cin_any _ _ _) rfl ?_ ?_ ?_ | refine awV ?_ ?_ | refine endK ?_ ?_ | (refine condK (fun h => ?_) (fun h => ?_) <;> (try simp only [go_sem, reduceCtorEq] at h) <;> (try (exfalso; omega))))))) <;> (try omega)
  all_goals exact rfl
 by_cases h80 : w = 80
 ·subst h80
  simp only [reduceIte, Int.reduceEq]
  refine go_fn (tyOf_ok _) Try.func44 rfl rfl (by rw [Try.results44]) Try.ntmps44 rfl fun E => ?_
  (repeat' (first | exact trivial | (with_reducible first | apply awA | apply awB | apply awD | apply awF | apply awG | apply awJ) | ((with_reducible first | apply awn | apply awo | refine awQ ?_ | refine awR ?_); intro r hr; simp only [go_sem, Nat.reduceBEq, Nat.reduceLT, Nat.reduceAdd, Int.reduceEq] at hr; subst hr; (first | refine caA (fun _ => cin_any _ _ _) rfl ?_ ?_ ?_ | refine awV ?_ ?_ | refine endK ?_ ?_ | (refine condK (fun h => ?_) (fun h => ?_) <;> (try simp only [go_sem, reduceCtorEq] at h) <;> (try (exfalso; omega))))))) <;> (try omega)
  all_goals exact rfl
 by_cases h113 : w = 113
 ·subst h113
  simp only [reduceIte, Int.reduceEq]
  refine go_fn (tyOf_ok _) Try.func44 rfl rfl (by rw [Try.results44]) Try.ntmps44 rfl fun E => ?_
  (repeat' (first | exact trivial | (with_reducible first | apply awA | apply awB | apply awD | apply awF | apply awG | apply awJ) | ((with_reducible first | apply awn | apply awo | refine awQ ?_ | refine awR ?_); intro r hr; simp only [go_sem, Nat.reduceBEq, Nat.reduceLT, Nat.reduceAdd, Int.reduceEq] at hr; subst hr; (first | refine caA (fun _ => cin_any _ _ _) rfl ?_ ?_ ?_ | refine awV ?_ ?_ | refine endK ?_ ?_ | (refine condK (fun h => ?_) (fun h => ?_) <;> (try simp only [go_sem, reduceCtorEq] at h) <;> (try (exfalso; omega))))))) <;> (try omega)
  all_goals exact rfl
 by_cases h98 : w = 98
 ·subst h98
  simp only [reduceIte, Int.reduceEq]
  refine go_fn (tyOf_ok _) Try.func44 rfl rfl (by rw [Try.results44]) Try.ntmps44 rfl fun E => ?_
  (repeat' (first | exact trivial | (with_reducible first | apply awA | apply awB | apply awD | apply awF | apply awG | apply awJ) | ((with_reducible first | apply awn | apply awo | refine awQ ?_ | refine awR ?_); intro r hr; simp only [go_sem, Nat.reduceBEq, Nat.reduceLT, Nat.reduceAdd, Int.reduceEq] at hr; subst hr; (first | refine caA (fun _ => cin_any _ _ _) rfl ?_ ?_ ?_ | refine awV ?_ ?_ | refine endK ?_ ?_ | (refine condK (fun h => ?_) (fun h => ?_) <;> (try simp only [go_sem, reduceCtorEq] at h) <;> (try (exfalso; omega))))))) <;> (try omega)
  all_goals exact rfl
 by_cases h122 : w = 122
 ·subst h122
  simp only [reduceIte, Int.reduceEq]
  refine go_fn (tyOf_ok _) Try.func44 rfl rfl (by rw [Try.results44]) Try.ntmps44 rfl fun E => ?_
  (repeat' (first | exact trivial | (with_reducible first | apply awA | apply awB | apply awD | apply awF | apply awG | apply awJ) | ((with_reducible first | apply awn | apply awo | refine awQ ?_ | refine awR ?_); intro r hr; simp only [go_sem, Nat.reduceBEq, Nat.reduceLT, Nat.reduceAdd, Int.reduceEq] at hr; subst hr; (first | refine caA (fun _ => cin_any _ _ _) rfl ?_ ?_ ?_ | refine awV ?_ ?_ | refine endK ?_ ?_ | (refine condK (fun h => ?_) (fun h => ?_) <;> (try simp only [go_sem, reduceCtorEq] at h) <;> (try (exfalso; omega))))))) <;> (try omega)
  all_goals exact rfl
 by_cases h116 : w = 116
 ·subst h116
  simp only [reduceIte, Int.reduceEq]
  refine go_fn (tyOf_ok _) Try.func44 rfl rfl (by rw [Try.results44]) Try.ntmps44 rfl fun E => ?_
  (repeat' (first | exact trivial | (with_reducible first | apply awA | apply awB | apply awD | apply awF | apply awG | apply awJ) | ((with_reducible first | apply awn | apply awo | refine awQ ?_ | refine awR ?_); intro r hr; simp only [go_sem, Nat.reduceBEq, Nat.reduceLT, Nat.reduceLeDiff, Nat.reduceAdd, Nat.reduceMul, hw1, encIs_len, Int.reduceEq] at hr; subst hr; (first | refine caA (fun _ => cin_any _ _ _) rfl ?_ ?_ ?_ | refine awV ?_ ?_ | refine endK ?_ ?_ | (refine condK (fun h => ?_) (fun h => ?_) <;> (try simp only [go_sem, reduceCtorEq] at h) <;> (try (exfalso; omega))))))) <;> (try omega)
  all_goals exact rfl
 have e32 : (w = 32) = False := eq_false h32
 have e107 : (w = 107) = False := eq_false h107
 have e112 : (w = 112) = False := eq_false h112
 have e75 : (w = 75) = False := eq_false h75
 have e119 : (w = 119) = False := eq_false h119
 have e110 : (w = 110) = False := eq_false h110
 have e102 : (w = 102) = False := eq_false h102
 have e109 : (w = 109) = False := eq_false h109
 have e115 : (w = 115) = False := eq_false h115
 have e97 : (w = 97) = False := eq_false h97
 have e103 : (w = 103) = False := eq_false h103
 have e80 : (w = 80) = False := eq_false h80
 have e113 : (w = 113) = False := eq_false h113
 have e98 : (w = 98) = False := eq_false h98
 have e122 : (w = 122) = False := eq_false h122
 have e116 : (w = 116) = False := eq_false h116
 simp only [e32, e107, e112, e75, e119, e110, e102, e109, e115, e97, e103, e80, e113, e98, e122, e116, if_false]
 refine go_fn (tyOf_ok _) Try.func44 rfl rfl (by rw [Try.results44]) Try.ntmps44 rfl fun E => ?_
 (repeat' (first | exact trivial | (with_reducible first | apply awA | apply awB | apply awC | apply awD | apply awF | apply awI) | ((with_reducible first | apply awn | apply awo | refine awQ ?_ | refine awR ?_); intro r hr; simp only [go_sem, Nat.reduceBEq, Nat.reduceLT, Nat.reduceLeDiff, Nat.reduceAdd, Nat.reduceMul, hw2, e32, e107, e112, e75, e119, e110, e102, e109, e115, e97, e103, e80, e113, e98, e122, e116, v8_len] at hr; subst hr; (first | refine caA (fun _ => cin_any _ _ _) rfl ?_ ?_ ?_ | refine awV ?_ ?_ | refine endK ?_ ?_ | (refine condK (fun h => ?_) (fun h => ?_) <;> (try simp only [go_sem, reduceCtorEq] at h) <;> (try (exfalso; omega))))))) <;> (try omega)
 all_goals exact rfl
end Go.Proofs.Ytjeplogcfedmeaa
end
section
namespace Go.Proofs.Ytjeplogcfedmeaa
open Go.RowKit
set_option maxRecDepth 100000
set_option maxHeartbeats 8000000
abbrev vIns (x : InsM) : AV := .agg [vI x.op, vI x.a, vI x.b, vI x.c]
theorem take_any (s : StM) (n : Int) : PCall Try.prog 69 [vSt s, vI n] (fun r => r = .tup [vSt (s.take n).1, vB (s.take n).2]) := by
 unfold StM.take
 by_cases h5 : s.place = 5
 ·have e5 : (s.place = 5) = True := eq_true h5
  have e6 : (s.place = 6) = False := eq_false (by omega)
  by_cases hn : n = 1
  ·have en : (n = 1) = True := eq_true hn
   rw [if_pos ⟨h5, hn⟩]
   refine go_fn (tyOf_ok _) Try.func69 rfl rfl (by rw [Try.results69]) Try.ntmps69 rfl fun E => ?_
   (repeat' (first | exact trivial | (with_reducible first | apply awA | apply awB | apply awD | apply awF | apply awG | apply awJ) | ((with_reducible first | apply awn | refine awQ ?_ | refine awR ?_); intro r hr; simp only [go_sem, Nat.reduceBEq, Nat.reduceLT, Nat.reduceLeDiff, Nat.reduceAdd, Nat.reduceMul, reduceCtorEq, e5, en] at hr; subst hr; (first | refine awV ?_ ?_ | refine endK ?_ ?_ | (refine condK (fun h => ?_) (fun h => ?_) <;> (try simp only [go_sem, reduceCtorEq] at h) <;> (try (exfalso; omega))))))) <;> (try omega)
   all_goals exact rfl
  ·have en : (n = 1) = False := eq_false hn
   rw [if_neg (fun h => hn h.2), if_neg (by omega)]
   refine go_fn (tyOf_ok _) Try.func69 rfl rfl (by rw [Try.results69]) Try.ntmps69 rfl fun E => ?_
   (repeat' (first | exact trivial | (with_reducible first | apply awA | apply awB | apply awC | apply awD | apply awF | apply awI) | ((with_reducible first | apply awn | refine awQ ?_ | refine awR ?_); intro r hr; simp only [go_sem, Nat.reduceBEq, Nat.reduceLT, Nat.reduceLeDiff, Nat.reduceAdd, Nat.reduceMul, reduceCtorEq, e5, en, e6] at hr; subst hr; (first | refine awV ?_ ?_ | refine endK ?_ ?_ | (refine condK (fun h => ?_) (fun h => ?_) <;> (try simp only [go_sem, reduceCtorEq] at h) <;> (try (exfalso; omega))))))) <;> (try omega)
   all_goals exact rfl
 ·have e5 : (s.place = 5) = False := eq_false h5
  rw [if_neg (fun h => h5 h.1)]
  by_cases h6 : s.place = 6
  ·have e6 : (s.place = 6) = True := eq_true h6
   rw [if_pos h6]
   refine go_fn (tyOf_ok _) Try.func69 rfl rfl (by rw [Try.results69]) Try.ntmps69 rfl fun E => ?_
   (repeat' (first | exact trivial | (with_reducible first | apply awA | apply awB | apply awD | apply awF | apply awG | apply awJ) | (refine aw_draw (id := 5) (t := (.node [0, 1, 2, 3, 4, 5] [])) (drR [2] [] []) mixed (by kernel_rfl) (by kernel_rfl) (fun _ _ h => h) ?_) | (refine at_done (by simp only [go_sem]; exact rfl) ?_) | (refine at_alt (by simp only [go_sem]; exact rfl) ?_) | refine qalt_normal ?_ | refine ats_cons ?_ ?_ | exact ats_nil | ((with_reducible first | apply awn | apply awp | refine awQ ?_ | refine awR ?_); intro r hr; simp only [go_sem, Nat.reduceBEq, Nat.reduceLT, Nat.reduceLeDiff, Nat.reduceAdd, Nat.reduceMul, reduceCtorEq, e5, e6] at hr; subst hr; (first | refine awV ?_ ?_ | refine endK ?_ ?_ | (refine condK (fun h => ?_) (fun h => ?_) <;> (try simp only [go_sem, reduceCtorEq] at h) <;> (try (exfalso; omega))))))) <;> (try omega)
   all_goals exact rfl
  ·have e6 : (s.place = 6) = False := eq_false h6
   rw [if_neg h6]
   refine go_fn (tyOf_ok _) Try.func69 rfl rfl (by rw [Try.results69]) Try.ntmps69 rfl fun E => ?_
   (repeat' (first | exact trivial | (with_reducible first | apply awA | apply awB | apply awC | apply awD | apply awF | apply awI) | ((with_reducible first | apply awn | refine awQ ?_ | refine awR ?_); intro r hr; simp only [go_sem, Nat.reduceBEq, Nat.reduceLT, Nat.reduceLeDiff, Nat.reduceAdd, Nat.reduceMul, reduceCtorEq, e5, e6] at hr; subst hr; (first | refine awV ?_ ?_ | refine endK ?_ ?_ | (refine condK (fun h => ?_) (fun h => ?_) <;> (try simp only [go_sem, reduceCtorEq] at h) <;> (try (exfalso; omega))))))) <;> (try omega)
   all_goals exact rfl
theorem turn_any (s : StM) : PCall Try.prog 70 [vSt s] (fun r => r = .tup [vSt s.turn.1, vB s.turn.2]) := by
 have hs := still_any s
 refine go_fn (tyOf_ok _) Try.func70 rfl rfl (by rw [Try.results70]) Try.ntmps70 rfl fun E => ?_
 (repeat' (first | exact trivial | (with_reducible first | apply awA | apply awD | apply awF) | (refine aw_draw (id := 1) (t := (.node [0, 2, 3, 4, 1, 5, 6, 7, 8, 9, 10, 11] [])) (drR [1] [] []) mixed (by kernel_rfl) (by kernel_rfl) (fun _ _ h => h) ?_) | (refine at_done (by simp only [go_sem]; exact rfl) ?_) | (refine at_alt (by simp only [go_sem]; exact rfl) ?_) | refine qalt_normal ?_ | refine ats_cons ?_ ?_ | exact ats_nil | ((with_reducible first | apply awn | apply awp | refine awR ?_); intro r hr; simp only [go_sem, Nat.reduceBEq, Nat.reduceLT, Nat.reduceLeDiff, Nat.reduceAdd, Nat.reduceMul] at hr; subst hr; (first | refine caC (hs) rfl ?_ ?_ ?_ | refine awV ?_ ?_ | refine endK ?_ ?_)))) <;> (try omega)
 all_goals exact rfl
theorem over_any (s : StM) : PCall Try.prog 72 [vSt s] (fun r => r = vB s.over) := by
 unfold StM.over
 by_cases h1 : s.place = 1
 ·have e1 : (s.place = 1) = True := eq_true h1
  rw [if_pos (.inl h1)]
  refine go_fn (tyOf_ok _) Try.func72 rfl rfl (by rw [Try.results72]) Try.ntmps72 rfl fun E => ?_
  (repeat' (first | exact trivial | (with_reducible first | apply awA | apply awB | apply awC | apply awD | apply awF | apply awG | apply awJ) | ((with_reducible first | apply awn | refine awQ ?_ | refine awR ?_); intro r hr; simp only [go_sem, Nat.reduceBEq, Nat.reduceLT, Nat.reduceLeDiff, Nat.reduceAdd, Nat.reduceMul, e1] at hr; subst hr; (first | refine awV ?_ ?_ | refine endK ?_ ?_ | (refine condK (fun h => ?_) (fun h => ?_) <;> (try simp only [go_sem, reduceCtorEq] at h) <;> (try (exfalso; omega))))))) <;> (try omega)
  all_goals exact rfl
 have e1 : (s.place = 1) = False := eq_false h1
 by_cases h4 : s.place = 4
 ·have e4 : (s.place = 4) = True := eq_true h4
  rw [if_pos (.inr h4)]
  refine go_fn (tyOf_ok _) Try.func72 rfl rfl (by rw [Try.results72]) Try.ntmps72 rfl fun E => ?_
  (repeat' (first | exact trivial | (with_reducible first | apply awA | apply awB | apply awD | apply awF | apply awG | apply awJ) | ((with_reducible first | apply awn | refine awQ ?_ | refine awR ?_); intro r hr; simp only [go_sem, Nat.reduceBEq, Nat.reduceLT, Nat.reduceLeDiff, Nat.reduceAdd, Nat.reduceMul, e1, e4] at hr; subst hr; (first | refine awV ?_ ?_ | refine endK ?_ ?_ | (refine condK (fun h => ?_) (fun h => ?_) <;> (try simp only [go_sem, reduceCtorEq] at h) <;> (try (exfalso; omega))))))) <;> (try omega)
  all_goals exact rfl
 have e4 : (s.place = 4) = False := eq_false h4
 rw [if_neg (by omega)]
 by_cases h2 : s.place = 2
 ·have e2 : (s.place = 2) = True := eq_true h2
  rw [if_pos h2]
  refine go_fn (tyOf_ok _) Try.func72 rfl rfl (by rw [Try.results72]) Try.ntmps72 rfl fun E => ?_
  (repeat' (first | exact trivial | (with_reducible first | apply awA | apply awB | apply awD | apply awF | apply awG | apply awJ) | ((with_reducible first | apply awn | refine awQ ?_ | refine awR ?_); intro r hr; simp only [go_sem, Nat.reduceBEq, Nat.reduceLT, Nat.reduceLeDiff, Nat.reduceAdd, Nat.reduceMul, e1, e4, e2] at hr; subst hr; (first | refine awV ?_ ?_ | refine endK ?_ ?_ | (refine condK (fun h => ?_) (fun h => ?_) <;> (try simp only [go_sem, reduceCtorEq] at h) <;> (try (exfalso; omega))))))) <;> (try omega)
  all_goals exact rfl
 have e2 : (s.place = 2) = False := eq_false h2
 rw [if_neg h2]
 by_cases h6 : s.place = 6
 ·have e6 : (s.place = 6) = True := eq_true h6
  rw [if_pos h6]
  refine go_fn (tyOf_ok _) Try.func72 rfl rfl (by rw [Try.results72]) Try.ntmps72 rfl fun E => ?_
  (repeat' (first | exact trivial | (with_reducible first | apply awA | apply awB | apply awD | apply awF | apply awG | apply awJ) | ((with_reducible first | apply awn | refine awQ ?_ | refine awR ?_); intro r hr; simp only [go_sem, Nat.reduceBEq, Nat.reduceLT, Nat.reduceLeDiff, Nat.reduceAdd, Nat.reduceMul, e1, e4, e2, e6] at hr; subst hr; (first | refine awV ?_ ?_ | refine endK ?_ ?_ | (refine condK (fun h => ?_) (fun h => ?_) <;> (try simp only [go_sem, reduceCtorEq] at h) <;> (try (exfalso; omega))))))) <;> (try omega)
  all_goals exact rfl
 have e6 : (s.place = 6) = False := eq_false h6
 rw [if_neg h6]
 refine go_fn (tyOf_ok _) Try.func72 rfl rfl (by rw [Try.results72]) Try.ntmps72 rfl fun E => ?_
 (repeat' (first | exact trivial | (with_reducible first | apply awA | apply awB | apply awC | apply awD | apply awF | apply awI) | ((with_reducible first | apply awn | refine awQ ?_ | refine awR ?_); intro r hr; simp only [go_sem, Nat.reduceBEq, Nat.reduceLT, Nat.reduceLeDiff, Nat.reduceAdd, Nat.reduceMul, e1, e4, e2, e6] at hr; subst hr; (first | refine awV ?_ ?_ | refine endK ?_ ?_ | (refine condK (fun h => ?_) (fun h => ?_) <;> (try simp only [go_sem, reduceCtorEq] at h) <;> (try (exfalso; omega))))))) <;> (try omega)
 all_goals exact rfl
theorem offset_any (s : StM) (f : Int) : PCall Try.prog 77 [vSt s, vI f] (fun r => r = .tup [vEf (s.offset f).1, vB (s.offset f).2]) := by
 unfold StM.offset
 have s1 := still_any { s with table := IntKind.i64.wrap (s.table + 1) }
 have s2 := still_any { s with table := -1 }
 by_cases h2 : s.place = 2
 ·have e2 : (s.place = 2) = True := eq_true h2
  rw [if_pos h2]
  have b1 := both_any ({ s with table := IntKind.i64.wrap (s.table + 1) } : StM).still
  refine go_fn (tyOf_ok _) Try.func77 rfl rfl (by rw [Try.results77]) Try.ntmps77 rfl fun E => ?_
  (repeat' (first | exact trivial | (with_reducible first | apply awA | apply awD | apply awF | apply awG) | ((with_reducible first | apply awn | apply awo | refine awQ ?_ | refine awR ?_); intro r hr; simp only [go_sem, Nat.reduceBEq, Nat.reduceLT, Nat.reduceLeDiff, Nat.reduceAdd, Nat.reduceMul, e2, StM.still] at hr; subst hr; (first | refine caC (s1) rfl ?_ ?_ ?_ | refine caC (b1) rfl ?_ ?_ ?_ | refine awV ?_ ?_ | refine endK ?_ ?_ | (refine condK (fun h => ?_) (fun h => ?_) <;> (try simp only [go_sem, reduceCtorEq] at h) <;> (try (exfalso; omega))))))) <;> (try omega)
  all_goals exact rfl
 have e2 : (s.place = 2) = False := eq_false h2
 rw [if_neg h2]
 have b2 := both_any ({ s with table := -1 } : StM).still
 refine go_fn (tyOf_ok _) Try.func77 rfl rfl (by rw [Try.results77]) Try.ntmps77 rfl fun E => ?_
 (repeat' (first | exact trivial | (with_reducible first | apply awA | apply awC | apply awD | apply awF) | (refine aw_draw (id := 7) (t := (.node [0, 3, 4, 5, 1, 2, 6, 7, 8, 9, 10] [])) (drR [2] [] []) mixed (by kernel_rfl) (by kernel_rfl) (fun _ _ h => h) ?_) | (refine at_done (by simp only [go_sem]; exact rfl) ?_) | (refine at_alt (by simp only [go_sem]; exact rfl) ?_) | refine qalt_normal ?_ | refine ats_cons ?_ ?_ | exact ats_nil | ((with_reducible first | apply awn | apply awp | refine awQ ?_ | refine awR ?_); intro r hr; simp only [go_sem, Nat.reduceBEq, Nat.reduceLT, Nat.reduceLeDiff, Nat.reduceAdd, Nat.reduceMul, e2, StM.still] at hr; subst hr; (first | refine caC (s2) rfl ?_ ?_ ?_ | refine caC (b2) rfl ?_ ?_ ?_ | refine awV ?_ ?_ | refine endK ?_ ?_ | (refine condK (fun h => ?_) (fun h => ?_) <;> (try simp only [go_sem, reduceCtorEq] at h) <;> (try (exfalso; omega))))))) <;> (try omega)
 all_goals exact rfl
theorem part_any (s : StM) (x : InsM) : PCall Try.prog 78 [vSt s, vIns x] (fun r => r = .tup [vEf (s.part x).1, vB (s.part x).2]) := by
 unfold StM.part
 have s1 := still_any s
 have b1 := both_any s.still
 by_cases h1 : x.a = -1
 ·have e1 : (x.a = -1) = True := eq_true h1
  rw [if_pos h1]
  refine go_fn (tyOf_ok _) Try.func78 rfl rfl (by rw [Try.results78]) Try.ntmps78 rfl fun E => ?_
  (repeat' (first | exact trivial | (with_reducible first | apply awA | apply awD | apply awF | apply awG) | (refine aw_draw (id := 2) (t := (.node [0, 3, 4, 5, 1, 2, 6, 7, 8, 9, 10, 11, 12] [])) (drR [2] [] []) mixed (by kernel_rfl) (by kernel_rfl) (fun _ _ h => h) ?_) | (refine at_done (by simp only [go_sem]; exact rfl) ?_) | (refine at_alt (by simp only [go_sem]; exact rfl) ?_) | refine qalt_normal ?_ | refine ats_cons ?_ ?_ | exact ats_nil | ((with_reducible first | apply awn | apply awp | refine awQ ?_ | refine awR ?_); intro r hr; simp only [go_sem, Nat.reduceBEq, Nat.reduceLT, Nat.reduceLeDiff, Nat.reduceAdd, Nat.reduceMul, e1] at hr; subst hr; (first | refine caC (s1) rfl ?_ ?_ ?_ | refine caC (b1) rfl ?_ ?_ ?_ | refine awV ?_ ?_ | refine endK ?_ ?_ | (refine condK (fun h => ?_) (fun h => ?_) <;> (try simp only [go_sem, reduceCtorEq] at h) <;> (try (exfalso; omega))))))) <;> (try omega)
  all_goals exact rfl
 have e1 : (x.a = -1) = False := eq_false h1
 rw [if_neg h1]
 have hf := fill_any s x.a
 generalize s.fill x.a = q at hf ⊢
 obtain ⟨f, ok⟩ := q
 have b2 := both_any { f with parts := IntKind.i64.wrap (f.parts + 1) }
 refine go_fn (tyOf_ok _) Try.func78 rfl rfl (by rw [Try.results78]) Try.ntmps78 rfl fun E => ?_
 cases ok
 ·(repeat' (first | exact trivial | (with_reducible first | apply awA | apply awC | apply awD | apply awF) | (refine aw_draw (id := 5) (t := (.node [0, 2, 1, 3, 4, 5, 6, 7, 8, 9, 10, 11, 12, 13, 14, 15, 16, 17, 18, 19, 20, 21, 22, 23] [])) (drR [6, 2, 3] [] []) mixed (by kernel_rfl) (by kernel_rfl) (fun _ _ h => h) ?_) | (refine at_done (by simp only [go_sem]; exact rfl) ?_) | (refine at_alt (by simp only [go_sem]; exact rfl) ?_) | refine qalt_normal ?_ | refine ats_cons ?_ ?_ | exact ats_nil | ((with_reducible first | apply awn | apply awo | apply awp | refine awQ ?_ | refine awR ?_); intro r hr; simp only [go_sem, Nat.reduceBEq, Nat.reduceLT, Nat.reduceLeDiff, Nat.reduceAdd, Nat.reduceMul, reduceCtorEq, e1] at hr; subst hr; (first | refine caC (hf) rfl ?_ ?_ ?_ | refine caC (b2) rfl ?_ ?_ ?_ | refine awV ?_ ?_ | refine endK ?_ ?_ | (refine condK (fun h => ?_) (fun h => ?_) <;> (try simp only [go_sem, reduceCtorEq] at h) <;> (try (exfalso; omega))))))) <;> (try omega)
  all_goals exact rfl
 ·(repeat' (first | exact trivial | (with_reducible first | apply awA | apply awC | apply awD | apply awF) | (refine aw_draw (id := 5) (t := (.node [0, 2, 1, 3, 4, 5, 6, 7, 8, 9, 10, 11, 12, 13, 14, 15, 16, 17, 18, 19, 20, 21, 22, 23] [])) (drR [6, 2, 3] [] []) mixed (by kernel_rfl) (by kernel_rfl) (fun _ _ h => h) ?_) | (refine at_done (by simp only [go_sem]; exact rfl) ?_) | (refine at_alt (by simp only [go_sem]; exact rfl) ?_) | refine qalt_normal ?_ | refine ats_cons ?_ ?_ | exact ats_nil | ((with_reducible first | apply awn | apply awo | apply awp | refine awQ ?_ | refine awR ?_); intro r hr; simp only [go_sem, Nat.reduceBEq, Nat.reduceLT, Nat.reduceLeDiff, Nat.reduceAdd, Nat.reduceMul, reduceCtorEq, e1] at hr; subst hr; (first | refine caC (hf) rfl ?_ ?_ ?_ | refine caC (b2) rfl ?_ ?_ ?_ | refine awV ?_ ?_ | refine endK ?_ ?_ | (refine condK (fun h => ?_) (fun h => ?_) <;> (try simp only [go_sem, reduceCtorEq] at h) <;> (try (exfalso; omega))))))) <;> (try omega)
  all_goals exact rfl
end Go.Proofs.Ytjeplogcfedmeaa
end
section
namespace Go.Proofs.Ytjeplogcfedmeaa
open Go.RowKit
set_option maxRecDepth 100000
set_option maxHeartbeats 8000000
abbrev cSt (s : StM) : List AV := [vI s.place, .v (.int .u64 s.kids), vI s.table, vI s.parts, vI s.free, vI s.left]
abbrev cIns (x : InsM) : List AV := [vI x.op, vI x.a, vI x.b, vI x.c]
theorem run_any (s : StM) (x : InsM) (ha : 0 ≤ x.a ∧ x.a ≤ 64) (hb : 0 ≤ x.b ∧ x.b ≤ 64) : PCall Try.prog 74 [vSt s, vIns x] (fun r => r = .tup [vEf (s.run x).1, vB (s.run x).2]) := by
 unfold StM.run
 dsimp only
 generalize hR : runN x.b.toNat x.a s (decide (s.place = 2)) = R
 have hb1 := both_any R.1
 have hw := wrap_i64 (n := x.a + x.b) (by omega)
 refine go_fn (tyOf_ok _) Try.func74 rfl rfl (by rw [Try.results74]) Try.ntmps74 rfl fun E => ?_
 (repeat' (first | exact trivial | (with_reducible first | apply awA | apply awB | apply awF) | ((with_reducible apply awn); intro r hr; simp only [go_sem, Nat.reduceBEq, Nat.reduceLT, Nat.reduceLeDiff, Nat.reduceAdd, Nat.reduceMul] at hr; subst hr; (first | refine awV ?_ ?_)))) <;> (try omega)
 refine go_loop [2, 3, 4, 5, 6, 7] [2, 3, 4] (fun q : Nat × Int × StM × Bool => ⟨[(2, true, .ptr 1 2 0 0), (3, true, .ptr 1 3 0 0), (4, true, .ptr 1 4 0 0), (5, true, vB false), (6, true, vB q.2.2.2), (7, true, vI q.2.1)],
  [(2, .var (cSt q.2.2.1)), (3, .var (cIns x)), (4, .var (cSt .zero ++ cSt .zero))]⟩) (fun q => q.2.1 + q.1 = x.a + x.b ∧ 0 ≤ q.2.1 ∧ runN q.1 q.2.1 q.2.2.1 q.2.2.2 = R) (fun q => q.1) (x.b.toNat, x.a, s, decide (s.place = 2)) (by simp only [go_sem, Nat.reduceBEq] <;> exact rfl) ⟨by show x.a + (x.b.toNat : Int) = _; omega, ha.1, hR⟩ ?_
 clear hR
 intro ⟨m, k, s1, ok⟩ ⟨h1, h2, h3⟩
 simp only at h1 h2 h3 ⊢
 have hwk := wrap_i64 (n := k + 1) (by omega)
 cases ok with
 | false =>
  have : (s1, false) = R := by rw [← h3]; cases m <;> rfl
  subst this
  (repeat' (first | exact trivial | (with_reducible first | apply awA | apply awD | apply awE | apply awF | apply awH | apply awK) | ((with_reducible first | apply awn | apply awo | refine awQ ?_ | refine awR ?_); intro r hr; simp only [go_sem, Nat.reduceBEq, Nat.reduceLT, Nat.reduceLeDiff, Nat.reduceAdd, Nat.reduceMul, reduceCtorEq, List.cons_append, List.nil_append, StM.zero] at hr; subst hr; (first | refine caC (hb1) rfl ?_ ?_ ?_ | refine awV ?_ ?_ | refine endK ?_ ?_ | (refine condK (fun h => ?_) (fun h => ?_) <;> (try simp only [go_sem, reduceCtorEq] at h) <;> (try (exfalso; omega))))))) <;> (try omega)
  all_goals exact rfl
 | true =>
  cases m with
  | zero =>
   have e1 : (k < x.a + x.b) = False := eq_false (by omega)
   subst h3
   (repeat' (first | exact trivial | (with_reducible first | apply awA | apply awD | apply awE | apply awF | apply awH | apply awK) | ((with_reducible first | apply awn | apply awo | refine awQ ?_ | refine awR ?_); intro r hr; simp only [go_sem, Nat.reduceBEq, Nat.reduceLT, Nat.reduceLeDiff, Nat.reduceAdd, Nat.reduceMul, reduceCtorEq, hw, e1, List.cons_append, List.nil_append, StM.zero] at hr; subst hr; (first | refine caC (hb1) rfl ?_ ?_ ?_ | refine awV ?_ ?_ | refine endK ?_ ?_ | (refine condK (fun h => ?_) (fun h => ?_) <;> (try simp only [go_sem, reduceCtorEq] at h) <;> (try (exfalso; omega))))))) <;> (try omega)
   all_goals exact rfl
  | succ m =>
   have e1 : (k < x.a + x.b) = True := eq_true (by omega)
   have hf := fill_any s1 k
   unfold runN at h3
   rw [if_pos rfl] at h3
   generalize s1.fill k = q at hf h3
   obtain ⟨f, ok⟩ := q
   simp only at hf h3
   (repeat' (first | exact trivial | (with_reducible first | apply awA | apply awB | apply awC | apply awF | apply awI) | ((with_reducible first | apply awn | apply awo | refine awQ ?_); intro r hr; simp only [go_sem, Nat.reduceBEq, Nat.reduceLT, Nat.reduceLeDiff, Nat.reduceAdd, Nat.reduceMul, reduceCtorEq, hw, hwk, e1] at hr; subst hr; (first | refine caC (hf) rfl ?_ ?_ ?_ | refine awV ?_ ?_ | (refine condK (fun h => ?_) (fun h => ?_) <;> (try simp only [go_sem, reduceCtorEq] at h) <;> (try (exfalso; omega))))))) <;> (try omega)
   refine ⟨(m, k + 1, f, ok), ?_, ⟨by show k + 1 + m = _; omega, by show 0 ≤ k + 1; omega, h3⟩, Nat.lt_succ_self m⟩
   simp only [go_sem, Nat.reduceBEq]
theorem rounds_any (s : StM) (x : InsM) : PCall Try.prog 79 [vSt s, vIns x] (fun r => r = .tup [vEf (s.rounds x).1, vB (s.rounds x).2]) := by
 have hs := still_any s
 have w2 := with_any s.still 2
 have w3 := with_any s.still 3
 have w4 := with_any s.still 4
 have hb := both_any s.still
 unfold StM.rounds
 dsimp only
 by_cases h1 : x.op = 11
 ·have e1 : (x.op = 11) = True := eq_true h1
  rw [if_pos h1]
  refine go_fn (tyOf_ok _) Try.func79 rfl rfl (by rw [Try.results79]) Try.ntmps79 rfl fun E => ?_
  (repeat' (first | exact trivial | (with_reducible first | apply awA | apply awB | apply awD | apply awF | apply awG | apply awJ) | (refine aw_draw (id := 1) (t := (.node [0, 1, 2, 3, 4, 5, 6, 7] [])) (drR [2] [] []) mixed (by kernel_rfl) (by kernel_rfl) (fun _ _ h => h) ?_) | (refine aw_draw (id := 7) (t := (.node [0, 1, 2, 3, 4, 5, 6, 7, 8, 9, 10] [])) (drR [8, 2] [] []) mixed (by kernel_rfl) (by kernel_rfl) (fun _ _ h => h) ?_) | (refine at_done (by simp only [go_sem]; exact rfl) ?_) | (refine at_alt (by simp only [go_sem]; exact rfl) ?_) | refine qalt_normal ?_ | refine ats_cons ?_ ?_ | exact ats_nil | ((with_reducible first | apply awn | apply awo | apply awp | refine awQ ?_ | refine awR ?_); intro r hr; simp only [go_sem, Nat.reduceBEq, Nat.reduceLT, Nat.reduceLeDiff, Nat.reduceAdd, Nat.reduceMul, reduceCtorEq, e1] at hr; subst hr; (first | refine caC (hs) rfl ?_ ?_ ?_ | refine awV ?_ ?_ | refine endK ?_ ?_ | (refine condK (fun h => ?_) (fun h => ?_) <;> (try simp only [go_sem, reduceCtorEq] at h) <;> (try (exfalso; omega))))))) <;> (try omega)
  all_goals exact rfl
 have e1 : (x.op = 11) = False := eq_false h1
 rw [if_neg h1]
 by_cases h2 : x.op = 12
 ·have e2 : (x.op = 12) = True := eq_true h2
  rw [if_pos h2]
  refine go_fn (tyOf_ok _) Try.func79 rfl rfl (by rw [Try.results79]) Try.ntmps79 rfl fun E => ?_
  (repeat' (first | exact trivial | (with_reducible first | apply awA | apply awB | apply awD | apply awF | apply awG | apply awJ) | (refine aw_draw (id := 1) (t := (.node [0, 1, 2, 3, 4, 5, 6, 7] [])) (drR [2] [] []) mixed (by kernel_rfl) (by kernel_rfl) (fun _ _ h => h) ?_) | (refine aw_draw (id := 9) (t := (.node [0, 1, 4, 2, 3, 5, 6, 7, 8, 9] [])) (drR [2] [] []) mixed (by kernel_rfl) (by kernel_rfl) (fun _ _ h => h) ?_) | (refine at_done (by simp only [go_sem]; exact rfl) ?_) | (refine at_alt (by simp only [go_sem]; exact rfl) ?_) | refine qalt_normal ?_ | refine ats_cons ?_ ?_ | exact ats_nil | ((with_reducible first | apply awn | apply awo | apply awp | refine awQ ?_ | refine awR ?_); intro r hr; simp only [go_sem, Nat.reduceBEq, Nat.reduceLT, Nat.reduceLeDiff, Nat.reduceAdd, Nat.reduceMul, e1, e2] at hr; subst hr; (first | refine caC (hs) rfl ?_ ?_ ?_ | refine caC (w3) rfl ?_ ?_ ?_ | refine awV ?_ ?_ | refine endK ?_ ?_ | (refine condK (fun h => ?_) (fun h => ?_) <;> (try simp only [go_sem, reduceCtorEq] at h) <;> (try (exfalso; omega))))))) <;> (try omega)
  all_goals exact rfl
 have e2 : (x.op = 12) = False := eq_false h2
 rw [if_neg h2]
 by_cases h3 : x.op = 13
 ·have e3 : (x.op = 13) = True := eq_true h3
  rw [if_pos h3]
  refine go_fn (tyOf_ok _) Try.func79 rfl rfl (by rw [Try.results79]) Try.ntmps79 rfl fun E => ?_
  (repeat' (first | exact trivial | (with_reducible first | apply awA | apply awB | apply awD | apply awF | apply awG | apply awJ) | (refine aw_draw (id := 1) (t := (.node [0, 1, 2, 3, 4, 5, 6, 7] [])) (drR [2] [] []) mixed (by kernel_rfl) (by kernel_rfl) (fun _ _ h => h) ?_) | (refine aw_draw (id := 11) (t := (.node [0, 2, 4, 1, 3, 5, 6] [])) (drR [2] [] []) mixed (by kernel_rfl) (by kernel_rfl) (fun _ _ h => h) ?_) | (refine at_done (by simp only [go_sem]; exact rfl) ?_) | (refine at_alt (by simp only [go_sem]; exact rfl) ?_) | refine qalt_normal ?_ | refine ats_cons ?_ ?_ | exact ats_nil | ((with_reducible first | apply awn | apply awo | apply awp | refine awQ ?_ | refine awR ?_); intro r hr; simp only [go_sem, Nat.reduceBEq, Nat.reduceLT, Nat.reduceLeDiff, Nat.reduceAdd, Nat.reduceMul, e1, e2, e3] at hr; subst hr; (first | refine caC (hs) rfl ?_ ?_ ?_ | refine caC (w2) rfl ?_ ?_ ?_ | refine awV ?_ ?_ | refine endK ?_ ?_ | (refine condK (fun h => ?_) (fun h => ?_) <;> (try simp only [go_sem, reduceCtorEq] at h) <;> (try (exfalso; omega))))))) <;> (try omega)
  all_goals exact rfl
 have e3 : (x.op = 13) = False := eq_false h3
 rw [if_neg h3]
 by_cases h4 : x.op = 14
 ·have e4 : (x.op = 14) = True := eq_true h4
  rw [if_pos h4]
  refine go_fn (tyOf_ok _) Try.func79 rfl rfl (by rw [Try.results79]) Try.ntmps79 rfl fun E => ?_
  (repeat' (first | exact trivial | (with_reducible first | apply awA | apply awB | apply awD | apply awF | apply awG | apply awJ) | (refine aw_draw (id := 1) (t := (.node [0, 1, 2, 3, 4, 5, 6, 7] [])) (drR [2] [] []) mixed (by kernel_rfl) (by kernel_rfl) (fun _ _ h => h) ?_) | (refine aw_draw (id := 13) (t := (.node [0, 1, 4, 2, 3, 5, 6] [])) (drR [2] [] []) mixed (by kernel_rfl) (by kernel_rfl) (fun _ _ h => h) ?_) | (refine at_done (by simp only [go_sem]; exact rfl) ?_) | (refine at_alt (by simp only [go_sem]; exact rfl) ?_) | refine qalt_normal ?_ | refine ats_cons ?_ ?_ | exact ats_nil | ((with_reducible first | apply awn | apply awo | apply awp | refine awQ ?_ | refine awR ?_); intro r hr; simp only [go_sem, Nat.reduceBEq, Nat.reduceLT, Nat.reduceLeDiff, Nat.reduceAdd, Nat.reduceMul, e1, e2, e3, e4] at hr; subst hr; (first | refine caC (hs) rfl ?_ ?_ ?_ | refine caC (w2) rfl ?_ ?_ ?_ | refine awV ?_ ?_ | refine endK ?_ ?_ | (refine condK (fun h => ?_) (fun h => ?_) <;> (try simp only [go_sem, reduceCtorEq] at h) <;> (try (exfalso; omega))))))) <;> (try omega)
  all_goals exact rfl
 have e4 : (x.op = 14) = False := eq_false h4
 rw [if_neg h4]
 by_cases h5 : x.op = 15
 ·have e5 : (x.op = 15) = True := eq_true h5
  rw [if_pos h5]
  refine go_fn (tyOf_ok _) Try.func79 rfl rfl (by rw [Try.results79]) Try.ntmps79 rfl fun E => ?_
  (repeat' (first | exact trivial | (with_reducible first | apply awA | apply awB | apply awD | apply awF | apply awG | apply awJ) | (refine aw_draw (id := 1) (t := (.node [0, 1, 2, 3, 4, 5, 6, 7] [])) (drR [2] [] []) mixed (by kernel_rfl) (by kernel_rfl) (fun _ _ h => h) ?_) | (refine aw_draw (id := 15) (t := (.node [0, 1, 4, 2, 3, 5, 6, 7, 8, 9] [])) (drR [2] [] []) mixed (by kernel_rfl) (by kernel_rfl) (fun _ _ h => h) ?_) | (refine at_done (by simp only [go_sem]; exact rfl) ?_) | (refine at_alt (by simp only [go_sem]; exact rfl) ?_) | refine qalt_normal ?_ | refine ats_cons ?_ ?_ | exact ats_nil | ((with_reducible first | apply awn | apply awo | apply awp | refine awQ ?_ | refine awR ?_); intro r hr; simp only [go_sem, Nat.reduceBEq, Nat.reduceLT, Nat.reduceLeDiff, Nat.reduceAdd, Nat.reduceMul, e1, e2, e3, e4, e5] at hr; subst hr; (first | refine caC (hs) rfl ?_ ?_ ?_ | refine caC (w4) rfl ?_ ?_ ?_ | refine awV ?_ ?_ | refine endK ?_ ?_ | (refine condK (fun h => ?_) (fun h => ?_) <;> (try simp only [go_sem, reduceCtorEq] at h) <;> (try (exfalso; omega))))))) <;> (try omega)
  all_goals exact rfl
 have e5 : (x.op = 15) = False := eq_false h5
 rw [if_neg h5]
 refine go_fn (tyOf_ok _) Try.func79 rfl rfl (by rw [Try.results79]) Try.ntmps79 rfl fun E => ?_
 (repeat' (first | exact trivial | (with_reducible first | apply awA | apply awB | apply awC | apply awD | apply awF | apply awI) | (refine aw_draw (id := 1) (t := (.node [0, 1, 2, 3, 4, 5, 6, 7] [])) (drR [2] [] []) mixed (by kernel_rfl) (by kernel_rfl) (fun _ _ h => h) ?_) | (refine aw_draw (id := 16) (t := (.node [0, 2, 3, 4, 1, 5, 6, 7, 8, 9, 10, 11, 12, 13, 14, 15, 16, 17, 18, 19, 20, 21, 22, 23, 24, 25, 26, 27, 28, 29] [])) (drR [2, 3] [] []) mixed (by kernel_rfl) (by kernel_rfl) (fun _ _ h => h) ?_) | (refine at_done (by simp only [go_sem]; exact rfl) ?_) | (refine at_alt (by simp only [go_sem]; exact rfl) ?_) | refine qalt_normal ?_ | refine ats_cons ?_ ?_ | exact ats_nil | ((with_reducible first | apply awn | apply awo | apply awp | refine awQ ?_ | refine awR ?_); intro r hr; simp only [go_sem, Nat.reduceBEq, Nat.reduceLT, Nat.reduceLeDiff, Nat.reduceAdd, Nat.reduceMul, reduceCtorEq, e1, e2, e3, e4, e5] at hr; subst hr; (first | refine caC (hs) rfl ?_ ?_ ?_ | refine caC (hb) rfl ?_ ?_ ?_ | refine awV ?_ ?_ | refine endK ?_ ?_ | (refine condK (fun h => ?_) (fun h => ?_) <;> (try simp only [go_sem, reduceCtorEq] at h) <;> (try (exfalso; omega))))))) <;> (try omega)
 all_goals exact rfl
end Go.Proofs.Ytjeplogcfedmeaa
end

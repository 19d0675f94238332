import Derived.OrdersHeld
import Derived.Test.YtfjajlcjifnceaaP2
set_option linter.all false
set_option maxRecDepth 100000
set_option maxHeartbeats 8000000
namespace Go.Proofs.Ytfjajlcjifnceaa
section
open Go.RowKit
def z6 (ops : Array Oper) (s : AState) : Option (Nat × Bool) → Option Bool
 | none => some true
 | some (j, want) =>
  match (ops[j]?).bind (·.dst) with
  | some t =>
   match lk s.fr t with
   | some (g, .v (.bool b)) => some (g && (b == want))
   | _ => none
  | none => none
def yQ (n : Nat) : Option Nat → Prop
 | some d => d < n ∧ d < 10000
 | none => True
theorem vZ {n : Nat} {dst : Option Nat} (h : yQ n dst) : YZ (dst.getD 0) := by
 cases dst with
 | none => exact .inl (by simp)
 | some d => exact .inl h.2
def ZX (s : AState) : Op → Option (Prop × AV)
 | .pick c x y =>
  match s.ev c, s.ev x, s.ev y with
  | .v (.bool b), .v (.bool p), .v (.bool q) => some (s.gd c = true ∧ (b = true → s.gd x = true) ∧ (b = false → s.gd y = true), .v (.bool (bif b then p else q)))
  | _, _, _ => none
 | _ => none
def Ud (T : Nat → Option TyD) (O : List Nat) (s : AState) (dst : Nat) : Op → Option (Prop × AV)
 | .buildSlice t len ps =>
  bif O.contains dst then none else bif O.contains (3000000 + dst) then none else
  match Xh T t len s.ev ps.toList with
  | some (p, _, k, xs) => some (p, .lst k xs)
  | none => none
 | _ => none
def j6 (T : Nat → Option TyD) (O : List Nat) (s : AState) (d : Nat) : Call → Option (Prop × AState × AV)
 | ⟨.builtin .append, ⟨[a, b]⟩, ⟨[t, t']⟩⟩ => bif t == t' then (bif O.contains (2000000 + d) then Uz T s t (s.ev a) (s.ev b) else bif O.contains (3000000 + d) then v7 T s t d (s.ev a) (s.ev b) else qT T s t d (s.ev a) (s.ev b)) else none
 | _ => none
def Vb (T : Nat → Option TyD) (O : List Nat) (s : AState) (d : Nat) : Op → Option (Prop × AState × AV)
 | .alloc t =>
  match T t with
  | some td => some (True, s.var d (td.zero.map AV.v), .ptr 1 d 0 0)
  | none => none
 | .box _ x =>
  match (s.ev x).cells1 with
  | some cs => some (True, s.var d cs, .ptr 1 d 0 0)
  | none => none
 | .buildSlice t len ps =>
  bif O.contains (3000000 + d) then
   match Zf T t len s.ev ps.toList with
   | some (p, e, k, cs) => some (p, s.var d cs, .ref e k d 0 1)
   | none => none
  else
  match Xh T t len s.ev ps.toList with
  | some (p, e, k, xs) => some (p, s.row d e k xs, .ref e k d 0 len)
  | none => none
 | .store t a x =>
  match Zc T s t (s.ev a) (s.ev x) with
  | some (p, s') => some (p, s', .dead)
  | none => none
 | .makeSlice t l c => X3 T s t d (s.ev l) (s.ev c)
 | .makeMap _ none => some (True, { fr := (s.drop d).fr, ob := (d, Uy (O.contains (4000000 + d))) :: (s.drop d).ob }, .map d)
 | .mapUpdate t m k x =>
  match KZ T s t (s.ev m) (s.ev k) (s.ev x) with
  | some (p, s') => some (p, s', .dead)
  | none => none
 | .call c => j6 T O s d c
 | _ => none
def Ky (O : List Nat) (o : Oper) (s : AState) (a : AV) : Option (Prop × AState) :=
 match o.op, a, o.dst with
 | .call _, .ref t k d off len, some u =>
  bif O.contains u then
   match lk s.ob d with
   | some (.row t' k' xs) => some (t' = t ∧ k' = k ∧ d < 10000 ∧ off + len ≤ xs.length, (s.frz d t k xs).say u (.lsx k ((xs.take (off + len)).drop off) []))
   | _ => none
  else bif O.contains (1000000 + u) then some (0 < len, s.say u (.rfx t k d off len 0)) else none
 | _, _, _ => none
def ZY (T : Nat → Option TyD) (O : List Nat) (n : Nat) (ops : Array Oper) (s : AState) (o : Oper) : Option (Prop × AState) :=
 match z6 ops s o.guard with
 | none => none
 | some G =>
  match qq T s o.op with
  | some (p, a) => some (yQ n o.dst ∧ (G = true → o.op.operands.toList.all s.gd = true ∧ p), s.put o.dst G a)
  | none =>
   match ZX s o.op with
   | some (p, a) => some (yQ n o.dst ∧ (G = true → p), s.put o.dst G a)
   | none =>
    match Ud T O s (o.dst.getD 0) o.op with
    | some (p, a) => some (yQ n o.dst ∧ (G = true → o.op.operands.toList.all s.gd = true ∧ p), s.put o.dst G a)
    | none =>
     match Vb T O s (o.dst.getD 0) o.op with
     | some (p, s', a) =>
      match Ky O o (s'.put o.dst true a) a with
      | some (q, s2) => some (yQ n o.dst ∧ G = true ∧ o.op.operands.toList.all s.gd = true ∧ p ∧ q, s2)
      | none => some (yQ n o.dst ∧ G = true ∧ o.op.operands.toList.all s.gd = true ∧ p, s'.put o.dst true a)
     | none => none
def wV (T : Nat → Option TyD) (O : List Nat) (n : Nat) (ops : Array Oper) : AState → List Oper → Prop × AState × List Oper
 | s, [] => (True, s, [])
 | s, o :: l =>
  match ZY T O n ops s o with
  | some (p, s') => (p ∧ (wV T O n ops s' l).1, (wV T O n ops s' l).2)
  | none => (True, s, o :: l)
def wY : Op → Bool
 | .move _ | .assign _ | .pick .. | .binOp .. | .unOp .. | .convert .. | .load .. | .fieldAddr .. | .field .. | .indexAddr .. | .index .. | .extract .. | .slice .. | .build .. | .nilCheck _ | .makeInterface .. | .makeFunc .. | .typeAssert .. => true
 | .call ⟨.builtin .len, _, _⟩ | .call ⟨.builtin .min, _, _⟩ | .call ⟨.builtin .max, _, _⟩ => true
 | _ => false
def Kz : Op → Bool
 | .alloc _ | .box .. | .buildSlice .. | .makeSlice .. | .makeMap .. => false
 | .call ⟨.value _, _, _⟩ => false
 | o => !wY o
structure Dr where
 W : Nat → Bool
 wk : Oper → Bool
 ds : Oper → Bool
def Y7 : Op → Bool
 | .call ⟨.value _, _, _⟩ => true
 | _ => false
def Dr.dst (D : Dr) (o : Oper) : Bool := Kz o.op || (Y7 o.op && D.ds o)
def yZ : Dr := ⟨fun _ => true, fun _ => true, fun _ => true⟩
def XW (D : Dr) (β : Nat → Option Nat) (b : Nat) : Prop := ∃ d, D.W d = true ∧ β d = some b
def yG (destroys : Bool) (X : Nat → Prop) (w : World) (X' : Nat → Prop) (w' : World) : Prop := (destroys = false → xz noX w w') ∧ xz X w w' ∧ ∀ b, b < w.heap.size → X' b → X b
def zU (P : Program) (ops : Array Oper) (D : Dr) (R : Exit → Act → World → Prop) (N : (Nat → Prop) → Act → World → Prop) : List Oper → (Nat → Prop) → Act → World → Prop
 | [], X, a, w => N X a w
 | o :: rest, X, a, w =>
  if wY o.op = true then ∃ v, YieldsIf P ops (xz (if D.wk o = true then noX else X) w) o v a ∧ zU P ops D R N rest X (a.put o.dst v) w
  else if Region.wanted o (yielded ops a.tmps) then o.wp P a w (fun a' w' => ∃ X', yG (D.dst o) X w X' w' ∧ zU P ops D R N rest X' a' w') R ∨ (o.asks P a w ∧ LetsOut R) else zU P ops D R N rest X (a.put o.dst undef) w
def zc9 (D : Dr) (s : AState) (o : Oper) : Prop := D.wk o = false → ∀ d ∈ Ub s o.op, D.W d = false
def Ue (s : AState) : Op → List Nat
 | .store _ a _ => j5 (s.ev a)
 | .mapUpdate _ m _ _ => j5 (s.ev m)
 | .call ⟨.builtin .append, ⟨[a, _]⟩, _⟩ =>
  match s.ev a with
  | .ref _ _ d _ _ => [d]
  | _ => []
 | _ => []
def zbW (D : Dr) (s : AState) (o : Oper) : Prop := ∀ d ∈ Ue s o.op, D.W d = true
def wu (T : Nat → Option TyD) (O : List Nat) (D : Dr) (n : Nat) (ops : Array Oper) : AState → List Oper → Prop × AState × List Oper
 | s, [] => (True, s, [])
 | s, o :: l =>
  match ZY T O n ops s o with
  | some (p, s') => ((p ∧ zc9 D s o ∧ zbW D s o) ∧ (wu T O D n ops s' l).1, (wu T O D n ops s' l).2)
  | none => (True, s, o :: l)
def SOK (E : Env) (n : Nat) (s : AState) (a : Act) (w : World) : Prop := a.tmps.size = n ∧ a.defers = [] ∧ ∃ β, SRel E s a.tmps w β
def jh (E : Env) (n : Nat) (Q : Exit → AState → Prop) : Exit → Act → World → Prop := fun e a w => ∃ s, Q e s ∧ SOK E n s a w
def nrm (E : Env) (n : Nat) (D : Dr) (K : AState → Prop) : (Nat → Prop) → Act → World → Prop := fun X a w => ∃ s β, X = XW D β ∧ a.tmps.size = n ∧ a.defers = [] ∧ SRel E s a.tmps w β ∧ K s
def zL (P : Program) (E : Env) (n : Nat) (ops : Array Oper) (D : Dr) (l : List Oper) (Q : Exit → AState → Prop) (s : AState) : Prop :=
 ∀ a w β, a.tmps.size = n → a.defers = [] → SRel E s a.tmps w β → zU P ops D (jh E n Q) (nrm E n D (Q .normal)) l (XW D β) a w
def KA (P : Program) (E : Env) (n : Nat) (ops : Array Oper) (l : List Oper) (Q : Exit → AState → Prop) (s : AState) : Prop := zL P E n ops yZ l Q s
def AWp (P : Program) (E : Env) (n : Nat) (c : Code) (Q : Exit → AState → Prop) (s : AState) : Prop :=
 ∀ a w, SOK E n s a w → c.wp P (jh E n Q) a w
section
variable {P : Program} {T : Nat → Option TyD} {E : Env} {s s' : AState} {a : Act} {tm : Array Value} {w w' : World} {β β' : Nat → Option Nat} {F : Nat → Prop} {n : Nat} {ops : Array Oper} {Q : Exit → AState → Prop} {D : Dr} {X : Nat → Prop}
theorem yn (hs : SRel E s a.tmps w β) {o : Oper} {G : Bool} (h : z6 ops s o.guard = some G) : Region.wanted o (yielded ops a.tmps) = G := by
 unfold Region.wanted
 cases hg : o.guard with
 | none => rw [hg] at h; simp only [z6, Option.some.injEq] at h; exact h
 | some jw =>
  obtain ⟨j, want⟩ := jw
  rw [hg] at h
  simp only [z6] at h
  split at h
  case h_2 => cases h
  rename_i t ht
  split at h
  case h_2 => cases h
  rename_i g b hl
  injection h with h
  subst h
  simp only [yielded, ht]
  cases g with
  | true =>
   have hv := hs.fr t true _ hl rfl
   cases hx : a.tmps[t]? with
   | none =>
    have : a.tmps.getD t undef = undef := by simp [hx]
    rw [this] at hv
    cases hv with
    | s hv => cases hv
   | some x =>
    have : a.tmps.getD t undef = x := by simp [hx]
    rw [this] at hv
    cases hv with
    | s hv =>
     cases hv
     rw [Option.bind_some, hx]
     cases b <;> cases want <;> rfl
  | false =>
   have hu := hs.un t _ hl
   cases hx : a.tmps[t]? with
   | none => rw [Option.bind_some, hx]; cases b <;> cases want <;> rfl
   | some x =>
    have : a.tmps.getD t undef = x := by simp [hx]
    rw [this] at hu
    rw [Option.bind_some, hx, hu]
    cases b <;> cases want <;> rfl
theorem yN (hn : a.tmps.size = n) (hd : a.defers = []) (hs : SRel E s a.tmps w β) {dst : Option Nat} (h : yQ n dst) (G : Bool) (x : AV) {v : Value} (hv : G = true → AVR (FF E β w) β w x v) (hu : G = false → v = undef) :
  (a.put dst v).tmps.size = n ∧ (a.put dst v).defers = [] ∧ SRel E (s.put dst G x) (a.put dst v).tmps w β := by
 cases dst with
 | none => exact ⟨hn, hd, hs⟩
 | some d => exact ⟨by simp [Act.put, hn], hd, hs.put d G x (by rw [hn]; exact h.1) hv hu⟩
theorem yi {o : Oper} {rest : List Oper} {R : Exit → Act → World → Prop} {N : (Nat → Prop) → Act → World → Prop} {G : Bool} (hk : wY o.op = false) (hw : Region.wanted o (yielded ops a.tmps) = G)
  (ht : G = true → o.wp P a w (fun a' w' => ∃ X', yG (D.dst o) X w X' w' ∧ zU P ops D R N rest X' a' w') R) (hf : G = false → zU P ops D R N rest X (a.put o.dst undef) w) :
  zU P ops D R N (o :: rest) X a w := by
 unfold zU
 rw [if_neg (by simp [hk]), hw]
 cases G with
 | true => rw [if_pos rfl]; exact .inl (ht rfl)
 | false => rw [if_neg (by simp)]; exact hf rfl
theorem vT {o : Oper} {rest : List Oper} {R : Exit → Act → World → Prop} {N : (Nat → Prop) → Act → World → Prop} {G : Bool} {v : Value} (hk : wY o.op = true) (hw : Region.wanted o (yielded ops a.tmps) = G)
  (ht : G = true → ∀ w', xz (if D.wk o = true then noX else X) w w' → (execOp a.eval o).run P w' = .ok (.value v) w') (hf : G = false → v = undef) (hr : zU P ops D R N rest X (a.put o.dst v) w) :
  zU P ops D R N (o :: rest) X a w := by
 unfold zU
 rw [if_pos hk]
 refine ⟨v, ?_, hr⟩
 cases G with
 | true => exact .inl ⟨hw, ht rfl⟩
 | false => exact .inr ⟨hw, hf rfl⟩
theorem ZZ {R : Exit → Act → World → Prop} {N : (Nat → Prop) → Act → World → Prop} (hN : ∀ X a w, N X a w → R .normal a w) : ∀ (l : List Oper) (X : Nat → Prop) (a : Act) (w : World), zU P ops D R N l X a w → wpList P ops R l a w := by
 intro l
 induction l with
 | nil => intro X a w h; exact hN X a w h
 | cons o l ih =>
  intro X a w h
  unfold zU at h
  unfold wpList
  split at h
  ·obtain ⟨v, hy, hr⟩ := h
   rcases hy with ⟨hw, hv⟩ | ⟨hw, rfl⟩
   ·rw [if_pos hw]
    refine .inl ?_
    unfold Oper.wp
    rw [hv w (xz.refl _ w)]
    exact ih _ _ _ hr
   ·rw [if_neg (by simp [hw])]
    exact ih _ _ _ hr
  ·split
   ·rename_i hw
    rw [if_pos hw] at h
    exact h.imp (Oper.wp_mono fun a' w' ⟨X', _, h⟩ => ih X' a' w' h) id
   ·rename_i hw
    rw [if_neg hw] at h
    exact ih _ _ _ h
theorem Y8 {o : Op} {p : Prop} {r : AV} (h : qq T s o = some (p, r)) : wY o = true := by
 cases o <;> simp only [qq, reduceCtorEq] at h <;> try rfl
 unfold qR at h
 split at h <;> first | rfl | cases h
theorem Y9 {o : Op} {p : Prop} {r : AV} (h : ZX s o = some (p, r)) : wY o = true := by
 cases o <;> simp only [ZX, reduceCtorEq] at h <;> rfl
theorem Vc {O : List Nat} {d : Nat} {o : Op} {p : Prop} {r : AV} (h : Ud T O s d o = some (p, r)) : wY o = false := by
 cases o <;> simp only [Ud, reduceCtorEq] at h <;> rfl
theorem jy {d : Nat} {o : Op} {p : Prop} {s' : AState} {r : AV} {O : List Nat} (h : Vb T O s d o = some (p, s', r)) : wY o = false := by
 cases o <;> simp only [Vb, reduceCtorEq] at h <;> try rfl
 unfold j6 at h
 split at h <;> first | rfl | cases h
theorem xz.of_below (X : Nat → Prop) (h : Below w.heap.size w w') : xz X w w' := ⟨h.size, fun b hb _ => h.block b hb⟩
theorem J3 {β β' : Nat → Option Nat} (h : ∀ e b, b < w.heap.size → β' e = some b → β e = some b) : ∀ b, b < w.heap.size → XW D β' b → XW D β b := fun b hb ⟨d, h1, h2⟩ => ⟨d, h1, h d b hb h2⟩
theorem yG.below {d : Bool} {β β' : Nat → Option Nat} (h : Below w.heap.size w w') (hβ : ∀ e b, b < w.heap.size → β' e = some b → β e = some b) : yG d (XW D β) w (XW D β') w' :=
 ⟨fun _ => xz.of_below _ h, xz.of_below _ h, J3 hβ⟩
theorem yG.dst {o : Oper} {X' : Nat → Prop} (h : yG (Kz o.op) X w X' w') : yG (D.dst o) X w X' w' := ⟨fun hf => h.1 (by simp only [Dr.dst, Bool.or_eq_false_iff] at hf; exact hf.1), h.2⟩
theorem yG.write {β : Nat → Option Nat} {o : Nat} (ho : D.W o = true) (h : xz (fun b => β o = some b) w w') : yG true (XW D β) w (XW D β) w' :=
 ⟨fun h => (by cases h), ⟨h.1, fun b hb hn => h.2 b hb fun e => hn ⟨o, ho, e⟩⟩, fun _ _ h => h⟩
theorem y9 {o : Oper} {next : Act → World → Prop} {R : Exit → Act → World → Prop} {v : Value} (h : (execOp a.eval o).run P w = .ok (.value v) w') (hn : next (a.put o.dst v) w') : o.wp P a w next R := by
 unfold Oper.wp
 rw [h]
 exact hn
theorem qS {o : Oper} {next : Act → World → Prop} {R : Exit → Act → World → Prop} (h : (execOp a.eval o).run P w = .ok .skip w') (hn : next (a.put o.dst undef) w') : o.wp P a w next R := by
 unfold Oper.wp
 rw [h]
 exact hn
theorem XS (hT : TOK P T) (hn : a.tmps.size = n) (hd : a.defers = []) (hs : SRel E s a.tmps w β) {o : Oper} {p : Prop} {r : AV} {O : List Nat} (h : Vb T O s (o.dst.getD 0) o.op = some (p, s', r)) (hp : p) (hg : o.op.operands.toList.all s.gd = true) (hdst : yQ n o.dst) (hwr : zbW D s o)
  {next : Act → World → Prop} {R : Exit → Act → World → Prop} (hnext : ∀ a' w' β', a'.tmps.size = n → a'.defers = [] → SRel E (s'.put o.dst true r) a'.tmps w' β' → yG (Kz o.op) (XW D β) w (XW D β') w' → next a' w') : o.wp P a w next R := by
 have hall : ∀ x ∈ o.op.operands.toList, AVR (FF E β w) β w (s.ev x) (a.eval x) := fun x hx => hs.ev x (List.all_eq_true.1 hg x hx) rfl
 obtain ⟨dst, op, ty, pos, aft, gd⟩ := o
 dsimp only at h hall hdst hnext
 unfold zbW at hwr
 dsimp only at hwr
 have fin : ∀ {v : Value} {w' : World} {β' : Nat → Option Nat}, SRel E s' a.tmps w' β' → AVR (FF E β' w') β' w' r v → yG (Kz op) (XW D β) w (XW D β') w' → (execOp a.eval ⟨dst, op, ty, pos, aft, gd⟩).run P w = .ok (.value v) w' → (⟨dst, op, ty, pos, aft, gd⟩ : Oper).wp P a w next R := fun hs' hr he hrun => by
  obtain ⟨g1, g2, g3⟩ := yN hn hd hs' hdst true r (fun _ => hr) (fun h => by cases h)
  exact y9 hrun (hnext _ _ _ g1 g2 g3 he)
 cases op <;> simp only [Vb, reduceCtorEq] at h
 case alloc t =>
  split at h
  case h_2 => cases h
  rename_i td ht
  simp only [Option.some.injEq, Prod.mk.injEq] at h
  obtain ⟨_, rfl, rfl⟩ := h
  obtain ⟨v, w', h1, h2, h3, h4⟩ := KT hT hs (dst.getD 0) (vZ hdst) ht
  exact fin h2 h3 (yG.below h4 fun e b hb he => v6 he hb) (by simp [execOp, h1])
 case box t x =>
  split at h
  case h_2 => cases h
  rename_i cs hcs
  simp only [Option.some.injEq, Prod.mk.injEq] at h
  obtain ⟨_, rfl, rfl⟩ := h
  obtain ⟨v, w', h1, h2, h3, h4⟩ := zcf (P := P) hs (dst.getD 0) t (vZ hdst) (hall x (by simp [Op.operands])) hcs
  exact fin h2 h3 (yG.below h4 fun e b hb he => v6 he hb) (by simp [execOp, h1])
 case buildSlice t len ps =>
  cases hO : O.contains (3000000 + dst.getD 0) with
  | true =>
   rw [hO] at h
   dsimp only [cond_true] at h
   split at h
   case h_2 => cases h
   rename_i q e k cs hl
   simp only [Option.some.injEq, Prod.mk.injEq] at h
   obtain ⟨rfl, rfl, rfl⟩ := h
   obtain ⟨v, w', β', h1, h2, h3, h4, h5⟩ := UB (g := a.eval) hT hs (dst.getD 0) (vZ hdst) hl hp (fun z hz => hall z.2 (by simp only [Op.operands]; exact List.mem_map_of_mem (f := fun p : Nat × Operand => p.2) hz))
   exact fin h2 h3 (yG.below h4 h5) (by simp only [execOp]; rw [Sem.run_bind, h1]; rfl)
  | false =>
  rw [hO] at h
  dsimp only [cond_false] at h
  split at h
  case h_2 => cases h
  rename_i q e k xs hl
  simp only [Option.some.injEq, Prod.mk.injEq] at h
  obtain ⟨rfl, rfl, rfl⟩ := h
  obtain ⟨v, w', β', h1, h2, h3, h4, h5⟩ := za2 (g := a.eval) hT hs (dst.getD 0) (vZ hdst) hl hp (fun z hz => hall z.2 (by simp only [Op.operands]; exact List.mem_map_of_mem (f := fun p : Nat × Operand => p.2) hz))
  exact fin h2 h3 (yG.below h4 h5) (by simp only [execOp]; rw [Sem.run_bind, h1]; rfl)
 case store t x y =>
  split at h
  case h_2 => cases h
  rename_i q s'' hst
  simp only [Option.some.injEq, Prod.mk.injEq] at h
  obtain ⟨rfl, rfl, rfl⟩ := h
  obtain ⟨w', h1, h2, k', o', i', j', he, hx⟩ := Vh hT hs hst hp (hall x (by simp [Op.operands])) (hall y (by simp [Op.operands]))
  obtain ⟨g1, g2, g3⟩ := yN hn hd h2 hdst true .dead (fun _ => .dead) (v := undef) (fun h => by cases h)
  exact qS (by simp [execOp, h1]) (hnext _ _ _ g1 g2 g3 (yG.write (hwr o' (by simp only [Ue, he, j5, List.mem_singleton])) hx))
 case makeMap t rv =>
  cases rv with
  | some x => cases h
  | none =>
   simp only [Option.some.injEq, Prod.mk.injEq] at h
   obtain ⟨_, rfl, rfl⟩ := h
   obtain ⟨v, w', β', h1, h2, h3, h4, h5⟩ := Vn (P := P) hs (dst.getD 0) t (vZ hdst) (O.contains (4000000 + dst.getD 0))
   exact fin h2 h3 (yG.below h4 h5) (by simp [execOp, h1])
 case makeSlice t l c =>
  obtain ⟨v, w', β', h1, h2, h3, h4, h5⟩ := Ux hT hs h hp (hall l (by simp [Op.operands])) (hall c (by simp [Op.operands]))
  exact fin h2 h3 (yG.below h4 h5) (by simp [execOp, h1])
 case mapUpdate t m k x =>
  split at h
  case h_2 => cases h
  rename_i q s'' hst
  simp only [Option.some.injEq, Prod.mk.injEq] at h
  obtain ⟨rfl, rfl, rfl⟩ := h
  obtain ⟨w', h1, h2, o', he, hx⟩ := K2 hT hs hst hp (hall m (by simp [Op.operands])) (hall k (by simp [Op.operands])) (hall x (by simp [Op.operands]))
  obtain ⟨g1, g2, g3⟩ := yN hn hd h2 hdst true .dead (fun _ => .dead) (v := undef) (fun h => by cases h)
  exact qS (by simp [execOp, h1]) (hnext _ _ _ g1 g2 g3 (yG.write (hwr o' (by simp only [Ue, he, j5, List.mem_singleton])) hx))
 case call c =>
  unfold j6 at h
  split at h
  case h_2 => cases h
  rename_i x y t t'
  cases htt : t == t' with
  | false => rw [htt] at h; cases h
  | true =>
   rw [htt] at h
   have htt' : t = t' := by simpa using htt
   subst htt'
   have key : ∃ v w' β', (Builtin.append_ #[t, t] ty #[a.eval x, a.eval y]).run P w = .ok v w' ∧ SRel E s' a.tmps w' β' ∧ AVR (FF E β' w') β' w' r v ∧
     (∀ e b, b < w.heap.size → β' e = some b → β e = some b) ∧ xz (fun b => ∃ t' k' d off n, s.ev x = .ref t' k' d off n ∧ β d = some b) w w' := by
    cases hO : O.contains (2000000 + dst.getD 0) with
    | true =>
     rw [hO] at h
     exact UA hT hs h hp (hall x (by simp [Op.operands, Call.operands])) (hall y (by simp [Op.operands, Call.operands])) ty
    | false =>
     rw [hO] at h
     cases hO3 : O.contains (3000000 + dst.getD 0) with
     | true =>
      rw [hO3] at h
      exact jn hT hs h hp (hall x (by simp [Op.operands, Call.operands])) (hall y (by simp [Op.operands, Call.operands])) ty
     | false =>
     rw [hO3] at h
     exact Xg hT hs h hp (hall x (by simp [Op.operands, Call.operands])) (hall y (by simp [Op.operands, Call.operands])) ty
   obtain ⟨v, w', β', h1, h2, h3, h4, h5⟩ := key
   exact fin h2 h3 ⟨fun h => (by cases h), ⟨h5.1, fun b hb hn => h5.2 b hb fun ⟨t', k', d', off, n', he, hd'⟩ => hn ⟨d', hwr d' (by simp only [Ue, he, List.mem_singleton]), hd'⟩⟩, J3 h4⟩ (by simp [execOp, resolve, invoke, builtin, h1])
theorem zb7 {t k d off len : Nat} (h0 : 0 < len) : ∀ F β w x, AVR F β w (.ref t k d off len) x → AVR F β w (.rfx t k d off len 0) x := fun F β w x h => by
 cases h with
 | s h => cases h
 | nil => exact absurd h0 (Nat.lt_irrefl _)
 | empty => exact absurd h0 (Nat.lt_irrefl _)
 | ref h1 h2 h3 h4 h5 => subst h4; exact .rfx (.ref h1 h2 h3 rfl h5)
theorem KB {O : List Nat} {o : Oper} {s1 s2 : AState} {x : AV} {q : Prop} (h : Ky O o (s1.put o.dst true x) x = some (q, s2)) (hq : q) {tm : Array Value} (hs : SRel E (s1.put o.dst true x) tm w β) :
  ∃ β', SRel E s2 tm w β' ∧ ∀ e b, β' e = some b → β e = some b := by
 obtain ⟨dst, op, ty, pos, aft, gd⟩ := o
 unfold Ky at h
 split at h
 case h_2 => cases h
 rename_i t k d off len u ho hd
 dsimp only at hd hs
 subst hd
 have ht : lk (s1.put (some u) true (.ref t k d off len)).fr u = some (true, .ref t k d off len) := by
  show lk ((u, true, AV.ref t k d off len) :: s1.fr) u = _
  rw [yg, zO rfl]
 cases hc : O.contains u with
 | false =>
  rw [hc, cond_false] at h
  cases hc' : O.contains (1000000 + u) with
  | false => rw [hc'] at h; cases h
  | true =>
   rw [hc', cond_true] at h
   simp only [Option.some.injEq, Prod.mk.injEq] at h
   obtain ⟨rfl, rfl⟩ := h
   exact ⟨β, hs.say ht (zb7 hq), fun _ _ h => h⟩
 | true =>
  rw [hc, cond_true] at h
  split at h
  case h_2 => cases h
  rename_i t' k' xs hrow
  simp only [Option.some.injEq, Prod.mk.injEq] at h
  obtain ⟨rfl, rfl⟩ := h
  obtain ⟨rfl, rfl, hd', hl⟩ := hq
  have h1 := hs.frz (.inl hd') hrow
  refine ⟨upd β d none, h1.say (x := .lst k' ((xs.take (off + len)).drop off)) ?_ (zci _ _), fun e b h => ?_⟩
  ·have hfr : lk ((s1.put (some u) true (.ref t' k' d off len)).frz d t' k' xs).fr u = (lk (s1.put (some u) true (.ref t' k' d off len)).fr u).map fun p => (p.1, p.2.frz d t' k' xs) := uo (fun p : Bool × AV => (p.1, p.2.frz d t' k' xs)) _ u
   rw [hfr, ht]
   simp only [Option.map_some, AV.frz, zO]
   rw [if_pos ⟨trivial, trivial, hl⟩]
  ·by_cases hed : e = d
   ·rw [hed, ya] at h; cases h
   ·rw [zS _ _ hed] at h; exact h
theorem Uf (hT : TOK P T) {O : List Nat} {o : Oper} {rest : List Oper} {p : Prop} (h : ZY T O n ops s o = some (p, s')) (hp : p) (hdr : zc9 D s o) (hwr : zbW D s o) (hr : zL P E n ops D rest Q s') : zL P E n ops D (o :: rest) Q s := by
 intro a w β hn hd hs
 have hFX : ∀ b, FF E β w b → ¬ XW D β b := fun b hb ⟨d, _, hd'⟩ => hb.2.2 d hd'
 unfold ZY at h
 split at h
 case h_1 => cases h
 rename_i G hG
 have hw := yn (ops := ops) hs hG
 have skip : ∀ (x : AV), yQ n o.dst → G = false → (a.put o.dst undef).tmps.size = n ∧ (a.put o.dst undef).defers = [] ∧ SRel E (s.put o.dst G x) (a.put o.dst undef).tmps w β := fun x hdst hGf => by
  subst hGf
  exact yN hn hd hs hdst false x (fun h => by cases h) (fun _ => rfl)
 have go : ∀ (x : AV) (v : Value), yQ n o.dst → G = true → AVR (FF E β w) β w x v → zL P E n ops D rest Q (s.put o.dst G x) → zU P ops D (jh E n Q) (nrm E n D (Q .normal)) rest (XW D β) (a.put o.dst v) w := fun x v hdst hGt hv hr => by
  obtain ⟨g1, g2, g3⟩ := yN hn hd hs hdst G x (fun _ => hv) (fun h => by rw [hGt] at h; cases h)
  exact hr _ _ _ g1 g2 g3
 have back : ∀ (x : AV), yQ n o.dst → G = false → zL P E n ops D rest Q (s.put o.dst G x) → zU P ops D (jh E n Q) (nrm E n D (Q .normal)) rest (XW D β) (a.put o.dst undef) w := fun x hdst hGf hr => by
  obtain ⟨g1, g2, g3⟩ := skip x hdst hGf
  exact hr _ _ _ g1 g2 g3
 split at h
 ·rename_i q x hx
  simp only [Option.some.injEq, Prod.mk.injEq] at h
  obtain ⟨rfl, rfl⟩ := h
  obtain ⟨hdst, hq⟩ := hp
  have hk := Y8 hx
  cases hGv : G with
  | false => exact vT hk (hw.trans hGv) (fun h => by cases h) (fun _ => rfl) (back _ hdst hGv hr)
  | true =>
   obtain ⟨v, h1, h2⟩ := Uc (X := if D.wk o = true then noX else XW D β) hT hs hx (hq hGv).2 rfl (hq hGv).1 (fun b hb => by
    split
    ·exact wK b
    ·exact hFX b hb) (fun d b hd hb => by
    split
    ·exact wK b
    ·rename_i hwk
     rintro ⟨d', hd', hb'⟩
     have := hs.inj d d' b hb hb'
     subst this
     have := hdr (by simpa using hwk) d hd
     rw [hd'] at this
     cases this)
   exact vT hk (hw.trans hGv) (fun _ => h2) (fun h => by cases h) (go x v hdst hGv h1 hr)
 ·split at h
  ·rename_i q x hx
   simp only [Option.some.injEq, Prod.mk.injEq] at h
   obtain ⟨rfl, rfl⟩ := h
   obtain ⟨hdst, hq⟩ := hp
   have hk := Y9 hx
   cases hGv : G with
   | false => exact vT hk (hw.trans hGv) (fun h => by cases h) (fun _ => rfl) (back _ hdst hGv hr)
   | true =>
    have hq' := hq hGv
    obtain ⟨dst, op, ty, pos, aft, gd⟩ := o
    dsimp only at hx hdst
    cases op <;> simp only [ZX, reduceCtorEq] at hx
    rename_i c y z _
    split at hx
    case h_2 => cases hx
    rename_i b y' z' hc hy hz
    simp only [Option.some.injEq, Prod.mk.injEq] at hx
    obtain ⟨rfl, rfl⟩ := hx
    obtain ⟨g1, g2, g3⟩ := hq'
    have vc := hs.ev c g1 (a := a) rfl
    rw [hc] at vc
    generalize huc : a.eval c = uc at vc
    cases vc with | s vc => cases vc with | v vc =>
    cases b with
    | true =>
     have vy := hs.ev y (g2 rfl) (a := a) rfl
     rw [hy] at vy
     generalize huy : a.eval y = uy at vy
     cases vy with | s vy => cases vy with | v vy =>
     exact vT (v := .bool y') hk (hw.trans hGv) (fun _ w' _ => by simp [execOp, huc, huy, asBool]) (fun h => by cases h) (go _ _ hdst hGv (.s (.v rfl)) hr)
    | false =>
     have vz := hs.ev z (g3 rfl) (a := a) rfl
     rw [hz] at vz
     generalize huz : a.eval z = uz at vz
     cases vz with | s vz => cases vz with | v vz =>
     exact vT (v := .bool z') hk (hw.trans hGv) (fun _ w' _ => by simp [execOp, huc, huz, asBool]) (fun h => by cases h) (go _ _ hdst hGv (.s (.v rfl)) hr)
  ·split at h
   ·rename_i q x hx
    simp only [Option.some.injEq, Prod.mk.injEq] at h
    obtain ⟨rfl, rfl⟩ := h
    obtain ⟨hdst, hq⟩ := hp
    refine yi (Vc hx) hw (fun hGt => ?_) (fun hGf => back _ hdst hGf hr)
    obtain ⟨hg, hq'⟩ := hq hGt
    have hall : ∀ x ∈ o.op.operands.toList, AVR (FF E β w) β w (s.ev x) (a.eval x) := fun x hx => hs.ev x (List.all_eq_true.1 hg x hx) rfl
    obtain ⟨dst, op, ty, pos, aft, gd⟩ := o
    dsimp only at hx hdst hall
    cases op <;> simp only [Ud, reduceCtorEq] at hx
    rename_i t len ps _ _
    cases hO : O.contains (dst.getD 0) with
    | true => simp only [hO, cond_true, reduceCtorEq] at hx
    | false =>
     cases hO3 : O.contains (3000000 + dst.getD 0) with
     | true => simp only [hO, hO3, cond_true, cond_false, reduceCtorEq] at hx
     | false =>
     simp only [hO, hO3, cond_false] at hx
     split at hx
     case h_2 => cases hx
     rename_i q' e k xs hl
     simp only [Option.some.injEq, Prod.mk.injEq] at hx
     obtain ⟨rfl, rfl⟩ := hx
     obtain ⟨v, w', h1, h2, h3, h4⟩ := Vm (g := a.eval) hT hs hl hq' (fun z hz => hall z.2 (by simp only [Op.operands]; exact List.mem_map_of_mem (f := fun p : Nat × Operand => p.2) hz))
     exact y9 (w' := w') (by simp only [execOp]; rw [Sem.run_bind, h1]; rfl) ⟨XW D β, yG.below h4 (fun _ _ _ h => h), by
      obtain ⟨g1, g2, g3⟩ := yN hn hd h2 hdst G _ (fun _ => h3) (fun h => by rw [hGt] at h; cases h)
      exact hr _ _ _ g1 g2 g3⟩
   ·split at h
    ·rename_i q s'' x hx
     split at h
     ·rename_i q' s2 hf
      simp only [Option.some.injEq, Prod.mk.injEq] at h
      obtain ⟨rfl, rfl⟩ := h
      obtain ⟨hdst, hGt, hg, hq, hq'⟩ := hp
      refine yi (jy hx) hw (fun _ => ?_) (fun hGf => by rw [hGt] at hGf; cases hGf)
      refine XS hT hn hd hs hx hq hg hdst hwr fun a' w' β' g1 g2 g3 he => ?_
      obtain ⟨β2, h1, h2⟩ := KB hf hq' g3
      have hx2 := he.dst (D := D)
      exact ⟨XW D β2, ⟨hx2.1, hx2.2.1, fun b hb ⟨e, h3, h4⟩ => hx2.2.2 b hb ⟨e, h3, h2 e b h4⟩⟩, hr a' w' _ g1 g2 h1⟩
     ·simp only [Option.some.injEq, Prod.mk.injEq] at h
      obtain ⟨rfl, rfl⟩ := h
      obtain ⟨hdst, hGt, hg, hq⟩ := hp
      refine yi (jy hx) hw (fun _ => ?_) (fun hGf => by rw [hGt] at hGf; cases hGf)
      exact XS hT hn hd hs hx hq hg hdst hwr fun a' w' β' g1 g2 g3 he => ⟨XW D β', he.dst, hr a' w' β' g1 g2 g3⟩
    ·cases h
theorem zb8 {Q : Exit → AState → Prop} (h : Q .normal s) : zL P E n ops D [] Q s := fun _ _ β h1 h2 h3 => ⟨s, β, rfl, h1, h2, h3, h⟩
theorem XT {X : Nat → Prop} {a : Act} {w : World} (h : nrm E n D (Q .normal) X a w) : jh E n Q .normal a w := by
 obtain ⟨s, β, _, h1, h2, h3, h4⟩ := h
 exact ⟨s, h4, h1, h2, β, h3⟩
theorem KC (o : Oper) : zc9 yZ s o := fun h => by cases h
theorem KD (o : Oper) : zbW yZ s o := fun _ _ => rfl
theorem zb9 (hT : TOK P T) (O : List Nat) {p : Prop} : ∀ (l : List Oper) (s : AState) {s' : AState} {l' : List Oper}, wV T O n ops s l = (p, s', l') → p → KA P E n ops l' Q s' → KA P E n ops l Q s := by
 intro l
 induction l generalizing p with
 | nil =>
  intro s s' l' h _ hr
  simp only [wV, Prod.mk.injEq] at h
  obtain ⟨_, rfl, rfl⟩ := h
  exact hr
 | cons o l ih =>
  intro s s' l' h hp hr
  simp only [wV] at h
  split at h
  ·rename_i q s1 hstep
   simp only [Prod.mk.injEq] at h
   obtain ⟨rfl, h2⟩ := h
   exact Uf hT hstep hp.1 (KC o) (KD o) (ih s1 (p := (wV T O n ops s1 l).1) (s' := s') (l' := l') (by rw [← h2]) hp.2 hr)
  ·simp only [Prod.mk.injEq] at h
   obtain ⟨_, rfl, rfl⟩ := h
   exact hr
theorem zaM (hT : TOK P T) (O : List Nat) {p : Prop} : ∀ (l : List Oper) (s : AState) {s' : AState} {l' : List Oper}, wu T O D n ops s l = (p, s', l') → p → zL P E n ops D l' Q s' → zL P E n ops D l Q s := by
 intro l
 induction l generalizing p with
 | nil =>
  intro s s' l' h _ hr
  simp only [wu, Prod.mk.injEq] at h
  obtain ⟨_, rfl, rfl⟩ := h
  exact hr
 | cons o l ih =>
  intro s s' l' h hp hr
  simp only [wu] at h
  split at h
  ·rename_i q s1 hstep
   simp only [Prod.mk.injEq] at h
   obtain ⟨rfl, h2⟩ := h
   exact Uf hT hstep hp.1.1 hp.1.2.1 hp.1.2.2 (ih s1 (p := (wu T O D n ops s1 l).1) (s' := s') (l' := l') (by rw [← h2]) hp.2 hr)
  ·simp only [Prod.mk.injEq] at h
   obtain ⟨_, rfl, rfl⟩ := h
   exact hr
end
end
section
open Go.RowKit
def AV.snap (s : AState) : AV → AV
 | .agg cs => .agg (snapL s cs)
 | .tup cs => .tup (snapL s cs)
 | .ref _ k d off len =>
  match lk s.ob d with
  | some (.row _ _ xs) => .lst k ((xs.take (off + len)).drop off)
  | _ => .dead
 | .rfx _ k d off len _ =>
  match lk s.ob d with
  | some (.row _ _ xs) => .lst k ((xs.take (off + len)).drop off)
  | _ => .dead
 | .v x => .v x
 | .lst k xs => .lst k xs
 | .lsx k xs ys => .lsx k xs ys
 | .ptr .. => .dead
 | .elt .. => .dead
 | .map _ => .dead
 | .slen _ => .dead
 | .fn f cs => .fn f (snapL s cs)
 | .ifc t a => .ifc t (a.snap s)
 | .dead => .dead
where
 snapL (s : AState) : List AV → List AV
 | [] => []
 | c :: cs => c.snap s :: snapL s cs
theorem AV.snapL_eq (s : AState) (cs : List AV) : AV.snap.snapL s cs = cs.map (AV.snap s) := by
 induction cs with
 | nil => simp [AV.snap.snapL]
 | cons c cs ih => simp [AV.snap.snapL, ih]
def AV.snapOK (s : AState) : AV → Prop
 | .agg cs => snapOKL s cs
 | .tup cs => snapOKL s cs
 | .ref t k d off len =>
  match lk s.ob d with
  | some (.row t' k' xs) => t' = t ∧ k' = k ∧ off + len ≤ xs.length
  | _ => True
 | .rfx t k d off len _ =>
  match lk s.ob d with
  | some (.row t' k' xs) => t' = t ∧ k' = k ∧ off + len ≤ xs.length
  | _ => True
 | .fn _ cs => snapOKL s cs
 | .ifc _ a => a.snapOK s
 | _ => True
where
 snapOKL (s : AState) : List AV → Prop
 | [] => True
 | c :: cs => c.snapOK s ∧ snapOKL s cs
theorem AV.snapOKL_mem {s : AState} {cs : List AV} (h : AV.snapOK.snapOKL s cs) : ∀ c ∈ cs, c.snapOK s := by
 induction cs with
 | nil => intro c hc; cases hc
 | cons c cs ih =>
  simp only [AV.snapOK.snapOKL] at h
  intro x hx
  rcases List.mem_cons.1 hx with rfl | hx
  ·exact h.1
  ·exact ih h.2 x hx
def AV.flat : AV → Bool
 | .v _ => true
 | .agg cs => flatL cs
 | .tup cs => flatL cs
 | .fn _ cs => flatL cs
 | .ifc _ a => a.flat
 | _ => false
where
 flatL : List AV → Bool
 | [] => true
 | c :: cs => c.flat && flatL cs
theorem AV.flatL_mem {cs : List AV} (h : AV.flat.flatL cs = true) : ∀ c ∈ cs, c.flat = true := by
 induction cs with
 | nil => intro c hc; cases hc
 | cons c cs ih =>
  simp only [AV.flat.flatL, Bool.and_eq_true] at h
  intro x hx
  rcases List.mem_cons.1 hx with rfl | hx
  ·exact h.1
  ·exact ih h.2 x hx
def AV.clean : AV → Bool
 | .v _ => true
 | .lst _ _ => true
 | .lsx _ _ _ => true
 | .agg cs => cleanL cs
 | .tup cs => cleanL cs
 | .fn _ cs => cleanL cs
 | .ifc _ a => a.clean
 | _ => false
where
 cleanL : List AV → Bool
 | [] => true
 | c :: cs => c.clean && cleanL cs
theorem AV.cleanL_mem {cs : List AV} (h : AV.clean.cleanL cs = true) : ∀ c ∈ cs, c.clean = true := by
 induction cs with
 | nil => intro c hc; cases hc
 | cons c cs ih =>
  simp only [AV.clean.cleanL, Bool.and_eq_true] at h
  intro x hx
  rcases List.mem_cons.1 hx with rfl | hx
  ·exact h.1
  ·exact ih h.2 x hx
section
variable {P : Program} {T : Nat → Option TyD} {E : Env} {s s' : AState} {a : Act} {tm : Array Value} {w w' : World} {β β' : Nat → Option Nat} {F F' : Nat → Prop} {n : Nat} {ops : Array Oper} {Q : Exit → AState → Prop} {D : Dr}
theorem ur (hs : SRel E s tm w β) (hF : ∀ b, FF E β w b → F' b) (hβ : ∀ d b, β d = some b → F' b) {t k d off len : Nat} {v : Value} (h : AVR (FF E β w) β w (.ref t k d off len) v) (hok : (AV.ref t k d off len).snapOK s) : AVR F' (fun _ => none) w ((AV.ref t k d off len).snap s) v := by
 cases h with
 | s h => cases h
 | nil =>
  simp only [AV.snap]
  split
  ·rename_i t' k' xs hob
   have hz : (xs.take (off + 0)).drop off = [] := List.eq_nil_of_length_eq_zero (by rw [List.length_drop, List.length_take]; omega)
   rw [hz]
   exact .s (.lst (fun _ _ => .nilFunc) rfl (Nat.le_refl _) (by decide) (fun cs hcs => by cases hcs) (fun h => by omega) (fun i j hi => by omega) fun i j cs u hc => by simp at hc)
  ·exact .dead
 | empty h1 =>
  simp only [AV.snap]
  split
  ·rename_i t' k' xs hob
   have hz : (xs.take (off + 0)).drop off = [] := List.eq_nil_of_length_eq_zero (by rw [List.length_drop, List.length_take]; omega)
   rw [hz]
   exact .s (.lst (fun _ _ => .nilFunc) rfl (Nat.le_refl _) (by decide) (fun cs hcs => by cases hcs) (fun h => by omega) (fun i j hi => by omega) fun i j cs u hc => by simp at hc)
  ·exact .dead
 | @ref _ _ _ _ _ c b A h1 h2 h3 h4 h5 =>
  simp only [AV.snap]
  split
  ·rename_i t' k' xs hob
   simp only [AV.snapOK, hob] at hok
   obtain ⟨rfl, rfl, hl⟩ := hok
   obtain ⟨hk, hrow⟩ := hs.ob d _ hob
   have hlen : ((xs.take (off + len)).drop off).length = len := by rw [List.length_drop, List.length_take]; omega
   have hkk : ∀ cs ∈ (xs.take (off + len)).drop off, cs.length = k' := fun cs hcs => hk cs (List.mem_of_mem_take (List.mem_of_mem_drop hcs))
   subst h4
   rcases hrow with rfl | ⟨b', arr, hb', harr, hsz, hc⟩
   ·simp only [List.length_nil] at hl
    have hl0 : len = 0 := by omega
    subst hl0
    exact .s (.lst (fun _ _ => .nilFunc) hlen.symm h2 h3 (fun cs hcs => hkk cs hcs) (fun h => by omega) (fun i j hi => by omega) fun i j cs u hc => by simp at hc)
   ·rw [h1] at hb'
    injection hb' with hb'
    subst hb'
    have get : ∀ i cs, ((xs.take (off + len)).drop off)[i]? = some cs → i < len ∧ xs[off + i]? = some cs := fun i cs hcs => by
     have hi : i < len := by rw [← hlen]; exact zE hcs
     rw [List.getElem?_drop, List.getElem?_take_of_lt (by omega)] at hcs
     exact ⟨hi, hcs⟩
    have hall : ∀ i j, i < len → j < k' → ∃ x, arr[(off + i) * k' + j]? = some x ∧ x.oneCell' = true := fun i j hi hj => by
     have hlt : off + i < xs.length := by omega
     have hlj : j < (xs[off + i]).length := by rw [hk _ (List.getElem_mem hlt)]; exact hj
     obtain ⟨x, hx, hr⟩ := hc (off + i) j xs[off + i] (xs[off + i])[j] (List.getElem?_eq_getElem hlt) (List.getElem?_eq_getElem hlj)
     exact ⟨x, hx, hr.one⟩
    refine .s (.lst (fun i j => (arr[(off + i) * k' + j]?).getD undef) hlen.symm h2 h3 hkk (fun _ => ⟨b, off * k', rfl, hβ d b h1, fun i j hi hj => ?_⟩) (fun i j hi hj => ?_) fun i j cs u hcs hu => ?_)
    ·obtain ⟨x, hx, _⟩ := hall i j hi hj
     rw [cell_of_row w b _ arr t' (0, 0) harr, show off * k' + (i * k' + j) = (off + i) * k' + j by rw [Nat.add_mul]; omega, hx]
     rfl
    ·obtain ⟨x, hx, ho⟩ := hall i j hi hj
     show ((arr[(off + i) * k' + j]?).getD undef).oneCell' = true
     rw [hx]; exact ho
    ·obtain ⟨hi, hcs'⟩ := get i cs hcs
     obtain ⟨x, hx, hr⟩ := hc (off + i) j cs u hcs' hu
     show SVR F' w u ((arr[(off + i) * k' + j]?).getD undef)
     rw [hx]; exact hr.mono hF (fun _ _ => rfl)
  ·exact .dead
theorem kg (hs : SRel E s tm w β) (hF : ∀ b, FF E β w b → F' b) (hβ : ∀ d b, β d = some b → F' b) {x : AV} {v : Value} (h : AVR (FF E β w) β w x v) (hok : x.snapOK s) : AVR F' (fun _ => none) w (x.snap s) v := by
 induction h with
 | s h =>
  cases h with
  | v h => exact .s (.v h)
  | lst g h1 h2 h3 h4 h5 h6 h7 => exact .s ((SVR.lst g h1 h2 h3 h4 h5 h6 h7).mono hF (fun _ _ => rfl))
  | lsx h => exact .s ((SVR.lsx h).mono hF (fun _ _ => rfl))
 | @agg cs vs h1 h2 _ ih =>
  simp only [AV.snap, AV.snapL_eq]
  refine .agg (by simpa using h1) h2 fun i c u hc hu => ?_
  rw [List.getElem?_map] at hc
  cases hci : cs[i]? with
  | none => rw [hci] at hc; cases hc
  | some c' => rw [hci] at hc; injection hc with hc; subst hc; exact ih i c' u hci hu (AV.snapOKL_mem (by simpa only [AV.snapOK] using hok) c' (List.mem_of_getElem? hci))
 | @tup cs vs h1 _ ih =>
  simp only [AV.snap, AV.snapL_eq]
  refine .tup (by simpa using h1) fun i c u hc hu => ?_
  rw [List.getElem?_map] at hc
  cases hci : cs[i]? with
  | none => rw [hci] at hc; cases hc
  | some c' => rw [hci] at hc; injection hc with hc; subst hc; exact ih i c' u hci hu (AV.snapOKL_mem (by simpa only [AV.snapOK] using hok) c' (List.mem_of_getElem? hci))
 | nil => exact ur hs hF hβ .nil hok
 | empty h1 => exact ur hs hF hβ (.empty h1) hok
 | ref h1 h2 h3 h4 h5 => exact ur hs hF hβ (.ref h1 h2 h3 h4 h5) hok
 | rfx h _ => exact ur hs hF hβ (AVR.rfx h).rfx_ref hok
 | ptr => exact .dead
 | elt => exact .dead
 | map => exact .dead
 | slen => exact .dead
 | @fn f g cs vs xs ys h0 h1 _ ih =>
  simp only [AV.snap, AV.snapL_eq]
  refine .fn h0 (by simpa using h1) fun i c u hc hu => ?_
  rw [List.getElem?_map] at hc
  cases hci : cs[i]? with
  | none => rw [hci] at hc; cases hc
  | some c' => rw [hci] at hc; injection hc with hc; subst hc; exact ih i c' u hci hu (AV.snapOKL_mem (by simpa only [AV.snapOK] using hok) c' (List.mem_of_getElem? hci))
 | ifc _ ih => exact .ifc (ih (by simpa only [AV.snapOK] using hok))
 | dead => exact .dead
theorem zaN {x : AV} {v : Value} (h : AVR F β w x v) (hf : x.flat = true) : AVR F' β' w' x v := by
 induction h with
 | s h =>
  cases h with
  | v h => exact .s (.v h)
  | lst => cases hf
  | lsx => cases hf
 | agg h1 h2 _ ih => exact .agg h1 h2 fun i c u hc hu => ih i c u hc hu (AV.flatL_mem (by simpa only [AV.flat] using hf) c (List.mem_of_getElem? hc))
 | tup h1 _ ih => exact .tup h1 fun i c u hc hu => ih i c u hc hu (AV.flatL_mem (by simpa only [AV.flat] using hf) c (List.mem_of_getElem? hc))
 | fn h0 h1 _ ih => exact .fn h0 h1 fun i c u hc hu => ih i c u hc hu (AV.flatL_mem (by simpa only [AV.flat] using hf) c (List.mem_of_getElem? hc))
 | ifc _ ih => exact .ifc (ih (by simpa only [AV.flat] using hf))
 | _ => cases hf
theorem KE {x : AV} {v : Value} (h : AVR F β w x v) (hf : x.clean = true) : AVR F β' w x v := by
 induction h with
 | s h => exact .s h
 | agg h1 h2 _ ih => exact .agg h1 h2 fun i c u hc hu => ih i c u hc hu (AV.cleanL_mem (by simpa only [AV.clean] using hf) c (List.mem_of_getElem? hc))
 | tup h1 _ ih => exact .tup h1 fun i c u hc hu => ih i c u hc hu (AV.cleanL_mem (by simpa only [AV.clean] using hf) c (List.mem_of_getElem? hc))
 | fn h0 h1 _ ih => exact .fn h0 h1 fun i c u hc hu => ih i c u hc hu (AV.cleanL_mem (by simpa only [AV.clean] using hf) c (List.mem_of_getElem? hc))
 | ifc _ ih => exact .ifc (ih (by simpa only [AV.clean] using hf))
 | _ => cases hf
def zN (P : Program) (f : Nat) (args : List AV) (R : AV → Prop) : Prop :=
 (∃ fn, P.funcs[f]? = some fn ∧ fn.body.isSome = true ∧ (fn.name == "runtime.NumGoroutine") = false) ∧
 ∀ (w : World) (F : Nat → Prop) (vs : Array Value), FOK F w → vs.size = args.length → (∀ (i : Nat) (x : AV) (v : Value), args[i]? = some x → vs[i]? = some v → AVR F (fun _ => none) w x v) →
  Calls P f vs w fun e w' => ∃ v r, e = .returned v ∧ R r ∧ Below w.heap.size w w' ∧ AVR (fun b => F b ∨ w.heap.size ≤ b ∧ b < w'.heap.size) (fun _ => none) w' r v
theorem zN.mono {f : Nat} {args : List AV} {R R' : AV → Prop} (h : zN P f args R) (hR : ∀ r, R r → R' r) : zN P f args R' :=
 ⟨h.1, fun w F vs h1 h2 h3 => (h.2 w F vs h1 h2 h3).mono fun _ _ ⟨v, r, g1, g2, g3⟩ => ⟨v, r, g1, hR r g2, g3⟩⟩
theorem kh {o : Oper} {x : Operand} {args : Array Operand} {ats : Array TypeId} (ho : o.op = .call ⟨.value x, args, ats⟩) {f : Nat} (hx : a.eval x = .func (.func f) #[] #[])
  {fn : Func} (hf : P.funcs[f]? = some fn) (hb : fn.body.isSome = true) (hn : (fn.name == "runtime.NumGoroutine") = false) : (execOp a.eval o).run P w = .ok (.enter f (args.map a.eval)) w := by
 have hb' : fn.body.isNone = false := by cases h : fn.body <;> simp_all
 unfold execOp
 simp only [ho, resolve, hx, Deferred.ofValue, Sem.run_bind, Sem.run_pure, Result.andThen_ok, invoke, callFunc, run_program, hf, hn, hb', Bool.false_eq_true, if_false, Array.empty_append, Array.append_empty]
theorem kj {o : Oper} {rest : List Oper} {x : Operand} {args : Array Operand} {ats : Array TypeId} {f : Nat} {G : Bool} (hG : z6 ops s o.guard = some G) (ho : o.op = .call ⟨.value x, args, ats⟩)
  (hdst : yQ n o.dst) (hx : s.ev x = .v (.func (.func f) #[] #[])) (hgx : s.gd x = true) {ra : AV} {as' : List AV} (hlen : as'.length = args.size) (R : AV → Prop) (hc : G = true → zN P f as' R)
  (harg : ∀ (β : Nat → Option Nat) (a : Act) (w : World), G = true → SRel E s a.tmps w β → ∃ F : Nat → Prop, FOK F w ∧ (∀ (i : Nat) (y : AV) (z : Operand), as'[i]? = some y → args[i]? = some z → AVR F (fun _ => none) w y (a.eval z)) ∧
   ∀ (w' : World) (r : AV) (v : Value), R r → Below w.heap.size w w' → AVR (fun b => F b ∨ w.heap.size ≤ b ∧ b < w'.heap.size) (fun _ => none) w' r v → (∃ r', AVR (FF E β w') β w' r' v ∧ zL P E n ops D rest Q (s.put o.dst G r')))
  (hskip : G = false → zL P E n ops D rest Q (s.put o.dst G ra)) : zL P E n ops D (o :: rest) Q s := by
 intro a w β hn hd hs
 have hw := yn (ops := ops) hs hG
 refine yi (by rw [ho]; rfl) hw (fun hGt => ?_) (fun hGf => ?_)
 ·obtain ⟨⟨fn, hf, hb, hnm⟩, hcall⟩ := hc hGt
  obtain ⟨F, hFl, hFa, hFr⟩ := harg β a w hGt hs
  have vx := hs.ev x hgx (a := a) rfl
  rw [hx] at vx
  generalize hux : a.eval x = ux at vx
  cases vx with | s vx => cases vx with | v vx =>
  unfold Oper.wp
  rw [kh (w := w) ho hux hf hb hnm]
  refine (hcall w F (args.map a.eval) hFl (by rw [Array.size_map, hlen]) fun i y v hy hv => ?_).mono fun e w' he => ?_
  ·rw [Array.getElem?_map] at hv
   cases hz : args[i]? with
   | none => rw [hz] at hv; cases hv
   | some z => rw [hz] at hv; injection hv with hv; subst hv; exact hFa i y z hy hz
  ·obtain ⟨v, r, rfl, hR, hbel, hr⟩ := he
   obtain ⟨r', hr', hrest⟩ := hFr w' r v hR hbel hr
   obtain ⟨g1, g2, g3⟩ := yN hn hd (hs.ext hbel) hdst G r' (fun _ => hr') (fun h => by rw [hGt] at h; cases h)
   exact ⟨XW D β, yG.below hbel (fun _ _ _ h => h), hrest _ _ _ g1 g2 g3⟩
 ·obtain ⟨g1, g2, g3⟩ := yN hn hd hs hdst G ra (v := undef) (fun h => by rw [hGf] at h; cases h) (fun _ => rfl)
  exact hskip hGf _ _ _ g1 g2 g3
theorem Z1 {o : Oper} {rest : List Oper} {x : Operand} {args : Array Operand} {ats : Array TypeId} {f : Nat} {G : Bool} (hG : z6 ops s o.guard = some G) (ho : o.op = .call ⟨.value x, args, ats⟩)
  (hdst : yQ n o.dst) (hx : s.ev x = .v (.func (.func f) #[] #[])) (hgx : s.gd x = true) {ra : AV} {as' : List AV} (has : args.toList.map (fun z => (s.ev z).snap s) = as')
  (hok : G = true → args.toList.all s.gd = true ∧ ∀ z ∈ args.toList, (s.ev z).snapOK s) (hflat : ra.flat = true) (hc : G = true → zN P f as' (fun r => r = ra)) (hr : zL P E n ops D rest Q (s.put o.dst G ra)) : zL P E n ops D (o :: rest) Q s := by
 refine kj hG ho hdst hx hgx (ra := ra) (as' := as') (by rw [← has]; simp) _ hc (fun β a w hGt hs => ⟨fun b => b < w.heap.size, ⟨fun _ h => h, fun g vs h => ⟨(hs.glo.gl g vs h).1.1, (hs.glo.gl g vs h).2⟩⟩, fun i y z hy hz => ?_, fun w' r v hR _ hr' => ?_⟩) (fun _ => hr)
 ·subst has
  rw [List.getElem?_map] at hy
  have hz' : args.toList[i]? = some z := by simpa using hz
  rw [hz'] at hy
  injection hy with hy
  subst hy
  obtain ⟨hg, hsn⟩ := hok hGt
  have hmem := List.mem_of_getElem? hz'
  exact kg hs (fun b hb => hb.1) (fun d b hb => (hs.rng d b hb).2) (hs.ev z (List.all_eq_true.1 hg z hmem) rfl) (hsn z hmem)
 ·subst hR
  exact ⟨r, zaN hr' hflat, hr⟩
theorem zaO {o : Oper} {rest : List Oper} {x : Operand} {args : Array Operand} {ats : Array TypeId} {f : Nat} (hG : o.guard = none) (ho : o.op = .call ⟨.value x, args, ats⟩)
  (hdst : yQ n o.dst) (hx : s.ev x = .v (.func (.func f) #[] #[])) (hgx : s.gd x = true) {as' : List AV} (has : args.toList.map s.ev = as') (hcl : AV.clean.cleanL as' = true) (hok : args.toList.all s.gd = true)
  {R : AV → Prop} (hc : zN P f as' R) (hr : ∀ r, R r → zL P E n ops D rest Q (s.put o.dst true r)) : zL P E n ops D (o :: rest) Q s := by
 have hG' : z6 ops s o.guard = some true := by rw [hG]; rfl
 refine kj hG' ho hdst hx hgx (ra := .dead) (as' := as') (by rw [← has]; simp) R (fun _ => hc) (fun β a w _ hs => ⟨FF E β w, hs.glo, fun i y z hy hz => ?_, fun w' r v hR hb hr' => ?_⟩) (fun h => by cases h)
 ·have hz' : args.toList[i]? = some z := by simpa using hz
  have hy' := hy
  rw [← has, List.getElem?_map, hz'] at hy'
  injection hy' with hy'
  subst hy'
  have hmem := List.mem_of_getElem? hz'
  exact KE (hs.ev z (List.all_eq_true.1 hok z hmem) rfl) (AV.cleanL_mem hcl _ (List.mem_of_getElem? hy))
 ·refine ⟨r, hr'.mono (fun b h => ?_) (fun _ _ => rfl) (fun _ _ h => by cases h) (fun _ _ _ _ h => by cases h), hr r hR⟩
  rcases h with h | h
  ·exact ⟨Nat.lt_of_lt_of_le h.1 hb.size, h.2⟩
  ·exact ⟨h.2, .inr (.inl (Nat.le_trans hs.old.size h.1)), fun d hd => by have := (hs.rng d b hd).2; omega⟩
def Xa (K : AState → Prop) (Q : Exit → AState → Prop) : Exit → AState → Prop
 | .normal, s => K s
 | e, s => Q e s
def Ug (id : Nat) (Q : Exit → AState → Prop) : Exit → AState → Prop
 | .exit i, s => if i = id then Q .normal s else Q (.exit i) s
 | e, s => Q e s
theorem zca {x y : Code} (h : AWp P E n x (Xa (AWp P E n y Q) Q) s) : AWp P E n (.seq x y) Q s := fun a w hs =>
 wp_seq (wp_mono (h a w hs) fun e a' w' hl => by
  cases e with
  | normal => obtain ⟨s', h1, h2⟩ := hl; exact h1 a' w' h2
  | _ => obtain ⟨s', h1, h2⟩ := hl; exact ⟨s', h1, h2⟩)
theorem KF {id : Nat} {c : Code} (h : AWp P E n c (Ug id Q) s) : AWp P E n (.block id c) Q s := fun a w hs =>
 wp_block (wp_mono (h a w hs) fun e a' w' hl => by
  cases e with
  | exit i =>
   obtain ⟨s', h1, h2⟩ := hl
   simp only [Ug] at h1
   simp only [Exit.inBlock]
   split
   ·rename_i hi; rw [if_pos hi] at h1; exact ⟨s', h1, h2⟩
   ·rename_i hi; rw [if_neg hi] at h1; exact ⟨s', h1, h2⟩
  | _ => obtain ⟨s', h1, h2⟩ := hl; exact ⟨s', h1, h2⟩)
theorem zaP (h : Q .normal s) : AWp P E n .skip Q s := fun _ _ hs => wp_skip ⟨s, h, hs⟩
theorem zcb (h : Q .ret s) : AWp P E n .ret Q s := fun _ _ hs => wp_ret ⟨s, h, hs⟩
theorem zaQ {id : Nat} (h : Q (.exit id) s) : AWp P E n (.exit id) Q s := fun _ _ hs => wp_exit ⟨s, h, hs⟩
theorem Uh {id : Nat} {ops : Array Oper} (h : KA P E n ops ops.toList Q s) : AWp P E n (.region id ops false) Q s := fun a w ⟨hn, hd, β, hs⟩ => wp_region_list (ZZ (fun _ _ _ h => XT h) _ _ _ _ (h a w β hn hd hs))
theorem zaR {c : Operand} {x y : Code} {b : Bool} (hb : s.ev c = .v (.bool b)) (hg : s.gd c = true) (h1 : b = true → AWp P E n x Q s) (h2 : b = false → AWp P E n y Q s) : AWp P E n (.cond c x y) Q s := fun a w hs => by
 obtain ⟨hn, hd, β, hr⟩ := hs
 have hv := hr.ev c hg (a := a) rfl
 rw [hb] at hv
 generalize hu : a.eval c = u at hv
 cases hv with | s hv => cases hv with | v hv =>
 exact wp_cond_split hu (fun h => h1 h a w ⟨hn, hd, β, hr⟩) (fun h => h2 h a w ⟨hn, hd, β, hr⟩)
theorem zaS {c : Code} (I : Nat → AState → Prop) (m : Nat) (h0 : I m s) (round : ∀ k s, I k s → AWp P E n c (Xa (fun s' => ∃ k', k' < k ∧ I k' s') Q) s) : AWp P E n (.loop c) Q s := fun a w hs =>
 wp_loop_ghost (fun k a w => ∃ s, I k s ∧ SOK E n s a w) m ⟨s, h0, hs⟩ fun k a w ⟨s, hI, hs⟩ => wp_mono (round k s hI a w hs) fun e a' w' hl => by
  cases e with
  | normal => obtain ⟨s', ⟨k', h1, h2⟩, h3⟩ := hl; exact ⟨k', h1, s', h2, h3⟩
  | _ => obtain ⟨s', h1, h2⟩ := hl; exact ⟨s', h1, h2⟩
def AState.keep (ts os : List Nat) (s : AState) : AState :=
 { fr := ts.filterMap fun t => (lk s.fr t).map fun p => (t, p), ob := os.filterMap fun d => (lk s.ob d).map fun o => (d, o) }
theorem xM {α : Type} (l : List (Nat × α)) (t : Nat) (x : α) : ∀ ts : List Nat, lk (ts.filterMap fun t => (lk l t).map fun p => (t, p)) t = some x → lk l t = some x := by
 intro ts
 induction ts with
 | nil => intro h; cases h
 | cons u ts ih =>
  intro h
  rw [List.filterMap_cons] at h
  cases hu : lk l u with
  | none => rw [hu] at h; exact ih h
  | some y =>
   rw [hu] at h
   dsimp only [Option.map_some] at h
   rw [yg] at h
   by_cases he : u = t
   ·subst he; rw [zO rfl] at h; rw [hu]; exact h
   ·rw [zK he] at h; exact ih h
theorem SOK.weaken (hs : SOK E n s a w) (h1 : ∀ t p, lk s'.fr t = some p → lk s.fr t = some p) (h2 : ∀ d o, lk s'.ob d = some o → lk s.ob d = some o) : SOK E n s' a w := by
 obtain ⟨hn, hd, β, hr⟩ := hs
 exact ⟨hn, hd, β, hr.weaken (fun t g x h => h1 t (g, x) h) h2⟩
theorem zaT {c : Code} (ts os : List Nat) (h : AWp P E n c Q (s.keep ts os)) : AWp P E n c Q s := fun a w hs =>
 h a w (hs.weaken (fun t p => xM s.fr t p ts) (fun d o => xM s.ob d o os))
def wm : Nat → List AV → List (Nat × Bool × AV)
 | _, [] => []
 | k, x :: xs => (k, true, x) :: wm (k + 1) xs
def v0 (T : Nat → Option TyD) (s : AState) : List ResultVar → Option (Prop × List AV)
 | [] => some (True, [])
 | .tmp t :: l =>
  match v0 T s l with
  | some (p, r) => some ((s.gd (.tmp t) = true ∧ (s.ev (.tmp t)).snapOK s) ∧ p, (s.ev (.tmp t)).snap s :: r)
  | none => none
 | .cell t ty :: l =>
  match vV T s ty (s.ev (.tmp t)), v0 T s l with
  | some (q, x), some (p, r) => some ((s.gd (.tmp t) = true ∧ q ∧ x.snapOK s) ∧ p, x.snap s :: r)
  | _, _ => none
def xN : List AV → AV
 | [x] => x
 | l => .tup l
def Kt (T : Nat → Option TyD) (rs : List ResultVar) (R : AV → Prop) : Exit → AState → Prop
 | .ret, s | .normal, s => ∃ p r, v0 T s rs = some (p, r) ∧ p ∧ R (xN r)
 | _, _ => False
theorem wA : ∀ (l : List AV) (k t : Nat) (g : Bool) (x : AV), lk (wm k l) t = some (g, x) → g = true ∧ k ≤ t ∧ l[t - k]? = some x := by
 intro l
 induction l with
 | nil => intro k t g x h; cases h
 | cons y l ih =>
  intro k t g x h
  rw [wm, yg] at h
  by_cases hk : k = t
  ·rw [zO hk] at h
   injection h with h
   injection h with h1 h2
   subst hk
   exact ⟨h1.symm, Nat.le_refl _, by rw [Nat.sub_self]; simp [h2]⟩
  ·rw [zK hk] at h
   obtain ⟨h1, h2, h3⟩ := ih _ _ _ _ h
   exact ⟨h1, by omega, by rw [show t - k = (t - (k + 1)) + 1 by omega, List.getElem?_cons_succ]; exact h3⟩
def kk (tm : Array Value) : ResultVar → Sem Value
 | .tmp t => pure (tm.getD t undef)
 | .cell a t => do loadVar t (← asAddr (tm.getD a undef))
theorem u9 (fn : Func) (tm : Array Value) : results fn tm = (do
  let vs ← fn.results.mapM (kk tm)
  pure (if h : vs.size = 1 then vs[0] else .tuple vs)) := rfl
theorem zcc (hT : TOK P T) (hs : SRel E s tm w β) (hF : ∀ b, FF E β w b → F' b) (hβ : ∀ d b, β d = some b → F' b) : ∀ (rs : List ResultVar) (p : Prop) (r : List AV), v0 T s rs = some (p, r) → p →
  ∃ vs : List Value, (rs.mapM (kk tm)).run P w = .ok vs w ∧ vs.length = r.length ∧
   ∀ (i : Nat) (x : AV) (v : Value), r[i]? = some x → vs[i]? = some v → AVR F' (fun _ => none) w x v := by
 intro rs
 induction rs with
 | nil =>
  intro p r h _
  simp only [v0, Option.some.injEq, Prod.mk.injEq] at h
  obtain ⟨_, rfl⟩ := h
  exact ⟨[], rfl, rfl, fun i x v h => by simp at h⟩
 | cons q rs ih =>
  intro p r h hp
  cases q with
  | tmp t =>
   simp only [v0] at h
   split at h
   case h_2 => cases h
   rename_i p' r' hr
   simp only [Option.some.injEq, Prod.mk.injEq] at h
   obtain ⟨rfl, rfl⟩ := h
   obtain ⟨⟨hg, hok⟩, hp'⟩ := hp
   obtain ⟨vs, h1, h2, h3⟩ := ih p' r' hr hp'
   refine ⟨tm.getD t undef :: vs, ?_, by simp [h2], fun i x v hx hv => ?_⟩
   ·rw [List.mapM_cons]
    simp only [kk, Sem.run_bind, Sem.run_pure, Result.andThen_ok, h1]
   ·cases i with
    | zero =>
     simp only [List.getElem?_cons_zero, Option.some.injEq] at hx hv
     subst hx
     subst hv
     exact kg hs hF hβ (hs.ev (.tmp t) hg (a := ⟨tm, []⟩) rfl) hok
    | succ i => exact h3 i x v (by simpa using hx) (by simpa using hv)
  | cell t ty =>
   simp only [v0] at h
   split at h
   case h_2 => cases h
   rename_i q' x' p' r' hl hr
   simp only [Option.some.injEq, Prod.mk.injEq] at h
   obtain ⟨rfl, rfl⟩ := h
   obtain ⟨⟨hg, hq, hok⟩, hp'⟩ := hp
   obtain ⟨vs, h1, h2, h3⟩ := ih p' r' hr hp'
   have hv := hs.ev (.tmp t) hg (a := ⟨tm, []⟩) rfl
   obtain ⟨v, g1, g2⟩ := uu (X := noX) hT hs hl hq (fun b _ => wK b) (fun _ _ _ _ b _ _ => wK b) hv
   have hrun := g2 w (xz.refl noX w)
   have haddr : ∃ ad, (Act.mk tm []).eval (.tmp t) = .pointer (some ad) := by
    have hv' := hv
    generalize (Act.mk tm []).eval (.tmp t) = u at hv' ⊢
    generalize s.ev (.tmp t) = av at hl hv'
    unfold vV at hl
    split at hl
    ·cases hl
    split at hl
    ·cases hv' with
     | s h => cases h
     | ptr => exact ⟨_, rfl⟩
    ·cases hv' with
     | s h => cases h
     | elt => exact ⟨_, rfl⟩
    ·cases hl
   obtain ⟨ad, had⟩ := haddr
   have had' : tm.getD t undef = .pointer (some ad) := had
   rw [had] at hrun
   refine ⟨v :: vs, ?_, by simp [h2], fun i x u hx hu => ?_⟩
   ·rw [List.mapM_cons]
    have hlv : (loadVar ty ad).run P w = .ok v w := by simpa [Instr.loadAt, Instr.sureAddr] using hrun
    have hax : (asAddr (tm.getD t undef)).run P w = .ok ad w := by rw [had']; rfl
    simp only [kk, Sem.run_bind, Sem.run_pure, Result.andThen_ok, hax, hlv, h1]
   ·cases i with
    | zero =>
     simp only [List.getElem?_cons_zero, Option.some.injEq] at hx hu
     subst hx
     subst hu
     exact kg hs hF hβ g1 hok
    | succ i => exact h3 i x u (by simpa using hx) (by simpa using hu)
theorem zN.intro (hT : TOK P T) {f : Nat} {fn : Func} {c : Code} {args : List AV} {R : AV → Prop} (hf : P.funcs[f]? = some fn) (hb : fn.body = some c) (hnm : (fn.name == "runtime.NumGoroutine") = false) (hn : args.length ≤ fn.ntmps)
  (h : ∀ E : Env, AWp P E fn.ntmps c (Kt T fn.results.toList R) { fr := wm 0 args, ob := [] }) : zN P f args R := by
 refine ⟨⟨fn, hf, by rw [hb]; rfl, hnm⟩, fun w F vs hF hl hv => ?_⟩
 let E : Env := ⟨w, F, fun _ => none, fun _ _ h => (by cases h), hF, fun _ _ h => (by cases h)⟩
 have hs0 : SOK E fn.ntmps { fr := wm 0 args, ob := [] } { tmps := vs ++ Array.replicate (fn.ntmps - vs.size) undef, defers := [] } w := by
  refine ⟨by simp; omega, rfl, fun _ => none, ⟨fun _ _ _ h => (by cases h), fun _ _ h => (by cases h), Keeps.refl _ _, fun _ _ h => (by cases h), fun t g x h _ => ?_, fun t x h => ?_, fun _ _ _ h => (by cases h), fun _ _ _ _ _ h => (by cases h)⟩⟩
  ·obtain ⟨_, _, hx⟩ := wA args 0 t g x h
   rw [Nat.sub_zero] at hx
   have hlt : t < vs.size := by rw [hl]; exact zE hx
   have hg : (vs ++ Array.replicate (fn.ntmps - vs.size) undef).getD t undef = vs[t] := by
    simp [Array.getElem?_append_left hlt, Array.getElem?_eq_getElem hlt]
   rw [hg]
   exact (hv t x vs[t] hx (Array.getElem?_eq_getElem hlt)).mono (fun b hb => ⟨hF.lt b hb, .inl hb, fun _ h => by cases h⟩) (fun _ _ => rfl) (fun _ _ h => h) (fun _ _ _ _ _ h => h)
  ·obtain ⟨h1, _⟩ := wA args 0 t false x h
   cases h1
 have hend : ∀ (e : Exit) (a' : Act) (w' : World) (s' : AState), (e = .ret ∨ e = .normal) → Kt T fn.results.toList R e s' → SOK E fn.ntmps s' a' w' →
   a'.defers = [] ∧ ∃ v, (results fn a'.tmps).run P w' = .ok v w' ∧ ∃ v' r, Ending.returned v = .returned v' ∧ R r ∧ Below w.heap.size w w' ∧ AVR (fun b => F b ∨ w.heap.size ≤ b ∧ b < w'.heap.size) (fun _ => none) w' r v' := fun e a' w' s' he hE hS => by
  obtain ⟨_, hd, β, hs'⟩ := hS
  obtain ⟨p, r, h1, h2, h3⟩ : ∃ p r, v0 T s' fn.results.toList = some (p, r) ∧ p ∧ R (xN r) := by rcases he with rfl | rfl <;> exact hE
  obtain ⟨us, g1, g2, g3⟩ := zcc (F' := fun b => F b ∨ w.heap.size ≤ b ∧ b < w'.heap.size) hT hs' (fun b hb => by
   rcases hb.2.1 with h | h | ⟨_, h⟩
   ·exact .inl h
   ·exact .inr ⟨h, hb.1⟩
   ·cases h) (fun d b hb => by
   rcases (hs'.rng d b hb).1 with h | h
   ·exact .inr ⟨h, (hs'.rng d b hb).2⟩
   ·cases h) _ _ _ h1 h2
  refine ⟨hd, (if h : us.toArray.size = 1 then us.toArray[0] else .tuple us.toArray), ?_, _, xN r, rfl, h3, hs'.old.below (fun b ⟨_, h⟩ => by cases h), ?_⟩
  ·rw [u9, Sem.run_bind, Array.mapM_eq_mapM_toList, Sem.run_map, g1]
   rfl
  ·by_cases h1' : us.length = 1
   ·obtain ⟨u, rfl⟩ := List.length_eq_one_iff.1 h1'
    obtain ⟨x, rfl⟩ := List.length_eq_one_iff.1 (g2.symm.trans h1')
    exact g3 0 x u rfl rfl
   ·have hr1 : r.length ≠ 1 := by omega
    have ho : xN r = .tup r := by
     unfold xN
     split
     ·exact absurd rfl hr1
     ·rfl
    rw [ho, dif_neg (by simpa using h1')]
    exact .tup (by simp [g2]) fun i x v hx hv' => g3 i x v hx (by simpa using hv')
 refine calls_of_wp hf hb (wp_mono (h E _ w hs0) fun e a' w' hl' => ?_)
 obtain ⟨s', hE, hS⟩ := hl'
 cases e with
 | normal => exact hend .normal a' w' s' (.inr rfl) hE hS
 | ret => exact hend .ret a' w' s' (.inl rfl) hE hS
 | _ => exact hE.elim
end
end
section
open Go.RowKit
def zdv (P : Program) (t : Nat) : TypeDesc → Option Sh
 | .int k => some (.int k)
 | .bool => some .bool
 | .string => some .str
 | .slice e => some (.slice e)
 | .pointer e => some (.ptr e)
 | .struct fs => some (.strct (fs.toList.map fun f => (f.offset, f.type)) (!P.stoodInHeld t && !P.eqGuardType P.depth t && fs.toList.all fun f => f.name != "_"))
 | .map k e => some (.map k e)
 | .array n e => some (.arr n e)
 | .func .. => some .fn
 | .interface _ => some .iface
 | _ => none
def w8 (P : Program) (t : Nat) : Option TyD :=
 match P.info? t, P.underlying t with
 | some i, some u =>
  match i.zero, zdv P t u with
  | some z, some sh => if z.cells.toList.length = i.size ∧ z.cells.toList.all uO = true then some ⟨i.size, i.bytes, z.cells.toList, sh⟩ else none
  | _, _ => none
 | _, _ => none
theorem za (P : Program) : TOK P (w8 P) := by
 intro t d h
 unfold w8 at h
 split at h
 case h_2 => cases h
 rename_i i u hi hu
 split at h
 case h_2 => cases h
 rename_i z sh hz hsh
 split at h
 case isFalse => cases h
 rename_i hc
 simp only [Option.some.injEq] at h
 subst h
 refine ⟨⟨i, z, hi, rfl, rfl, hz, by simp⟩, hc.1, fun v hv => List.all_eq_true.1 hc.2 v hv, ?_⟩
 cases u <;> simp only [zdv, Option.some.injEq, reduceCtorEq] at hsh <;> subst hsh
 case struct fs =>
  refine ⟨fs, hu, rfl, fun hcmp => ?_⟩
  simp only [Bool.and_eq_true, Bool.not_eq_true', List.all_eq_true, bne_iff_ne, ne_eq] at hcmp
  exact ⟨hcmp.1.1, hcmp.1.2, hcmp.2⟩
 case func => exact ⟨_, _, _, hu⟩
 case interface => exact ⟨_, hu⟩
 all_goals exact hu
end
section
open Go.RowKit
def yp (P : Program) (E : Env) (n : Nat) (ops : Array Oper) (D : Dr) (l : List Oper) (Q : Exit → AState → Prop) (s : AState) : Prop := zL P E n ops D l Q s
def qr (n : Nat) (ops : Array Oper) (s : AState) (o : Oper) : Option (Bool × Nat × List AV × Prop) :=
 match z6 ops s o.guard, o.op with
 | some G, .call ⟨.value x, args, _⟩ =>
  match s.ev x with
  | .v (.func (.func f) _ _) => some (G, f, args.toList.map (fun z => (s.ev z).snap s), yQ n o.dst ∧ (G = true → s.gd x = true) ∧ (G = true → args.toList.all s.gd = true ∧ AV.snapOK.snapOKL s (args.toList.map s.ev)))
  | _ => none
 | _, _ => none
section
variable {P : Program} {T : Nat → Option TyD} {E : Env} {s s' : AState} {n : Nat} {ops : Array Oper} {Q : Exit → AState → Prop} {K : AState → Prop} {rest : List Oper} {o : Oper} {D : Dr}
theorem J4 (hT : TOK P T) (O : List Nat) {p : Prop} {l l' : List Oper} (h : wV T O n ops s l = (p, s', l')) (hp : p) (hr : yp P E n ops yZ l' Q s') : KA P E n ops l Q s := zb9 hT O l s h hp hr
theorem zaU (hT : TOK P T) (O : List Nat) {p : Prop} {l l' : List Oper} (h : wu T O D n ops s l = (p, s', l')) (hp : p) (hr : yp P E n ops D l' Q s') : zL P E n ops D l Q s := zaM hT O l s h hp hr
theorem J5 {Q : Exit → AState → Prop} (h : Q .normal s) : yp P E n ops D [] Q s := zb8 h
theorem v3 {G : Bool} {f : Nat} {as' : List AV} {p : Prop} (h : qr n ops s o = some (G, f, as', p)) (hp : p) :
  z6 ops s o.guard = some G ∧ ∃ x args ats first cap, o.op = .call ⟨.value x, args, ats⟩ ∧ s.ev x = .v (.func (.func f) first cap) ∧ (G = true → s.gd x = true) ∧ yQ n o.dst ∧ args.toList.map (fun z => (s.ev z).snap s) = as' ∧
   (G = true → args.toList.all s.gd = true ∧ ∀ z ∈ args.toList, (s.ev z).snapOK s) := by
 unfold qr at h
 split at h
 case h_2 => cases h
 rename_i G' x args ats hg ho
 split at h
 case h_2 => cases h
 rename_i f' first cap hx
 simp only [Option.some.injEq, Prod.mk.injEq] at h
 obtain ⟨rfl, rfl, rfl, rfl⟩ := h
 exact ⟨hg, x, args, ats, first, cap, ho, hx, hp.2.1, hp.1, rfl, fun hG => ⟨(hp.2.2 hG).1, fun z hz => AV.snapOKL_mem (hp.2.2 hG).2 _ (List.mem_map_of_mem hz)⟩⟩
theorem vG {F : Nat → Prop} {β : Nat → Option Nat} {w : World} {f : Nat} {first cap : Array Value} {v : Value} (h : AVR F β w (.v (.func (.func f) first cap)) v) : first = #[] ∧ cap = #[] := by
 cases h with
 | s h =>
 cases h with
 | v h =>
  simp only [uO, Bool.and_eq_true, beq_iff_eq] at h
  exact ⟨Array.eq_empty_of_size_eq_zero h.1, Array.eq_empty_of_size_eq_zero h.2⟩
theorem Ui (hg : z6 ops s o.guard = some false) (hk : wY o.op = false) (hdst : yQ n o.dst) {ra : AV} (hr : zL P E n ops D rest Q (s.put o.dst false ra)) : yp P E n ops D (o :: rest) Q s := by
 intro a w β hn hd hs
 have hw := yn (ops := ops) hs hg
 refine yi hk hw (fun h => by cases h) (fun _ => ?_)
 obtain ⟨g1, g2, g3⟩ := yN hn hd hs hdst false ra (v := undef) (fun h => by cases h) (fun _ => rfl)
 exact hr _ _ _ g1 g2 g3
theorem KG (f : Nat) (ra : AV) {as' : List AV} {p : Prop} (h : qr n ops s o = some (false, f, as', p)) (hp : p) (hr : zL P E n ops D rest Q (s.put o.dst false ra)) : yp P E n ops D (o :: rest) Q s := by
 obtain ⟨hg, x, args, ats, first, cap, ho, hx, hgx, hdst, has, hok⟩ := v3 h hp
 exact Ui hg (by rw [ho]; rfl) hdst hr
theorem zaV {G : Bool} {f : Nat} {as' : List AV} {p : Prop} {ra : AV} (h : qr n ops s o = some (G, f, as', p)) (hp : p) (hc : G = true → zN P f as' (fun r => r = ra)) (hflat : ra.flat = true)
  (hr : zL P E n ops D rest Q (s.put o.dst G ra)) : yp P E n ops D (o :: rest) Q s := by
 obtain ⟨hg, x, args, ats, first, cap, ho, hx, hgx, hdst, has, hok⟩ := v3 h hp
 cases G with
 | false => exact Ui hg (by rw [ho]; rfl) hdst hr
 | true =>
  intro a w β hn hd hs'
  have hv := hs'.ev x (hgx rfl) (a := a) rfl
  rw [hx] at hv
  obtain ⟨rfl, rfl⟩ := vG hv
  exact Z1 hg ho hdst hx (hgx rfl) has hok hflat hc hr a w β hn hd hs'
theorem XU {f : Nat} {as' : List AV} {p : Prop} (h : qr n ops s o = some (true, f, as', p)) (hp : p) (hgd : o.guard = none) (hcl : AV.clean.cleanL (o.op.operands.toList.map s.ev) = true) (hsn : o.op.operands.toList.map (fun z => (s.ev z).snap s) = o.op.operands.toList.map s.ev)
  {R : AV → Prop} (hc : zN P f as' R) (hr : ∀ r, R r → zL P E n ops D rest Q (s.put o.dst true r)) : yp P E n ops D (o :: rest) Q s := by
 obtain ⟨hg, x, args, ats, first, cap, ho, hx, hgx, hdst, has, hok⟩ := v3 h hp
 intro a w β hn hd hs'
 have hgx := hgx rfl
 have hv := hs'.ev x hgx (a := a) rfl
 rw [hx] at hv
 obtain ⟨rfl, rfl⟩ := vG hv
 have hops : o.op.operands.toList = x :: args.toList := by rw [ho]; simp [Op.operands, Call.operands]
 rw [hops] at hcl hsn
 simp only [List.map_cons, List.cons.injEq] at hcl hsn
 have has' : args.toList.map s.ev = as' := by rw [← has, hsn.2]
 have hcl' : AV.clean.cleanL as' = true := by
  rw [← has']
  simp only [AV.clean.cleanL, Bool.and_eq_true] at hcl
  exact hcl.2
 exact zaO hgd ho hdst hx hgx has' hcl' (hok rfl).1 hc hr a w β hn hd hs'
theorem KH {id : Nat} (h : Q .normal s) : Ug id Q (.exit id) s := by simp only [Ug, if_true]; exact h
theorem Uj {id i : Nat} (hne : i ≠ id) (h : Q (.exit i) s) : Ug id Q (.exit i) s := by simp only [Ug, if_neg hne]; exact h
theorem KI {rs : List ResultVar} {R : AV → Prop} {p : Prop} {r : List AV} (h : v0 T s rs = some (p, r)) (hp : p) (hR : R (xN r)) : Kt T rs R .ret s := ⟨p, r, h, hp, hR⟩
theorem Xb {rs : List ResultVar} {R : AV → Prop} {p : Prop} {r : List AV} (h : v0 T s rs = some (p, r)) (hp : p) (hR : R (xN r)) : Kt T rs R .normal s := ⟨p, r, h, hp, hR⟩
theorem zB (hT : TOK P T) {f : Nat} {fn : Func} {c : Code} {args : List AV} {R : AV → Prop} {rs : List ResultVar} {n : Nat} (hf : P.funcs[f]? = some fn) (hb : fn.body = some c) (hnm : (fn.name == "runtime.NumGoroutine") = false) (hrs : fn.results.toList = rs) (hn : fn.ntmps = n)
  (hle : Nat.ble args.length n = true) (h : ∀ E : Env, AWp P E n c (Kt T rs R) { fr := wm 0 args, ob := [] }) : zN P f args R := by
 subst hrs
 subst hn
 exact zN.intro hT hf hb hnm (Nat.le_of_ble_eq_true hle) h
end
end
section
open Go.RowKit
def Uk (D : Dr) (ops : Array Oper) (i : Nat) : Bool := (ops[i]?).any fun o => D.dst o
section
variable {P : Program} {ops : Array Oper} {R : Exit → Act → World → Prop} {md : Region.Mode} {D : Dr}
def jz (P : Program) (D : Dr) (md : Region.Mode) (ops : Array Oper) (R : Exit → Act → World → Prop) : Nat → Array Bool → (Nat → Prop) → Act → World → Prop
  | 0, listed, _, a, w => Region.ready md ops listed = [] ∧ R .normal a w
  | fuel + 1, listed, X, a, w =>
    (Region.ready md ops listed = [] → R .normal a w) ∧
    ∀ i ∈ Region.ready md ops listed, wpOp P ops R i (fun a' w' => ∃ X', yG (Uk D ops i) X w X' w' ∧ jz P D md ops R fuel (listed.setIfInBounds i true) X' a' w') a w
theorem jA : ∀ (fuel : Nat) (listed : Array Bool) (X : Nat → Prop) (a : Act) (w : World), jz P D md ops R fuel listed X a w → wpAny P md ops R fuel listed a w
  | 0, _, _, _, _, h => h
  | fuel + 1, _, _, _, _, h => ⟨h.1, fun i hi => wpOp_mono (fun a' w' ⟨X', _, h'⟩ => jA fuel _ X' a' w' h') (h.2 i hi)⟩
theorem XV {listed : Array Bool} {i : Nat} (h : listed.getD i true = false) : listed.getD i false = false := by
  rcases Nat.lt_or_ge i listed.size with h' | h'
  · simpa [h'] using h
  · simp [Array.getElem?_eq_none h'] at h
theorem yG.refl (d : Bool) (X : Nat → Prop) (w : World) : yG d X w X w := ⟨fun _ => xz.refl _ w, xz.refl _ w, fun _ _ h => h⟩
theorem Z2 {i : Nat} {oi : Oper} {v : Value} (hi : ops[i]? = some oi) (hsel : ∀ (j : Nat) (o : Oper) cs b, ops[j]? = some o → o.op ≠ .select cs b)
    (hQ : ∀ c a w, R (.panic c) (a.put oi.dst v) w → R (.panic c) a w) (B : Nat → Bool) (weak : Bool) :
    ∀ (fuel : Nat) (listed : Array Bool) (X : Nat → Prop) (a : Act) (w : World),
      (∀ j oj, ops[j]? = some oj → j ≠ i → listed.getD j true = false → (∀ e ∈ oj.after, Region.binds md e = true → e.on ≠ i) → oi.apart ops oj = true) →
      (∀ j, B j = true → listed.getD j true = false ∧ ∃ oj, ops[j]? = some oj ∧ ∃ e ∈ oj.after, Region.binds md e = true ∧ (e.on = i ∨ B e.on = true)) →
      (weak = true → ∀ j, listed.getD j true = false → j ≠ i → Uk D ops j = true → B j = true) →
      i ∈ Region.ready md ops listed → YieldsIf P ops (xz (if weak = true then noX else X) w) oi v a →
      jz P D md ops R fuel (listed.setIfInBounds i true) X (a.put oi.dst v) w → jz P D md ops R (fuel + 1) listed X a w := by
  intro fuel
  induction fuel with
  | zero =>
    intro listed X a w _ _ _ hr hy H
    refine ⟨fun h => (by rw [h] at hr; cases hr), fun j hj => ?_⟩
    by_cases hji : j = i
    · subst hji; exact hy.wpOp hi (xz.refl _ w) ⟨X, yG.refl _ X w, H⟩
    · have := ready_mono hj hji
      rw [H.1] at this
      cases this
  | succ fuel ih =>
    intro listed X a w hfree hB hD hr hy H
    refine ⟨fun h => (by rw [h] at hr; cases hr), fun j hj => ?_⟩
    by_cases hji : j = i
    · subst hji; exact hy.wpOp hi (xz.refl _ w) ⟨X, yG.refl _ X w, H⟩
    · have h1 := H.2 j (ready_mono hj hji)
      obtain ⟨hjun, oj, hoj, hall⟩ := mem_ready.1 hj
      have hiun := (mem_ready.1 hr).1
      have hnot : ∀ e ∈ oj.after, Region.binds md e = true → e.on ≠ i := fun e he hb heq => by
        have h1 := hall e he hb
        rw [heq, XV hiun] at h1
        cases h1
      have hBj : B j = false := by
        cases hbj : B j with
        | false => rfl
        | true =>
          obtain ⟨_, oj', hoj', e, he, hbe, hor⟩ := hB j hbj
          rw [hoj] at hoj'
          injection hoj' with hoj'
          subst hoj'
          have hl := hall e he hbe
          rcases hor with heq | hbk
          · exact absurd heq (hnot e he hbe)
          · rw [XV (hB e.on hbk).1] at hl; cases hl
      have hDj : weak = true → Uk D ops j = false := fun hwk => by
        cases hd : Uk D ops j with
        | false => rfl
        | true => rw [hD hwk j hjun hji hd] at hBj; cases hBj
      have h2 := wpOp_putIf hoj (hfree j oj hoj hji hjun hnot) (fun cs b => hsel i oi cs b hi) (fun cs b => hsel j oj cs b hoj) hQ hy h1
      have hkeep : ∀ k, (listed.setIfInBounds j true).getD k true = false → listed.getD k true = false := fun k hk => by
        by_cases hjk : j = k
        · subst hjk; exact hjun
        · rw [getD_set_ne true hjk] at hk; exact hk
      refine wpOp_mono (fun a' w' ⟨hyi, X', hst, h3⟩ => ⟨X', hst, ih (listed.setIfInBounds j true) X' a' w' ?_ ?_ ?_ (ready_mono hr (Ne.symm hji)) ?_ ?_⟩) h2
      · exact fun k ok hk hki hun hno => hfree k ok hk hki (hkeep k hun) hno
      · intro k hk
        obtain ⟨g1, g2⟩ := hB k hk
        have hjk : j ≠ k := fun h => by subst h; rw [hBj] at hk; cases hk
        exact ⟨by rw [getD_set_ne true hjk]; exact g1, g2⟩
      · exact fun hwk k hun hki hd => hD hwk k (hkeep k hun) hki hd
      · refine hyi.imp (fun ⟨g1, g2⟩ => ⟨g1, fun w'' hw => g2 w'' ?_⟩) id
        cases weak with
        | true => exact (hst.1 (hDj rfl)).trans hw (fun _ _ h => h)
        | false => exact hst.2.1.trans hw hst.2.2
      · rw [Array.setIfInBounds_comm _ _ hji]
        exact h3
end
def behind (md : Region.Mode) (ops : Array Oper) (listed : Array Bool) (i : Nat) : List Nat :=
  (List.range ops.size).foldl (fun acc j => if !listed.getD j true && j != i && (ops[j]?).any (·.after.any fun e => Region.binds md e && (e.on == i || acc.contains e.on)) then j :: acc else acc) []
def Xc (md : Region.Mode) (ops : Array Oper) (D : Dr) (listed : Array Bool) (i : Nat) : Bool :=
  (ops[i]?).any (fun o => wY o.op) && Region.free md ops listed i &&
  (!(ops[i]?).any (fun o => D.wk o) ||
    (let B := behind md ops listed i
    B.all (fun j => !listed.getD j true && (ops[j]?).any (·.after.any fun e => Region.binds md e && (e.on == i || B.contains e.on))) &&
    (List.range ops.size).all (fun j => listed.getD j true || j == i || !Uk D ops j || B.contains j)))
inductive PT where
  | node (l : List Nat) (ts : List PT)
deriving Inhabited
def PT.push (i : Nat) : PT → PT
  | .node l ts => .node (i :: l) ts
def v4 (md : Region.Mode) (ops : Array Oper) (D : Dr) : Nat → Array Bool → Option PT
  | 0, listed => if (Region.ready md ops listed).isEmpty then some (.node [] []) else none
  | fuel + 1, listed =>
    match Region.ready md ops listed with
    | [] => some (.node [] [])
    | r :: rs =>
      match (r :: rs).find? (Xc md ops D listed) with
      | some i => (v4 md ops D fuel (listed.setIfInBounds i true)).map (PT.push i)
      | none =>
        match rs with
        | [] => (v4 md ops D fuel (listed.setIfInBounds r true)).map (PT.push r)
        | _ => ((r :: rs).mapM fun i => (v4 md ops D fuel (listed.setIfInBounds i true)).map (PT.push i)).map (PT.node [])
section
variable {P : Program} {ops : Array Oper} {md : Region.Mode} {D : Dr}
def wpT (P : Program) (ops : Array Oper) (D : Dr) (R : Exit → Act → World → Prop) : PT → (Nat → Prop) → Act → World → Prop
  | .node l ts, X, a, w => zU P ops D R (fun X a w => match ts with
      | [] => R .normal a w
      | t :: ts' => wpT P ops D R t X a w ∧ wpTs ts' X a w) (l.filterMap (ops[·]?)) X a w
where
  wpTs : List PT → (Nat → Prop) → Act → World → Prop
  | [], _, _, _ => True
  | t :: ts, X, a, w => wpT P ops D R t X a w ∧ wpTs ts X a w
def vU (P : Program) (ops : Array Oper) (D : Dr) (R : Exit → Act → World → Prop) (ts : List PT) : (Nat → Prop) → Act → World → Prop :=
  fun X a w => if ts = [] then R .normal a w else ∀ t ∈ ts, wpT P ops D R t X a w
theorem XX {R : Exit → Act → World → Prop} {X : Nat → Prop} {a : Act} {w : World} : ∀ {ts : List PT}, wpT.wpTs P ops D R ts X a w ↔ ∀ t ∈ ts, wpT P ops D R t X a w := by
  intro ts
  induction ts with
  | nil => simp [wpT.wpTs]
  | cons t ts ih => simp [wpT.wpTs, ih]
theorem wn {R : Exit → Act → World → Prop} {N N' : (Nat → Prop) → Act → World → Prop} (h : ∀ X a w, N X a w → N' X a w) : ∀ (l : List Oper) (X : Nat → Prop) (a : Act) (w : World), zU P ops D R N l X a w → zU P ops D R N' l X a w := by
  intro l
  induction l with
  | nil => intro X a w hl; exact h _ _ _ hl
  | cons o l ih =>
    intro X a w hl
    unfold zU at hl ⊢
    split
    · rename_i hk
      rw [if_pos hk] at hl
      obtain ⟨v, hy, hr⟩ := hl
      exact ⟨v, hy, ih _ _ _ hr⟩
    · rename_i hk
      rw [if_neg hk] at hl
      split
      · rename_i hw
        rw [if_pos hw] at hl
        exact hl.imp (Oper.wp_mono fun a' w' ⟨X', h1, h2⟩ => ⟨X', h1, ih _ _ _ h2⟩) id
      · rename_i hw
        rw [if_neg hw] at hl
        exact ih _ _ _ hl
theorem ut {R : Exit → Act → World → Prop} {l : List Nat} {ts : List PT} {X : Nat → Prop} {a : Act} {w : World} : wpT P ops D R (.node l ts) X a w ↔ zU P ops D R (vU P ops D R ts) (l.filterMap (ops[·]?)) X a w := by
  unfold wpT
  constructor
  · refine wn (fun X a w h => ?_) _ _ _ _
    cases ts with
    | nil => simpa [vU] using h
    | cons t ts =>
      rw [vU, if_neg (by simp)]
      intro t' ht'
      rcases List.mem_cons.1 ht' with rfl | ht'
      · exact h.1
      · exact XX.1 h.2 t' ht'
  · refine wn (fun X a w h => ?_) _ _ _ _
    cases ts with
    | nil => simpa [vU] using h
    | cons t ts => rw [vU, if_neg (by simp)] at h; exact ⟨h t (by simp), XX.2 fun t' ht' => h t' (by simp [ht'])⟩
theorem Z3 {listed : Array Bool} {i : Nat} (h : Xc md ops D listed i = true) {oi : Oper} (hi : ops[i]? = some oi) :
    wY oi.op = true ∧ (∀ j oj, ops[j]? = some oj → j ≠ i → listed.getD j true = false → (∀ e ∈ oj.after, Region.binds md e = true → e.on ≠ i) → oi.apart ops oj = true) ∧
    ∃ B : Nat → Bool, (∀ j, B j = true → listed.getD j true = false ∧ ∃ oj, ops[j]? = some oj ∧ ∃ e ∈ oj.after, Region.binds md e = true ∧ (e.on = i ∨ B e.on = true)) ∧
      (D.wk oi = true → ∀ j, listed.getD j true = false → j ≠ i → Uk D ops j = true → B j = true) := by
  unfold Xc at h
  simp only [Bool.and_eq_true] at h
  obtain ⟨⟨h1, h2⟩, h3⟩ := h
  rw [hi] at h1 h3
  cases hwk : D.wk oi with
  | false => exact ⟨h1, Region.free_spec hi h2, fun _ => false, fun j hj => (by cases hj), fun hk => (by cases hk)⟩
  | true =>
    simp only [Option.any_some, hwk, Bool.not_true, Bool.false_or, Bool.and_eq_true] at h3
    obtain ⟨h3, h4⟩ := h3
    refine ⟨h1, Region.free_spec hi h2, fun j => (behind md ops listed i).contains j, fun j hj => ?_, fun _ j hj hji hd => ?_⟩
    · have := List.all_eq_true.1 h3 j (by simpa using hj)
      simp only [Bool.and_eq_true, Bool.not_eq_true'] at this
      obtain ⟨g1, g2⟩ := this
      refine ⟨g1, ?_⟩
      cases ho : ops[j]? with
      | none => rw [ho] at g2; cases g2
      | some oj =>
        rw [ho] at g2
        simp only [Option.any_some, Array.any_eq_true, Bool.and_eq_true, Bool.or_eq_true, beq_iff_eq] at g2
        obtain ⟨q, hq, hb, hor⟩ := g2
        exact ⟨oj, rfl, oj.after[q], Array.getElem_mem hq, hb, hor⟩
    · have hlt : j < ops.size := by
        unfold Uk at hd
        cases ho : ops[j]? with
        | none => rw [ho] at hd; cases hd
        | some o => exact (Array.getElem?_eq_some_iff.1 ho).1
      have := List.all_eq_true.1 h4 j (by simpa using hlt)
      simp only [Bool.or_eq_true, beq_iff_eq, Bool.not_eq_true', hj, hd] at this
      rcases this with ((h | h) | h) | h
      · cases h
      · exact absurd h hji
      · cases h
      · exact h
theorem Z4 {R : Exit → Act → World → Prop} {i : Nat} {l : List Nat} {ts : List PT} {X : Nat → Prop} {a : Act} {w : World} {o : Oper} (hi : ops[i]? = some o) (h : wpT P ops D R (.node (i :: l) ts) X a w) :
    (wY o.op = true ∧ ∃ v, YieldsIf P ops (xz (if D.wk o = true then noX else X) w) o v a ∧ wpT P ops D R (.node l ts) X (a.put o.dst v) w) ∨
    (wY o.op = false ∧ wpOp P ops R i (fun a' w' => ∃ X', yG (Uk D ops i) X w X' w' ∧ wpT P ops D R (.node l ts) X' a' w') a w) := by
  have hde : Uk D ops i = D.dst o := by simp [Uk, hi]
  rw [ut, List.filterMap_cons, hi] at h
  dsimp only at h
  unfold zU at h
  split at h
  · rename_i hk
    obtain ⟨v, hy, hr⟩ := h
    exact .inl ⟨hk, v, hy, ut.2 hr⟩
  · rename_i hk
    refine .inr ⟨by simpa using hk, ?_⟩
    unfold wpOp
    simp only [hi]
    split
    · rename_i hw
      rw [if_pos hw] at h
      exact h.imp (Oper.wp_mono fun a' w' ⟨X', h1, h2⟩ => ⟨X', by rw [hde]; exact h1, ut.2 h2⟩) id
    · rename_i hw
      rw [if_neg hw] at h
      exact ⟨X, yG.refl _ X w, ut.2 h⟩
theorem Xd {R R' : Exit → Act → World → Prop} {N : (Nat → Prop) → Act → World → Prop} (h : ∀ e a w, e ≠ .normal → R e a w → R' e a w) : ∀ (l : List Oper) (X : Nat → Prop) (a : Act) (w : World), zU P ops D R N l X a w → zU P ops D R' N l X a w := by
  intro l
  induction l with
  | nil => intro X a w hl; exact hl
  | cons o l ih =>
    intro X a w hl
    unfold zU at hl ⊢
    split
    · rename_i hk
      rw [if_pos hk] at hl
      obtain ⟨v, hy, hr⟩ := hl
      exact ⟨v, hy, ih _ _ _ hr⟩
    · rename_i hk
      rw [if_neg hk] at hl
      split
      · rename_i hw
        rw [if_pos hw] at hl
        refine hl.imp (fun hwp => ?_) (fun ⟨h1, a0, w0, hq⟩ => ⟨h1, a0, w0, h _ _ _ (by simp) hq⟩)
        have := Oper.wp_mono (fun a' w' ⟨X', h1, h2⟩ => (⟨X', h1, ih X' a' w' h2⟩ : ∃ X', yG (D.dst o) X w X' w' ∧ zU P ops D R' N l X' a' w')) hwp
        unfold Oper.wp at this ⊢
        generalize (execOp a.eval o).run P w = r at *
        cases r with
        | ok n w' =>
          cases n <;> simp only [Oper.upon] at this ⊢ <;> first
            | exact this
            | (refine Calls.mono this fun e w'' he => ?_
               cases e with
               | returned v => exact he
               | panicked c => exact h _ _ _ (by simp) he
               | outgrown => obtain ⟨a0, w0, hq⟩ := he; exact ⟨a0, w0, h _ _ _ (by simp) hq⟩)
        | halt x w' =>
          cases x <;> simp only [Oper.upon] at this ⊢
          exact h _ _ _ (by simp) this
      · rename_i hw
        rw [if_neg hw] at hl
        exact ih _ _ _ hl
theorem zaW {R : Exit → Act → World → Prop} (hsel : ∀ (j : Nat) (o : Oper) cs b, ops[j]? = some o → o.op ≠ .select cs b) (hQ : ∀ c a w, ¬ R (.panic c) a w) :
    ∀ (fuel : Nat) (listed : Array Bool) (t : PT) (X : Nat → Prop) (a : Act) (w : World), v4 md ops D fuel listed = some t → wpT P ops D R t X a w → jz P D md ops R fuel listed X a w := by
  intro fuel
  induction fuel with
  | zero =>
    intro listed t X a w hp ht
    simp only [v4] at hp
    split at hp
    · rename_i hr
      injection hp with hp
      subst hp
      rw [ut] at ht
      exact ⟨by simpa using hr, by simpa [zU, vU] using ht⟩
    · cases hp
  | succ fuel ih =>
    intro listed t X a w hp ht
    simp only [v4] at hp
    split at hp
    · rename_i hr
      injection hp with hp
      subst hp
      rw [ut] at ht
      exact ⟨fun _ => by simpa [zU, vU] using ht, fun i hi => by rw [hr] at hi; cases hi⟩
    · rename_i r rs hr
      have one : ∀ i ∈ Region.ready md ops listed, ∀ t', (v4 md ops D fuel (listed.setIfInBounds i true)).map (PT.push i) = some t' → wpT P ops D R t' X a w →
          wpOp P ops R i (fun a' w' => ∃ X', yG (Uk D ops i) X w X' w' ∧ jz P D md ops R fuel (listed.setIfInBounds i true) X' a' w') a w := fun i hi t' ht' hw => by
        obtain ⟨_, o, ho, _⟩ := mem_ready.1 hi
        cases hpl : v4 md ops D fuel (listed.setIfInBounds i true) with
        | none => rw [hpl] at ht'; cases ht'
        | some t'' =>
          rw [hpl] at ht'
          injection ht' with ht'
          subst ht'
          obtain ⟨l, ts⟩ := t''
          rcases Z4 ho hw with ⟨hk, v, hy, hrest⟩ | ⟨hk, hstep⟩
          · exact hy.wpOp ho (xz.refl _ w) ⟨X, yG.refl _ X w, ih _ _ _ _ _ hpl hrest⟩
          · exact wpOp_mono (fun a' w' ⟨X', h1, h2⟩ => ⟨X', h1, ih _ _ _ _ _ hpl h2⟩) hstep
      split at hp
      · rename_i i hfind
        have hfo := List.find?_some hfind
        have him : i ∈ Region.ready md ops listed := by rw [hr]; exact List.mem_of_find?_eq_some hfind
        obtain ⟨_, o, ho, _⟩ := mem_ready.1 him
        obtain ⟨hk, hfree, B, hB, hD⟩ := Z3 hfo ho
        cases hpl : v4 md ops D fuel (listed.setIfInBounds i true) with
        | none => rw [hpl] at hp; cases hp
        | some t'' =>
          rw [hpl] at hp
          injection hp with hp
          subst hp
          obtain ⟨l, ts⟩ := t''
          rcases Z4 ho ht with ⟨_, v, hy, hrest⟩ | ⟨hk', _⟩
          · exact Z2 ho hsel (fun c a w h => (hQ c _ _ h).elim) B (D.wk o) fuel listed X a w hfree hB hD him hy (ih _ _ _ _ _ hpl hrest)
          · rw [hk] at hk'; cases hk'
      · split at hp
        · refine ⟨fun h => (by rw [hr] at h; cases h), fun i hi => ?_⟩
          have hi' := hi
          rw [hr] at hi'
          have : i = r := by simpa using hi'
          subst this
          exact one i hi t hp ht
        · refine ⟨fun h => (by rw [hr] at h; cases h), fun i hi => ?_⟩
          cases hm : (r :: rs).mapM fun i => (v4 md ops D fuel (listed.setIfInBounds i true)).map (PT.push i) with
          | none => rw [hm] at hp; cases hp
          | some ts =>
            rw [hm] at hp
            injection hp with hp
            subst hp
            rw [ut] at ht
            have hlen : ∀ (xs : List Nat) (ts : List PT), xs.mapM (fun i => (v4 md ops D fuel (listed.setIfInBounds i true)).map (PT.push i)) = some ts → ∀ i ∈ xs, ∃ t' ∈ ts, (v4 md ops D fuel (listed.setIfInBounds i true)).map (PT.push i) = some t' := by
              intro xs
              induction xs with
              | nil => intro ts _ i hi; cases hi
              | cons x xs ihx =>
                intro ts h i hi
                rw [List.mapM_cons] at h
                cases hx : (v4 md ops D fuel (listed.setIfInBounds x true)).map (PT.push x) with
                | none => rw [hx] at h; simp at h
                | some t1 =>
                  cases hxs : xs.mapM (fun i => (v4 md ops D fuel (listed.setIfInBounds i true)).map (PT.push i)) with
                  | none => rw [hx, hxs] at h; simp at h
                  | some ts1 =>
                    rw [hx, hxs] at h
                    simp only [Option.bind_eq_bind, Option.bind_some, Option.pure_def, Option.some.injEq] at h
                    subst h
                    rcases List.mem_cons.1 hi with rfl | hi
                    · exact ⟨t1, by simp, hx⟩
                    · obtain ⟨t', h1, h2⟩ := ihx ts1 hxs i hi
                      exact ⟨t', by simp [h1], h2⟩
            rw [hr] at hi
            obtain ⟨t', ht', hpt⟩ := hlen _ _ hm i hi
            have hall : ∀ t ∈ ts, wpT P ops D R t X a w := by
              have hne : ts ≠ [] := fun h => by rw [h] at ht'; cases ht'
              simpa [zU, vU, hne] using ht
            exact one i (by rw [hr]; exact hi) t' hpt (hall t' ht')
variable {T : Nat → Option TyD} {E : Env} {s s' : AState} {n : Nat} {Q : Exit → AState → Prop}
def AT (P : Program) (E : Env) (n : Nat) (ops : Array Oper) (D : Dr) (t : PT) (Q : Exit → AState → Prop) (s : AState) : Prop := ∀ a w β, a.tmps.size = n → a.defers = [] → SRel E s a.tmps w β → wpT P ops D (jh E n Q) t (XW D β) a w
theorem zx {l : List Nat} {l' : List Oper} (hl : l.filterMap (ops[·]?) = l') (h : zL P E n ops D l' Q s) : AT P E n ops D (.node l []) Q s := fun a w β h1 h2 h3 => by
  rw [ut, hl]
  exact wn (fun X a w hh => by rw [vU, if_pos rfl]; exact XT hh) _ _ _ _ (h a w β h1 h2 h3)
def KJ (P : Program) (E : Env) (n : Nat) (ops : Array Oper) (D : Dr) (ts : List PT) (Q : Exit → AState → Prop) : Exit → AState → Prop
  | .normal, s => ATs ts s
  | e, s => Q e s
where
  ATs : List PT → AState → Prop
  | [], _ => True
  | t :: ts, s => AT P E n ops D t Q s ∧ ATs ts s
theorem zaX {ts : List PT} {s : AState} (h : KJ.ATs P E n ops D Q ts s) : ∀ t ∈ ts, AT P E n ops D t Q s := by
  induction ts with
  | nil => intro t ht; cases ht
  | cons t ts ih =>
    intro t' ht'
    rcases List.mem_cons.1 ht' with rfl | ht'
    · exact h.1
    · exact ih h.2 t' ht'
theorem zA {l : List Nat} {l' : List Oper} {t : PT} {ts : List PT} (hl : l.filterMap (ops[·]?) = l') (h : zL P E n ops D l' (KJ P E n ops D (t :: ts) Q) s) : AT P E n ops D (.node l (t :: ts)) Q s := fun a w β h1 h2 h3 => by
  rw [ut, hl]
  have hq : jh E n (KJ P E n ops D (t :: ts) Q) = fun e a w => match e with | .normal => jh E n (KJ P E n ops D (t :: ts) Q) .normal a w | e => jh E n Q e a w := by
    funext e a w
    cases e <;> rfl
  have hh := h a w β h1 h2 h3
  refine Xd (fun e a w hne hl => ?_) _ _ _ _ (wn (fun X a w hh => ?_) _ _ _ _ hh)
  · cases e <;> first | exact absurd rfl hne | exact hl
  · obtain ⟨s', β', rfl, g1, g2, g3, g4⟩ := hh
    rw [vU, if_neg (by simp)]
    exact fun t' ht' => zaX g4 t' ht' a w β' g1 g2 g3
theorem zn {id : Nat} {t : PT} (D : Dr) (hm : P.follows .mixedOrders = true) (hsel : Region.noSelect ops = true) (hp : v4 .any ops D ops.size (Array.replicate ops.size false) = some t) (hnp : ∀ c s, ¬ Q (.panic c) s) (h : AT P E n ops D t Q s) :
    AWp P E n (.region id ops true) Q s := fun a w hs => by
  obtain ⟨h1, h2, β, h3⟩ := hs
  have h3' : SRel E s a.tmps { w with drawn := w.drawn + 1 } β := h3.ext ((Below.refl _ w).drew)
  exact wp_region_any hm (jA _ _ _ _ _ (zaW (Region.noSelect_spec hsel) (fun c a w ⟨s, h1, _⟩ => hnp c s h1) _ _ _ _ _ _ hp (h a _ β h1 h2 h3')))
end
end
section
open Go.RowKit
def drD (W wk : List Nat) : Dr := ⟨fun d => W.contains d, fun o => match o.dst with | some d => wk.contains d | none => false, fun _ => false⟩
def drC (W wk ds : List Nat) : Dr := ⟨fun d => W.contains d, fun o => match o.dst with | some d => wk.contains d | none => false, fun o => match o.dst with | some d => ds.contains d | none => false⟩
def drR (R wk ds : List Nat) : Dr := ⟨fun d => !R.contains d, fun o => match o.dst with | some d => wk.contains d | none => false, fun o => match o.dst with | some d => ds.contains d | none => false⟩
section
variable {P : Program} {T : Nat → Option TyD} {E : Env} {s s' : AState} {n : Nat} {ops : Array Oper} {Q : Exit → AState → Prop} {K : AState → Prop} {D : Dr} {ts : List PT} {t : PT}
theorem ze (h : KJ.ATs P E n ops D Q ts s) : KJ P E n ops D ts Q .normal s := h
theorem zy : KJ.ATs P E n ops D Q [] s := trivial
theorem zl (h1 : AT P E n ops D t Q s) (h2 : KJ.ATs P E n ops D Q ts s) : KJ.ATs P E n ops D Q (t :: ts) s := ⟨h1, h2⟩
theorem zC {α : Type} {c : Code} (ts os : List Nat) (sh : α → AState) (inv : α → Prop) (μ : α → Nat) (x0 : α) (hs : s.keep ts os = sh x0) (h0 : inv x0)
  (round : ∀ x, inv x → AWp P E n c (Xa (fun s' => ∃ y, s'.keep ts os = sh y ∧ inv y ∧ μ y < μ x) Q) (sh x)) : AWp P E n (.loop c) Q s := by
 refine zaT ts os ?_
 rw [hs]
 refine zaS (fun m s => ∃ x, s = sh x ∧ inv x ∧ m = μ x) (μ x0) ⟨x0, rfl, h0, rfl⟩ fun k s ⟨x, hsx, hx, hk⟩ => ?_
 subst hsx
 subst hk
 intro a w hw
 refine wp_mono (round x hx a w hw) fun e a' w' hl => ?_
 cases e with
 | normal =>
  obtain ⟨s', ⟨y, h1, h2, h3⟩, h4⟩ := hl
  exact ⟨s'.keep ts os, ⟨μ y, h3, y, h1, h2, rfl⟩, h4.weaken (fun t p => xM s'.fr t p ts) (fun d o => xM s'.ob d o os)⟩
 | _ => exact hl
end
end
section
open Go.RowKit
theorem KK {α : Type} : (none : Option α).toArray = #[] := rfl
theorem KL {α : Type} (a : α) : (some a).toArray = #[a] := rfl
theorem zcd (b : Bool) : (b = false → (!b) = true) ↔ True := by cases b <;> simp
def AV.up (a b : AV) : Prop := ∀ F β w x, AVR F β w a x → AVR F β w b x
theorem AV.up_rfl (a : AV) : a.up a := fun _ _ _ _ h => h
theorem AV.up_nil (k : Nat) : (AV.v (.slice none 0 0)).up (.lst k []) := fun F β w x h => by
 cases h with
 | s h =>
 cases h with
 | v h => exact .s (.lst (fun _ _ => .nilFunc) rfl (Nat.le_refl _) (Nat.zero_le _) (fun _ h => by cases h) (fun h => absurd h (Nat.lt_irrefl _)) (fun i j hi => absurd hi (Nat.not_lt_zero _)) (fun i j cs u h => by simp at h))
def AV.upL : List AV → List AV → Prop
 | [], [] => True
 | a :: l, b :: m => a.up b ∧ AV.upL l m
 | _, _ => False
theorem AV.upL_get : ∀ {l m : List AV}, AV.upL l m → l.length = m.length ∧ ∀ (i : Nat) (b : AV), m[i]? = some b → ∃ a, l[i]? = some a ∧ a.up b
 | [], [], _ => ⟨rfl, fun i b h => by simp at h⟩
 | a :: l, b :: m, h => by
  obtain ⟨h1, h2⟩ := AV.upL_get (l := l) (m := m) h.2
  refine ⟨by simp [h1], fun i x hx => ?_⟩
  cases i with
  | zero => exact ⟨a, rfl, by simp only [List.getElem?_cons_zero, Option.some.injEq] at hx; exact hx ▸ h.1⟩
  | succ i => exact h2 i x (by simpa using hx)
theorem AV.up_tup {l m : List AV} (h : AV.upL l m) : (AV.tup l).up (.tup m) := fun F β w x hx => by
 obtain ⟨g1, g2⟩ := AV.upL_get h
 cases hx with
 | s h => cases h
 | tup h1 h2 =>
  refine .tup (h1.trans g1) fun i c u hc hu => ?_
  obtain ⟨a, ha, hu'⟩ := g2 i c hc
  exact hu' _ _ _ _ (h2 i a u ha hu)
section
variable {P : Program} {T : Nat → Option TyD} {E : Env} {s s' : AState} {n : Nat} {ops : Array Oper} {Q : Exit → AState → Prop} {K : AState → Prop} {D : Dr}
theorem zN.up {f : Nat} {args : List AV} {r : AV} (h : zN P f args (fun x => x.up r)) : zN P f args (fun x => x = r) :=
 ⟨h.1, fun w F vs h1 h2 h3 => (h.2 w F vs h1 h2 h3).mono fun _ _ ⟨v, _, g1, g2, g3, g4⟩ => ⟨v, r, g1, rfl, g3, g2 _ _ _ _ g4⟩⟩
def AState.nilrow (s : AState) (t ty k d : Nat) : AState := { fr := (t, true, .ref ty k d 0 0) :: (s.drop d).fr, ob := (d, .row ty k []) :: (s.drop d).ob }
theorem x4 {c : Code} (t ty k d : Nat) (hd : YZ d) (ht : (lk s.fr t) = some (true, .v (.slice none 0 0))) (h : AWp P E n c Q (s.nilrow t ty k d)) : AWp P E n c Q s := fun a w ⟨hn, hdf, β, hs⟩ => by
 refine h a w ⟨hn, hdf, upd β d none, ?_⟩
 have h1 := hs.turn (β' := upd β d none) (w' := w) d hd (fun e he => zS β _ he) (fun b hb => by rw [ya] at hb; cases hb) (Keeps.refl _ _)
 have h2 := h1.add d (.row ty k []) ⟨fun cs h => (by cases h), .inl rfl⟩
 refine ⟨h2.inj, h2.rng, h2.old, h2.ob, fun t' g x hx hg => ?_, fun t' x hx => ?_, h2.fx, h2.fs⟩
 ·have hx' : lk ((t, true, .ref ty k d 0 0) :: (s.drop d).fr) t' = some (g, x) := hx
  rw [yg] at hx'
  by_cases he : t = t'
  ·rw [zO he] at hx'
   injection hx' with hx'
   injection hx' with _ hx'
   subst hx'
   subst he
   have := hs.fr t _ _ ht rfl
   cases this with
   | s h =>
   generalize hz : a.tmps.getD t undef = z at h
   cases h with
   | v h => exact .nil
  ·rw [zK he] at hx'
   exact h2.fr t' g x hx' hg
 ·have hx' : lk ((t, true, .ref ty k d 0 0) :: (s.drop d).fr) t' = some (false, x) := hx
  rw [yg] at hx'
  by_cases he : t = t'
  ·rw [zO he] at hx'
   injection hx' with hx'
   injection hx' with hx' _
   cases hx'
  ·rw [zK he] at hx'
   exact h2.un t' x hx'
theorem KM {o : Oper} {f : Nat} {as' : List AV} {p : Prop} (h : qr n ops s o = some (true, f, as', p)) (hp : p) (hgd : o.guard = none) (hcl : AV.clean.cleanL (o.op.operands.toList.map s.ev) = true) (hsn : o.op.operands.toList.map (fun z => (s.ev z).snap s) = o.op.operands.toList.map s.ev)
  {r : AV} (hc : zN P f as' (fun x => x = r)) {rest : List Oper} (hr : zL P E n ops D rest Q (s.put o.dst true r)) : yp P E n ops D (o :: rest) Q s :=
 XU h hp hgd hcl hsn hc fun _ hx => hx ▸ hr
theorem qt (hT : TOK P T) {f : Nat} {fn : Func} {c : Code} {args : List AV} {r : AV} {rs : List ResultVar} {n : Nat} (hf : P.funcs[f]? = some fn) (hb : fn.body = some c) (hnm : (fn.name == "runtime.NumGoroutine") = false) (hrs : fn.results.toList = rs) (hn : fn.ntmps = n)
  (hle : Nat.ble args.length n = true) (h : ∀ E : Env, AWp P E n c (Kt T rs (fun x => x.up r)) { fr := wm 0 args, ob := [] }) : zN P f args (fun x => x = r) :=
 (zB hT hf hb hnm hrs hn hle h).up
end
end
section
open Go.RowKit
def AV.ren (ρ : List (Nat × Nat)) : AV → AV
 | .agg cs => .agg (renL ρ cs)
 | .tup cs => .tup (renL ρ cs)
 | .ref t k d off len => match lk ρ d with
  | some e => .ref t k e off len
  | none => .dead
 | .rfx t k d off len ext => match lk ρ d with
  | some e => .rfx t k e off len ext
  | none => .dead
 | .ptr k d i j => match lk ρ d with
  | some e => .ptr k e i j
  | none => .dead
 | .map d => match lk ρ d with
  | some e => .map e
  | none => .dead
 | .v x => .v x
 | .lst k xs => .lst k xs
 | .lsx k xs ys => .lsx k xs ys
 | .elt k xs i j => .elt k xs i j
 | .slen n => .slen n
 | .fn f cs => .fn f (renL ρ cs)
 | .ifc t a => .ifc t (a.ren ρ)
 | .dead => .dead
where
 renL (ρ : List (Nat × Nat)) : List AV → List AV
 | [] => []
 | c :: cs => c.ren ρ :: renL ρ cs
theorem AV.renL_eq (ρ : List (Nat × Nat)) (cs : List AV) : AV.ren.renL ρ cs = cs.map (AV.ren ρ) := by
 induction cs with
 | nil => simp [AV.ren.renL]
 | cons c cs ih => simp [AV.ren.renL, ih]
def AObj.ren (ρ : List (Nat × Nat)) : AObj → AObj
 | .row t k xs => .row t k xs
 | .var cs => .var (AV.ren.renL ρ cs)
 | .mapo es => .mapo es
 | .mapr clk es => .mapr clk (mapM (AV.ren ρ) es)
 | .iter e ok s q => match lk ρ e with
  | some e' => .iter e' ok s q
  | none => .iter e false s q
 | .mapl .. => .row 0 0 []
def AV.cut (K V : List Nat) : AV → AV
 | .agg cs => .agg (cutL K V cs)
 | .tup cs => .tup (cutL K V cs)
 | .ref t k d off len => bif K.contains d then .dead else .ref t k d off len
 | .rfx t k d off len ext => bif K.contains d then .dead else .rfx t k d off len ext
 | .ptr k d i j => bif K.contains d then .dead else .ptr k d i j
 | .map d => bif K.contains d then .dead else .map d
 | .v x => .v x
 | .lst k xs => .lst k xs
 | .lsx k xs ys => .lsx k xs ys
 | .elt k xs i j => .elt k xs i j
 | .slen n => .slen n
 | .fn f cs => .fn f (cutL K V cs)
 | .ifc t a => .ifc t (a.cut K V)
 | .dead => .dead
where
 cutL (K V : List Nat) : List AV → List AV
 | [] => []
 | c :: cs => c.cut K V :: cutL K V cs
theorem AV.cutL_eq (K V : List Nat) (cs : List AV) : AV.cut.cutL K V cs = cs.map (AV.cut K V) := by
 induction cs with
 | nil => simp [AV.cut.cutL]
 | cons c cs ih => simp [AV.cut.cutL, ih]
def AObj.cut (K V : List Nat) : AObj → AObj
 | .row t k xs => .row t k xs
 | .var cs => .var (AV.cut.cutL K V cs)
 | .mapo es => .mapo es
 | .mapr clk es => .mapr clk (mapM (AV.cut K V) es)
 | .iter e ok s q => .iter e (ok && !(K.contains e)) s q
 | .mapl t clk es h => bif (K.all (fun e => decide (e < 20000)) && V.all fun e => decide (e < 20000)) then .mapl t clk es h else .row 0 0 []
theorem Qt {α : Type} (l m : List (Nat × α)) (t : Nat) : lk (l ++ m) t = match lk l t with | some a => some a | none => lk m t := by
 induction l with
 | nil => rfl
 | cons p l ih =>
  obtain ⟨k, a⟩ := p
  rw [List.cons_append, yg, yg, ih]
  cases h : k == t <;> simp
theorem jO {α : Type} {l : List (Nat × α)} {t : Nat} {a : α} (h : lk l t = some a) : (t, a) ∈ l := by
 induction l with
 | nil => cases h
 | cons p l ih =>
  obtain ⟨k, b⟩ := p
  rw [yg] at h
  by_cases hk : k = t
  ·rw [zO hk] at h
   injection h with h
   subst h; subst hk
   exact .head _
  ·rw [zK hk] at h
   exact .tail _ (ih h)
section
variable {F F' : Nat → Prop} {β β' : Nat → Option Nat} {w w' : World}
theorem AVR.ren {x : AV} {v : Value} {ρ : List (Nat × Nat)} (h : AVR F β w x v) (hF : ∀ b, F b → F' b) (hρ : ∀ d e b, lk ρ d = some e → β d = some b → β' e = some b) : AVR F' β' w (x.ren ρ) v := by
 induction h with
 | s h =>
  cases h with
  | v h => exact .s (.v h)
  | lst g h1 h2 h3 h4 h5 h6 h7 => exact .s ((SVR.lst g h1 h2 h3 h4 h5 h6 h7).mono hF (fun _ _ => rfl))
  | lsx h => exact .s ((SVR.lsx h).mono hF (fun _ _ => rfl))
 | agg h1 h2 _ ih =>
  simp only [AV.ren, AV.renL_eq]
  exact .agg (by simpa using h1) h2 (AVR.map_list ih)
 | tup h1 _ ih =>
  simp only [AV.ren, AV.renL_eq]
  exact .tup (by simpa using h1) (AVR.map_list ih)
 | @nil t k d off =>
  simp only [AV.ren]
  split
  ·exact .nil
  ·exact .dead
 | @ref t k d off len c b A h1 h2 h3 h5 h6 =>
  simp only [AV.ren]
  split
  ·rename_i e he; exact .ref (hρ _ _ _ he h1) h2 h3 h5 h6
  ·exact .dead
 | @empty t k d off A h1 =>
  simp only [AV.ren]
  split
  ·exact .empty h1
  ·exact .dead
 | @rfx t k d off len ext c A h ih =>
  simp only [AV.ren] at ih ⊢
  split
  ·rename_i e he; rw [he] at ih; exact .rfx ih
  ·exact .dead
 | @ptr k d i j b h1 =>
  simp only [AV.ren]
  split
  ·rename_i e he; exact .ptr (hρ _ _ _ he h1)
  ·exact .dead
 | elt g h1 h2 h3 h4 h5 =>
  simp only [AV.ren]
  exact .elt g (hF _ h1) h2 h3 h4 (fun i j cs u hc hu => (h5 i j cs u hc hu).mono hF (fun _ _ => rfl))
 | @map d b h1 =>
  simp only [AV.ren]
  split
  ·rename_i e he; exact .map (hρ _ _ _ he h1)
  ·exact .dead
 | slen => exact .slen
 | fn h0 h1 _ ih =>
  simp only [AV.ren, AV.renL_eq]
  exact .fn h0 (by simpa using h1) (AVR.map_list ih)
 | ifc _ ih => exact .ifc ih
 | dead => exact .dead
theorem xW.ren {d e : Nat} {o : AObj} {ρ : List (Nat × Nat)} (h : xW F β w d o) (hF : ∀ b, F b → F' b) (hρ : ∀ d e b, lk ρ d = some e → β d = some b → β' e = some b) (hd : ∀ b, β d = some b → β' e = some b) : xW F' β' w e (o.ren ρ) := by
 cases o with
 | row t k xs =>
  obtain ⟨hk, h⟩ := h
  refine ⟨hk, ?_⟩
  rcases h with h | ⟨b, arr, h1, h2, h3, h4⟩
  ·exact .inl h
  ·exact .inr ⟨b, arr, hd b h1, h2, h3, fun i j cs u hc hu => by
    obtain ⟨x, hx, hr⟩ := h4 i j cs u hc hu
    exact ⟨x, hx, hr.mono hF (fun _ _ => rfl)⟩⟩
 | var cs =>
  obtain ⟨b, arr, t, h1, h2, h3, h4⟩ := h
  refine ⟨b, arr, t, hd b h1, h2, by simpa [AV.renL_eq] using h3, fun j u hu => ?_⟩
  rw [AV.renL_eq, List.getElem?_map] at hu
  cases hc : cs[j]? with
  | none => rw [hc] at hu; cases hu
  | some u' =>
   rw [hc] at hu
   injection hu with hu
   subst hu
   obtain ⟨x, hx, hr, ho⟩ := h4 j u' hc
   exact ⟨x, hx, hr.ren hF hρ, ho⟩
 | mapo es =>
  obtain ⟨b, arr, clk, h1, h2, h3, h4⟩ := h
  exact ⟨b, arr, clk, hd b h1, h2, h3, fun i e m he hm => ⟨(h4 i e m he hm).1.mono hF (fun _ _ => rfl), (h4 i e m he hm).2.mono hF (fun _ _ => rfl)⟩⟩
 | mapr clk es =>
  obtain ⟨b, arr, h1, h2, h3, h4⟩ := h
  refine ⟨b, arr, hd b h1, h2, by rw [ul]; exact h3, fun i e' m hi hm => ?_⟩
  obtain ⟨e0, he0, rfl⟩ := um hi
  obtain ⟨k1, k2, k3⟩ := h4 i e0 m he0 hm
  exact ⟨k1, k2.mono hF (fun _ _ => rfl), k3.ren hF hρ⟩
 | mapl t clk es q => exact ⟨fun cs h => (by cases h), .inl rfl⟩
 | iter e' ok since seen =>
  obtain ⟨r, b, last, h1, h2, h3⟩ := h
  simp only [AObj.ren]
  split
  ·rename_i e2 he2; exact ⟨r, b, last, hd r h1, h2, fun hok => hρ _ _ _ he2 (h3 hok)⟩
  ·exact ⟨r, b, last, hd r h1, h2, fun hok => by cases hok⟩
theorem AVR.cut {x : AV} {v : Value} {K V : List Nat} (h : AVR F β w x v) (hF : ∀ b, F b → F' b) (hw : ∀ b, F b → w'.heap[b]? = w.heap[b]?) (hβ : ∀ e b, e ∉ K → β e = some b → β' e = some b)
  (hs : ∀ e b t n, e ∉ K → β e = some b → Shp w b t n → Shp w' b t n) : AVR F' β' w' (x.cut K V) v := by
 induction h with
 | s h =>
  cases h with
  | v h => exact .s (.v h)
  | lst g h1 h2 h3 h4 h5 h6 h7 => exact .s ((SVR.lst g h1 h2 h3 h4 h5 h6 h7).mono hF hw)
  | lsx h => exact .s ((SVR.lsx h).mono hF hw)
 | agg h1 h2 _ ih =>
  simp only [AV.cut, AV.cutL_eq]
  exact .agg (by simpa using h1) h2 (AVR.map_list ih)
 | tup h1 _ ih =>
  simp only [AV.cut, AV.cutL_eq]
  exact .tup (by simpa using h1) (AVR.map_list ih)
 | @nil t k d off =>
  simp only [AV.cut]
  cases K.contains d
  ·exact .nil
  ·exact .dead
 | @ref t k d off len c b A h1 h2 h3 h5 h6 =>
  simp only [AV.cut]
  cases hc : K.contains d
  ·simp only [List.contains_eq_mem, decide_eq_false_iff_not] at hc
   exact .ref (hβ _ _ hc h1) h2 h3 h5 (hs _ _ _ _ hc h1 h6)
  ·exact .dead
 | @empty t k d off A h1 =>
  simp only [AV.cut]
  cases K.contains d
  ·exact .empty h1
  ·exact .dead
 | @rfx t k d off len ext c A h ih =>
  simp only [AV.cut] at ih ⊢
  cases hc : K.contains d
  ·rw [hc] at ih; exact .rfx ih
  ·exact .dead
 | @ptr k d i j b h1 =>
  simp only [AV.cut]
  cases hc : K.contains d
  ·simp only [List.contains_eq_mem, decide_eq_false_iff_not] at hc
   exact .ptr (hβ _ _ hc h1)
  ·exact .dead
 | elt g h1 h2 h3 h4 h5 =>
  simp only [AV.cut]
  exact .elt g (hF _ h1) h2 (fun i j hi hj => (World.cell?_of_block (a := ⟨_, _, none⟩) (hw _ h1)).trans (h3 i j hi hj)) h4 (fun i j cs u hc hu => (h5 i j cs u hc hu).mono hF hw)
 | @map d b h1 =>
  simp only [AV.cut]
  cases hc : K.contains d
  ·simp only [List.contains_eq_mem, decide_eq_false_iff_not] at hc
   exact .map (hβ _ _ hc h1)
  ·exact .dead
 | slen => exact .slen
 | fn h0 h1 _ ih =>
  simp only [AV.cut, AV.cutL_eq]
  exact .fn h0 (by simpa using h1) (AVR.map_list ih)
 | ifc _ ih => exact .ifc ih
 | dead => exact .dead
theorem xW.cut {d : Nat} {o : AObj} {K V : List Nat} (h : xW F β w d o) (hF : ∀ b, F b → F' b) (hw : ∀ b, F b → w'.heap[b]? = w.heap[b]?) (hβ : ∀ e b, e ∉ K → β e = some b → β' e = some b)
  (hs' : ∀ e b t n, e ∉ K → β e = some b → Shp w b t n → Shp w' b t n) (hs : ∀ e b, e ∉ K → e ∉ V → β e = some b → w'.heap[b]? = w.heap[b]?) (hd : d ∉ K) (hd' : d ∉ V) : xW F' β' w' d (o.cut K V) := by
 cases o with
 | row t k xs =>
  obtain ⟨hk, h⟩ := h
  refine ⟨hk, ?_⟩
  rcases h with h | ⟨b, arr, h1, h2, h3, h4⟩
  ·exact .inl h
  ·exact .inr ⟨b, arr, hβ d b hd h1, (hs d b hd hd' h1).trans h2, h3, fun i j cs u hc hu => by
    obtain ⟨x, hx, hr⟩ := h4 i j cs u hc hu
    exact ⟨x, hx, hr.mono hF hw⟩⟩
 | var cs =>
  obtain ⟨b, arr, t, h1, h2, h3, h4⟩ := h
  refine ⟨b, arr, t, hβ d b hd h1, (hs d b hd hd' h1).trans h2, by simpa [AV.cutL_eq] using h3, fun j u hu => ?_⟩
  rw [AV.cutL_eq, List.getElem?_map] at hu
  cases hc : cs[j]? with
  | none => rw [hc] at hu; cases hu
  | some u' =>
   rw [hc] at hu
   injection hu with hu
   subst hu
   obtain ⟨x, hx, hr, ho⟩ := h4 j u' hc
   exact ⟨x, hx, hr.cut hF hw hβ hs', ho⟩
 | mapo es =>
  obtain ⟨b, arr, clk, h1, h2, h3, h4⟩ := h
  exact ⟨b, arr, clk, hβ d b hd h1, (hs d b hd hd' h1).trans h2, h3, fun i e m he hm => ⟨(h4 i e m he hm).1.mono hF hw, (h4 i e m he hm).2.mono hF hw⟩⟩
 | mapr clk es =>
  obtain ⟨b, arr, h1, h2, h3, h4⟩ := h
  refine ⟨b, arr, hβ d b hd h1, (hs d b hd hd' h1).trans h2, by rw [ul]; exact h3, fun i e' m hi hm => ?_⟩
  obtain ⟨e0, he0, rfl⟩ := um hi
  obtain ⟨k1, k2, k3⟩ := h4 i e0 m he0 hm
  exact ⟨k1, k2.mono hF hw, k3.cut hF hw hβ hs'⟩
 | mapl t clk es q =>
  obtain ⟨b, arr, h1, h2, h3, h4⟩ := h
  simp only [AObj.cut]
  cases hall : (K.all (fun e => decide (e < 20000)) && V.all fun e => decide (e < 20000)) with
  | false => exact ⟨fun cs h => (by cases h), .inl rfl⟩
  | true =>
   simp only [Bool.and_eq_true, List.all_eq_true, decide_eq_true_eq] at hall
   have hk : ∀ i, kn d i ∉ K ∧ kn d i ∉ V := fun i => ⟨fun h => jv (hall.1 _ h) rfl, fun h => jv (hall.2 _ h) rfl⟩
   exact ⟨b, arr, hβ d b hd h1, (hs d b hd hd' h1).trans h2, h3, fun i x m hx hm => ⟨(h4 i x m hx hm).1, (h4 i x m hx hm).2.1, fun hq => ((h4 i x m hx hm).2.2 hq).step (fun c hc => hβ _ c (hk i).1 hc) fun c hc => hs _ c (hk i).1 (hk i).2 hc⟩⟩
 | iter e' ok since seen =>
  obtain ⟨r, b, last, h1, h2, h3⟩ := h
  refine ⟨r, b, last, hβ d r hd h1, (hs d r hd hd' h1).trans h2, fun hok => ?_⟩
  simp only [Bool.and_eq_true, Bool.not_eq_true', List.contains_eq_mem, decide_eq_false_iff_not] at hok
  exact hβ e' b hok.2 (h3 hok.1)
end
structure GIn (F : Nat → Prop) (β : Nat → Option Nat) (w : World) (ob : List (Nat × AObj)) : Prop where
 fl : FOK F w
 inj : ∀ d e b, β d = some b → β e = some b → d = e
 rng : ∀ d b, β d = some b → b < w.heap.size ∧ ¬ F b ∧ 10000 ≤ d ∧ d < 20000
 ob : ∀ d o, lk ob d = some o → xW F β w d o
def GF (F : Nat → Prop) (β β' : Nat → Option Nat) (w w' : World) (b : Nat) : Prop := b < w'.heap.size ∧ (F b ∨ w.heap.size ≤ b ∨ ∃ d, β d = some b) ∧ ∀ d, β' d ≠ some b
structure GOut (F : Nat → Prop) (β : Nat → Option Nat) (w : World) (β' : Nat → Option Nat) (w' : World) (ob : List (Nat × AObj)) : Prop where
 keeps : Keeps (fun b => ∃ d, β d = some b) w w'
 inj : ∀ d e b, β' d = some b → β' e = some b → d = e
 rng : ∀ d b, β' d = some b → (w.heap.size ≤ b ∨ β d = some b) ∧ b < w'.heap.size
 fx : ∀ d b, d < 15000 → β d = some b → β' d = some b
 fs : ∀ d b t n, d < 15000 → β d = some b → Shp w b t n → Shp w' b t n
 ob : ∀ d o, lk ob d = some o → xW (GF F β β' w w') β' w' d o
def yq (P : Program) (f : Nat) (args : List AV) (ob : List (Nat × AObj)) (r : AV) (ob' : List (Nat × AObj)) : Prop :=
 (∃ fn, P.funcs[f]? = some fn ∧ fn.body.isSome = true ∧ (fn.name == "runtime.NumGoroutine") = false) ∧
 ∀ (w : World) (F : Nat → Prop) (β : Nat → Option Nat) (vs : Array Value), GIn F β w ob → vs.size = args.length → (∀ (i : Nat) (x : AV) (v : Value), args[i]? = some x → vs[i]? = some v → AVR F β w x v) →
  Calls P f vs w fun e w' => ∃ v β', e = .returned v ∧ GOut F β w β' w' ob' ∧ AVR (GF F β β' w w') β' w' r v
section
variable {P : Program} {T : Nat → Option TyD} {E : Env} {s s' : AState} {a : Act} {tm : Array Value} {w w' : World} {β β' : Nat → Option Nat} {F F' : Nat → Prop} {n : Nat} {ops : Array Oper} {Q : Exit → AState → Prop} {D : Dr}
def ZB (T : Nat → Option TyD) (s : AState) : List ResultVar → Option (Prop × List AV)
 | [] => some (True, [])
 | .tmp t :: l =>
  match ZB T s l with
  | some (p, r) => some (s.gd (.tmp t) = true ∧ p, s.ev (.tmp t) :: r)
  | none => none
 | .cell t ty :: l =>
  match vV T s ty (s.ev (.tmp t)), ZB T s l with
  | some (q, x), some (p, r) => some ((s.gd (.tmp t) = true ∧ q) ∧ p, x :: r)
  | _, _ => none
def Y0 (ob ob1 : List (Nat × AObj)) : Prop := ∀ d o, lk ob1 d = some o → lk ob d = some o ∨ (∃ t k, o = .row t k []) ∨ ∃ t k xs n, lk ob d = some (.row t k xs) ∧ o = .row t k (xs.take n)
theorem xW.take {d t k : Nat} {xs : List (List AV)} (h : xW F β w d (.row t k xs)) (n : Nat) : xW F β w d (.row t k (xs.take n)) := by
 obtain ⟨hk, h⟩ := h
 refine ⟨fun cs hcs => hk cs (List.mem_of_mem_take hcs), ?_⟩
 rcases h with rfl | ⟨b, arr, h1, h2, h3, h4⟩
 ·exact .inl (by simp)
 ·refine .inr ⟨b, arr, h1, h2, Nat.le_trans (Nat.mul_le_mul_right k (by rw [List.length_take]; omega)) h3, fun i j cs u hc hu => ?_⟩
  rw [List.getElem?_take] at hc
  split at hc
  ·exact h4 i j cs u hc hu
  ·cases hc
theorem xW.nil {d t k : Nat} : xW F β w d (.row t k []) := ⟨fun cs h => (by cases h), .inl rfl⟩
theorem Qu {ob ob1 : List (Nat × AObj)} (h : Y0 ob ob1) (hs : ∀ d o, lk ob d = some o → xW F β w d o) : ∀ d o, lk ob1 d = some o → xW F β w d o := fun d o hd => by
 rcases h d o hd with h | ⟨t, k, rfl⟩ | ⟨t, k, xs, n, h, rfl⟩
 ·exact hs d o h
 ·exact xW.nil
 ·exact (hs d _ h).take n
def ZC (T : Nat → Option TyD) (rs : List ResultVar) (r : AV) (ob1 : List (Nat × AObj)) : Exit → AState → Prop
 | .ret, s | .normal, s => ∃ p r', ZB T s rs = some (p, r') ∧ p ∧ (xN r').up r ∧ Y0 s.ob ob1
 | _, _ => False
theorem Qv (hT : TOK P T) (hs : SRel E s tm w β) : ∀ (rs : List ResultVar) (p : Prop) (r : List AV), ZB T s rs = some (p, r) → p →
  ∃ vs : List Value, (rs.mapM (kk tm)).run P w = .ok vs w ∧ vs.length = r.length ∧
   ∀ (i : Nat) (x : AV) (v : Value), r[i]? = some x → vs[i]? = some v → AVR (FF E β w) β w x v := by
 intro rs
 induction rs with
 | nil =>
  intro p r h _
  simp only [ZB, Option.some.injEq, Prod.mk.injEq] at h
  obtain ⟨_, rfl⟩ := h
  exact ⟨[], rfl, rfl, fun i x v h => by simp at h⟩
 | cons q rs ih =>
  intro p r h hp
  cases q with
  | tmp t =>
   simp only [ZB] at h
   split at h
   case h_2 => cases h
   rename_i p' r' hr
   simp only [Option.some.injEq, Prod.mk.injEq] at h
   obtain ⟨rfl, rfl⟩ := h
   obtain ⟨hg, hp'⟩ := hp
   obtain ⟨vs, h1, h2, h3⟩ := ih p' r' hr hp'
   refine ⟨tm.getD t undef :: vs, ?_, by simp [h2], fun i x v hx hv => ?_⟩
   ·rw [List.mapM_cons]
    simp only [kk, Sem.run_bind, Sem.run_pure, Result.andThen_ok, h1]
   ·cases i with
    | zero =>
     simp only [List.getElem?_cons_zero, Option.some.injEq] at hx hv
     subst hx
     subst hv
     exact hs.ev (.tmp t) hg (a := ⟨tm, []⟩) rfl
    | succ i => exact h3 i x v (by simpa using hx) (by simpa using hv)
  | cell t ty =>
   simp only [ZB] at h
   split at h
   case h_2 => cases h
   rename_i q' x' p' r' hl hr
   simp only [Option.some.injEq, Prod.mk.injEq] at h
   obtain ⟨rfl, rfl⟩ := h
   obtain ⟨⟨hg, hq⟩, hp'⟩ := hp
   obtain ⟨vs, h1, h2, h3⟩ := ih p' r' hr hp'
   have hv := hs.ev (.tmp t) hg (a := ⟨tm, []⟩) rfl
   obtain ⟨v, g1, g2⟩ := uu (X := noX) hT hs hl hq (fun b _ => wK b) (fun _ _ _ _ b _ _ => wK b) hv
   have hrun := g2 w (xz.refl noX w)
   have haddr : ∃ ad, (Act.mk tm []).eval (.tmp t) = .pointer (some ad) := by
    have hv' := hv
    generalize (Act.mk tm []).eval (.tmp t) = u at hv' ⊢
    generalize s.ev (.tmp t) = av at hl hv'
    unfold vV at hl
    split at hl
    ·cases hl
    split at hl
    ·cases hv' with
     | s h => cases h
     | ptr => exact ⟨_, rfl⟩
    ·cases hv' with
     | s h => cases h
     | elt => exact ⟨_, rfl⟩
    ·cases hl
   obtain ⟨ad, had⟩ := haddr
   have had' : tm.getD t undef = .pointer (some ad) := had
   rw [had] at hrun
   refine ⟨v :: vs, ?_, by simp [h2], fun i x u hx hu => ?_⟩
   ·rw [List.mapM_cons]
    have hlv : (loadVar ty ad).run P w = .ok v w := by simpa [Instr.loadAt, Instr.sureAddr] using hrun
    have hax : (asAddr (tm.getD t undef)).run P w = .ok ad w := by rw [had']; rfl
    simp only [kk, Sem.run_bind, Sem.run_pure, Result.andThen_ok, hax, hlv, h1]
   ·cases i with
    | zero =>
     simp only [List.getElem?_cons_zero, Option.some.injEq] at hx hu
     subst hx
     subst hu
     exact g1
    | succ i => exact h3 i x u (by simpa using hx) (by simpa using hu)
theorem yq.intro (hT : TOK P T) {f : Nat} {fn : Func} {c : Code} {args : List AV} {ob ob1 : List (Nat × AObj)} {r : AV} (hf : P.funcs[f]? = some fn) (hb : fn.body = some c) (hnm : (fn.name == "runtime.NumGoroutine") = false) (hn : args.length ≤ fn.ntmps)
  (h : ∀ E : Env, AWp P E fn.ntmps c (ZC T fn.results.toList r ob1) { fr := wm 0 args, ob := ob }) : yq P f args ob r ob1 := by
 refine ⟨⟨fn, hf, by rw [hb]; rfl, hnm⟩, fun w F β vs hI hl hv => ?_⟩
 let E : Env := ⟨w, F, β, fun d b hd => (hI.rng d b hd).2.2, hI.fl, fun d b hd => (hI.rng d b hd).2.1⟩
 have hFF : ∀ b, F b → FF E β w b := fun b hb => ⟨hI.fl.lt b hb, .inl hb, fun d hd => (hI.rng d b hd).2.1 hb⟩
 have hs0 : SOK E fn.ntmps { fr := wm 0 args, ob := ob } { tmps := vs ++ Array.replicate (fn.ntmps - vs.size) undef, defers := [] } w := by
  refine ⟨by simp; omega, rfl, β, ⟨hI.inj, fun d b h => ⟨.inr h, (hI.rng d b h).1⟩, Keeps.refl _ _, fun d o h => ?_, fun t g x h _ => ?_, fun t x h => ?_, fun _ _ _ h => h, fun _ _ _ _ _ _ h => h⟩⟩
  ·have := hI.ob d o h
   cases o with
   | row t k xs =>
    obtain ⟨hk, h⟩ := this
    refine ⟨hk, ?_⟩
    rcases h with h | ⟨b, arr, h1, h2, h3, h4⟩
    ·exact .inl h
    ·exact .inr ⟨b, arr, h1, h2, h3, fun i j cs u hc hu => by
      obtain ⟨x, hx, hr⟩ := h4 i j cs u hc hu
      exact ⟨x, hx, hr.mono hFF (fun _ _ => rfl)⟩⟩
   | var cs =>
    obtain ⟨b, arr, t, h1, h2, h3, h4⟩ := this
    exact ⟨b, arr, t, h1, h2, h3, fun j u hu => by
     obtain ⟨x, hx, hr, ho⟩ := h4 j u hu
     exact ⟨x, hx, hr.mono hFF (fun _ _ => rfl) (fun _ _ h => h) (fun _ _ _ _ _ h => h), ho⟩⟩
   | mapo es =>
    obtain ⟨b, arr, clk, h1, h2, h3, h4⟩ := this
    exact ⟨b, arr, clk, h1, h2, h3, fun i e m he hm => ⟨(h4 i e m he hm).1.mono hFF (fun _ _ => rfl), (h4 i e m he hm).2.mono hFF (fun _ _ => rfl)⟩⟩
   | mapr clk es =>
    obtain ⟨b, arr, h1, h2, h3, h4⟩ := this
    exact ⟨b, arr, h1, h2, h3, fun i e m he hm => by
     obtain ⟨k1, k2, k3⟩ := h4 i e m he hm
     exact ⟨k1, k2.mono hFF (fun _ _ => rfl), k3.mono hFF (fun _ _ => rfl) (fun _ _ h => h) (fun _ _ _ _ _ h => h)⟩⟩
   | mapl t clk es q => exact this
   | iter e' ok since seen => exact this
  ·obtain ⟨_, _, hx⟩ := wA args 0 t g x h
   rw [Nat.sub_zero] at hx
   have hlt : t < vs.size := by rw [hl]; exact zE hx
   have hg : (vs ++ Array.replicate (fn.ntmps - vs.size) undef).getD t undef = vs[t] := by
    simp [Array.getElem?_append_left hlt, Array.getElem?_eq_getElem hlt]
   rw [hg]
   exact (hv t x vs[t] hx (Array.getElem?_eq_getElem hlt)).mono hFF (fun _ _ => rfl) (fun _ _ h => h) (fun _ _ _ _ _ h => h)
  ·obtain ⟨h1, _⟩ := wA args 0 t false x h
   cases h1
 have hend : ∀ (e : Exit) (a' : Act) (w' : World) (s' : AState), (e = .ret ∨ e = .normal) → ZC T fn.results.toList r ob1 e s' → SOK E fn.ntmps s' a' w' →
   a'.defers = [] ∧ ∃ v, (results fn a'.tmps).run P w' = .ok v w' ∧ ∃ v' β', Ending.returned v = .returned v' ∧ GOut F β w β' w' ob1 ∧ AVR (GF F β β' w w') β' w' r v' := fun e a' w' s' he hE hS => by
  obtain ⟨_, hd, β', hs'⟩ := hS
  obtain ⟨p, r', h1, h2, h3, h4⟩ : ∃ p r', ZB T s' fn.results.toList = some (p, r') ∧ p ∧ (xN r').up r ∧ Y0 s'.ob ob1 := by rcases he with rfl | rfl <;> exact hE
  obtain ⟨us, g1, g2, g3⟩ := Qv hT hs' _ _ _ h1 h2
  refine ⟨hd, (if h : us.toArray.size = 1 then us.toArray[0] else .tuple us.toArray), ?_, _, β', rfl, ⟨hs'.old, hs'.inj, hs'.rng, hs'.fx, hs'.fs, Qu h4 hs'.ob⟩, h3 _ _ _ _ ?_⟩
  ·rw [u9, Sem.run_bind, Array.mapM_eq_mapM_toList, Sem.run_map, g1]
   rfl
  ·show AVR (FF E β' w') β' w' _ _
   by_cases h1' : us.length = 1
   ·obtain ⟨u, rfl⟩ := List.length_eq_one_iff.1 h1'
    obtain ⟨x, rfl⟩ := List.length_eq_one_iff.1 (g2.symm.trans h1')
    exact g3 0 x u rfl rfl
   ·have hr1 : r'.length ≠ 1 := by omega
    have ho : xN r' = .tup r' := by
     unfold xN
     split
     ·exact absurd rfl hr1
     ·rfl
    rw [ho, dif_neg (by simpa using h1')]
    exact .tup (by simp [g2]) fun i x v hx hv' => g3 i x v hx (by simpa using hv')
 refine calls_of_wp hf hb (wp_mono (h E _ w hs0) fun e a' w' hl' => ?_)
 obtain ⟨s', hE, hS⟩ := hl'
 cases e with
 | normal => exact hend .normal a' w' s' (.inr rfl) hE hS
 | ret => exact hend .ret a' w' s' (.inl rfl) hE hS
 | _ => exact hE.elim
theorem zW (hT : TOK P T) {f : Nat} {fn : Func} {c : Code} {args : List AV} {ob ob1 : List (Nat × AObj)} {r : AV} {rs : List ResultVar} {n : Nat} (hf : P.funcs[f]? = some fn) (hb : fn.body = some c) (hnm : (fn.name == "runtime.NumGoroutine") = false) (hrs : fn.results.toList = rs) (hn : fn.ntmps = n)
  (hle : Nat.ble args.length n = true) (h : ∀ E : Env, AWp P E n c (ZC T rs r ob1) { fr := wm 0 args, ob := ob }) : yq P f args ob r ob1 := by
 subst hrs
 subst hn
 exact yq.intro hT hf hb hnm (Nat.le_of_ble_eq_true hle) h
theorem Qw {rs : List ResultVar} {r : AV} {ob1 : List (Nat × AObj)} {p : Prop} {r' : List AV} (h : ZB T s rs = some (p, r')) (hp : p) (hR : (xN r').up r) (ho : Y0 s.ob ob1) : ZC T rs r ob1 .ret s := ⟨p, r', h, hp, hR, ho⟩
theorem Yw {rs : List ResultVar} {r : AV} {ob1 : List (Nat × AObj)} {p : Prop} {r' : List AV} (h : ZB T s rs = some (p, r')) (hp : p) (hR : (xN r').up r) (ho : Y0 s.ob ob1) : ZC T rs r ob1 .normal s := ⟨p, r', h, hp, hR, ho⟩
end
end
end Go.Proofs.Ytfjajlcjifnceaa

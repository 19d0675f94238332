import Derived.KernelRfl
import Derived.Test.YtfjajlcjifnceaaP3
set_option linter.all false
set_option maxRecDepth 100000
set_option maxHeartbeats 8000000
namespace Go.Proofs.Ytfjajlcjifnceaa
section
open Go.RowKit
def jp (l : List (Nat × Nat)) : List (Nat × Nat) := l.map fun p => (p.2, p.1)
theorem Qx {l : List (Nat × Nat)} {a b : Nat} (h : lk (jp l) a = some b) : (b, a) ∈ l := by
 have := jO h
 simp only [jp, List.mem_map, Prod.mk.injEq, Prod.exists] at this
 obtain ⟨x, y, h1, rfl, rfl⟩ := this
 exact h1
def rmL {α : Type} (K V : List Nat) : List (Nat × α) → List (Nat × α)
 | [] => []
 | (k, a) :: l => bif K.contains k || V.contains k then rmL K V l else (k, a) :: rmL K V l
theorem zcJ {α : Type} {K V : List Nat} {l : List (Nat × α)} {t : Nat} {a : α} (h : lk (rmL K V l) t = some a) : t ∉ K ∧ t ∉ V ∧ lk l t = some a := by
 induction l with
 | nil => cases h
 | cons p l ih =>
  obtain ⟨k, b⟩ := p
  unfold rmL at h
  cases hc : K.contains k || V.contains k with
  | true =>
   rw [hc] at h
   obtain ⟨h1, h2, h3⟩ := ih h
   refine ⟨h1, h2, ?_⟩
   have hk : k ≠ t := by
    rintro rfl
    simp only [Bool.or_eq_true, List.contains_eq_mem, decide_eq_true_eq] at hc
    rcases hc with hc | hc
    ·exact h1 hc
    ·exact h2 hc
   rw [yg, zK hk]; exact h3
  | false =>
   rw [hc, cond_false, yg] at h
   simp only [Bool.or_eq_false_iff, List.contains_eq_mem, decide_eq_false_iff_not] at hc
   by_cases hk : k = t
   ·subst hk
    rw [zO rfl] at h
    rw [yg, zO rfl]
    exact ⟨hc.1, hc.2, h⟩
   ·rw [zK hk] at h
    rw [yg, zK hk]
    exact ih h
def vr (hi bk : List (Nat × Nat)) (K V : List Nat) : Bool :=
 hi.all (fun p => (Nat.ble 10000 p.2 && Nat.blt p.2 20000) && (lk hi p.1 == some p.2) && (lk (jp hi) p.2 == some p.1) && (K.contains p.1 || V.contains p.1)) &&
 bk.all (fun p => (lk bk p.1 == some p.2) && (lk (jp bk) p.2 == some p.1) && (match lk (jp hi) p.1 with | some e => e == p.2 | none => true) && (K.contains p.2 || V.contains p.2)) &&
 V.all (fun e => match lk hi e with | some d => Nat.blt d 15000 && (lk bk d == some e) | none => false) &&
 K.all (fun e => decide (e < 10000) || decide (15000 ≤ e))
structure HandOK (hi bk : List (Nat × Nat)) (K V : List Nat) : Prop where
 hi1 : ∀ g d, lk hi g = some d → (10000 ≤ d ∧ d < 20000) ∧ lk (jp hi) d = some g ∧ (g ∈ K ∨ g ∈ V)
 hi2 : ∀ g d, lk (jp hi) d = some g → lk hi g = some d ∧ (10000 ≤ d ∧ d < 20000) ∧ (g ∈ K ∨ g ∈ V)
 bk1 : ∀ d e, lk bk d = some e → lk (jp bk) e = some d
 bk2 : ∀ d e, lk (jp bk) e = some d → lk bk d = some e ∧ (e ∈ K ∨ e ∈ V) ∧ ∀ g, lk (jp hi) d = some g → g = e
 him : ∀ g d, (g, d) ∈ hi → lk hi g = some d
 bkm : ∀ d e, (d, e) ∈ bk → lk bk d = some e
 v : ∀ e, e ∈ V → ∃ d, lk hi e = some d ∧ d < 15000 ∧ lk bk d = some e
 k : ∀ e, e ∈ K → YZ e
theorem kR {hi bk : List (Nat × Nat)} {K V : List Nat} (h : vr hi bk K V = true) : HandOK hi bk K V := by
 simp only [vr, Bool.and_eq_true, List.all_eq_true, beq_iff_eq, Bool.or_eq_true, List.contains_eq_mem, decide_eq_true_eq, Prod.forall] at h
 obtain ⟨⟨⟨h1, h2⟩, h3⟩, h4⟩ := h
 have H1 : ∀ g d, lk hi g = some d → (10000 ≤ d ∧ d < 20000) ∧ lk (jp hi) d = some g ∧ (g ∈ K ∨ g ∈ V) := fun g d h => by
  have := h1 g d (jO h)
  exact ⟨⟨Nat.le_of_ble_eq_true this.1.1.1.1, Nat.le_of_ble_eq_true this.1.1.1.2⟩, this.1.2, this.2⟩
 have B1 : ∀ d e, lk bk d = some e → lk (jp bk) e = some d := fun d e h => (h2 d e (jO h)).1.1.2
 refine ⟨H1, fun g d h => ?_, B1, fun d e h => ?_, fun g d h => (h1 g d h).1.1.2, fun d e h => (h2 d e h).1.1.1, fun e he => ?_, fun e he => h4 e he⟩
 ·have := h1 g d (Qx h)
  exact ⟨this.1.1.2, ⟨Nat.le_of_ble_eq_true this.1.1.1.1, Nat.le_of_ble_eq_true this.1.1.1.2⟩, this.2⟩
 ·have := h2 d e (Qx h)
  refine ⟨this.1.1.1, this.2, fun g hg => ?_⟩
  have h5 := this.1.2
  rw [hg] at h5
  simpa using h5
 ·have := h3 e he
  split at this
  ·rename_i d hd
   simp only [Bool.and_eq_true, beq_iff_eq] at this
   exact ⟨d, hd, Nat.le_of_ble_eq_true this.1, this.2⟩
  ·cases this
def AV.hand (hi : List (Nat × Nat)) (s : AState) : AV → AV
 | .agg cs => .agg (handL hi s cs)
 | .tup cs => .tup (handL hi s cs)
 | .ref t k d off len => match lk hi d with
  | some e => .ref t k e off len
  | none => (AV.ref t k d off len).snap s
 | .rfx t k d off len ext => match lk hi d with
  | some e => .rfx t k e off len ext
  | none => (AV.ref t k d off len).snap s
 | .ptr k d i j => match lk hi d with
  | some e => .ptr k e i j
  | none => .dead
 | .map d => match lk hi d with
  | some e => .map e
  | none => .dead
 | .v x => .v x
 | .lst k xs => .lst k xs
 | .lsx k xs ys => .lsx k xs ys
 | .elt k xs i j => .elt k xs i j
 | .slen n => .slen n
 | .fn f cs => .fn f (handL hi s cs)
 | .ifc t a => .ifc t (a.hand hi s)
 | .dead => .dead
where
 handL (hi : List (Nat × Nat)) (s : AState) : List AV → List AV
 | [] => []
 | c :: cs => c.hand hi s :: handL hi s cs
theorem AV.handL_eq (hi : List (Nat × Nat)) (s : AState) (cs : List AV) : AV.hand.handL hi s cs = cs.map (AV.hand hi s) := by
 induction cs with
 | nil => simp [AV.hand.handL]
 | cons c cs ih => simp [AV.hand.handL, ih]
def AV.handT (hi : List (Nat × Nat)) (s : AState) : AV → Prop
 | .agg cs => handTL hi s cs
 | .tup cs => handTL hi s cs
 | .ref t k d off len => match lk hi d with
  | some _ => True
  | none => (AV.ref t k d off len).snapOK s
 | .rfx t k d off len _ => match lk hi d with
  | some _ => True
  | none => (AV.ref t k d off len).snapOK s
 | .fn _ cs => handTL hi s cs
 | .ifc _ a => a.handT hi s
 | _ => True
where
 handTL (hi : List (Nat × Nat)) (s : AState) : List AV → Prop
 | [] => True
 | c :: cs => c.handT hi s ∧ handTL hi s cs
theorem AV.handTL_mem {hi : List (Nat × Nat)} {s : AState} {cs : List AV} (h : AV.handT.handTL hi s cs) : ∀ c ∈ cs, c.handT hi s := by
 induction cs with
 | nil => intro c hc; cases hc
 | cons c cs ih =>
  simp only [AV.handT.handTL] at h
  intro x hx
  rcases List.mem_cons.1 hx with rfl | hx
  ·exact h.1
  ·exact ih h.2 x hx
def AV.allIn (hi : List (Nat × Nat)) : AV → Bool
 | .agg cs => allInL hi cs
 | .tup cs => allInL hi cs
 | .ref _ _ d _ _ => (lk hi d).isSome
 | .rfx _ _ d _ _ _ => (lk hi d).isSome
 | .fn _ cs => allInL hi cs
 | .ifc _ a => a.allIn hi
 | _ => true
where
 allInL (hi : List (Nat × Nat)) : List AV → Bool
 | [] => true
 | c :: cs => c.allIn hi && allInL hi cs
theorem AV.allInL_mem {hi : List (Nat × Nat)} {cs : List AV} (h : AV.allIn.allInL hi cs = true) : ∀ c ∈ cs, c.allIn hi = true := by
 induction cs with
 | nil => intro c hc; cases hc
 | cons c cs ih =>
  simp only [AV.allIn.allInL, Bool.and_eq_true] at h
  intro x hx
  rcases List.mem_cons.1 hx with rfl | hx
  ·exact h.1
  ·exact ih h.2 x hx
def AV.nm : AV → Bool
 | .agg cs => nmL cs
 | .tup cs => nmL cs
 | .lst .. => false
 | .lsx .. => false
 | .elt .. => false
 | .fn _ cs => nmL cs
 | .ifc _ a => a.nm
 | _ => true
where
 nmL : List AV → Bool
 | [] => true
 | c :: cs => c.nm && nmL cs
theorem AV.nmL_mem {cs : List AV} (h : AV.nm.nmL cs = true) : ∀ c ∈ cs, c.nm = true := by
 induction cs with
 | nil => intro c hc; cases hc
 | cons c cs ih =>
  simp only [AV.nm.nmL, Bool.and_eq_true] at h
  intro x hx
  rcases List.mem_cons.1 hx with rfl | hx
  ·exact h.1
  ·exact ih h.2 x hx
def AObj.nm : AObj → Prop
 | .row _ _ xs => ∀ cs ∈ xs, ∀ u ∈ cs, ∃ x, u = .v x
 | .var cs => AV.nm.nmL cs = true
 | .mapo es => ∀ e ∈ es, (∃ x, e.1 = .v x) ∧ ∃ x, e.2 = .v x
 | .mapr _ es => ∀ e ∈ es, (∃ x, e.2.1 = .v x) ∧ e.2.2.nm = true
 | .iter .. => True
 | .mapl .. => True
def V3 : List (Nat × AObj) → Prop
 | [] => True
 | p :: l => p.2.nm ∧ V3 l
theorem Xv {l : List (Nat × AObj)} (h : V3 l) {d : Nat} {o : AObj} (hl : lk l d = some o) : o.nm := by
 induction l with
 | nil => cases hl
 | cons p l ih =>
  obtain ⟨k, a⟩ := p
  rw [yg] at hl
  by_cases hk : k = d
  ·rw [zO hk] at hl; injection hl with hl; subst hl; exact h.1
  ·rw [zK hk] at hl; exact ih h.2 hl
theorem Jr {F F' : Nat → Prop} {w w' : World} {a : AV} {x : Value} (h : SVR F w a x) (ha : ∃ y, a = .v y) : SVR F' w' a x := by
 obtain ⟨y, rfl⟩ := ha
 cases h with
 | v h => exact .v h
theorem Qy {F F' : Nat → Prop} {β : Nat → Option Nat} {w : World} {x : AV} {v : Value} (h : AVR F β w x v) (hf : x.nm = true) : AVR F' β w x v := by
 induction h with
 | s h =>
  cases h with
  | v h => exact .s (.v h)
  | lst => cases hf
  | lsx => cases hf
 | agg h1 h2 _ ih => exact .agg h1 h2 fun i c u hc hu => ih i c u hc hu (AV.nmL_mem (by simpa only [AV.nm] using hf) c (List.mem_of_getElem? hc))
 | tup h1 _ ih => exact .tup h1 fun i c u hc hu => ih i c u hc hu (AV.nmL_mem (by simpa only [AV.nm] using hf) c (List.mem_of_getElem? hc))
 | nil => exact .nil
 | ref h1 h2 h3 h4 h5 => exact .ref h1 h2 h3 h4 h5
 | empty h1 => exact .empty h1
 | rfx h ih => exact .rfx (ih rfl)
 | ptr h1 => exact .ptr h1
 | elt => cases hf
 | map h1 => exact .map h1
 | slen => exact .slen
 | fn h0 h1 _ ih => exact .fn h0 h1 fun i c u hc hu => ih i c u hc hu (AV.nmL_mem (by simpa only [AV.nm] using hf) c (List.mem_of_getElem? hc))
 | ifc _ ih => exact .ifc (ih (by simpa only [AV.nm] using hf))
 | dead => exact .dead
theorem Qz {F F' : Nat → Prop} {β : Nat → Option Nat} {w : World} {d : Nat} {o : AObj} (h : xW F β w d o) (hn : o.nm) : xW F' β w d o := by
 cases o with
 | row t k xs =>
  obtain ⟨hk, h⟩ := h
  refine ⟨hk, ?_⟩
  rcases h with h | ⟨b, arr, h1, h2, h3, h4⟩
  ·exact .inl h
  ·exact .inr ⟨b, arr, h1, h2, h3, fun i j cs u hc hu => by
    obtain ⟨x, hx, hr⟩ := h4 i j cs u hc hu
    exact ⟨x, hx, Jr hr (hn cs (List.mem_of_getElem? hc) u (List.mem_of_getElem? hu))⟩⟩
 | var cs =>
  obtain ⟨b, arr, t, h1, h2, h3, h4⟩ := h
  exact ⟨b, arr, t, h1, h2, h3, fun j u hu => by
   obtain ⟨x, hx, hr, ho⟩ := h4 j u hu
   exact ⟨x, hx, Qy hr (AV.nmL_mem hn u (List.mem_of_getElem? hu)), ho⟩⟩
 | mapo es =>
  obtain ⟨b, arr, clk, h1, h2, h3, h4⟩ := h
  exact ⟨b, arr, clk, h1, h2, h3, fun i e m he hm => ⟨Jr (h4 i e m he hm).1 (hn e (List.mem_of_getElem? he)).1, Jr (h4 i e m he hm).2 (hn e (List.mem_of_getElem? he)).2⟩⟩
 | mapr clk es =>
  obtain ⟨b, arr, h1, h2, h3, h4⟩ := h
  exact ⟨b, arr, h1, h2, h3, fun i e m he hm => ⟨(h4 i e m he hm).1, Jr (h4 i e m he hm).2.1 (hn e (List.mem_of_getElem? he)).1, Qy (h4 i e m he hm).2.2 (hn e (List.mem_of_getElem? he)).2⟩⟩
 | mapl t clk es q => exact h
 | iter e' ok since seen => exact h
theorem zdm {F F' : Nat → Prop} {β : Nat → Option Nat} {w : World} {d : Nat} {o : AObj} (h : xW F β w d o) (hF : ∀ b, F b → F' b) : xW F' β w d o := by
 cases o with
 | row t k xs =>
  obtain ⟨hk, h⟩ := h
  refine ⟨hk, ?_⟩
  rcases h with h | ⟨b, arr, h1, h2, h3, h4⟩
  ·exact .inl h
  ·exact .inr ⟨b, arr, h1, h2, h3, fun i j cs u hc hu => by
    obtain ⟨x, hx, hr⟩ := h4 i j cs u hc hu
    exact ⟨x, hx, hr.mono hF (fun _ _ => rfl)⟩⟩
 | var cs =>
  obtain ⟨b, arr, t, h1, h2, h3, h4⟩ := h
  exact ⟨b, arr, t, h1, h2, h3, fun j u hu => by
   obtain ⟨x, hx, hr, ho⟩ := h4 j u hu
   exact ⟨x, hx, hr.mono hF (fun _ _ => rfl) (fun _ _ h => h) (fun _ _ _ _ _ h => h), ho⟩⟩
 | mapo es =>
  obtain ⟨b, arr, clk, h1, h2, h3, h4⟩ := h
  exact ⟨b, arr, clk, h1, h2, h3, fun i e m he hm => ⟨(h4 i e m he hm).1.mono hF (fun _ _ => rfl), (h4 i e m he hm).2.mono hF (fun _ _ => rfl)⟩⟩
 | mapr clk es =>
  obtain ⟨b, arr, h1, h2, h3, h4⟩ := h
  exact ⟨b, arr, h1, h2, h3, fun i e m he hm => ⟨(h4 i e m he hm).1, (h4 i e m he hm).2.1.mono hF (fun _ _ => rfl), (h4 i e m he hm).2.2.mono hF (fun _ _ => rfl) (fun _ _ h => h) (fun _ _ _ _ _ h => h)⟩⟩
 | mapl t clk es q => exact h
 | iter e' ok since seen => exact h
def Vv (s : AState) (h0 : List (Nat × Nat)) : List (Nat × Nat) → List (Nat × AObj)
 | [] => []
 | (e, d) :: l => match lk s.ob e with
  | some o => (d, o.ren h0) :: Vv s h0 l
  | none => Vv s h0 l
theorem Xw {s : AState} {h0 l : List (Nat × Nat)} {d : Nat} {o : AObj} (h : lk (Vv s h0 l) d = some o) : ∃ e o', (e, d) ∈ l ∧ lk s.ob e = some o' ∧ o = o'.ren h0 := by
 induction l with
 | nil => cases h
 | cons p l ih =>
  obtain ⟨e, d'⟩ := p
  unfold Vv at h
  split at h
  ·rename_i o' ho
   rw [yg] at h
   by_cases hk : d' = d
   ·subst hk; rw [zO rfl] at h; injection h with h; subst h; exact ⟨e, o', .head _, ho, rfl⟩
   ·rw [zK hk] at h
    obtain ⟨e', o'', h1, h2, h3⟩ := ih h
    exact ⟨e', o'', .tail _ h1, h2, h3⟩
  ·obtain ⟨e', o'', h1, h2, h3⟩ := ih h
   exact ⟨e', o'', .tail _ h1, h2, h3⟩
def qC (ob1 : List (Nat × AObj)) (b0 : List (Nat × Nat)) : List (Nat × Nat) → List (Nat × AObj)
 | [] => []
 | (d, e) :: l => match lk ob1 d with
  | some o => (e, o.ren b0) :: qC ob1 b0 l
  | none => qC ob1 b0 l
theorem QA {ob1 : List (Nat × AObj)} {b0 l : List (Nat × Nat)} {e : Nat} {o : AObj} (h : lk (qC ob1 b0 l) e = some o) : ∃ d o', (d, e) ∈ l ∧ lk ob1 d = some o' ∧ o = o'.ren b0 := by
 induction l with
 | nil => cases h
 | cons p l ih =>
  obtain ⟨d, e'⟩ := p
  unfold qC at h
  split at h
  ·rename_i o' ho
   rw [yg] at h
   by_cases hk : e' = e
   ·subst hk; rw [zO rfl] at h; injection h with h; subst h; exact ⟨d, o', .head _, ho, rfl⟩
   ·rw [zK hk] at h
    obtain ⟨e', o'', h1, h2, h3⟩ := ih h
    exact ⟨e', o'', .tail _ h1, h2, h3⟩
  ·obtain ⟨e', o'', h1, h2, h3⟩ := ih h
   exact ⟨e', o'', .tail _ h1, h2, h3⟩
def AState.back (s : AState) (K V : List Nat) (bk : List (Nat × Nat)) (ob1 : List (Nat × AObj)) : AState :=
 { fr := s.fr.map fun p => (p.1, p.2.1, p.2.2.cut K V), ob := qC ob1 bk bk ++ (rmL K V s.ob).map fun p => (p.1, p.2.cut K V) }
section
variable {P : Program} {T : Nat → Option TyD} {E : Env} {s s' : AState} {a : Act} {tm : Array Value} {w w' : World} {β β' : Nat → Option Nat} {F F' : Nat → Prop} {n : Nat} {ops : Array Oper} {Q : Exit → AState → Prop} {D : Dr} {hi bk : List (Nat × Nat)} {K V : List Nat}
def bIn (hi : List (Nat × Nat)) (β : Nat → Option Nat) (d : Nat) : Option Nat := (lk (jp hi) d).bind β
def xl (bk : List (Nat × Nat)) (K V : List Nat) (β β' : Nat → Option Nat) (e : Nat) : Option Nat :=
 match lk (jp bk) e with
 | some d => β' d
 | none => bif K.contains e || V.contains e then none else β e
theorem zH {d b : Nat} (h : bIn hi β d = some b) : ∃ g, lk (jp hi) d = some g ∧ β g = some b := by
 unfold bIn at h
 cases hl : lk (jp hi) d with
 | none => rw [hl] at h; cases h
 | some g => rw [hl] at h; exact ⟨g, rfl, h⟩
theorem yP {e b : Nat} (h : xl bk K V β β' e = some b) : (∃ d, lk (jp bk) e = some d ∧ β' d = some b) ∨ (lk (jp bk) e = none ∧ e ∉ K ∧ e ∉ V ∧ β e = some b) := by
 unfold xl at h
 split at h
 ·rename_i d hd; exact .inl ⟨d, hd, h⟩
 ·rename_i hd
  cases hc : K.contains e || V.contains e with
  | true => rw [hc] at h; cases h
  | false =>
   rw [hc] at h
   simp only [Bool.or_eq_false_iff, List.contains_eq_mem, decide_eq_false_iff_not] at hc
   exact .inr ⟨hd, hc.1, hc.2, h⟩
theorem vL {d e : Nat} (H : HandOK hi bk K V) (h : lk bk d = some e) : xl bk K V β β' e = β' d := by
 unfold xl; rw [H.bk1 d e h]
theorem QB {e : Nat} (H : HandOK hi bk K V) (h1 : e ∉ K) (h2 : e ∉ V) : xl bk K V β β' e = β e := by
 unfold xl
 cases hl : lk (jp bk) e with
 | some d =>
  rcases (H.bk2 d e hl).2.1 with h | h
  ·exact absurd h h1
  ·exact absurd h h2
 | none =>
  have : (K.contains e || V.contains e) = false := by simp [h1, h2]
  rw [this]; rfl
theorem SRel.called (hs : SRel E s tm w β) (H : HandOK hi bk K V) (hkeep : Keeps (fun b => ∃ d, bIn hi β d = some b) w w') (hinj : ∀ d e b, β' d = some b → β' e = some b → d = e)
  (hrng : ∀ d b, β' d = some b → (w.heap.size ≤ b ∨ bIn hi β d = some b) ∧ b < w'.heap.size) (hfx : ∀ d b, d < 15000 → bIn hi β d = some b → β' d = some b) (hfs : ∀ d b t n, d < 15000 → bIn hi β d = some b → Shp w b t n → Shp w' b t n)
  {ob1 : List (Nat × AObj)} (hob : ∀ d o, lk ob1 d = some o → xW (FF E (xl bk K V β β') w') β' w' d o) : SRel E (s.back K V bk ob1) tm w' (xl bk K V β β') := by
 have hsz := hkeep.size
 have hout : ∀ e b, e ∉ K → e ∉ V → β e = some b → w'.heap[b]? = w.heap[b]? := fun e b h1 h2 hb => hkeep.block b (hs.rng e b hb).2 fun ⟨d, hd⟩ => by
  obtain ⟨g, hg, hgb⟩ := zH hd
  have := hs.inj g e b hgb hb
  subst this
  rcases (H.hi2 g d hg).2.2 with h | h
  ·exact h1 h
  ·exact h2 h
 have hFF : ∀ b, FF E β w b → ¬ ∃ d, bIn hi β d = some b := fun b hb ⟨d, hd⟩ => by
  obtain ⟨g, _, hgb⟩ := zH hd
  exact hb.2.2 g hgb
 have hFw : ∀ b, FF E β w b → w'.heap[b]? = w.heap[b]? := fun b hb => hkeep.block b hb.1 (hFF b hb)
 have hF : ∀ b, FF E β w b → FF E (xl bk K V β β') w' b := fun b hb => ⟨Nat.lt_of_lt_of_le hb.1 hsz, hb.2.1, fun e he => by
  rcases yP he with ⟨d, hd, hdb⟩ | ⟨_, _, _, heb⟩
  ·rcases (hrng d b hdb).1 with h | h
   ·have := hb.1; omega
   ·exact hFF b hb ⟨d, h⟩
  ·exact hb.2.2 e heb⟩
 have hvb : ∀ e b, e ∈ V → β e = some b → xl bk K V β β' e = some b := fun e b he hb => by
  obtain ⟨d, h1, h2, h3⟩ := H.v e he
  rw [vL H h3]
  refine hfx d b h2 ?_
  unfold bIn
  rw [(H.hi1 e d h1).2.1]; exact hb
 have hβ : ∀ e b, e ∉ K → β e = some b → xl bk K V β β' e = some b := fun e b he hb => by
  by_cases hv : e ∈ V
  ·exact hvb e b hv hb
  ·rw [QB H he hv]; exact hb
 have hsh : ∀ e b t n, e ∉ K → β e = some b → Shp w b t n → Shp w' b t n := fun e b t n he hb h => by
  by_cases hv : e ∈ V
  ·obtain ⟨d, h1, h2, h3⟩ := H.v e hv
   exact hfs d b t n h2 (by unfold bIn; rw [(H.hi1 e d h1).2.1]; exact hb) h
  ·exact h.of_heap (hout e b he hv hb)
 have hown : ∀ e d b, lk (jp bk) e = some d → bIn hi β d = some b → β e = some b := fun e d b hd hb => by
  obtain ⟨g, hg, hgb⟩ := zH hb
  have := (H.bk2 d e hd).2.2 g hg
  subst this; exact hgb
 refine ⟨fun e f b h1 h2 => ?_, fun e b h => ?_, ?_, fun e o ho => ?_, fun t g x ht hg => ?_, fun t x ht => ?_, fun e b hlt he => ?_, fun e b t n hlt he hS => ?_⟩
 ·rcases yP h1 with ⟨d, hd, hdb⟩ | ⟨_, k1, v1, heb⟩ <;> rcases yP h2 with ⟨d', hd', hdb'⟩ | ⟨_, k2, v2, hfb⟩
  ·have := hinj d d' b hdb hdb'
   subst this
   have a1 := (H.bk2 d e hd).1
   have a2 := (H.bk2 d f hd').1
   rw [a1] at a2
   injection a2
  ·rcases (hrng d b hdb).1 with h | h
   ·have := (hs.rng f b hfb).2; omega
   ·have h3 := hown e d b hd h
    have := hs.inj e f b h3 hfb
    subst this
    rcases (H.bk2 d e hd).2.1 with h | h
    ·exact absurd h k2
    ·exact absurd h v2
  ·rcases (hrng d' b hdb').1 with h | h
   ·have := (hs.rng e b heb).2; omega
   ·have h3 := hown f d' b hd' h
    have := hs.inj f e b h3 heb
    subst this
    rcases (H.bk2 d' f hd').2.1 with h | h
    ·exact absurd h k1
    ·exact absurd h v1
  ·exact hs.inj e f b heb hfb
 ·rcases yP h with ⟨d, hd, hdb⟩ | ⟨_, _, _, heb⟩
  ·have h1 := hrng d b hdb
   refine ⟨?_, h1.2⟩
   rcases h1.1 with h | h
   ·exact .inl (Nat.le_trans hs.old.size h)
   ·exact (hs.rng e b (hown e d b hd h)).1
  ·have := hs.rng e b heb
   exact ⟨this.1, by omega⟩
 ·refine hs.old.trans hkeep fun m hm ⟨d, hd⟩ => ?_
  obtain ⟨g, _, hgb⟩ := zH hd
  rcases (hs.rng g m hgb).1 with h | h
  ·omega
  ·exact ⟨g, h⟩
 ·have ho' : lk (qC ob1 bk bk ++ (rmL K V s.ob).map fun p => (p.1, p.2.cut K V)) e = some o := ho
  rw [Qt] at ho'
  cases hl : lk (qC ob1 bk bk) e with
  | some o1 =>
   rw [hl] at ho'
   injection ho' with ho'
   subst ho'
   obtain ⟨d, o2, hm, hd, rfl⟩ := QA hl
   exact (hob d o2 hd).ren (fun _ h => h) (fun d e b h hb => by rw [vL H h]; exact hb) fun b hb => by rw [vL H (H.bkm d e hm)]; exact hb
  | none =>
   rw [hl] at ho'
   dsimp only at ho'
   rw [uo (fun o : AObj => o.cut K V)] at ho'
   cases hr : lk (rmL K V s.ob) e with
   | none => rw [hr] at ho'; cases ho'
   | some o1 =>
    rw [hr] at ho'
    injection ho' with ho'
    subst ho'
    obtain ⟨k1, v1, h1⟩ := zcJ hr
    exact (hs.ob e o1 h1).cut hF hFw hβ hsh hout k1 v1
 ·have ht' : lk (s.fr.map fun p => (p.1, p.2.1, p.2.2.cut K V)) t = some (g, x) := ht
  rw [uo (fun p : Bool × AV => (p.1, p.2.cut K V))] at ht'
  cases hl : lk s.fr t with
  | none => rw [hl] at ht'; cases ht'
  | some p =>
   obtain ⟨g', x'⟩ := p
   rw [hl] at ht'
   injection ht' with ht'
   injection ht' with h1 h2
   subst h1
   subst h2
   exact (hs.fr t g' x' hl hg).cut hF hFw hβ hsh
 ·have ht' : lk (s.fr.map fun p => (p.1, p.2.1, p.2.2.cut K V)) t = some (false, x) := ht
  rw [uo (fun p : Bool × AV => (p.1, p.2.cut K V))] at ht'
  cases hl : lk s.fr t with
  | none => rw [hl] at ht'; cases ht'
  | some p =>
   obtain ⟨g', x'⟩ := p
   rw [hl] at ht'
   injection ht' with ht'
   injection ht' with h1 h2
   dsimp only at h1
   subst h1
   exact hs.un t x' hl
 ·have h1 := hs.fx e b hlt he
  refine hβ e b (fun hk => ?_) h1
  have h2 := H.k e hk
  have h3 := E.hβ e b he
  rcases h2 with h | h <;> omega
 ·refine hsh e b t n (fun hk => ?_) (hs.fx e b hlt he) (hs.fs e b t n hlt he hS)
  have h2 := H.k e hk
  have h3 := E.hβ e b he
  rcases h2 with h | h <;> omega
theorem qW (hs : SRel E s tm w β) {t k d off len : Nat} {v : Value} (h : AVR (FF E β w) β w (.ref t k d off len) v) (hd : lk hi d = none) (hF : ∀ b, FF E β w b → F' b) (hβ : ∀ d b, lk hi d = none → β d = some b → F' b)
  (hok : (AV.ref t k d off len).snapOK s) {β1 : Nat → Option Nat} : AVR F' β1 w ((AV.ref t k d off len).snap s) v := by
 have nil0 : ∀ (k' : Nat) (xs : List (List AV)) (A : Option Addr), ∀ (w : World), SVR F' w (.lst k' ((xs.take (off + 0)).drop off)) (.slice A 0 0) := fun k' xs A w => by
  have hz : (xs.take (off + 0)).drop off = [] := List.eq_nil_of_length_eq_zero (by rw [List.length_drop, List.length_take]; omega)
  rw [hz]
  exact .lst (fun _ _ => .nilFunc) rfl (Nat.le_refl _) (by decide) (fun cs hcs => by cases hcs) (fun h => by omega) (fun i j hi => by omega) fun i j cs u hc => by simp at hc
 simp only [AV.snap]
 split
 case h_2 => exact .dead
 rename_i t' k' xs hob
 cases h with
 | s h => cases h
 | nil => exact .s (nil0 _ _ _ _)
 | empty h1 => exact .s (nil0 _ _ _ _)
 | @ref _ _ _ _ _ c b A h1 h2 h3 h4 h5 =>
  simp only [AV.snapOK, hob] at hok
  obtain ⟨rfl, rfl, hl⟩ := hok
  obtain ⟨hk, hrow⟩ := hs.ob d _ hob
  have hlen : ((xs.take (off + len)).drop off).length = len := by rw [List.length_drop, List.length_take]; omega
  have hkk : ∀ cs ∈ (xs.take (off + len)).drop off, cs.length = k' := fun cs hcs => hk cs (List.mem_of_mem_take (List.mem_of_mem_drop hcs))
  subst h4
  rcases hrow with rfl | ⟨b', arr, hb', harr, hsz, hc⟩
  ·simp only [List.length_nil] at hl
   have hl0 : len = 0 := by omega
   subst hl0
   exact .s (.lst (fun _ _ => .nilFunc) hlen.symm h2 h3 (fun cs hcs => hkk cs hcs) (fun h => by omega) (fun i j hi => by omega) fun i j cs u hc => by simp at hc)
  ·rw [h1] at hb'
   injection hb' with hb'
   subst hb'
   have get : ∀ i cs, ((xs.take (off + len)).drop off)[i]? = some cs → i < len ∧ xs[off + i]? = some cs := fun i cs hcs => by
    have hi : i < len := by rw [← hlen]; exact zE hcs
    rw [List.getElem?_drop, List.getElem?_take_of_lt (by omega)] at hcs
    exact ⟨hi, hcs⟩
   have hall : ∀ i j, i < len → j < k' → ∃ x, arr[(off + i) * k' + j]? = some x ∧ x.oneCell' = true := fun i j hi hj => by
    have hlt : off + i < xs.length := by omega
    have hlj : j < (xs[off + i]).length := by rw [hk _ (List.getElem_mem hlt)]; exact hj
    obtain ⟨x, hx, hr⟩ := hc (off + i) j xs[off + i] (xs[off + i])[j] (List.getElem?_eq_getElem hlt) (List.getElem?_eq_getElem hlj)
    exact ⟨x, hx, hr.one⟩
   refine .s (.lst (fun i j => (arr[(off + i) * k' + j]?).getD undef) hlen.symm h2 h3 hkk (fun _ => ⟨b, off * k', rfl, hβ d b hd h1, fun i j hi hj => ?_⟩) (fun i j hi hj => ?_) fun i j cs u hcs hu => ?_)
   ·obtain ⟨x, hx, _⟩ := hall i j hi hj
    rw [cell_of_row w b _ arr t' (0, 0) harr, show off * k' + (i * k' + j) = (off + i) * k' + j by rw [Nat.add_mul]; omega, hx]
    rfl
   ·obtain ⟨x, hx, ho⟩ := hall i j hi hj
    show ((arr[(off + i) * k' + j]?).getD undef).oneCell' = true
    rw [hx]; exact ho
   ·obtain ⟨hi, hcs'⟩ := get i cs hcs
    obtain ⟨x, hx, hr⟩ := hc (off + i) j cs u hcs' hu
    show SVR F' w u ((arr[(off + i) * k' + j]?).getD undef)
    rw [hx]; exact hr.mono hF (fun _ _ => rfl)
theorem Xx (hs : SRel E s tm w β) (H : HandOK hi bk K V) (hF : ∀ b, FF E β w b → F' b) {x : AV} {v : Value} (hβ : x.allIn hi = true ∨ ∀ d b, lk hi d = none → β d = some b → F' b) (h : AVR (FF E β w) β w x v) (hok : x.handT hi s) :
  AVR F' (bIn hi β) w (x.hand hi s) v := by
 have hin : ∀ d e b, lk hi d = some e → β d = some b → bIn hi β e = some b := fun d e b h1 h2 => by
  unfold bIn; rw [(H.hi1 d e h1).2.1]; exact h2
 induction h with
 | s h =>
  cases h with
  | v h => exact .s (.v h)
  | lst g h1 h2 h3 h4 h5 h6 h7 => exact .s ((SVR.lst g h1 h2 h3 h4 h5 h6 h7).mono hF (fun _ _ => rfl))
  | lsx h => exact .s ((SVR.lsx h).mono hF (fun _ _ => rfl))
 | @agg cs vs h1 h2 _ ih =>
  simp only [AV.hand, AV.handL_eq]
  refine .agg (by simpa using h1) h2 fun i c u hc hu => ?_
  rw [List.getElem?_map] at hc
  cases hci : cs[i]? with
  | none => rw [hci] at hc; cases hc
  | some c' => rw [hci] at hc; injection hc with hc; subst hc; exact ih i c' u hci hu (hβ.imp (fun h => AV.allInL_mem (by simpa only [AV.allIn] using h) c' (List.mem_of_getElem? hci)) id) (AV.handTL_mem (by simpa only [AV.handT] using hok) c' (List.mem_of_getElem? hci))
 | @tup cs vs h1 _ ih =>
  simp only [AV.hand, AV.handL_eq]
  refine .tup (by simpa using h1) fun i c u hc hu => ?_
  rw [List.getElem?_map] at hc
  cases hci : cs[i]? with
  | none => rw [hci] at hc; cases hc
  | some c' => rw [hci] at hc; injection hc with hc; subst hc; exact ih i c' u hci hu (hβ.imp (fun h => AV.allInL_mem (by simpa only [AV.allIn] using h) c' (List.mem_of_getElem? hci)) id) (AV.handTL_mem (by simpa only [AV.handT] using hok) c' (List.mem_of_getElem? hci))
 | @nil t k d off =>
  simp only [AV.hand]
  split
  ·exact .nil
  ·rename_i hd
   exact qW hs (.nil) hd hF (hβ.resolve_left (by simp [AV.allIn, hd])) (by simpa only [AV.handT, hd] using hok)
 | @empty t k d off A h1 =>
  simp only [AV.hand]
  split
  ·exact .empty h1
  ·rename_i hd
   exact qW hs (.empty h1) hd hF (hβ.resolve_left (by simp [AV.allIn, hd])) (by simpa only [AV.handT, hd] using hok)
 | @ref t k d off len c b A h1 h2 h3 h4 h5 =>
  simp only [AV.hand]
  split
  ·rename_i e he; exact .ref (hin _ _ _ he h1) h2 h3 h4 h5
  ·rename_i hd
   exact qW hs (.ref h1 h2 h3 h4 h5) hd hF (hβ.resolve_left (by simp [AV.allIn, hd])) (by simpa only [AV.handT, hd] using hok)
 | @rfx t k d off len ext c A h ih =>
  simp only [AV.hand]
  split
  ·rename_i e he
   have h' := ih (hβ.imp (fun h => by simpa only [AV.allIn] using h) id) (by simp only [AV.handT, he])
   simp only [AV.hand, he] at h'
   exact .rfx h'
  ·rename_i hd
   exact qW hs (AVR.rfx h).rfx_ref hd hF (hβ.resolve_left (by simp [AV.allIn, hd])) (by simpa only [AV.handT, hd] using hok)
 | @ptr k d i j b h1 =>
  simp only [AV.hand]
  split
  ·rename_i e he; exact .ptr (hin _ _ _ he h1)
  ·exact .dead
 | elt g h1 h2 h3 h4 h5 =>
  simp only [AV.hand]
  exact .elt g (hF _ h1) h2 h3 h4 (fun i j cs u hc hu => (h5 i j cs u hc hu).mono hF (fun _ _ => rfl))
 | @map d b h1 =>
  simp only [AV.hand]
  split
  ·rename_i e he; exact .map (hin _ _ _ he h1)
  ·exact .dead
 | slen => exact .slen
 | @fn f g cs vs xs ys h0 h1 _ ih =>
  simp only [AV.hand, AV.handL_eq]
  refine .fn h0 (by simpa using h1) fun i c u hc hu => ?_
  rw [List.getElem?_map] at hc
  cases hci : cs[i]? with
  | none => rw [hci] at hc; cases hc
  | some c' => rw [hci] at hc; injection hc with hc; subst hc; exact ih i c' u hci hu (hβ.imp (fun h => AV.allInL_mem (by simpa only [AV.allIn] using h) c' (List.mem_of_getElem? hci)) id) (AV.handTL_mem (by simpa only [AV.handT] using hok) c' (List.mem_of_getElem? hci))
 | @ifc t a x _ ih => exact .ifc (ih (hβ.imp (fun h => by simpa only [AV.allIn] using h) id) (by simpa only [AV.handT] using hok))
 | dead => exact .dead
end
end
section
open Go.RowKit
def Xy (n : Nat) (ops : Array Oper) (s : AState) (o : Oper) (hi : List (Nat × Nat)) : Option (Nat × List AV × Prop) :=
 match z6 ops s o.guard, o.op with
 | some G, .call ⟨.value x, args, _⟩ =>
  match s.ev x with
  | .v (.func (.func f) _ _) => some (f, args.toList.map (fun z => (s.ev z).hand hi s), G = true ∧ yQ n o.dst ∧ s.gd x = true ∧ args.toList.all s.gd = true ∧ AV.handT.handTL hi s (args.toList.map s.ev))
  | _ => none
 | _, _ => none
section
variable {P : Program} {T : Nat → Option TyD} {E : Env} {s s' : AState} {a : Act} {tm : Array Value} {w w' : World} {β β' : Nat → Option Nat} {F F' : Nat → Prop} {n : Nat} {ops : Array Oper} {Q : Exit → AState → Prop} {D : Dr} {rest : List Oper} {o : Oper}
theorem jP {f : Nat} {as' : List AV} {p : Prop} {hi : List (Nat × Nat)} (h : Xy n ops s o hi = some (f, as', p)) (hp : p) :
  z6 ops s o.guard = some true ∧ ∃ x args ats first cap, o.op = .call ⟨.value x, args, ats⟩ ∧ s.ev x = .v (.func (.func f) first cap) ∧ s.gd x = true ∧ yQ n o.dst ∧ args.toList.map (fun z => (s.ev z).hand hi s) = as' ∧
   args.toList.all s.gd = true ∧ ∀ z ∈ args.toList, (s.ev z).handT hi s := by
 unfold Xy at h
 split at h
 case h_2 => cases h
 rename_i G x args ats hg ho
 split at h
 case h_2 => cases h
 rename_i f' first cap hx
 simp only [Option.some.injEq, Prod.mk.injEq] at h
 obtain ⟨rfl, rfl, rfl⟩ := h
 obtain ⟨rfl, h1, h2, h3, h4⟩ := hp
 exact ⟨hg, x, args, ats, first, cap, ho, hx, h2, h1, rfl, h3, fun z hz => AV.handTL_mem h4 _ (List.mem_map_of_mem hz)⟩
theorem WB (hi bk : List (Nat × Nat)) (K V : List Nat) {f : Nat} {as' : List AV} {p : Prop} {ob ob1 : List (Nat × AObj)} {r : AV} (h : Xy n ops s o hi = some (f, as', p)) (hp : p) (hk : vr hi bk K V = true)
  (hD : hi.all (fun p => D.W p.1) = true) (hds : D.ds o = true ∨ hi = []) (hob : Vv s hi hi = ob) (hc : yq P f as' ob r ob1) (hm : AV.allIn.allInL hi (o.op.operands.toList.map s.ev) = true ∨ (r.nm = true ∧ V3 ob1))
  (hr : zL P E n ops D rest Q ((s.back K V bk ob1).put o.dst true (r.ren bk))) : yp P E n ops D (o :: rest) Q s := by
 obtain ⟨hg, x, args, ats, first, cap, ho, hx, hgx, hdst, has, hall, hT⟩ := jP h hp
 have H := kR hk
 intro a w β hn hd hs
 have hw := yn (ops := ops) hs hg
 have hv := hs.ev x hgx (a := a) rfl
 rw [hx] at hv
 obtain ⟨rfl, rfl⟩ := vG hv
 generalize hux : a.eval x = ux at hv
 cases hv with | s hv => cases hv with | v hv =>
 obtain ⟨⟨fn, hf, hb, hnm⟩, hcall⟩ := hc
 have hopl : o.op.operands.toList = x :: args.toList := by rw [ho]; simp [Op.operands, Call.operands]
 refine yi (by rw [ho]; rfl) hw (fun _ => ?_) (fun hGf => by cases hGf)
 unfold Oper.wp
 rw [kh (w := w) ho hux hf hb hnm]
 have key : ∀ F : Nat → Prop, (∀ b, FF E β w b → F b) → FOK F w → (∀ b, F b → ¬ ∃ d, bIn hi β d = some b) →
   (∀ z ∈ args.toList, (s.ev z).allIn hi = true ∨ ∀ d b, lk hi d = none → β d = some b → F b) →
   (∀ (β' : Nat → Option Nat) (w' : World), Keeps (fun b => ∃ d, bIn hi β d = some b) w w' → (∀ d b, β' d = some b → (w.heap.size ≤ b ∨ bIn hi β d = some b) ∧ b < w'.heap.size) →
    (∀ d o, lk ob1 d = some o → xW (GF F (bIn hi β) β' w w') β' w' d o → xW (FF E (xl bk K V β β') w') β' w' d o) ∧ ∀ v, AVR (GF F (bIn hi β) β' w w') β' w' r v → AVR (FF E (xl bk K V β β') w') β' w' r v) →
   Calls P f (args.map a.eval) w (fun e w' => ∃ v, e = .returned v ∧ ∃ X', yG (D.dst o) (XW D β) w X' w' ∧ zU P ops D (jh E n Q) (nrm E n D (Q .normal)) rest X' (a.put o.dst v) w') := fun F h1 h2 h3 h4 h5 => by
  refine (hcall w F (bIn hi β) (args.map a.eval) ⟨h2, fun d e b g1 g2 => ?_, fun d b hb => ?_, fun d ob' hd' => ?_⟩ (by rw [← has]; simp) fun i y v hy hv' => ?_).mono fun e w' ⟨v, β', he, hout, hres⟩ => ?_
  ·obtain ⟨g, k1, k2⟩ := zH g1
   obtain ⟨g', k3, k4⟩ := zH g2
   have := hs.inj g g' b k2 k4
   subst this
   have z1 := (H.hi2 g d k1).1
   rw [(H.hi2 g e k3).1] at z1
   injection z1 with z1
   exact z1.symm
  ·obtain ⟨g, k1, k2⟩ := zH hb
   exact ⟨(hs.rng g b k2).2, fun hF => h3 b hF ⟨d, hb⟩, (H.hi2 g d k1).2.1⟩
  ·rw [← hob] at hd'
   obtain ⟨e, o', hm', ho', rfl⟩ := Xw hd'
   have hed := H.him e d hm'
   have hin : ∀ d e b, lk hi d = some e → β d = some b → bIn hi β e = some b := fun d e b h1 h2 => by
    unfold bIn; rw [(H.hi1 d e h1).2.1]; exact h2
   exact (hs.ob e o' ho').ren h1 hin fun b hb => hin e d b hed hb
  ·rw [Array.getElem?_map] at hv'
   cases hz : args[i]? with
   | none => rw [hz] at hv'; cases hv'
   | some z =>
    rw [hz] at hv'
    injection hv' with hv'
    subst hv'
    have hz' : args.toList[i]? = some z := by simpa using hz
    rw [← has, List.getElem?_map, hz'] at hy
    injection hy with hy
    subst hy
    have hmem := List.mem_of_getElem? hz'
    exact Xx hs H h1 (h4 z hmem) (hs.ev z (List.all_eq_true.1 hall z hmem) rfl) (hT z hmem)
  ·obtain ⟨t1, t2⟩ := h5 β' w' hout.keeps hout.rng
   have hs' := hs.called H hout.keeps hout.inj hout.rng hout.fx hout.fs (ob1 := ob1) fun d o hd' => t1 d o hd' (hout.ob d o hd')
   have hr' : AVR (FF E (xl bk K V β β') w') (xl bk K V β β') w' (r.ren bk) v := (t2 v hres).ren (fun _ h => h) fun d e b h hb => by rw [vL H h]; exact hb
   obtain ⟨g1, g2, g3⟩ := yN hn hd hs' hdst true (r.ren bk) (fun _ => hr') (fun h => by cases h)
   have hDW : ∀ g d, lk hi g = some d → D.W g = true := fun g d h => List.all_eq_true.1 hD (g, d) (jO h)
   refine ⟨v, he, XW D (xl bk K V β β'), ⟨fun hf => ?_, ⟨hout.keeps.size, fun b hb hx => hout.keeps.block b hb fun ⟨d, hd'⟩ => ?_⟩, fun b hb ⟨e, k1, k2⟩ => ?_⟩, hr _ _ _ g1 g2 g3⟩
   ·rcases hds with hds | rfl
    ·simp only [Dr.dst, ho, Y7, hds, Bool.and_true, Bool.or_true] at hf; cases hf
    ·exact ⟨hout.keeps.size, fun b hb _ => hout.keeps.block b hb fun ⟨d, hd'⟩ => by obtain ⟨g, k1, _⟩ := zH hd'; cases k1⟩
   ·obtain ⟨g, k1, k2⟩ := zH hd'
    exact hx ⟨g, hDW g d (H.hi2 g d k1).1, k2⟩
   ·rcases yP k2 with ⟨d, hd', hdb⟩ | ⟨_, _, _, heb⟩
    ·rcases (hout.rng d b hdb).1 with h | h
     ·omega
     ·obtain ⟨g, k3, k4⟩ := zH h
      have := (H.bk2 d e hd').2.2 g k3
      subst this
      exact ⟨g, k1, k4⟩
    ·exact ⟨e, k1, heb⟩
 have fin : Calls P f (args.map a.eval) w (fun e w' => ∃ v, e = .returned v ∧ ∃ X', yG (D.dst o) (XW D β) w X' w' ∧ zU P ops D (jh E n Q) (nrm E n D (Q .normal)) rest X' (a.put o.dst v) w') := by
  rcases hm with hm | ⟨hm1, hm2⟩
  ·refine key (FF E β w) (fun _ h => h) hs.glo (fun b hb ⟨d, hd'⟩ => ?_) (fun z hz => .inl (AV.allInL_mem hm _ (List.mem_map_of_mem (by rw [hopl]; exact .tail _ hz)))) (fun β' w' hkp hrg => ?_)
   ·obtain ⟨g, _, k2⟩ := zH hd'
    exact hb.2.2 g k2
   ·have hgf : ∀ b, GF (FF E β w) (bIn hi β) β' w w' b → FF E (xl bk K V β β') w' b := fun b hb => by
     refine ⟨hb.1, ?_, fun e he => ?_⟩
     ·rcases hb.2.1 with h | h | ⟨d, h⟩
      ·exact h.2.1
      ·exact .inr (.inl (Nat.le_trans hs.old.size h))
      ·obtain ⟨g, _, k2⟩ := zH h
       exact .inr ((hs.rng g b k2).1.imp id fun h => ⟨g, h⟩)
     ·rcases yP he with ⟨d, hd', hdb⟩ | ⟨_, heK, heV, heb⟩
      ·exact hb.2.2 d hdb
      ·rcases hb.2.1 with h | h | ⟨d, h⟩
       ·exact h.2.2 e heb
       ·have := (hs.rng e b heb).2; omega
       ·obtain ⟨g, k1, k2⟩ := zH h
        have := hs.inj e g b heb k2
        subst this
        rcases (H.hi2 e d k1).2.2 with h' | h'
        ·exact heK h'
        ·exact heV h'
    exact ⟨fun d o _ h => zdm h hgf, fun v h => h.mono hgf (fun _ _ => rfl) (fun _ _ h => h) (fun _ _ _ _ _ h => h)⟩
  ·have hsub : ∀ b, FF E β w b → b < w.heap.size ∧ ∀ d, bIn hi β d ≠ some b := fun b hb => ⟨hb.1, fun d hd' => by
    obtain ⟨g, _, k2⟩ := zH hd'
    exact hb.2.2 g k2⟩
   refine key (fun b => b < w.heap.size ∧ ∀ d, bIn hi β d ≠ some b) hsub ⟨fun _ h => h.1, fun g vs h => ⟨hsub g (hs.glo.gl g vs h).1, (hs.glo.gl g vs h).2⟩⟩ (fun b hb ⟨d, hd'⟩ => hb.2 d hd') (fun z hz => .inr fun d b hd' hb => ⟨(hs.rng d b hb).2, fun d' hd2 => ?_⟩) (fun β' w' hkp hrg => ⟨fun d o hd' h => Qz h (Xv hm2 hd'), fun v h => Qy h hm1⟩)
   ·obtain ⟨g, k1, k2⟩ := zH hd2
    have := hs.inj g d b k2 hb
    subst this
    rw [(H.hi2 g d' k1).1] at hd'
    cases hd'
 exact fin.mono fun e w' ⟨v, he, h⟩ => by subst he; exact h
theorem zo {ob : List (Nat × AObj)} : Y0 ob [] := fun d o h => by cases h
theorem zh {ob l : List (Nat × AObj)} {d : Nat} {o : AObj} (h : lk ob d = some o) (hl : Y0 ob l) : Y0 ob ((d, o) :: l) := fun e o' h' => by
 rw [yg] at h'
 by_cases hk : d = e
 ·subst hk; rw [zO rfl] at h'; injection h' with h'; subst h'; exact .inl h
 ·rw [zK hk] at h'; exact hl e o' h'
theorem QC {ob l : List (Nat × AObj)} {d t k m : Nat} {xs : List (List AV)} (h : lk ob d = some (.row t k xs)) (hl : Y0 ob l) : Y0 ob ((d, .row t k (xs.take m)) :: l) := fun e o' h' => by
 rw [yg] at h'
 by_cases hk : d = e
 ·subst hk; rw [zO rfl] at h'; injection h' with h'; subst h'; exact .inr (.inr ⟨t, k, xs, m, h, rfl⟩)
 ·rw [zK hk] at h'; exact hl e o' h'
theorem AV.up_nilref (t k d off : Nat) : (AV.v (.slice none 0 0)).up (.ref t k d off 0) := fun F β w x h => by
 cases h with
 | s h =>
 cases h with
 | v h => exact .nil
theorem yq.toP {f : Nat} {args : List AV} {r : AV} {ob1 : List (Nat × AObj)} (h : yq P f args [] r ob1) (hok : r.snapOK { fr := [], ob := ob1 }) : zN P f args (fun x => x = r.snap { fr := [], ob := ob1 }) := by
 refine ⟨h.1, fun w F vs hF hl ha => ?_⟩
 refine (h.2 w F (fun _ => none) vs ⟨hF, fun _ _ _ h => (by cases h), fun _ _ h => (by cases h), fun _ _ h => (by cases h)⟩ hl ha).mono fun e w' ⟨v, β', he, hout, hr⟩ => ?_
 let E : Env := ⟨w, F, fun _ => none, fun _ _ h => (by cases h), hF, fun _ _ h => (by cases h)⟩
 have hs : SRel E { fr := [], ob := ob1 } #[] w' β' := ⟨hout.inj, fun d b hb => ⟨(hout.rng d b hb).1, (hout.rng d b hb).2⟩, hout.keeps.trans (Keeps.refl _ _) (fun _ _ h => h), hout.ob, fun _ _ _ h => (by cases h), fun _ _ h => (by cases h), fun _ _ _ h => (by cases h), fun _ _ _ _ _ h => (by cases h)⟩
 refine ⟨v, _, he, rfl, hout.keeps.below (fun b ⟨_, h⟩ => by cases h), ?_⟩
 exact kg hs (fun b hb => by
  rcases hb.2.1 with h | h | ⟨_, h⟩
  ·exact .inl h
  ·exact .inr ⟨h, hb.1⟩
  ·cases h) (fun d b hb => by
  rcases (hout.rng d b hb).1 with h | h
  ·exact .inr ⟨h, (hout.rng d b hb).2⟩
  ·cases h) hr hok
end
end
section
open Go.RowKit
attribute [go_sem] zb5 Option.isSome_none Sh.isIface List.isEmpty_nil List.isEmpty_cons mapM wV ZY Ky AV.frz AV.frz.frzL AObj.frz AState.frz AState.say glo z6 qq qR ZX Ud Vb j6 zc8 KP Un eqA eqL eqV mmA zdb unV vV wL j9 wM Za j7 wN KR XZ uv Zd qc jD zch AV.cells1 ZR Zc Z9 KU Xh Vl X3 KZ Uy J8 Ze qT Uz v7 za4 Zf jC vd AV.width zde AState.ev AState.gd AState.put AState.drop AState.var AState.row AState.keep AV.kill AV.kill.killL AObj.kill rm rmo AObj.loose lk rd yQ YZ Op.operands Call.operands wm uO Sh.agg qr AV.snap AV.snap.snapL AV.snapOK AV.snapOK.snapOKL v0 xN AV.flat AV.flat.flatL AV.clean AV.clean.cleanL Xy AState.back AV.cut AV.cut.cutL AObj.cut rmL qC Vv jp AV.ren AV.ren.renL AObj.ren AV.hand AV.hand.handL AV.handT AV.handT.handTL AV.nm AV.nm.nmL AObj.nm V3 AV.allIn AV.allIn.allInL ZB List.contains_cons Bool.false_or Bool.or_false Bool.true_or Bool.or_true cond_true cond_false Option.map_some Option.map_none Option.bind_some Option.getD_some Option.getD_none Option.isSome_some List.map_cons List.map_nil List.getElem?_cons_zero List.getElem?_cons_succ List.getElem?_toArray List.getElem?_nil List.all_cons List.all_nil List.length_cons List.length_nil List.length_map List.drop_zero List.drop_succ_cons List.take_succ_cons List.take_zero List.set_cons_zero List.set_cons_succ List.replicate_succ List.replicate_zero List.nil_append List.cons_append List.append_nil List.filterMap_cons List.filterMap_nil List.contains_nil List.size_toArray List.append_toArray List.toList_toArray Bool.and_self Bool.and_true Bool.true_and Bool.false_and Bool.and_false Bool.not_false Bool.not_true beq_self_eq_true beq_true beq_false BEq.rfl Bool.cond_true_left Bool.cond_false_right Bool.cond_true_right Bool.cond_false_left Bool.cond_self Int.toNat_natCast Nat.zero_add Nat.add_zero Nat.zero_le Nat.lt_add_one true_and and_true true_or or_true and_self true_implies false_implies implies_true imp_self zcd KK KL forall_const if_true if_false ite_true ite_false decide_true decide_false ne_eq not_false_eq_true not_true_eq_false eq_self wu zc9 zbW Ub Ue j5 drD drR drC List.mem_singleton List.not_mem_nil forall_eq
end
section
open Go.RowKit
section
variable {P : Program} {T : Nat → Option TyD} {E : Env} {s s' : AState} {n : Nat} {ops : Array Oper} {Q : Exit → AState → Prop} {K : AState → Prop} {rest : List Oper} {o : Oper} {D : Dr}
def zaF (A B : Prop) (r : AV × Bool) : Prop := ∃ b, r = (.v (.bool b), true) ∧ (b = true → A) ∧ (b = false → B)
theorem Kx {c : Operand} {x y : Code} (h : ∀ r, (s.ev c, s.gd c) = r → zaF (AWp P E n x Q s) (AWp P E n y Q s) r) : AWp P E n (.cond c x y) Q s := by
 obtain ⟨b, h1, h2, h3⟩ := h _ rfl
 injection h1 with g1 g2
 exact zaR g1 g2 h2 h3
theorem zf {A B : Prop} {b : Bool} (h1 : b = true → A) (h2 : b = false → B) : zaF A B (.v (.bool b), true) := ⟨b, rfl, h1, h2⟩
def zb4 (R : AV → Prop) (r : Option (Prop × List AV)) : Prop := ∃ p l, r = some (p, l) ∧ p ∧ R (xN l)
theorem V6 {rs : List ResultVar} {R : AV → Prop} (h : ∀ r, v0 T s rs = r → zb4 R r) : Kt T rs R .ret s := by
 obtain ⟨p, l, h1, h2, h3⟩ := h _ rfl
 exact KI h1 h2 h3
theorem ZT {rs : List ResultVar} {R : AV → Prop} (h : ∀ r, v0 T s rs = r → zb4 R r) : Kt T rs R .normal s := by
 obtain ⟨p, l, h1, h2, h3⟩ := h _ rfl
 exact Xb h1 h2 h3
theorem zR {R : AV → Prop} {p : Prop} {l : List AV} (hp : p) (h : R (xN l)) : zb4 R (some (p, l)) := ⟨p, l, rfl, hp, h⟩
def V7 (r : AV) (ob ob1 : List (Nat × AObj)) (q : Option (Prop × List AV)) : Prop := ∃ p l, q = some (p, l) ∧ p ∧ (xN l).up r ∧ Y0 ob ob1
theorem Va {rs : List ResultVar} {r : AV} {ob1 : List (Nat × AObj)} (h : ∀ q, ZB T s rs = q → V7 r s.ob ob1 q) : ZC T rs r ob1 .ret s := by
 obtain ⟨p, l, h1, h2, h3, h4⟩ := h _ rfl
 exact Qw h1 h2 h3 h4
theorem j4 {rs : List ResultVar} {r : AV} {ob1 : List (Nat × AObj)} (h : ∀ q, ZB T s rs = q → V7 r s.ob ob1 q) : ZC T rs r ob1 .normal s := by
 obtain ⟨p, l, h1, h2, h3, h4⟩ := h _ rfl
 exact Yw h1 h2 h3 h4
theorem yl {r : AV} {ob ob1 : List (Nat × AObj)} {p : Prop} {l : List AV} (hp : p) (h : (xN l).up r) (ho : Y0 ob ob1) : V7 r ob ob1 (some (p, l)) := ⟨p, l, rfl, hp, h, ho⟩
def ZU (n : Nat) (ops : Array Oper) (s : AState) (o : Oper) (hi : List (Nat × Nat)) : Option (Nat × List AV × Prop) × List (Nat × AObj) × Bool := (Xy n ops s o hi, Vv s hi hi, AV.allIn.allInL hi (o.op.operands.toList.map s.ev))
def V8 (P : Program) (E : Env) (n : Nat) (ops : Array Oper) (D : Dr) (rest : List Oper) (Q : Exit → AState → Prop) (s : AState) (o : Oper) (hi bk : List (Nat × Nat)) (K V : List Nat) (r : Option (Nat × List AV × Prop) × List (Nat × AObj) × Bool) : Prop :=
 ZU n ops s o hi = r → yp P E n ops D (o :: rest) Q s
theorem zp (hi bk : List (Nat × Nat)) (K V : List Nat) (h : ∀ r, ZU n ops s o hi = r → V8 P E n ops D rest Q s o hi bk K V r) : yp P E n ops D (o :: rest) Q s := h _ rfl rfl
theorem yo {hi bk : List (Nat × Nat)} {K V : List Nat} {f : Nat} {as' : List AV} {p : Prop} {ob ob1 : List (Nat × AObj)} {r : AV} {al : Bool} (hc : yq P f as' ob r ob1) (hk : vr hi bk K V = true) (hD : hi.all (fun p => D.W p.1) = true) (hds : D.ds o = true ∨ hi = [])
  (hp : p) (hm : al = true ∨ (r.nm = true ∧ V3 ob1)) (hr : zL P E n ops D rest Q ((s.back K V bk ob1).put o.dst true (r.ren bk))) : V8 P E n ops D rest Q s o hi bk K V (some (f, as', p), ob, al) := fun h => by
 unfold ZU at h
 injection h with h1 h2
 injection h2 with h2 h3
 exact WB hi bk K V h1 hp hk hD hds h2 hc (hm.imp (fun e => h3.trans e) id) hr
def J1 (n : Nat) (ops : Array Oper) (s : AState) (o : Oper) : Option (Bool × Nat × List AV × Prop) × Bool × List AV × List AV := (qr n ops s o, AV.clean.cleanL (o.op.operands.toList.map s.ev), o.op.operands.toList.map (fun z => (s.ev z).snap s), o.op.operands.toList.map s.ev)
def zaG (n : Nat) (ops : Array Oper) (s : AState) : List Oper → Option (Option (Bool × Nat × List AV × Prop) × Bool × List AV × List AV)
 | [] => none
 | o :: _ => some (J1 n ops s o)
abbrev zdu := Prop × AState × List Oper × Option (Option (Bool × Nat × List AV × Prop) × Bool × List AV × List AV)
def Y5 (n : Nat) (ops : Array Oper) : Prop × AState × List Oper → zdu
 | (p, s', l') => (p, s', l', zaG n ops s' l')
def V1 (P : Program) (E : Env) (n : Nat) (ops : Array Oper) (D : Dr) (Q : Exit → AState → Prop) (r : zdu) : Prop := r.2.2.2 = zaG n ops r.2.1 r.2.2.1 → r.1 ∧ yp P E n ops D r.2.2.1 Q r.2.1
theorem awA {x y : Code} (h : AWp P E n x (Xa (AWp P E n y Q) Q) s) : AWp P E n (.seq x y) Q s := zca h
theorem awB {id : Nat} {c : Code} (h : AWp P E n c (Ug id Q) s) : AWp P E n (.block id c) Q s := KF h
theorem awC (h : Q .normal s) : AWp P E n .skip Q s := zaP h
theorem awD (h : Q .ret s) : AWp P E n .ret Q s := zcb h
theorem awE {id : Nat} (h : Q (.exit id) s) : AWp P E n (.exit id) Q s := zaQ h
theorem awF (h : K s) : Xa K Q .normal s := h
theorem awG (h : Q .ret s) : Xa K Q .ret s := h
theorem awH {i : Nat} (h : Q (.exit i) s) : Xa K Q (.exit i) s := h
theorem awI {id : Nat} (h : Q .normal s) : Ug id Q .normal s := h
theorem awJ {id : Nat} (h : Q .ret s) : Ug id Q .ret s := h
theorem awK {id : Nat} (h : Q .normal s) : Ug id Q (.exit id) s := KH h
theorem awL (h : Q .normal s) : yp P E n ops D [] Q s := J5 h
theorem awM {id i : Nat} (hne : i ≠ id) (h : Q (.exit i) s) : Ug id Q (.exit i) s := Uj hne h
theorem awN (hT : TOK P T) (O : List Nat) {id : Nat} (h : ∀ r, Y5 n ops (wV T O n ops s ops.toList) = r → V1 P E n ops yZ Q r) : AWp P E n (.region id ops false) Q s :=
 Uh (J4 hT O (l := ops.toList) rfl (h _ rfl rfl).1 (h _ rfl rfl).2)
theorem awO (hT : TOK P T) (O : List Nat) {l : List Oper} (h : ∀ r, Y5 n ops (wV T O n ops s l) = r → V1 P E n ops yZ Q r) : zL P E n ops yZ l Q s :=
 J4 hT O (l := l) rfl (h _ rfl rfl).1 (h _ rfl rfl).2
theorem awP (hT : TOK P T) (O : List Nat) {l : List Oper} (h : ∀ r, Y5 n ops (wu T O D n ops s l) = r → V1 P E n ops D Q r) : zL P E n ops D l Q s :=
 zaU hT O (l := l) rfl (h _ rfl rfl).1 (h _ rfl rfl).2
theorem awn {id : Nat} (h : ∀ r, Y5 n ops (wV (w8 P) [] n ops s ops.toList) = r → V1 P E n ops yZ Q r) : AWp P E n (.region id ops false) Q s := awN (za P) [] h
theorem awo {l : List Oper} (h : ∀ r, Y5 n ops (wV (w8 P) [] n ops s l) = r → V1 P E n ops yZ Q r) : zL P E n ops yZ l Q s := awO (za P) [] h
theorem awp {l : List Oper} (h : ∀ r, Y5 n ops (wu (w8 P) [] D n ops s l) = r → V1 P E n ops D Q r) : zL P E n ops D l Q s := awP (za P) [] h
theorem awQ {c : Operand} {x y : Code} (h : ∀ r, (s.ev c, s.gd c) = r → zaF (AWp P E n x Q s) (AWp P E n y Q s) r) : AWp P E n (.cond c x y) Q s := Kx h
theorem awR {rs : List ResultVar} {R : AV → Prop} (h : ∀ r, v0 T s rs = r → zb4 R r) : Kt T rs R .ret s := V6 h
theorem awS {rs : List ResultVar} {R : AV → Prop} (h : ∀ r, v0 T s rs = r → zb4 R r) : Kt T rs R .normal s := ZT h
theorem awT {rs : List ResultVar} {r : AV} {ob1 : List (Nat × AObj)} (h : ∀ q, ZB T s rs = q → V7 r s.ob ob1 q) : ZC T rs r ob1 .ret s := Va h
theorem awU {rs : List ResultVar} {r : AV} {ob1 : List (Nat × AObj)} (h : ∀ q, ZB T s rs = q → V7 r s.ob ob1 q) : ZC T rs r ob1 .normal s := j4 h
theorem awV {p : Prop} {q : Option (Option (Bool × Nat × List AV × Prop) × Bool × List AV × List AV)} (hp : p) (h : Q .normal s') : V1 P E n ops D Q (p, s', [], q) := fun _ => ⟨hp, J5 h⟩
theorem awW {p : Prop} {l : List Oper} {q : Option (Option (Bool × Nat × List AV × Prop) × Bool × List AV × List AV)} (hp : p) (h : yp P E n ops D l Q s') : V1 P E n ops D Q (p, s', l, q) := fun _ => ⟨hp, h⟩
theorem caA {G : Bool} {f : Nat} {as' : List AV} {p p' : Prop} {ra : AV} {q : Bool × List AV × List AV} (hc : G = true → zN P f as' (fun r => r = ra)) (hflat : ra.flat = true) (hp : p) (hp' : p') (hr : zL P E n ops D rest Q (s'.put o.dst G ra)) : V1 P E n ops D Q (p, s', o :: rest, some (some (G, f, as', p'), q)) := fun h => by
 injection h with h
 injection h with h _
 exact ⟨hp, zaV h.symm hp' hc hflat hr⟩
theorem caB (f : Nat) (ra : AV) {as' : List AV} {p p' : Prop} {q : Bool × List AV × List AV} (hp : p) (hp' : p') (hr : zL P E n ops D rest Q (s'.put o.dst false ra)) : V1 P E n ops D Q (p, s', o :: rest, some (some (false, f, as', p'), q)) := fun h => by
 injection h with h
 injection h with h _
 exact ⟨hp, KG f ra h.symm hp' hr⟩
theorem caC {f : Nat} {as' : List AV} {p p' : Prop} {l : List AV} {r : AV} (hc : zN P f as' (fun x => x = r)) (hgd : o.guard = none) (hp : p) (hp' : p') (hr : zL P E n ops D rest Q (s'.put o.dst true r)) : V1 P E n ops D Q (p, s', o :: rest, some (some (true, f, as', p'), true, l, l)) := fun h => by
 injection h with h
 injection h with h1 h2
 injection h2 with h2 h3
 injection h3 with h3 h4
 exact ⟨hp, KM h1.symm hp' hgd h2.symm (h3.symm.trans h4) hc hr⟩
theorem caD {f : Nat} {as' : List AV} {p p' : Prop} {l : List AV} {R : AV → Prop} (hc : zN P f as' R) (hgd : o.guard = none) (hp : p) (hp' : p') (hr : ∀ r, R r → zL P E n ops D rest Q (s'.put o.dst true r)) : V1 P E n ops D Q (p, s', o :: rest, some (some (true, f, as', p'), true, l, l)) := fun h => by
 injection h with h
 injection h with h1 h2
 injection h2 with h2 h3
 injection h3 with h3 h4
 exact ⟨hp, XU h1.symm hp' hgd h2.symm (h3.symm.trans h4) hc hr⟩
attribute [go_sem] ZU J1 zaG Y5 decide_eq_true_eq decide_eq_false_iff_not Bool.not_eq_true' Bool.not_eq_false' Bool.or_eq_true Bool.or_eq_false_iff Bool.and_eq_true Bool.and_eq_false_iff Decidable.not_not
end
end
section
theorem zD : Try.prog.follows .mixedOrders = true := by kernel_rfl
theorem t1 : w8 Try.prog 1 = some ⟨1, 8, [.nilFunc], .fn⟩ := by kernel_rfl 
theorem t2 : w8 Try.prog 2 = some ⟨1, 8, [.int .i64 0], .int .i64⟩ := by kernel_rfl 
theorem t3 : w8 Try.prog 3 = some ⟨1, 8, [.int .i64 0], .int .i64⟩ := by kernel_rfl 
theorem t4 : w8 Try.prog 4 = some ⟨1, 1, [.bool false], .bool⟩ := by kernel_rfl 
theorem t9 : w8 Try.prog 9 = some ⟨1, 16, [.string ByteArray.empty], .str⟩ := by kernel_rfl 
theorem t22 : w8 Try.prog 22 = some ⟨1, 24, [.slice none 0 0], .slice 38⟩ := by kernel_rfl 
theorem t23 : w8 Try.prog 23 = some ⟨1, 24, [.slice none 0 0], .slice 3⟩ := by kernel_rfl 
theorem t25 : w8 Try.prog 25 = some ⟨3, 56, [.bool false, .slice none 0 0, .slice none 0 0], .strct [(0, 4), (1, 22), (2, 23)] true⟩ := by kernel_rfl 
theorem t28 : w8 Try.prog 28 = some ⟨1, 8, [.int .i64 0], .int .i64⟩ := by kernel_rfl 
theorem t30 : w8 Try.prog 30 = some ⟨2, 16, [.int .i64 0, .int .i64 0], .strct [(0, 28), (1, 3)] true⟩ := by kernel_rfl 
theorem t38 : w8 Try.prog 38 = some ⟨4, 32, [.int .i64 0, .int .i64 0, .int .i64 0, .int .i64 0], .strct [(0, 3), (1, 3), (2, 3), (3, 3)] true⟩ := by kernel_rfl 
theorem t40 : w8 Try.prog 40 = some ⟨1, 8, [.pointer none], .ptr 68⟩ := by kernel_rfl 
theorem t43 : w8 Try.prog 43 = some ⟨1, 24, [.slice none 0 0], .slice 4⟩ := by kernel_rfl 
theorem t46 : w8 Try.prog 46 = some ⟨4, 32, [.bool false, .int .i64 0, .int .i64 0, .int .i64 0], .strct [(0, 4), (1, 3), (2, 3), (3, 3)] true⟩ := by kernel_rfl 
theorem t61 : w8 Try.prog 61 = some ⟨2, 32, [.string ByteArray.empty, .string ByteArray.empty], .strct [(0, 9), (1, 9)] true⟩ := by kernel_rfl 
theorem t65 : w8 Try.prog 65 = some ⟨1, 24, [.slice none 0 0], .slice 77⟩ := by kernel_rfl 
theorem t66 : w8 Try.prog 66 = some ⟨1, 24, [.slice none 0 0], .slice 3⟩ := by kernel_rfl 
theorem t68 : w8 Try.prog 68 = some ⟨6, 128, [.bool false, .slice none 0 0, .slice none 0 0, .slice none 0 0, .slice none 0 0, .slice none 0 0], .strct [(0, 25), (3, 65), (4, 43), (5, 66)] true⟩ := by kernel_rfl 
theorem t71 : w8 Try.prog 71 = some ⟨1, 24, [.slice none 0 0], .slice 61⟩ := by kernel_rfl 
theorem t72 : w8 Try.prog 72 = some ⟨1, 8, [.int .u64 0], .int .u64⟩ := by kernel_rfl 
theorem t73 : w8 Try.prog 73 = some ⟨1, 8, [.int .i64 0], .int .i64⟩ := by kernel_rfl 
theorem t74 : w8 Try.prog 74 = some ⟨1, 8, [.int .u64 0], .int .u64⟩ := by kernel_rfl 
theorem t75 : w8 Try.prog 75 = some ⟨1, 8, [.int .i64 0], .int .i64⟩ := by kernel_rfl 
theorem t77 : w8 Try.prog 77 = some ⟨6, 48, [.int .i64 0, .int .u64 0, .int .i64 0, .int .i64 0, .int .i64 0, .int .i64 0], .strct [(0, 73), (1, 74), (2, 3), (3, 3), (4, 75), (5, 3)] true⟩ := by kernel_rfl 
theorem t81 : w8 Try.prog 81 = some ⟨1, 8, [.pointer none], .ptr 66⟩ := by kernel_rfl 
theorem t82 : w8 Try.prog 82 = some ⟨1, 8, [.pointer none], .ptr 85⟩ := by kernel_rfl 
theorem t83 : w8 Try.prog 83 = some ⟨1, 8, [.map none], .map 3 3⟩ := by kernel_rfl 
theorem t85 : w8 Try.prog 85 = some ⟨6, 96, [.bool false, .slice none 0 0, .slice none 0 0, .slice none 0 0, .int .i64 0, .map none], .strct [(0, 25), (3, 43), (4, 3), (5, 83)] true⟩ := by kernel_rfl 
theorem t91 : w8 Try.prog 91 = some ⟨2, 32, [.string ByteArray.empty, .string ByteArray.empty], .strct [(0, 9), (1, 9)] true⟩ := by kernel_rfl 
theorem t98 : w8 Try.prog 98 = some ⟨12, 96, [.int .i64 0, .int .u64 0, .int .i64 0, .int .i64 0, .int .i64 0, .int .i64 0, .int .i64 0, .int .u64 0, .int .i64 0, .int .i64 0, .int .i64 0, .int .i64 0], .strct [(0, 77), (6, 77)] true⟩ := by kernel_rfl 
theorem zbV : w8 Try.prog 111 = some ⟨1, 8, [.map none], .map 3 23⟩ := by kernel_rfl 
attribute [go_sem] t1 t2 t3 t4 t9 t22 t23 t25 t28 t30 t38 t40 t43 t46 t61 t65 t66 t68 t71 t72 t73 t74 t75 t77 t81 t82 t83 t85 t91 t98 zbV
end
section
open Go.RowKit
def v8 (zs : List Int) : List (List AV) := zs.map fun z => [.v (.int .i64 z)]
theorem zq (zs : List Int) : (v8 zs).length = zs.length := by simp [v8]
theorem xm {zs : List Int} {k : Nat} (h : k < zs.length) : (v8 zs)[k]? = some [.v (.int .i64 zs[k])] := by simp [v8, h]
theorem zap (zs : List Int) (z : Int) : v8 zs ++ [[.v (.int .i64 z)]] = v8 (zs ++ [z]) := by simp [v8]
theorem yT (zs : List Int) (n : Nat) : (v8 zs).take n = v8 (zs.take n) := by simp [v8]
theorem zg {n : Int} (h : -9223372036854775808 ≤ n ∧ n ≤ 9223372036854775807) : IntKind.i64.wrap n = n := IntWalk.i64_in _ (by omega)
end
section
open Go.RowKit
instance (n : Int) : Decidable (I64 n) := by unfold I64; exact inferInstance
theorem AV.up_agg {l m : List AV} (h : AV.upL l m) : (AV.agg l).up (.agg m) := fun F β w x hx => by
  obtain ⟨g1, g2⟩ := AV.upL_get h
  cases hx with
  | s h => cases h
  | agg h1 h2 h3 =>
    refine .agg (h1.trans g1) h2 fun i c u hc hu => ?_
    obtain ⟨a, ha, hu'⟩ := g2 i c hc
    exact hu' _ _ _ _ (h3 i a u ha hu)
theorem AV.up_cons' {a b : AV} {l m : List AV} (h : a.up b) (h' : AV.upL l m) : AV.upL (a :: l) (b :: m) := ⟨h, h'⟩
theorem AV.upL_rfl : ∀ l : List AV, AV.upL l l
  | [] => trivial
  | a :: l => ⟨AV.up_rfl a, AV.upL_rfl l⟩
theorem AV.up_trans {a b c : AV} (h : a.up b) (h' : b.up c) : a.up c := fun F β w x hx => h' F β w x (h F β w x hx)
mutual
inductive Up : AV → AV → Prop
  | rfl (a : AV) : Up a a
  | nil (k : Nat) : Up (.v (.slice none 0 0)) (.lst k [])
  | agg {l m : List AV} : UpL l m → Up (.agg l) (.agg m)
  | tup {l m : List AV} : UpL l m → Up (.tup l) (.tup m)
  | lst {k : Nat} {xs ys : List (List AV)} : UpLL xs ys → Up (.lst k xs) (.lst k ys)
  | lsx {k : Nat} {xs ys zs : List (List AV)} : UpLL xs ys → Up (.lsx k xs zs) (.lst k ys)
inductive UpL : List AV → List AV → Prop
  | nil : UpL [] []
  | cons {a b : AV} {l m : List AV} : Up a b → UpL l m → UpL (a :: l) (b :: m)
inductive UpLL : List (List AV) → List (List AV) → Prop
  | nil : UpLL [] []
  | cons {a b : List AV} {l m : List (List AV)} : UpL a b → UpLL l m → UpLL (a :: l) (b :: m)
end
section
variable {F : Nat → Prop} {w : World}
mutual
theorem Up.svr : ∀ {a b : AV}, Up a b → ∀ {x : Value}, SVR F w a x → SVR F w b x
  | _, _, .rfl _, _, h => h
  | _, _, .nil k, x, h => by
    have := AV.up_nil k F (fun _ => none) w x (.s h)
    cases this with
    | s h => exact h
  | _, _, .agg _, _, h => by cases h
  | _, _, .tup _, _, h => by cases h
  | _, _, .lst hu, _, h => by
    cases h with
    | lst g h1 h2 h3 h4 h5 h6 h7 =>
      have hl := UpLL.svr hu
      refine .lst g (h1.trans hl.1) h2 h3 (fun cs hcs => ?_) h5 h6 fun i j cs u hc hu => ?_
      · obtain ⟨i, hi⟩ := List.getElem?_of_mem hcs
        obtain ⟨cs', h8, h9, _⟩ := hl.2 i cs hi
        rw [← h9]; exact h4 cs' (List.mem_of_getElem? h8)
      · obtain ⟨cs', h8, _, h10⟩ := hl.2 i cs hc
        obtain ⟨u', h11, h12⟩ := h10 j u hu
        exact h12 _ (h7 i j cs' u' h8 h11)
  | _, _, .lsx hu, _, h => by
    replace h := h.lsx_lst
    cases h with
    | lst g h1 h2 h3 h4 h5 h6 h7 =>
      have hl := UpLL.svr hu
      refine .lst g (h1.trans hl.1) h2 h3 (fun cs hcs => ?_) h5 h6 fun i j cs u hc hu => ?_
      · obtain ⟨i, hi⟩ := List.getElem?_of_mem hcs
        obtain ⟨cs', h8, h9, _⟩ := hl.2 i cs hi
        rw [← h9]; exact h4 cs' (List.mem_of_getElem? h8)
      · obtain ⟨cs', h8, _, h10⟩ := hl.2 i cs hc
        obtain ⟨u', h11, h12⟩ := h10 j u hu
        exact h12 _ (h7 i j cs' u' h8 h11)
theorem UpL.svr : ∀ {l m : List AV}, UpL l m → l.length = m.length ∧ ∀ (j : Nat) (u : AV), m[j]? = some u → ∃ u', l[j]? = some u' ∧ ∀ x, SVR F w u' x → SVR F w u x
  | _, _, .nil => ⟨Eq.refl _, fun j u h => by simp at h⟩
  | _, _, .cons h hl => by
    have h1 := fun x => Up.svr h (x := x)
    have h2 := UpL.svr hl
    refine ⟨by simp [h2.1], fun j u hu => ?_⟩
    cases j with
    | zero => simp only [List.getElem?_cons_zero, Option.some.injEq] at hu; subst hu; exact ⟨_, by simp, fun x hx => h1 x hx⟩
    | succ j => exact h2.2 j u (by simpa using hu)
theorem UpLL.svr : ∀ {l m : List (List AV)}, UpLL l m → l.length = m.length ∧ ∀ (i : Nat) (cs : List AV), m[i]? = some cs → ∃ cs', l[i]? = some cs' ∧ cs'.length = cs.length ∧ ∀ (j : Nat) (u : AV), cs[j]? = some u → ∃ u', cs'[j]? = some u' ∧ ∀ x, SVR F w u' x → SVR F w u x
  | _, _, .nil => ⟨Eq.refl _, fun j u h => by simp at h⟩
  | _, _, .cons h hl => by
    have h1 := UpL.svr h
    have h2 := UpLL.svr hl
    refine ⟨by simp [h2.1], fun j u hu => ?_⟩
    cases j with
    | zero => simp only [List.getElem?_cons_zero, Option.some.injEq] at hu; subst hu; exact ⟨_, by simp, h1.1, h1.2⟩
    | succ j => exact h2.2 j u (by simpa using hu)
end
end
mutual
theorem Up.up : ∀ {a b : AV}, Up a b → a.up b
  | _, _, .rfl a => AV.up_rfl a
  | _, _, .nil k => AV.up_nil k
  | _, _, .agg h => AV.up_agg (UpL.up h)
  | _, _, .tup h => AV.up_tup (UpL.up h)
  | _, _, .lst h => fun F β w x hx => by
    cases hx with
    | s hx => exact .s (Up.svr (.lst h) hx)
  | _, _, .lsx h => fun F β w x hx => by
    cases hx with
    | s hx => exact .s (Up.svr (.lsx h) hx)
theorem UpL.up : ∀ {l m : List AV}, UpL l m → AV.upL l m
  | _, _, .nil => trivial
  | _, _, .cons h hl => ⟨Up.up h, UpL.up hl⟩
end
theorem zN.args {P : Program} {f : Nat} {as' bs : List AV} {R : AV → Prop} (hu : UpL as' bs) (h : zN P f bs R) : zN P f as' R :=
  ⟨h.1, fun w F vs h1 h2 h3 => h.2 w F vs h1 (by
    have := (AV.upL_get hu.up).1
    omega) fun i x v hx hv => by
    obtain ⟨a, ha, hau⟩ := (AV.upL_get hu.up).2 i x hx
    exact hau _ _ _ _ (h3 i a v ha hv)⟩
section
variable {P : Program} {T : Nat → Option TyD} {E : Env} {s s' : AState} {n : Nat} {Q : Exit → AState → Prop}
def AState.nilvar (s : AState) (o j ty k d : Nat) (cs : List AV) : AState := { fr := (s.drop d).fr, ob := (o, .var ((AV.kill.killL d cs).set j (.ref ty k d 0 0))) :: (d, .row ty k []) :: (s.drop d).ob }
theorem u6 {c : Code} (o j ty k d : Nat) {cs : List AV} (hd : YZ d) (hne : o ≠ d) (ho : lk s.ob o = some (.var cs)) (hj : cs[j]? = some (.v (.slice none 0 0))) (h : AWp P E n c Q (s.nilvar o j ty k d cs)) : AWp P E n c Q s := fun a w ⟨hn, hdf, β, hs⟩ => by
  refine h a w ⟨hn, hdf, upd β d none, ?_⟩
  have h1 := hs.turn (β' := upd β d none) (w' := w) d hd (fun e he => zS β _ he) (fun b hb => by rw [ya] at hb; cases hb) (Keeps.refl _ _)
  have h2 := h1.add d (.row ty k []) ⟨fun cs h => (by cases h), .inl rfl⟩
  refine h2.add o _ ?_
  have h3 := h1.ob o (.var (AV.kill.killL d cs)) (by rw [qa, zK hne, ho]; rfl)
  obtain ⟨b, arr, t, g1, g2, g3, g4⟩ := h3
  refine ⟨b, arr, t, g1, g2, by simpa using g3, fun i u hu => ?_⟩
  by_cases hij : j = i
  · subst hij
    have hlt : j < (AV.kill.killL d cs).length := by
      rw [AV.killL_eq, List.length_map]
      rcases Nat.lt_or_ge j cs.length with h | h
      · exact h
      · rw [List.getElem?_eq_none h] at hj; cases hj
    rw [List.getElem?_set_self hlt] at hu
    injection hu with hu
    subst hu
    obtain ⟨x, hx, hr, ho⟩ := g4 j (.v (.slice none 0 0)) (by rw [AV.killL_eq, List.getElem?_map, hj]; rfl)
    refine ⟨x, hx, ?_, ho⟩
    cases hr with
    | s h =>
    cases h with
    | v h => exact .nil
  · rw [List.getElem?_set_ne hij] at hu
    exact g4 i u hu
end
end
section
open Go.RowKit
section
variable {P : Program} {E : Env} {s : AState} {n : Nat} {ops : Array Oper} {Q : Exit → AState → Prop} {D : Dr} {rest : List Oper} {o : Oper}
theorem wI (d : Nat) (_ : o.dst = some d) (hi bk : List (Nat × Nat)) (K V : List Nat) {f : Nat} {as' : List AV} {p : Prop} {ob ob1 : List (Nat × AObj)} {r : AV} (h : Xy n ops s o hi = some (f, as', p)) (hp : p) (hk : vr hi bk K V = true)
  (hD : hi.all (fun p => D.W p.1) = true) (hds : D.ds o = true ∨ hi = []) (hob : Vv s hi hi = ob) (hc : yq P f as' ob r ob1) (hm : AV.allIn.allInL hi (o.op.operands.toList.map s.ev) = true ∨ (r.nm = true ∧ V3 ob1))
  (hr : zL P E n ops D rest Q ((s.back K V bk ob1).put o.dst true (r.ren bk))) : yp P E n ops D (o :: rest) Q s := WB hi bk K V h hp hk hD hds hob hc hm hr
end
end
section
open Go.RowKit
section
variable {P : Program} {T : Nat → Option TyD} {E : Env} {s s' : AState} {tm : Array Value} {w : World} {β : Nat → Option Nat} {F F' : Nat → Prop} {n : Nat} {Q : Exit → AState → Prop}
end
end
section
open Go.RowKit
def yL (P : Program) (f : Nat) (args : List AV) (ob : List (Nat × AObj)) {A : Type} (I : A → Prop) (r : A → AV) (ob' : A → List (Nat × AObj)) : Prop :=
 (∃ fn, P.funcs[f]? = some fn ∧ fn.body.isSome = true ∧ (fn.name == "runtime.NumGoroutine") = false) ∧
 ∀ (w : World) (F : Nat → Prop) (β : Nat → Option Nat) (vs : Array Value), GIn F β w ob → vs.size = args.length → (∀ (i : Nat) (x : AV) (v : Value), args[i]? = some x → vs[i]? = some v → AVR F β w x v) →
  Calls P f vs w fun e w' => ∃ q v β', I q ∧ e = .returned v ∧ GOut F β w β' w' (ob' q) ∧ AVR (GF F β β' w w') β' w' (r q) v
section
variable {P : Program} {T : Nat → Option TyD} {E : Env} {s s' : AState} {a : Act} {tm : Array Value} {w w' : World} {β β' : Nat → Option Nat} {F F' : Nat → Prop} {n : Nat} {ops : Array Oper} {Q : Exit → AState → Prop} {D : Dr} {rest : List Oper} {o : Oper} {A : Type} {I : A → Prop}
def Qr (T : Nat → Option TyD) (rs : List ResultVar) (I : A → Prop) (r : A → AV) (ob1 : A → List (Nat × AObj)) : Exit → AState → Prop
 | .ret, s | .normal, s => ∃ p r', ZB T s rs = some (p, r') ∧ p ∧ ∃ q, I q ∧ (xN r').up (r q) ∧ Y0 s.ob (ob1 q)
 | _, _ => False
theorem yL.intro (hT : TOK P T) {f : Nat} {fn : Func} {c : Code} {args : List AV} {ob : List (Nat × AObj)} {ob1 : A → List (Nat × AObj)} {r : A → AV} (hf : P.funcs[f]? = some fn) (hb : fn.body = some c) (hnm : (fn.name == "runtime.NumGoroutine") = false) (hn : args.length ≤ fn.ntmps)
  (h : ∀ E : Env, AWp P E fn.ntmps c (Qr T fn.results.toList I r ob1) { fr := wm 0 args, ob := ob }) : yL P f args ob I r ob1 := by
 refine ⟨⟨fn, hf, by rw [hb]; rfl, hnm⟩, fun w F β vs hI hl hv => ?_⟩
 let E : Env := ⟨w, F, β, fun d b hd => (hI.rng d b hd).2.2, hI.fl, fun d b hd => (hI.rng d b hd).2.1⟩
 have hFF : ∀ b, F b → FF E β w b := fun b hb => ⟨hI.fl.lt b hb, .inl hb, fun d hd => (hI.rng d b hd).2.1 hb⟩
 have hs0 : SOK E fn.ntmps { fr := wm 0 args, ob := ob } { tmps := vs ++ Array.replicate (fn.ntmps - vs.size) undef, defers := [] } w := by
  refine ⟨by simp; omega, rfl, β, ⟨hI.inj, fun d b h => ⟨.inr h, (hI.rng d b h).1⟩, Keeps.refl _ _, fun d o h => ?_, fun t g x h _ => ?_, fun t x h => ?_, fun _ _ _ h => h, fun _ _ _ _ _ _ h => h⟩⟩
  ·have := hI.ob d o h
   cases o with
   | row t k xs =>
    obtain ⟨hk, h⟩ := this
    refine ⟨hk, ?_⟩
    rcases h with h | ⟨b, arr, h1, h2, h3, h4⟩
    ·exact .inl h
    ·exact .inr ⟨b, arr, h1, h2, h3, fun i j cs u hc hu => by
      obtain ⟨x, hx, hr⟩ := h4 i j cs u hc hu
      exact ⟨x, hx, hr.mono hFF (fun _ _ => rfl)⟩⟩
   | var cs =>
    obtain ⟨b, arr, t, h1, h2, h3, h4⟩ := this
    exact ⟨b, arr, t, h1, h2, h3, fun j u hu => by
     obtain ⟨x, hx, hr, ho⟩ := h4 j u hu
     exact ⟨x, hx, hr.mono hFF (fun _ _ => rfl) (fun _ _ h => h) (fun _ _ _ _ _ h => h), ho⟩⟩
   | mapo es =>
    obtain ⟨b, arr, clk, h1, h2, h3, h4⟩ := this
    exact ⟨b, arr, clk, h1, h2, h3, fun i e m he hm => ⟨(h4 i e m he hm).1.mono hFF (fun _ _ => rfl), (h4 i e m he hm).2.mono hFF (fun _ _ => rfl)⟩⟩
   | mapr clk es =>
    obtain ⟨b, arr, h1, h2, h3, h4⟩ := this
    exact ⟨b, arr, h1, h2, h3, fun i e m he hm => by
     obtain ⟨k1, k2, k3⟩ := h4 i e m he hm
     exact ⟨k1, k2.mono hFF (fun _ _ => rfl), k3.mono hFF (fun _ _ => rfl) (fun _ _ h => h) (fun _ _ _ _ _ h => h)⟩⟩
   | mapl t clk es q => exact this
   | iter e' ok since seen => exact this
  ·obtain ⟨_, _, hx⟩ := wA args 0 t g x h
   rw [Nat.sub_zero] at hx
   have hlt : t < vs.size := by rw [hl]; exact zE hx
   have hg : (vs ++ Array.replicate (fn.ntmps - vs.size) undef).getD t undef = vs[t] := by
    simp [Array.getElem?_append_left hlt, Array.getElem?_eq_getElem hlt]
   rw [hg]
   exact (hv t x vs[t] hx (Array.getElem?_eq_getElem hlt)).mono hFF (fun _ _ => rfl) (fun _ _ h => h) (fun _ _ _ _ _ h => h)
  ·obtain ⟨h1, _⟩ := wA args 0 t false x h
   cases h1
 have hend : ∀ (e : Exit) (a' : Act) (w' : World) (s' : AState), (e = .ret ∨ e = .normal) → Qr T fn.results.toList I r ob1 e s' → SOK E fn.ntmps s' a' w' →
   a'.defers = [] ∧ ∃ v, (results fn a'.tmps).run P w' = .ok v w' ∧ ∃ q v' β', I q ∧ Ending.returned v = .returned v' ∧ GOut F β w β' w' (ob1 q) ∧ AVR (GF F β β' w w') β' w' (r q) v' := fun e a' w' s' he hE hS => by
  obtain ⟨_, hd, β', hs'⟩ := hS
  obtain ⟨p, r', h1, h2, q, hq, h3, h4⟩ : ∃ p r', ZB T s' fn.results.toList = some (p, r') ∧ p ∧ ∃ q, I q ∧ (xN r').up (r q) ∧ Y0 s'.ob (ob1 q) := by rcases he with rfl | rfl <;> exact hE
  obtain ⟨us, g1, g2, g3⟩ := Qv hT hs' _ _ _ h1 h2
  refine ⟨hd, (if h : us.toArray.size = 1 then us.toArray[0] else .tuple us.toArray), ?_, q, _, β', hq, rfl, ⟨hs'.old, hs'.inj, hs'.rng, hs'.fx, hs'.fs, Qu h4 hs'.ob⟩, h3 _ _ _ _ ?_⟩
  ·rw [u9, Sem.run_bind, Array.mapM_eq_mapM_toList, Sem.run_map, g1]
   rfl
  ·show AVR (FF E β' w') β' w' _ _
   by_cases h1' : us.length = 1
   ·obtain ⟨u, rfl⟩ := List.length_eq_one_iff.1 h1'
    obtain ⟨x, rfl⟩ := List.length_eq_one_iff.1 (g2.symm.trans h1')
    exact g3 0 x u rfl rfl
   ·have hr1 : r'.length ≠ 1 := by omega
    have ho : xN r' = .tup r' := by
     unfold xN
     split
     ·exact absurd rfl hr1
     ·rfl
    rw [ho, dif_neg (by simpa using h1')]
    exact .tup (by simp [g2]) fun i x v hx hv' => g3 i x v hx (by simpa using hv')
 refine calls_of_wp hf hb (wp_mono (h E _ w hs0) fun e a' w' hl' => ?_)
 obtain ⟨s', hE, hS⟩ := hl'
 cases e with
 | normal => exact hend .normal a' w' s' (.inr rfl) hE hS
 | ret => exact hend .ret a' w' s' (.inl rfl) hE hS
 | _ => exact hE.elim
theorem xT (hT : TOK P T) {f : Nat} {fn : Func} {c : Code} {args : List AV} {ob : List (Nat × AObj)} {ob1 : A → List (Nat × AObj)} {r : A → AV} {rs : List ResultVar} {n : Nat} (hf : P.funcs[f]? = some fn) (hb : fn.body = some c) (hnm : (fn.name == "runtime.NumGoroutine") = false) (hrs : fn.results.toList = rs) (hn : fn.ntmps = n)
  (hle : Nat.ble args.length n = true) (h : ∀ E : Env, AWp P E n c (Qr T rs I r ob1) { fr := wm 0 args, ob := ob }) : yL P f args ob I r ob1 := by
 subst hrs
 subst hn
 exact yL.intro hT hf hb hnm (Nat.le_of_ble_eq_true hle) h
theorem Jp (hi bk : List (Nat × Nat)) (K V : List Nat) {f : Nat} {as' : List AV} {p : Prop} {ob : List (Nat × AObj)} {ob1 : A → List (Nat × AObj)} {r : A → AV} (h : Xy n ops s o hi = some (f, as', p)) (hp : p) (hk : vr hi bk K V = true)
  (hD : hi.all (fun p => D.W p.1) = true) (hds : D.ds o = true ∨ hi = []) (hob : Vv s hi hi = ob) (hc : yL P f as' ob I r ob1) (hm : AV.allIn.allInL hi (o.op.operands.toList.map s.ev) = true ∨ (∀ q, (r q).nm = true ∧ V3 (ob1 q)))
  (hr : ∀ q, I q → zL P E n ops D rest Q ((s.back K V bk (ob1 q)).put o.dst true ((r q).ren bk))) : yp P E n ops D (o :: rest) Q s := by
 obtain ⟨hg, x, args, ats, first, cap, ho, hx, hgx, hdst, has, hall, hT⟩ := jP h hp
 have H := kR hk
 intro a w β hn hd hs
 have hw := yn (ops := ops) hs hg
 have hv := hs.ev x hgx (a := a) rfl
 rw [hx] at hv
 obtain ⟨rfl, rfl⟩ := vG hv
 generalize hux : a.eval x = ux at hv
 cases hv with | s hv => cases hv with | v hv =>
 obtain ⟨⟨fn, hf, hb, hnm⟩, hcall⟩ := hc
 have hopl : o.op.operands.toList = x :: args.toList := by rw [ho]; simp [Op.operands, Call.operands]
 refine yi (by rw [ho]; rfl) hw (fun _ => ?_) (fun hGf => by cases hGf)
 unfold Oper.wp
 rw [kh (w := w) ho hux hf hb hnm]
 have key : ∀ F : Nat → Prop, (∀ b, FF E β w b → F b) → FOK F w → (∀ b, F b → ¬ ∃ d, bIn hi β d = some b) →
   (∀ z ∈ args.toList, (s.ev z).allIn hi = true ∨ ∀ d b, lk hi d = none → β d = some b → F b) →
   (∀ (q : A) (β' : Nat → Option Nat) (w' : World), Keeps (fun b => ∃ d, bIn hi β d = some b) w w' → (∀ d b, β' d = some b → (w.heap.size ≤ b ∨ bIn hi β d = some b) ∧ b < w'.heap.size) →
    (∀ d o, lk (ob1 q) d = some o → xW (GF F (bIn hi β) β' w w') β' w' d o → xW (FF E (xl bk K V β β') w') β' w' d o) ∧ ∀ v, AVR (GF F (bIn hi β) β' w w') β' w' (r q) v → AVR (FF E (xl bk K V β β') w') β' w' (r q) v) →
   Calls P f (args.map a.eval) w (fun e w' => ∃ v, e = .returned v ∧ ∃ X', yG (D.dst o) (XW D β) w X' w' ∧ zU P ops D (jh E n Q) (nrm E n D (Q .normal)) rest X' (a.put o.dst v) w') := fun F h1 h2 h3 h4 h5 => by
  refine (hcall w F (bIn hi β) (args.map a.eval) ⟨h2, fun d e b g1 g2 => ?_, fun d b hb => ?_, fun d ob' hd' => ?_⟩ (by rw [← has]; simp) fun i y v hy hv' => ?_).mono fun e w' ⟨q, v, β', hq, he, hout, hres⟩ => ?_
  ·obtain ⟨g, k1, k2⟩ := zH g1
   obtain ⟨g', k3, k4⟩ := zH g2
   have := hs.inj g g' b k2 k4
   subst this
   have z1 := (H.hi2 g d k1).1
   rw [(H.hi2 g e k3).1] at z1
   injection z1 with z1
   exact z1.symm
  ·obtain ⟨g, k1, k2⟩ := zH hb
   exact ⟨(hs.rng g b k2).2, fun hF => h3 b hF ⟨d, hb⟩, (H.hi2 g d k1).2.1⟩
  ·rw [← hob] at hd'
   obtain ⟨e, o', hm', ho', rfl⟩ := Xw hd'
   have hed := H.him e d hm'
   have hin : ∀ d e b, lk hi d = some e → β d = some b → bIn hi β e = some b := fun d e b h1 h2 => by
    unfold bIn; rw [(H.hi1 d e h1).2.1]; exact h2
   exact (hs.ob e o' ho').ren h1 hin fun b hb => hin e d b hed hb
  ·rw [Array.getElem?_map] at hv'
   cases hz : args[i]? with
   | none => rw [hz] at hv'; cases hv'
   | some z =>
    rw [hz] at hv'
    injection hv' with hv'
    subst hv'
    have hz' : args.toList[i]? = some z := by simpa using hz
    rw [← has, List.getElem?_map, hz'] at hy
    injection hy with hy
    subst hy
    have hmem := List.mem_of_getElem? hz'
    exact Xx hs H h1 (h4 z hmem) (hs.ev z (List.all_eq_true.1 hall z hmem) rfl) (hT z hmem)
  ·obtain ⟨t1, t2⟩ := h5 q β' w' hout.keeps hout.rng
   have hs' := hs.called H hout.keeps hout.inj hout.rng hout.fx hout.fs (ob1 := ob1 q) fun d o hd' => t1 d o hd' (hout.ob d o hd')
   have hr' : AVR (FF E (xl bk K V β β') w') (xl bk K V β β') w' ((r q).ren bk) v := (t2 v hres).ren (fun _ h => h) fun d e b h hb => by rw [vL H h]; exact hb
   obtain ⟨g1, g2, g3⟩ := yN hn hd hs' hdst true ((r q).ren bk) (fun _ => hr') (fun h => by cases h)
   have hDW : ∀ g d, lk hi g = some d → D.W g = true := fun g d h => List.all_eq_true.1 hD (g, d) (jO h)
   refine ⟨v, he, XW D (xl bk K V β β'), ⟨fun hf => ?_, ⟨hout.keeps.size, fun b hb hx => hout.keeps.block b hb fun ⟨d, hd'⟩ => ?_⟩, fun b hb ⟨e, k1, k2⟩ => ?_⟩, hr q hq _ _ _ g1 g2 g3⟩
   ·rcases hds with hds | rfl
    ·simp only [Dr.dst, ho, Y7, hds, Bool.and_true, Bool.or_true] at hf; cases hf
    ·exact ⟨hout.keeps.size, fun b hb _ => hout.keeps.block b hb fun ⟨d, hd'⟩ => by obtain ⟨g, k1, _⟩ := zH hd'; cases k1⟩
   ·obtain ⟨g, k1, k2⟩ := zH hd'
    exact hx ⟨g, hDW g d (H.hi2 g d k1).1, k2⟩
   ·rcases yP k2 with ⟨d, hd', hdb⟩ | ⟨_, _, _, heb⟩
    ·rcases (hout.rng d b hdb).1 with h | h
     ·omega
     ·obtain ⟨g, k3, k4⟩ := zH h
      have := (H.bk2 d e hd').2.2 g k3
      subst this
      exact ⟨g, k1, k4⟩
    ·exact ⟨e, k1, heb⟩
 have fin : Calls P f (args.map a.eval) w (fun e w' => ∃ v, e = .returned v ∧ ∃ X', yG (D.dst o) (XW D β) w X' w' ∧ zU P ops D (jh E n Q) (nrm E n D (Q .normal)) rest X' (a.put o.dst v) w') := by
  rcases hm with hm | hm12
  ·refine key (FF E β w) (fun _ h => h) hs.glo (fun b hb ⟨d, hd'⟩ => ?_) (fun z hz => .inl (AV.allInL_mem hm _ (List.mem_map_of_mem (by rw [hopl]; exact .tail _ hz)))) (fun q β' w' hkp hrg => ?_)
   ·obtain ⟨g, _, k2⟩ := zH hd'
    exact hb.2.2 g k2
   ·have hgf : ∀ b, GF (FF E β w) (bIn hi β) β' w w' b → FF E (xl bk K V β β') w' b := fun b hb => by
     refine ⟨hb.1, ?_, fun e he => ?_⟩
     ·rcases hb.2.1 with h | h | ⟨d, h⟩
      ·exact h.2.1
      ·exact .inr (.inl (Nat.le_trans hs.old.size h))
      ·obtain ⟨g, _, k2⟩ := zH h
       exact .inr ((hs.rng g b k2).1.imp id fun h => ⟨g, h⟩)
     ·rcases yP he with ⟨d, hd', hdb⟩ | ⟨_, heK, heV, heb⟩
      ·exact hb.2.2 d hdb
      ·rcases hb.2.1 with h | h | ⟨d, h⟩
       ·exact h.2.2 e heb
       ·have := (hs.rng e b heb).2; omega
       ·obtain ⟨g, k1, k2⟩ := zH h
        have := hs.inj e g b heb k2
        subst this
        rcases (H.hi2 e d k1).2.2 with h' | h'
        ·exact heK h'
        ·exact heV h'
    exact ⟨fun d o _ h => zdm h hgf, fun v h => h.mono hgf (fun _ _ => rfl) (fun _ _ h => h) (fun _ _ _ _ _ h => h)⟩
  ·have hsub : ∀ b, FF E β w b → b < w.heap.size ∧ ∀ d, bIn hi β d ≠ some b := fun b hb => ⟨hb.1, fun d hd' => by
    obtain ⟨g, _, k2⟩ := zH hd'
    exact hb.2.2 g k2⟩
   refine key (fun b => b < w.heap.size ∧ ∀ d, bIn hi β d ≠ some b) hsub ⟨fun _ h => h.1, fun g vs h => ⟨hsub g (hs.glo.gl g vs h).1, (hs.glo.gl g vs h).2⟩⟩ (fun b hb ⟨d, hd'⟩ => hb.2 d hd') (fun z hz => .inr fun d b hd' hb => ⟨(hs.rng d b hb).2, fun d' hd2 => ?_⟩) (fun q β' w' hkp hrg => ⟨fun d o hd' h => Qz h (Xv (hm12 q).2 hd'), fun v h => Qy h (hm12 q).1⟩)
   ·obtain ⟨g, k1, k2⟩ := zH hd2
    have := hs.inj g d b k2 hb
    subst this
    rw [(H.hi2 g d' k1).1] at hd'
    cases hd'
 exact fin.mono fun e w' ⟨v, he, h⟩ => by subst he; exact h
def zbm {A : Type} (I : A → Prop) (r : A → AV) (ob : List (Nat × AObj)) (ob1 : A → List (Nat × AObj)) (z : Option (Prop × List AV)) : Prop := ∃ p l, z = some (p, l) ∧ p ∧ ∃ q, I q ∧ (xN l).up (r q) ∧ Y0 ob (ob1 q)
theorem uh {rs : List ResultVar} {r : A → AV} {ob1 : A → List (Nat × AObj)} (h : ∀ z, ZB T s rs = z → zbm I r s.ob ob1 z) : Qr T rs I r ob1 .ret s := by
 obtain ⟨p, l, h1, h2, h3⟩ := h _ rfl
 exact ⟨p, l, h1, h2, h3⟩
theorem zdw {rs : List ResultVar} {r : A → AV} {ob1 : A → List (Nat × AObj)} (h : ∀ z, ZB T s rs = z → zbm I r s.ob ob1 z) : Qr T rs I r ob1 .normal s := by
 obtain ⟨p, l, h1, h2, h3⟩ := h _ rfl
 exact ⟨p, l, h1, h2, h3⟩
theorem xi {r : A → AV} {ob : List (Nat × AObj)} {ob1 : A → List (Nat × AObj)} {p : Prop} {l : List AV} (hp : p) (h : ∃ q, I q ∧ (xN l).up (r q) ∧ Y0 ob (ob1 q)) : zbm I r ob ob1 (some (p, l)) := ⟨p, l, rfl, hp, h⟩
theorem y4 {hi bk : List (Nat × Nat)} {K V : List Nat} {f : Nat} {as' : List AV} {p : Prop} {ob : List (Nat × AObj)} {ob1 : A → List (Nat × AObj)} {r : A → AV} {al : Bool} (hc : yL P f as' ob I r ob1) (hk : vr hi bk K V = true) (hD : hi.all (fun p => D.W p.1) = true) (hds : D.ds o = true ∨ hi = [])
  (hp : p) (hm : al = true ∨ (∀ q, (r q).nm = true ∧ V3 (ob1 q))) (hr : ∀ q, I q → zL P E n ops D rest Q ((s.back K V bk (ob1 q)).put o.dst true ((r q).ren bk))) : V8 P E n ops D rest Q s o hi bk K V (some (f, as', p), ob, al) := fun h => by
 unfold ZU at h
 injection h with h1 h2
 injection h2 with h2 h3
 exact Jp hi bk K V h1 hp hk hD hds h2 hc (hm.imp (fun e => h3.trans e) id) hr
end
end
section
open Go.RowKit
section
variable {P : Program} {T : Nat → Option TyD} {E : Env} {s s' : AState} {a : Act} {tm : Array Value} {w w' : World} {β β' : Nat → Option Nat} {F F' : Nat → Prop} {n : Nat} {ops : Array Oper} {Q : Exit → AState → Prop} {D : Dr} {rest : List Oper} {o : Oper}
theorem QF (hi bk : List (Nat × Nat)) (K V : List Nat) {f : Nat} {as0 : List AV} {ob : List (Nat × AObj)} {A : Type} {I : A → Prop} {ob1 : A → List (Nat × AObj)} {r : A → AV}
  (hg : z6 ops s o.guard = some true) (hkd : wY o.op = false) (hdst : yQ n o.dst)
  (hex : ∀ (a : Act) (w : World) (β : Nat → Option Nat), SRel E s a.tmps w β → ∃ vs : Array Value, (execOp a.eval o).run P w = .ok (.enter f vs) w ∧ vs.size = as0.length ∧ ∀ (i : Nat) (x : AV) (v : Value), as0[i]? = some x → vs[i]? = some v → AVR (FF E β w) β w x v)
  (hT : AV.handT.handTL hi s as0) (hk : vr hi bk K V = true) (hD : hi.all (fun p => D.W p.1) = true) (hds : D.dst o = true ∨ hi = []) (hob : Vv s hi hi = ob)
  (hc : yL P f (AV.hand.handL hi s as0) ob I r ob1) (hm : AV.allIn.allInL hi as0 = true ∨ ∀ q, (r q).nm = true ∧ V3 (ob1 q))
  (hr : ∀ q, I q → zL P E n ops D rest Q ((s.back K V bk (ob1 q)).put o.dst true ((r q).ren bk))) : yp P E n ops D (o :: rest) Q s := by
 have H := kR hk
 rw [AV.handL_eq] at hc
 intro a w β hn hd hs
 have hw := yn (ops := ops) hs hg
 obtain ⟨vs, hexec, hvsz, hvs⟩ := hex a w β hs
 obtain ⟨⟨fn, hf, hb, hnm⟩, hcall⟩ := hc
 refine yi hkd hw (fun _ => ?_) (fun hGf => by cases hGf)
 unfold Oper.wp
 rw [hexec]
 have hin : ∀ d e b, lk hi d = some e → β d = some b → bIn hi β e = some b := fun d e b h1 h2 => by
  unfold bIn; rw [(H.hi1 d e h1).2.1]; exact h2
 have key : ∀ F : Nat → Prop, (∀ b, FF E β w b → F b) → FOK F w → (∀ b, F b → ¬ ∃ d, bIn hi β d = some b) →
   (∀ z ∈ as0, z.allIn hi = true ∨ ∀ d b, lk hi d = none → β d = some b → F b) →
   (∀ (q : A) (β' : Nat → Option Nat) (w' : World), Keeps (fun b => ∃ d, bIn hi β d = some b) w w' → (∀ d b, β' d = some b → (w.heap.size ≤ b ∨ bIn hi β d = some b) ∧ b < w'.heap.size) →
    (∀ d o, lk (ob1 q) d = some o → xW (GF F (bIn hi β) β' w w') β' w' d o → xW (FF E (xl bk K V β β') w') β' w' d o) ∧ ∀ v, AVR (GF F (bIn hi β) β' w w') β' w' (r q) v → AVR (FF E (xl bk K V β β') w') β' w' (r q) v) →
   Calls P f vs w (fun e w' => ∃ v, e = .returned v ∧ ∃ X', yG (D.dst o) (XW D β) w X' w' ∧ zU P ops D (jh E n Q) (nrm E n D (Q .normal)) rest X' (a.put o.dst v) w') := fun F h1 h2 h3 h4 h5 => by
  refine (hcall w F (bIn hi β) vs ⟨h2, fun d e b g1 g2 => ?_, fun d b hb => ?_, fun d ob' hd' => ?_⟩ (by simpa using hvsz) fun i y v hy hv' => ?_).mono fun e w' ⟨q, v, β', hI, he, hout, hres⟩ => ?_
  ·obtain ⟨g, k1, k2⟩ := zH g1
   obtain ⟨g', k3, k4⟩ := zH g2
   have := hs.inj g g' b k2 k4
   subst this
   have z1 := (H.hi2 g d k1).1
   rw [(H.hi2 g e k3).1] at z1
   injection z1 with z1
   exact z1.symm
  ·obtain ⟨g, k1, k2⟩ := zH hb
   exact ⟨(hs.rng g b k2).2, fun hF => h3 b hF ⟨d, hb⟩, (H.hi2 g d k1).2.1⟩
  ·rw [← hob] at hd'
   obtain ⟨e, o', hm', ho', rfl⟩ := Xw hd'
   exact (hs.ob e o' ho').ren h1 hin fun b hb => hin e d b (H.him e d hm') hb
  ·rw [List.getElem?_map] at hy
   cases hz : as0[i]? with
   | none => rw [hz] at hy; cases hy
   | some z =>
    rw [hz] at hy
    injection hy with hy
    subst hy
    have hmem := List.mem_of_getElem? hz
    exact Xx hs H h1 (h4 z hmem) (hvs i z v hz hv') (AV.handTL_mem hT z hmem)
  ·obtain ⟨t1, t2⟩ := h5 q β' w' hout.keeps hout.rng
   have hs' := hs.called H hout.keeps hout.inj hout.rng hout.fx hout.fs (ob1 := ob1 q) fun d o hd' => t1 d o hd' (hout.ob d o hd')
   have hr' : AVR (FF E (xl bk K V β β') w') (xl bk K V β β') w' ((r q).ren bk) v := (t2 v hres).ren (fun _ h => h) fun d e b h hb => by rw [vL H h]; exact hb
   obtain ⟨g1, g2, g3⟩ := yN hn hd hs' hdst true ((r q).ren bk) (fun _ => hr') (fun h => by cases h)
   have hDW : ∀ g d, lk hi g = some d → D.W g = true := fun g d h => List.all_eq_true.1 hD (g, d) (jO h)
   refine ⟨v, he, XW D (xl bk K V β β'), ⟨fun hf => ?_, ⟨hout.keeps.size, fun b hb hx => hout.keeps.block b hb fun ⟨d, hd'⟩ => ?_⟩, fun b hb ⟨e, k1, k2⟩ => ?_⟩, hr q hI _ _ _ g1 g2 g3⟩
   ·rcases hds with hds | rfl
    ·rw [hds] at hf; cases hf
    ·exact ⟨hout.keeps.size, fun b hb _ => hout.keeps.block b hb fun ⟨d, hd'⟩ => by obtain ⟨g, k1, _⟩ := zH hd'; cases k1⟩
   ·obtain ⟨g, k1, k2⟩ := zH hd'
    exact hx ⟨g, hDW g d (H.hi2 g d k1).1, k2⟩
   ·rcases yP k2 with ⟨d, hd', hdb⟩ | ⟨_, _, _, heb⟩
    ·rcases (hout.rng d b hdb).1 with h | h
     ·omega
     ·obtain ⟨g, k3, k4⟩ := zH h
      have := (H.bk2 d e hd').2.2 g k3
      subst this
      exact ⟨g, k1, k4⟩
    ·exact ⟨e, k1, heb⟩
 have fin : Calls P f vs w (fun e w' => ∃ v, e = .returned v ∧ ∃ X', yG (D.dst o) (XW D β) w X' w' ∧ zU P ops D (jh E n Q) (nrm E n D (Q .normal)) rest X' (a.put o.dst v) w') := by
  rcases hm with hm | hm
  ·refine key (FF E β w) (fun _ h => h) hs.glo (fun b hb ⟨d, hd'⟩ => ?_) (fun z hz => .inl (AV.allInL_mem hm _ hz)) (fun q β' w' hkp hrg => ?_)
   ·obtain ⟨g, _, k2⟩ := zH hd'
    exact hb.2.2 g k2
   ·have hgf : ∀ b, GF (FF E β w) (bIn hi β) β' w w' b → FF E (xl bk K V β β') w' b := fun b hb => by
     refine ⟨hb.1, ?_, fun e he => ?_⟩
     ·rcases hb.2.1 with h | h | ⟨d, h⟩
      ·exact h.2.1
      ·exact .inr (.inl (Nat.le_trans hs.old.size h))
      ·obtain ⟨g, _, k2⟩ := zH h
       exact .inr ((hs.rng g b k2).1.imp id fun h => ⟨g, h⟩)
     ·rcases yP he with ⟨d, hd', hdb⟩ | ⟨_, heK, heV, heb⟩
      ·exact hb.2.2 d hdb
      ·rcases hb.2.1 with h | h | ⟨d, h⟩
       ·exact h.2.2 e heb
       ·have := (hs.rng e b heb).2; omega
       ·obtain ⟨g, k1, k2⟩ := zH h
        have := hs.inj e g b heb k2
        subst this
        rcases (H.hi2 e d k1).2.2 with h' | h'
        ·exact heK h'
        ·exact heV h'
    exact ⟨fun d o _ h => zdm h hgf, fun v h => h.mono hgf (fun _ _ => rfl) (fun _ _ h => h) (fun _ _ _ _ _ h => h)⟩
  ·have hsub : ∀ b, FF E β w b → b < w.heap.size ∧ ∀ d, bIn hi β d ≠ some b := fun b hb => ⟨hb.1, fun d hd' => by
    obtain ⟨g, _, k2⟩ := zH hd'
    exact hb.2.2 g k2⟩
   refine key (fun b => b < w.heap.size ∧ ∀ d, bIn hi β d ≠ some b) hsub ⟨fun _ h => h.1, fun g vs h => ⟨hsub g (hs.glo.gl g vs h).1, (hs.glo.gl g vs h).2⟩⟩ (fun b hb ⟨d, hd'⟩ => hb.2 d hd') (fun z hz => .inr fun d b hd' hb => ⟨(hs.rng d b hb).2, fun d' hd2 => ?_⟩) (fun q β' w' hkp hrg => ⟨fun d o hd' h => Qz h (Xv (hm q).2 hd'), fun v h => Qy h (hm q).1⟩)
   ·obtain ⟨g, k1, k2⟩ := zH hd2
    have := hs.inj g d b k2 hb
    subst this
    rw [(H.hi2 g d' k1).1] at hd'
    cases hd'
 exact fin.mono fun e w' ⟨v, he, h⟩ => by subst he; exact h
theorem Jx (hi bk : List (Nat × Nat)) (K V : List Nat) {f : Nat} {as0 : List AV} {ob ob1 : List (Nat × AObj)} {r : AV}
  (hg : z6 ops s o.guard = some true) (hkd : wY o.op = false) (hdst : yQ n o.dst)
  (hex : ∀ (a : Act) (w : World) (β : Nat → Option Nat), SRel E s a.tmps w β → ∃ vs : Array Value, (execOp a.eval o).run P w = .ok (.enter f vs) w ∧ vs.size = as0.length ∧ ∀ (i : Nat) (x : AV) (v : Value), as0[i]? = some x → vs[i]? = some v → AVR (FF E β w) β w x v)
  (hT : AV.handT.handTL hi s as0) (hk : vr hi bk K V = true) (hD : hi.all (fun p => D.W p.1) = true) (hds : D.dst o = true ∨ hi = []) (hob : Vv s hi hi = ob)
  (hc : yq P f (AV.hand.handL hi s as0) ob r ob1) (hm : AV.allIn.allInL hi as0 = true ∨ (r.nm = true ∧ V3 ob1))
  (hr : zL P E n ops D rest Q ((s.back K V bk ob1).put o.dst true (r.ren bk))) : yp P E n ops D (o :: rest) Q s :=
 QF (A := Unit) (I := fun _ => True) (ob1 := fun _ => ob1) (r := fun _ => r) hi bk K V hg hkd hdst hex hT hk hD hds hob
  ⟨hc.1, fun w F β vs h1 h2 h3 => (hc.2 w F β vs h1 h2 h3).mono fun e w' ⟨v, β', he, ho, hr⟩ => ⟨(), v, β', trivial, he, ho, hr⟩⟩ (hm.imp id fun h _ => h) fun _ _ => hr
theorem qg {o : Oper} {x : Operand} {args : Array Operand} {ats : Array TypeId} (ho : o.op = .call ⟨.value x, args, ats⟩) {f : Nat} {fst cap : Array Value} (hx : a.eval x = .func (.func f) fst cap)
  {fn : Func} (hf : P.funcs[f]? = some fn) (hb : fn.body.isSome = true) (hn : (fn.name == "runtime.NumGoroutine") = false) : (execOp a.eval o).run P w = .ok (.enter f (fst ++ args.map a.eval ++ cap)) w := by
 have hb' : fn.body.isNone = false := by cases h : fn.body <;> simp_all
 unfold execOp
 simp only [ho, resolve, hx, Deferred.ofValue, Sem.run_bind, Sem.run_pure, Result.andThen_ok, invoke, callFunc, run_program, hf, hn, hb', Bool.false_eq_true, if_false]
def zam (f : Nat) (cs as0 : List AV) : Nat × List AV := bif decide (f < 1000000) then (f, as0 ++ cs) else (f - 1000000, cs ++ as0)
theorem zcO {x : AV} {f : Nat} {cs : List AV} {v : Value} (h : AVR F β w x v) (hx : x = .fn f cs) : ∃ vs xs ys g, v = .func (.func g) xs ys ∧ (f = g ∧ f < 1000000 ∧ xs = #[] ∧ ys = vs ∨ f = g + 1000000 ∧ xs = vs ∧ ys = #[]) ∧ vs.size = cs.length ∧ ∀ (i : Nat) (c : AV) (u : Value), cs[i]? = some c → vs[i]? = some u → AVR F β w c u := by
 subst hx
 cases h with
 | s h => cases h
 | fn h0 h1 h2 => exact ⟨_, _, _, _, rfl, h0, h1, h2⟩
theorem QG {as1 as2 : List AV} {v1 v2 : Array Value} (l1 : v1.size = as1.length) (h1 : ∀ (i : Nat) (c : AV) (u : Value), as1[i]? = some c → v1[i]? = some u → AVR F β w c u) (h2 : ∀ (i : Nat) (c : AV) (u : Value), as2[i]? = some c → v2[i]? = some u → AVR F β w c u)
  (i : Nat) (c : AV) (u : Value) (hc : (as1 ++ as2)[i]? = some c) (hu : (v1 ++ v2)[i]? = some u) : AVR F β w c u := by
 rcases Nat.lt_or_ge i as1.length with hi | hi
 ·rw [List.getElem?_append_left hi] at hc
  rw [Array.getElem?_append_left (by omega)] at hu
  exact h1 i c u hc hu
 ·rw [List.getElem?_append_right hi] at hc
  rw [Array.getElem?_append_right (by omega), l1] at hu
  exact h2 _ c u hc hu
theorem WF (hs : SRel E s a.tmps w β) {args : Array Operand} (hall : args.toList.all s.gd = true) (i : Nat) (x : AV) (v : Value) (hx : (args.toList.map s.ev)[i]? = some x) (hv : (args.map a.eval)[i]? = some v) : AVR (FF E β w) β w x v := by
 rw [List.getElem?_map] at hx
 rw [Array.getElem?_map] at hv
 cases hz : args[i]? with
 | none => rw [hz] at hv; cases hv
 | some z =>
  have hz' : args.toList[i]? = some z := by simpa using hz
  rw [hz'] at hx
  rw [hz] at hv
  injection hx with hx
  injection hv with hv
  subst hx
  subst hv
  exact hs.ev z (List.all_eq_true.1 hall z (List.mem_of_getElem? hz')) rfl
theorem zcP {x : Operand} {args : Array Operand} {ats : Array TypeId} {f : Nat} {cs : List AV} {fn : Func} (ho : o.op = .call ⟨.value x, args, ats⟩) (hx : s.ev x = .fn f cs) (hgx : s.gd x = true) (hall : args.toList.all s.gd = true)
  (hf : P.funcs[(zam f cs (args.toList.map s.ev)).1]? = some fn) (hb : fn.body.isSome = true) (hn : (fn.name == "runtime.NumGoroutine") = false) :
  ∀ (a : Act) (w : World) (β : Nat → Option Nat), SRel E s a.tmps w β → ∃ vs : Array Value, (execOp a.eval o).run P w = .ok (.enter (zam f cs (args.toList.map s.ev)).1 vs) w ∧ vs.size = (zam f cs (args.toList.map s.ev)).2.length ∧ ∀ (i : Nat) (x : AV) (v : Value), (zam f cs (args.toList.map s.ev)).2[i]? = some x → vs[i]? = some v → AVR (FF E β w) β w x v := by
 intro a w β hs
 obtain ⟨vs, xs, ys, g, h1, h0, h2, h3⟩ := zcO (hs.ev x hgx (a := a) rfl) hx
 have ha : (args.map a.eval).size = (args.toList.map s.ev).length := by simp
 unfold zam at hf ⊢
 rcases h0 with ⟨rfl, hlt, rfl, rfl⟩ | ⟨rfl, rfl, rfl⟩
 ·rw [decide_eq_true hlt] at hf ⊢
  refine ⟨_, qg ho h1 hf hb hn, by simp [h2], fun i y v hy hv => ?_⟩
  rw [Array.empty_append] at hv
  exact QG ha (WF hs hall) h3 i y v hy hv
 ·rw [decide_eq_false (by omega)] at hf ⊢
  simp only [cond_false, Nat.add_sub_cancel] at hf ⊢
  refine ⟨_, qg ho h1 hf hb hn, by simp [h2], fun i y v hy hv => ?_⟩
  rw [Array.append_empty] at hv
  exact QG h2 h3 (WF hs hall) i y v hy hv
theorem zcQ {x : Operand} {args : Array Operand} {ats : Array TypeId} {f : Nat} {fn : Func} (ho : o.op = .call ⟨.value x, args, ats⟩) (hx : s.ev x = .v (.func (.func f) #[] #[])) (hgx : s.gd x = true) (hall : args.toList.all s.gd = true)
  (hf : P.funcs[f]? = some fn) (hb : fn.body.isSome = true) (hn : (fn.name == "runtime.NumGoroutine") = false) :
  ∀ (a : Act) (w : World) (β : Nat → Option Nat), SRel E s a.tmps w β → ∃ vs : Array Value, (execOp a.eval o).run P w = .ok (.enter f vs) w ∧ vs.size = (args.toList.map s.ev).length ∧ ∀ (i : Nat) (x : AV) (v : Value), (args.toList.map s.ev)[i]? = some x → vs[i]? = some v → AVR (FF E β w) β w x v := by
 intro a w β hs
 have h1 := hs.ev x hgx (a := a) rfl
 rw [hx] at h1
 generalize hu : a.eval x = u at h1
 cases h1 with
 | s h1 =>
 cases h1 with
 | v _ => exact ⟨_, qg ho hu hf hb hn, by simp, fun i y v hy hv => by rw [Array.empty_append, Array.append_empty] at hv; exact WF hs hall i y v hy hv⟩
end
end
section
open Go.RowKit
def vX (P : Program) (t : Nat) (nm : String) : Option (Nat × Bool × Nat) :=
 match P.info? t, P.underlying t with
 | some i, some (.pointer e) =>
  match i.methods.find? (·.name == nm) with
  | some m => if m.path.isEmpty = true then m.func.map fun q => (q.1, q.2, e) else none
  | none => none
 | _, _ => none
def AV.isPtr : AV → Prop
 | .ptr .. => True
 | _ => False
def XC (T : Nat → Option TyD) (M : Nat → String → Option (Nat × Bool × Nat)) (s : AState) : Op → Option (Nat × List AV × Prop)
 | .call ⟨.value x, args, _⟩ =>
  match s.ev x with
  | .fn f cs => some ((zam f cs (args.toList.map s.ev)).1, (zam f cs (args.toList.map s.ev)).2, True)
  | .v (.func (.func f) ⟨[]⟩ ⟨[]⟩) => some (f, args.toList.map s.ev, True)
  | _ => none
 | .call ⟨.invoke x nm, args, _⟩ =>
  match s.ev x with
  | .ifc t y =>
   match M t nm with
   | some (f, true, _) => some (f, y :: args.toList.map s.ev, y.isPtr)
   | some (f, false, e) =>
    match vV T s e y with
    | some (p, z) => some (f, z :: args.toList.map s.ev, p)
    | none => none
   | none => none
  | _ => none
 | _ => none
def QH (T : Nat → Option TyD) (M : Nat → String → Option (Nat × Bool × Nat)) (n : Nat) (ops : Array Oper) (s : AState) (o : Oper) (hi : List (Nat × Nat)) : Option (Nat × List AV × Prop × Bool) :=
 match z6 ops s o.guard, XC T M s o.op with
 | some G, some (f, as0, p) => some (f, AV.hand.handL hi s as0, G = true ∧ yQ n o.dst ∧ o.op.operands.toList.all s.gd = true ∧ p ∧ AV.handT.handTL hi s as0, AV.allIn.allInL hi as0)
 | _, _ => none
section
variable {P : Program} {T : Nat → Option TyD} {E : Env} {s s' : AState} {a : Act} {tm : Array Value} {w w' : World} {β β' : Nat → Option Nat} {F F' : Nat → Prop} {n : Nat} {ops : Array Oper} {Q : Exit → AState → Prop} {D : Dr} {rest : List Oper} {o : Oper}
theorem XD {x : AV} {t : Nat} {y : AV} {v : Value} (h : AVR F β w x v) (hx : x = .ifc t y) : ∃ u, v = .iface t u ∧ AVR F β w y u := by
 subst hx
 cases h with
 | s h => cases h
 | ifc h => exact ⟨_, rfl, h⟩
theorem Jy {x : Operand} {nm : String} {args : Array Operand} {ats : Array TypeId} (ho : o.op = .call ⟨.invoke x nm, args, ats⟩) {t : Nat} {u rv : Value} (hx : a.eval x = .iface t u) {f : Nat}
  (hm : (method (P.types.size + Made.depth) t u nm).run P w = .ok (f, rv) w) {fn : Func} (hf : P.funcs[f]? = some fn) (hb : fn.body.isSome = true) (hn : (fn.name == "runtime.NumGoroutine") = false) :
  (execOp a.eval o).run P w = .ok (.enter f (#[rv] ++ args.map a.eval)) w := by
 have hb' : fn.body.isNone = false := by cases h : fn.body <;> simp_all
 unfold execOp
 simp only [ho, resolve, hx, Sem.run_bind, Sem.run_pure, Result.andThen_ok, invoke, callMethod]
 have h0 : (#[Value.iface t u] ++ args.map a.eval)[0]? = some (.iface t u) := by rw [Array.getElem?_append_left (by simp)]; rfl
 have h1 : (#[Value.iface t u] ++ args.map a.eval).extract 1 (#[Value.iface t u] ++ args.map a.eval).size = args.map a.eval := by
  apply Array.ext'
  simp [List.take_of_length_le]
 simp only [h0, h1, Sem.run_bind, run_program, Result.andThen_ok, hm, callFunc, hf, hn, hb', Bool.false_eq_true, if_false, Sem.run_pure]
theorem zbv (ats : Array TypeId) (t : TypeId) (A : Addr) (x y : ByteArray) : Builtin.ssaWrapNilChk_ ats t #[.pointer (some A), .string x, .string y] = pure (.pointer (some A)) := rfl
theorem jS {t : Nat} {nm : String} {f e : Nat} {b : Bool} (h : vX P t nm = some (f, b, e)) {A : Addr} (w : World) {rv : Value} (hrv : b = true ∧ rv = .pointer (some A) ∨ b = false ∧ (loadVar e A).run P w = .ok rv w) :
  (method (P.types.size + Made.depth) t (.pointer (some A)) nm).run P w = .ok (f, rv) w := by
 unfold vX at h
 split at h
 case h_2 => cases h
 rename_i i e' hi hu
 split at h
 case h_2 => cases h
 rename_i m hm
 split at h
 case isFalse => cases h
 rename_i hp
 cases hmf : m.func with
 | none => rw [hmf] at h; cases h
 | some q =>
  rw [hmf] at h
  obtain ⟨q1, q2⟩ := q
  simp only [Option.map_some, Option.some.injEq, Prod.mk.injEq] at h
  obtain ⟨rfl, rfl, rfl⟩ := h
  have hpath : m.path.toList = [] := by simpa [Array.isEmpty] using hp
  have hd0 : Made.depth ≠ 0 := by decide
  obtain ⟨k, hk⟩ : ∃ k, P.types.size + Made.depth = k + 1 := ⟨P.types.size + Made.depth - 1, by omega⟩
  rw [hk]
  have hti : (typeInfo t).run P w = .ok i w := by simp [typeInfo, hi]
  unfold method
  simp only [Sem.run_bind, hti, Result.andThen_ok, hm, hpath, follow, Sem.run_pure, hmf, receiverAt, run_underlying hu, Place.get]
  rcases hrv with ⟨rfl, rfl⟩ | ⟨rfl, hl⟩
  ·rfl
  ·simp only [hp, if_true, strVal, zbv, Sem.run_bind, Sem.run_pure, Result.andThen_ok, asAddr, hl]
theorem Vy (hTk : TOK P T) {f : Nat} {as' : List AV} {p : Prop} {al : Bool} {hi : List (Nat × Nat)} (h : QH T (vX P) n ops s o hi = some (f, as', p, al)) (hp : p) {fn : Func} (hf : P.funcs[f]? = some fn) (hb : fn.body.isSome = true) (hn : (fn.name == "runtime.NumGoroutine") = false) :
  z6 ops s o.guard = some true ∧ wY o.op = false ∧ yQ n o.dst ∧ ∃ as0, as' = AV.hand.handL hi s as0 ∧ AV.handT.handTL hi s as0 ∧ al = AV.allIn.allInL hi as0 ∧
   ∀ (a : Act) (w : World) (β : Nat → Option Nat), SRel E s a.tmps w β → ∃ vs : Array Value, (execOp a.eval o).run P w = .ok (.enter f vs) w ∧ vs.size = as0.length ∧ ∀ (i : Nat) (x : AV) (v : Value), as0[i]? = some x → vs[i]? = some v → AVR (FF E β w) β w x v := by
 unfold QH at h
 split at h
 case h_2 => cases h
 rename_i G f' as0 p0 hg hci
 simp only [Option.some.injEq, Prod.mk.injEq] at h
 obtain ⟨rfl, rfl, rfl, rfl⟩ := h
 obtain ⟨rfl, h1, h2, h3, h4⟩ := hp
 unfold XC at hci
 split at hci
 ·rename_i x args ats ho
  have hopl : o.op.operands.toList = x :: args.toList := by rw [ho]; simp [Op.operands, Call.operands]
  rw [hopl, List.all_cons, Bool.and_eq_true] at h2
  split at hci
  ·rename_i f' cs hx
   simp only [Option.some.injEq, Prod.mk.injEq] at hci
   obtain ⟨rfl, rfl, rfl⟩ := hci
   exact ⟨hg, by rw [ho]; rfl, h1, _, rfl, h4, rfl, zcP ho hx h2.1 h2.2 hf hb hn⟩
  ·rename_i f' hx
   simp only [Option.some.injEq, Prod.mk.injEq] at hci
   obtain ⟨rfl, rfl, rfl⟩ := hci
   exact ⟨hg, by rw [ho]; rfl, h1, _, rfl, h4, rfl, zcQ ho hx h2.1 h2.2 hf hb hn⟩
  ·cases hci
 ·rename_i x nm args ats ho
  have hopl : o.op.operands.toList = x :: args.toList := by rw [ho]; simp [Op.operands, Call.operands]
  rw [hopl, List.all_cons, Bool.and_eq_true] at h2
  split at hci
  case h_2 => cases hci
  rename_i t y hx
  have fin : ∀ (z : AV), as0 = z :: args.toList.map s.ev → (∀ (a : Act) (w : World) (β : Nat → Option Nat), SRel E s a.tmps w β → ∃ u rv, a.eval x = .iface t u ∧ (method (P.types.size + Made.depth) t u nm).run P w = .ok (f', rv) w ∧ AVR (FF E β w) β w z rv) →
    ∀ (a : Act) (w : World) (β : Nat → Option Nat), SRel E s a.tmps w β → ∃ vs : Array Value, (execOp a.eval o).run P w = .ok (.enter f' vs) w ∧ vs.size = as0.length ∧ ∀ (i : Nat) (x : AV) (v : Value), as0[i]? = some x → vs[i]? = some v → AVR (FF E β w) β w x v := fun z hz hh a w β hs => by
   obtain ⟨u, rv, g1, g2, g3⟩ := hh a w β hs
   refine ⟨#[rv] ++ args.map a.eval, Jy ho g1 g2 hf hb hn, by rw [hz]; simp [Nat.add_comm], fun i y' v hy hv => ?_⟩
   rw [hz] at hy
   cases i with
   | zero =>
    simp only [List.getElem?_cons_zero, Option.some.injEq] at hy
    rw [Array.getElem?_append_left (by simp)] at hv
    simp only [List.getElem?_toArray, List.getElem?_cons_zero, Option.some.injEq] at hv
    subst hy
    subst hv
    exact g3
   | succ i =>
    simp only [List.getElem?_cons_succ] at hy
    rw [Array.getElem?_append_right (by simp)] at hv
    simp only [List.size_toArray, List.length_cons, List.length_nil, Nat.zero_add, Nat.add_sub_cancel] at hv
    exact WF hs h2.2 i y' v hy hv
  split at hci
  ·rename_i f2 e hM
   simp only [Option.some.injEq, Prod.mk.injEq] at hci
   obtain ⟨rfl, rfl, rfl⟩ := hci
   cases y with
   | ptr k d i j =>
    refine ⟨hg, by rw [ho]; rfl, h1, _, rfl, h4, rfl, fin _ rfl fun a w β hs => ?_⟩
    obtain ⟨u, hu, hr⟩ := XD (hs.ev x h2.1 (a := a) rfl) hx
    cases hr with
    | s hr => cases hr
    | ptr hb' => exact ⟨_, _, hu, jS hM w (.inl ⟨rfl, rfl⟩), .ptr hb'⟩
   | _ => exact absurd h3 id
  ·rename_i f2 e hM
   split at hci
   case h_2 => cases hci
   rename_i p1 z hl
   simp only [Option.some.injEq, Prod.mk.injEq] at hci
   obtain ⟨rfl, rfl, rfl⟩ := hci
   refine ⟨hg, by rw [ho]; rfl, h1, _, rfl, h4, rfl, fin _ rfl fun a w β hs => ?_⟩
   obtain ⟨u, hu, hr⟩ := XD (hs.ev x h2.1 (a := a) rfl) hx
   obtain ⟨v, g1, g2⟩ := uu (X := noX) hTk hs hl h3 (fun b _ => wK b) (fun _ _ _ _ b _ _ => wK b) hr
   have g3 := g2 w (xz.refl _ w)
   have hptr : ∃ A, u = .pointer (some A) := by
    unfold vV at hl
    split at hl
    ·cases hl
    ·split at hl
     ·cases hr with
      | s hr => cases hr
      | ptr => exact ⟨_, rfl⟩
     ·cases hr with
      | s hr => cases hr
      | elt => exact ⟨_, rfl⟩
     ·cases hl
   obtain ⟨A, rfl⟩ := hptr
   simp only [Instr.loadAt, Instr.sureAddr, Sem.run_bind, Sem.run_pure, Result.andThen_ok] at g3
   exact ⟨_, v, hu, jS hM w (.inr ⟨rfl, g3⟩), g1⟩
  ·cases hci
 ·cases hci
theorem yf (hTk : TOK P T) (hi bk : List (Nat × Nat)) (K V : List Nat) {f : Nat} {as' : List AV} {p : Prop} {al : Bool} {ob ob1 : List (Nat × AObj)} {r : AV} (h : QH T (vX P) n ops s o hi = some (f, as', p, al)) (hp : p) (hk : vr hi bk K V = true)
  (hD : hi.all (fun p => D.W p.1) = true) (hds : D.dst o = true ∨ hi = []) (hob : Vv s hi hi = ob) (hc : yq P f as' ob r ob1) (hm : al = true ∨ (r.nm = true ∧ V3 ob1))
  (hr : zL P E n ops D rest Q ((s.back K V bk ob1).put o.dst true (r.ren bk))) : yp P E n ops D (o :: rest) Q s := by
 obtain ⟨fn, hf, hb, hn⟩ := hc.1
 obtain ⟨h1, h2, h3, as0, rfl, h4, rfl, h5⟩ := Vy (E := E) hTk h hp hf hb hn
 exact Jx hi bk K V h1 h2 h3 h5 h4 hk hD hds hob hc hm hr
theorem yH (d : Nat) (_ : o.dst = some d) (hTk : TOK P T) (hi bk : List (Nat × Nat)) (K V : List Nat) {f : Nat} {as' : List AV} {p : Prop} {al : Bool} {ob ob1 : List (Nat × AObj)} {r : AV} (h : QH T (vX P) n ops s o hi = some (f, as', p, al)) (hp : p) (hk : vr hi bk K V = true)
  (hD : hi.all (fun p => D.W p.1) = true) (hds : D.dst o = true ∨ hi = []) (hob : Vv s hi hi = ob) (hc : yq P f as' ob r ob1) (hm : al = true ∨ (r.nm = true ∧ V3 ob1))
  (hr : zL P E n ops D rest Q ((s.back K V bk ob1).put o.dst true (r.ren bk))) : yp P E n ops D (o :: rest) Q s := yf hTk hi bk K V h hp hk hD hds hob hc hm hr
end
attribute [go_sem] QH XC AV.isPtr zam Nat.add_sub_cancel
end
section
open Go.RowKit
section
variable {P : Program} {E : Env} {s : AState} {n : Nat} {Q : Exit → AState → Prop}
end
end
section
open Go.RowKit
abbrev vU8 (c : Int) : AV := .v (.int .u8 c)
abbrev vB (b : Bool) : AV := .v (.bool b)
abbrev vI (n : Int) : AV := .v (.int .i64 n)
end
section
open Go.RowKit
section
variable {P : Program} {E : Env} {s : AState} {n : Nat} {Q : Exit → AState → Prop}
theorem zbn {α : Type} {c d : Code} (id : Nat) (ts os : List Nat) (sh : α → AState) (inv : α → Prop)
  (h1 : AWp P E n (.block id c) (Xa (fun s' => ∃ y, s'.keep ts os = sh y ∧ inv y) Q) s) (h2 : ∀ y, inv y → AWp P E n d Q (sh y)) : AWp P E n (.block id c) (Xa (AWp P E n d Q) Q) s := fun a w hw => wp_mono (h1 a w hw) fun e a' w' hl => by
 cases e with
 | normal =>
  obtain ⟨s', ⟨y, g1, g2⟩, g3⟩ := hl
  refine ⟨s'.keep ts os, ?_, g3.weaken (fun t p => xM s'.fr t p ts) (fun d o => xM s'.ob d o os)⟩
  rw [g1]
  exact h2 y g2
 | _ => exact hl
end
section
variable {P : Program} {E : Env} {s : AState} {n : Nat} {Q : Exit → AState → Prop}
theorem zbo {α : Type} {c e d : Code} (o : Operand) (ts os : List Nat) (sh : α → AState) (inv : α → Prop)
  (h1 : AWp P E n (.cond o c e) (Xa (fun s' => ∃ y, s'.keep ts os = sh y ∧ inv y) Q) s) (h2 : ∀ y, inv y → AWp P E n d Q (sh y)) : AWp P E n (.cond o c e) (Xa (AWp P E n d Q) Q) s := fun a w hw => wp_mono (h1 a w hw) fun e a' w' hl => by
 cases e with
 | normal =>
  obtain ⟨s', ⟨y, g1, g2⟩, g3⟩ := hl
  refine ⟨s'.keep ts os, ?_, g3.weaken (fun t p => xM s'.fr t p ts) (fun d o => xM s'.ob d o os)⟩
  rw [g1]
  exact h2 y g2
 | _ => exact hl
structure Hold (p : Prop) : Prop where
 out : p
theorem wl {p : Prop} (h : Hold p) : p := h.out
end
end
section
open Go.RowKit
structure InsM where
 op : Int
 a : Int
 b : Int
 c : Int
deriving DecidableEq
def zau (x : InsM) : List AV := [vI x.op, vI x.a, vI x.b, vI x.c]
def zz (l : List InsM) : List (List AV) := l.map zau
theorem zd (l : List InsM) : (zz l).length = l.length := by simp [zz]
theorem kZ {l : List InsM} {k : Nat} (h : k < l.length) : (zz l)[k]? = some [vI l[k].op, vI l[k].a, vI l[k].b, vI l[k].c] := by simp [zz, zau, h]
theorem wc (l : List InsM) (a b c d : Int) : zz l ++ [[vI a, vI b, vI c, vI d]] = zz (l ++ [⟨a, b, c, d⟩]) := by simp [zz, zau]
def pG (e : Bool) (C : List InsM) (N : List Int) : AV := .agg [.v (.bool e), .lst 4 (zz C), .lst 1 (v8 N)]
end
section
def yJ (l : List Int) (i j : Nat) : List Int := (l.set i (l.getD j 0)).set j (l.getD i 0)
theorem yx (l : List Int) (i j : Nat) : (yJ l i j).length = l.length := by simp [yJ]
theorem WC (l : List Int) (i k : Nat) (x : Int) (hi : i < l.length) : (l.set i x).getD k 0 = if i = k then x else l.getD k 0 := by
 by_cases h : i = k
 ·subst h; simp [List.getD, hi]
 ·simp [List.getD, List.getElem?_set_ne h, h]
theorem wF (l : List Int) (i j k : Nat) (hi : i < l.length) (hj : j < l.length) : (yJ l i j).getD k 0 = if k = j then l.getD i 0 else if k = i then l.getD j 0 else l.getD k 0 := by
 unfold yJ
 rw [WC _ _ _ _ (by simpa using hj), WC _ _ _ _ hi]
 by_cases h1 : j = k
 ·simp [h1]
 ·by_cases h2 : i = k
  ·simp [h1, h2, Ne.symm h1]
  ·simp [h1, h2, Ne.symm h1, Ne.symm h2]
theorem uP : ∀ (l : List Int) (i j : Nat), i < j → j < l.length → (yJ l i j).Perm l := by
 intro l
 induction l with
 | nil => intro i j _ h; simp at h
 | cons x l ih =>
  intro i j hij hj
  cases i with
  | zero =>
   obtain ⟨j, rfl⟩ : ∃ j', j = j' + 1 := ⟨j - 1, by omega⟩
   have hj' : j < l.length := by simpa using hj
   have : yJ (x :: l) 0 (j + 1) = l[j] :: l.set j x := by simp [yJ, List.getD, hj']
   rw [this]
   have h1 : (l.set j x).Perm (x :: (l.take j ++ l.drop (j + 1))) := by
    rw [List.set_eq_take_append_cons_drop, if_pos hj']; exact List.perm_middle
   have h2 : l.Perm (l[j] :: (l.take j ++ l.drop (j + 1))) := by
    conv => lhs; rw [← List.take_append_drop j l, List.drop_eq_getElem_cons hj']
    exact List.perm_middle
   exact ((h1.cons _).trans (List.Perm.swap _ _ _)).trans (h2.symm.cons _)
  | succ i =>
   obtain ⟨j, rfl⟩ : ∃ j', j = j' + 1 := ⟨j - 1, by omega⟩
   have : yJ (x :: l) (i + 1) (j + 1) = x :: yJ l i j := by simp [yJ, List.getD]
   rw [this]
   exact (ih i j (by omega) (by simpa using hj)).cons x
theorem qf (l : List Int) (i j : Nat) (hi : i < l.length) (hj : j < l.length) : (yJ l i j).Perm l := by
 rcases Nat.lt_trichotomy i j with h | h | h
 ·exact uP l i j h hj
 ·subst h
  have : yJ l i i = l := by simp [yJ, List.getD, hi]
  rw [this]
 ·have : yJ l i j = yJ l j i := by
   unfold yJ
   rw [List.set_comm _ _ (by omega)]
  rw [this]; exact uP l j i h hi
def zak (l : List Int) (k : Nat) : Prop := 0 < k → k < l.length → l.getD ((k - 1) / 2) 0 ≤ l.getD k 0
def qD (l : List Int) : Prop := ∀ k, zak l k
theorem Js {l : List Int} (h : qD l) : ∀ k, k < l.length → l.getD 0 0 ≤ l.getD k 0 := by
 intro k
 induction k using Nat.strongRecOn with
 | _ k ih =>
  intro hk
  rcases Nat.eq_zero_or_pos k with h0 | h0
  ·subst h0; exact Int.le_refl _
  ·exact Int.le_trans (ih ((k - 1) / 2) (by omega) (by omega)) (h k h0 hk)
def QD (l : List Int) (j : Nat) : Prop := (∀ k, k ≠ j → zak l k) ∧ ∀ k, 0 < k → k < l.length → (k - 1) / 2 = j → 0 < j → l.getD ((j - 1) / 2) 0 ≤ l.getD k 0
def upF : Nat → List Int → Nat → List Int
 | 0, l, _ => l
 | n + 1, l, j =>
  if (j - 1) / 2 = j ∨ ¬ l.getD j 0 < l.getD ((j - 1) / 2) 0 then l else upF n (yJ l ((j - 1) / 2) j) ((j - 1) / 2)
theorem qX : ∀ (n : Nat) (l : List Int) (j : Nat), j < l.length → (upF n l j).Perm l := by
 intro n
 induction n with
 | zero => intro l j _; exact List.Perm.refl _
 | succ n ih =>
  intro l j hj
  unfold upF
  split
  ·exact List.Perm.refl _
  ·exact (ih _ _ (by rw [yx]; omega)).trans (qf l _ _ (by omega) hj)
theorem Xz {l : List Int} {j : Nat} (h : QD l j) (hj : j < l.length) (h0 : 0 < j) (hlt : l.getD j 0 < l.getD ((j - 1) / 2) 0) : QD (yJ l ((j - 1) / 2) j) ((j - 1) / 2) := by
 obtain ⟨h1, h2⟩ := h
 have hp : (j - 1) / 2 < l.length := by omega
 have hg := fun k => wF l ((j - 1) / 2) j k hp hj
 refine ⟨fun k hk h0' hkl => ?_, fun k h0' hkl hkp hp0 => ?_⟩
 ·rw [yx] at hkl
  rw [hg, hg]
  by_cases e1 : k = j
  ·subst e1
   rw [if_pos rfl, if_neg (by omega), if_pos rfl]
   omega
  ·rw [if_neg e1]
   by_cases e2 : (k - 1) / 2 = j
   ·rw [if_pos e2, if_neg hk]
    exact h2 k h0' hkl e2 h0
   ·rw [if_neg e2]
    by_cases e3 : (k - 1) / 2 = (j - 1) / 2
    ·rw [if_pos e3, if_neg hk]
     have := h1 k e1 h0' hkl
     rw [e3] at this
     omega
    ·rw [if_neg e3, if_neg hk]
     exact h1 k e1 h0' hkl
 ·rw [yx] at hkl
  rw [hg, hg]
  have e1 : ((j - 1) / 2 - 1) / 2 ≠ j := by omega
  have e2 : ((j - 1) / 2 - 1) / 2 ≠ (j - 1) / 2 := by omega
  rw [if_neg e1, if_neg e2]
  have hpp := h1 ((j - 1) / 2) (by omega) hp0 hp
  by_cases e3 : k = j
  ·subst e3; rw [if_pos rfl]; exact hpp
  ·have e4 : k ≠ (j - 1) / 2 := by omega
   rw [if_neg e3, if_neg e4]
   have := h1 k e3 h0' hkl
   rw [hkp] at this
   omega
theorem Jt : ∀ (n : Nat) (l : List Int) (j : Nat), j < l.length → j < n → QD l j → qD (upF n l j) := by
 intro n
 induction n with
 | zero => intro l j _ h; omega
 | succ n ih =>
  intro l j hj hn h
  unfold upF
  split
  ·rename_i hc
   intro k
   by_cases hk : k = j
   ·subst hk
    intro h0 hkl
    rcases hc with hc | hc
    ·omega
    ·omega
   ·exact h.1 k hk
  ·rename_i hc
   have h0 : 0 < j := by omega
   exact ih _ _ (by rw [yx]; omega) (by omega) (Xz h hj h0 (by omega))
theorem QE {l : List Int} (h : qD l) (x : Int) : qD (upF (l.length + 1) (l ++ [x]) l.length) := by
 refine Jt _ _ _ (by simp) (by omega) ⟨fun k hk h0 hkl => ?_, fun k h0 hkl hkp _ => ?_⟩
 ·have hkl' : k < l.length := by simp at hkl; omega
  have := h k h0 hkl'
  simpa [List.getD, List.getElem?_append_left hkl', List.getElem?_append_left (show (k - 1) / 2 < l.length by omega)] using this
 ·simp at hkl; omega
def WD (l : List Int) (n i : Nat) : Prop := (∀ k, 0 < k → k < n → (k - 1) / 2 ≠ i → l.getD ((k - 1) / 2) 0 ≤ l.getD k 0) ∧ ∀ k, 0 < k → k < n → (k - 1) / 2 = i → 0 < i → l.getD ((i - 1) / 2) 0 ≤ l.getD k 0
def jQ (l : List Int) (n i : Nat) : Nat := if 2 * i + 2 < n ∧ l.getD (2 * i + 2) 0 < l.getD (2 * i + 1) 0 then 2 * i + 2 else 2 * i + 1
def wx : Nat → List Int → Nat → Nat → List Int
 | 0, l, _, _ => l
 | f + 1, l, n, i =>
  if n ≤ 2 * i + 1 ∨ ¬ l.getD (jQ l n i) 0 < l.getD i 0 then l else wx f (yJ l i (jQ l n i)) n (jQ l n i)
theorem kS {l : List Int} {n i : Nat} (h : 2 * i + 1 < n) : jQ l n i < n ∧ i < jQ l n i ∧ (jQ l n i - 1) / 2 = i := by
 unfold jQ; split <;> omega
theorem jR : ∀ (f : Nat) (l : List Int) (n i : Nat), n ≤ l.length → (wx f l n i).Perm l := by
 intro f
 induction f with
 | zero => intro l n i _; exact List.Perm.refl _
 | succ f ih =>
  intro l n i hn
  unfold wx
  split
  ·exact List.Perm.refl _
  ·rename_i hc
   have hk := kS (l := l) (n := n) (i := i) (by omega)
   exact (ih _ _ _ (by rw [yx]; exact hn)).trans (qf l _ _ (by omega) (by omega))
theorem Yx (f : Nat) (l : List Int) (n i : Nat) (h : n ≤ l.length) : (wx f l n i).length = l.length := (jR f l n i h).length_eq
theorem Vw : ∀ (f : Nat) (l : List Int) (n i : Nat), n ≤ l.length → ∀ k, n ≤ k → (wx f l n i).getD k 0 = l.getD k 0 := by
 intro f
 induction f with
 | zero => intro l n i _ k _; rfl
 | succ f ih =>
  intro l n i hn k hk
  unfold wx
  split
  ·rfl
  ·rename_i hc
   have h := kS (l := l) (n := n) (i := i) (by omega)
   rw [ih _ _ _ (by rw [yx]; exact hn) k hk, wF l _ _ _ (by omega) (by omega), if_neg (by omega), if_neg (by omega)]
theorem XA {l : List Int} {n i : Nat} (h : WD l n i) (hn : n ≤ l.length) (hi : 2 * i + 1 < n) (hlt : l.getD (jQ l n i) 0 < l.getD i 0) : WD (yJ l i (jQ l n i)) n (jQ l n i) := by
 obtain ⟨h1, h2⟩ := h
 have hk := kS (l := l) (n := n) (i := i) hi
 have hmin : ∀ k, 0 < k → k < n → (k - 1) / 2 = i → l.getD (jQ l n i) 0 ≤ l.getD k 0 := fun k k0 kn kp => by
  have hk12 : k = 2 * i + 1 ∨ k = 2 * i + 2 := by omega
  unfold jQ
  rcases hk12 with rfl | rfl
  ·split <;> omega
  ·split <;> omega
 generalize hj : jQ l n i = j at *
 have hg := fun k => wF l i j k (by omega) (by omega)
 refine ⟨fun k h0 hkn hkp => ?_, fun k h0 hkn hkp _ => ?_⟩
 ·rw [hg, hg, if_neg hkp]
  by_cases e1 : (k - 1) / 2 = i
  ·rw [if_pos e1]
   by_cases e2 : k = j
   ·rw [if_pos e2]; omega
   ·rw [if_neg e2, if_neg (by omega)]
    exact hmin k h0 hkn e1
  ·rw [if_neg e1]
   by_cases e2 : k = i
   ·subst e2
    rw [if_neg (by omega), if_pos rfl]
    exact h2 j (by omega) hk.1 hk.2.2 h0
   ·rw [if_neg (by omega : k ≠ j), if_neg e2]
    exact h1 k h0 hkn e1
 ·rw [hg, hg, hk.2.2, if_neg (by omega), if_pos rfl, if_neg (by omega), if_neg (by omega)]
  have := h1 k h0 hkn (by omega)
  rw [hkp] at this
  exact this
theorem Vx : ∀ (f : Nat) (l : List Int) (n i : Nat), n ≤ l.length → n ≤ i + f → WD l n i → ∀ k, 0 < k → k < n → (wx f l n i).getD ((k - 1) / 2) 0 ≤ (wx f l n i).getD k 0 := by
 intro f
 induction f with
 | zero =>
  intro l n i hn hf h k h0 hkn
  exact h.1 k h0 hkn (by omega)
 | succ f ih =>
  intro l n i hn hf h
  unfold wx
  split
  ·rename_i hc
   intro k h0 hkn
   by_cases hkp : (k - 1) / 2 = i
   ·rcases hc with hc | hc
    ·omega
    ·have hk12 : k = 2 * i + 1 ∨ k = 2 * i + 2 := by omega
     rw [hkp]
     unfold jQ at hc
     rcases hk12 with rfl | rfl
     ·split at hc <;> omega
     ·split at hc <;> omega
   ·exact h.1 k h0 hkn hkp
  ·rename_i hc
   have hk := kS (l := l) (n := n) (i := i) (by omega)
   exact ih _ _ _ (by rw [yx]; exact hn) (by omega) (XA h hn (by omega) (by omega))
def XB (l : List Int) : List Int := (wx l.length (yJ l 0 (l.length - 1)) (l.length - 1) 0).take (l.length - 1)
theorem WE {l : List Int} (h : l ≠ []) : (wx l.length (yJ l 0 (l.length - 1)) (l.length - 1) 0).getD (l.length - 1) 0 = l.getD 0 0 := by
 have hl : 0 < l.length := List.length_pos_iff.2 h
 rw [Vw _ _ _ _ (by rw [yx]; omega) _ (Nat.le_refl _), wF l _ _ _ hl (by omega), if_pos rfl]
theorem Ju {l : List Int} (h : l ≠ []) : (l.getD 0 0 :: XB l).Perm l := by
 have hl : 0 < l.length := List.length_pos_iff.2 h
 have h1 := jR l.length (yJ l 0 (l.length - 1)) (l.length - 1) 0 (by rw [yx]; omega)
 have h2 := qf l 0 (l.length - 1) hl (by omega)
 have h3 := WE h
 have h4 := h1.length_eq
 rw [yx] at h4
 unfold XB
 generalize wx l.length (yJ l 0 (l.length - 1)) (l.length - 1) 0 = m at *
 have hm : m = m.take (l.length - 1) ++ [l.getD 0 0] := by
  conv => lhs; rw [← List.take_append_drop (l.length - 1) m]
  rw [List.drop_eq_getElem_cons (by omega), List.drop_of_length_le (by omega)]
  congr 2
  rw [← h3, List.getD, List.getElem?_eq_getElem (by omega)]
  rfl
 have h5 : (l.getD 0 0 :: m.take (l.length - 1)).Perm m := by
  conv => rhs; rw [hm]
  exact (List.perm_append_comm (l₁ := [l.getD 0 0]) (l₂ := m.take (l.length - 1)))
 exact h5.trans (h1.trans h2)
theorem Jv {l : List Int} (h : qD l) : qD (XB l) := by
 intro k h0 hkl
 have hlen : (XB l).length ≤ l.length - 1 := by unfold XB; rw [List.length_take]; omega
 have hn : l.length - 1 ≤ (yJ l 0 (l.length - 1)).length := by rw [yx]; omega
 have hk : k < l.length - 1 := by omega
 have hd : WD (yJ l 0 (l.length - 1)) (l.length - 1) 0 := by
  refine ⟨fun k k0 kn kp => ?_, fun k _ _ _ h => by omega⟩
  rw [wF l _ _ _ (by omega) (by omega), wF l _ _ _ (by omega) (by omega), if_neg (by omega), if_neg (by omega), if_neg (by omega), if_neg (by omega)]
  exact h k k0 (by omega)
 have := Vx l.length _ _ 0 hn (by omega) hd k h0 hk
 unfold XB
 have ht : ∀ (m : List Int) (n k : Nat), k < n → (m.take n).getD k 0 = m.getD k 0 := fun m n k hk => by
  rw [List.getD, List.getD, List.getElem?_take_of_lt hk]
 rw [ht _ _ _ hk, ht _ _ _ (by omega)]
 exact this
end
end Go.Proofs.Ytfjajlcjifnceaa

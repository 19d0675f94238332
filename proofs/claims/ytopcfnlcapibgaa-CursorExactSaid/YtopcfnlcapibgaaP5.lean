import Derived.Laws.CopyRow
import Derived.Laws.IdiomCopy
import Derived.Test.YtopcfnlcapibgaaP4
set_option linter.all false
section
namespace Go.Proofs.Ytopcfnlcapibgaa
open Go.RowKit
/-! More of what a walk needs: nil that grows within a variable; values of which less is said. -/
instance (n : Int) : Decidable (I64 n) := by unfold I64; exact inferInstance
theorem AV.up_agg {l m : List AV} (h : AV.upL l m) : (AV.agg l).up (.agg m) := fun F β w x hx => by
  obtain ⟨g1, g2⟩ := AV.upL_get h
  cases hx with
  | s h => cases h
  | agg h1 h2 h3 =>
    refine .agg (h1.trans g1) h2 fun i c u hc hu => ?_
    obtain ⟨a, ha, hu'⟩ := g2 i c hc
    exact hu' _ _ _ _ (h3 i a u ha hu)
theorem AV.up_cons' {a b : AV} {l m : List AV} (h : a.up b) (h' : AV.upL l m) : AV.upL (a :: l) (b :: m) := ⟨h, h'⟩
theorem AV.upL_rfl : ∀ l : List AV, AV.upL l l
  | [] => trivial
  | a :: l => ⟨AV.up_rfl a, AV.upL_rfl l⟩
theorem AV.up_trans {a b c : AV} (h : a.up b) (h' : b.up c) : a.up c := fun F β w x hx => h' F β w x (h F β w x hx)
mutual
/-- the same, but for nil where an empty list is read -/
inductive Up : AV → AV → Prop
  | rfl (a : AV) : Up a a
  | nil (k : Nat) : Up (.v (.slice none 0 0)) (.lst k [])
  | agg {l m : List AV} : UpL l m → Up (.agg l) (.agg m)
  | tup {l m : List AV} : UpL l m → Up (.tup l) (.tup m)
  | lst {k : Nat} {xs ys : List (List AV)} : UpLL xs ys → Up (.lst k xs) (.lst k ys)
  | lsx {k : Nat} {xs ys zs : List (List AV)} : UpLL xs ys → Up (.lsx k xs zs) (.lst k ys)
inductive UpL : List AV → List AV → Prop
  | nil : UpL [] []
  | cons {a b : AV} {l m : List AV} : Up a b → UpL l m → UpL (a :: l) (b :: m)
inductive UpLL : List (List AV) → List (List AV) → Prop
  | nil : UpLL [] []
  | cons {a b : List AV} {l m : List (List AV)} : UpL a b → UpLL l m → UpLL (a :: l) (b :: m)
end
section
variable {F : Nat → Prop} {w : World}
mutual
theorem Up.svr : ∀ {a b : AV}, Up a b → ∀ {x : Value}, SVR F w a x → SVR F w b x
  | _, _, .rfl _, _, h => h
  | _, _, .nil k, x, h => by
    have := AV.up_nil k F (fun _ => none) w x (.s h)
    cases this with
    | s h => exact h
  | _, _, .agg _, _, h => by cases h
  | _, _, .tup _, _, h => by cases h
  | _, _, .lst hu, _, h => by
    cases h with
    | lst g h1 h2 h3 h4 h5 h6 h7 =>
      have hl := UpLL.svr hu
      refine .lst g (h1.trans hl.1) h2 h3 (fun cs hcs => ?_) h5 h6 fun i j cs u hc hu => ?_
      · obtain ⟨i, hi⟩ := List.getElem?_of_mem hcs
        obtain ⟨cs', h8, h9, _⟩ := hl.2 i cs hi
        rw [← h9]; exact h4 cs' (List.mem_of_getElem? h8)
      · obtain ⟨cs', h8, _, h10⟩ := hl.2 i cs hc
        obtain ⟨u', h11, h12⟩ := h10 j u hu
        exact h12 _ (h7 i j cs' u' h8 h11)
  | _, _, .lsx hu, _, h => by
    replace h := h.lsx_lst
    cases h with
    | lst g h1 h2 h3 h4 h5 h6 h7 =>
      have hl := UpLL.svr hu
      refine .lst g (h1.trans hl.1) h2 h3 (fun cs hcs => ?_) h5 h6 fun i j cs u hc hu => ?_
      · obtain ⟨i, hi⟩ := List.getElem?_of_mem hcs
        obtain ⟨cs', h8, h9, _⟩ := hl.2 i cs hi
        rw [← h9]; exact h4 cs' (List.mem_of_getElem? h8)
      · obtain ⟨cs', h8, _, h10⟩ := hl.2 i cs hc
        obtain ⟨u', h11, h12⟩ := h10 j u hu
        exact h12 _ (h7 i j cs' u' h8 h11)
theorem UpL.svr : ∀ {l m : List AV}, UpL l m → l.length = m.length ∧ ∀ (j : Nat) (u : AV), m[j]? = some u → ∃ u', l[j]? = some u' ∧ ∀ x, SVR F w u' x → SVR F w u x
  | _, _, .nil => ⟨Eq.refl _, fun j u h => by simp at h⟩
  | _, _, .cons h hl => by
    have h1 := fun x => Up.svr h (x := x)
    have h2 := UpL.svr hl
    refine ⟨by simp [h2.1], fun j u hu => ?_⟩
    cases j with
    | zero => simp only [List.getElem?_cons_zero, Option.some.injEq] at hu; subst hu; exact ⟨_, by simp, fun x hx => h1 x hx⟩
    | succ j => exact h2.2 j u (by simpa using hu)
theorem UpLL.svr : ∀ {l m : List (List AV)}, UpLL l m → l.length = m.length ∧ ∀ (i : Nat) (cs : List AV), m[i]? = some cs → ∃ cs', l[i]? = some cs' ∧ cs'.length = cs.length ∧ ∀ (j : Nat) (u : AV), cs[j]? = some u → ∃ u', cs'[j]? = some u' ∧ ∀ x, SVR F w u' x → SVR F w u x
  | _, _, .nil => ⟨Eq.refl _, fun j u h => by simp at h⟩
  | _, _, .cons h hl => by
    have h1 := UpL.svr h
    have h2 := UpLL.svr hl
    refine ⟨by simp [h2.1], fun j u hu => ?_⟩
    cases j with
    | zero => simp only [List.getElem?_cons_zero, Option.some.injEq] at hu; subst hu; exact ⟨_, by simp, h1.1, h1.2⟩
    | succ j => exact h2.2 j u (by simpa using hu)
end
end
mutual
theorem Up.up : ∀ {a b : AV}, Up a b → a.up b
  | _, _, .rfl a => AV.up_rfl a
  | _, _, .nil k => AV.up_nil k
  | _, _, .agg h => AV.up_agg (UpL.up h)
  | _, _, .tup h => AV.up_tup (UpL.up h)
  | _, _, .lst h => fun F β w x hx => by
    cases hx with
    | s hx => exact .s (Up.svr (.lst h) hx)
  | _, _, .lsx h => fun F β w x hx => by
    cases hx with
    | s hx => exact .s (Up.svr (.lsx h) hx)
theorem UpL.up : ∀ {l m : List AV}, UpL l m → AV.upL l m
  | _, _, .nil => trivial
  | _, _, .cons h hl => ⟨Up.up h, UpL.up hl⟩
end
theorem PCall.args {P : Program} {f : Nat} {as' bs : List AV} {R : AV → Prop} (hu : UpL as' bs) (h : PCall P f bs R) : PCall P f as' R :=
  ⟨h.1, fun w F vs h1 h2 h3 => h.2 w F vs h1 (by
    have := (AV.upL_get hu.up).1
    omega) fun i x v hx hv => by
    obtain ⟨a, ha, hau⟩ := (AV.upL_get hu.up).2 i x hx
    exact hau _ _ _ _ (h3 i a v ha hv)⟩
section
variable {P : Program} {T : Nat → Option TyD} {E : Env} {s s' : AState} {n : Nat} {Q : Exit → AState → Prop}
/-- nil within a variable, as an empty row of an object that has no block yet -/
def AState.nilvar (s : AState) (o j ty k d : Nat) (cs : List AV) : AState := { fr := (s.drop d).fr, ob := (o, .var ((AV.kill.killL d cs).set j (.ref ty k d 0 0))) :: (d, .row ty k []) :: (s.drop d).ob }
theorem aw_nilvar {c : Code} (o j ty k d : Nat) {cs : List AV} (hd : ownN d) (hne : o ≠ d) (ho : lk s.ob o = some (.var cs)) (hj : cs[j]? = some (.v (.slice none 0 0))) (h : AWp P E n c Q (s.nilvar o j ty k d cs)) : AWp P E n c Q s := fun a w ⟨hn, hdf, β, hs⟩ => by
  refine h a w ⟨hn, hdf, upd β d none, ?_⟩
  have h1 := hs.turn (β' := upd β d none) (w' := w) d hd (fun e he => upd_other β _ he) (fun b hb => by rw [upd_same] at hb; cases hb) (Keeps.refl _ _)
  have h2 := h1.add d (.row ty k []) ⟨fun cs h => (by cases h), .inl rfl⟩
  refine h2.add o _ ?_
  have h3 := h1.ob o (.var (AV.kill.killL d cs)) (by rw [lk_drop_ob, bif_ne hne, ho]; rfl)
  obtain ⟨b, arr, t, g1, g2, g3, g4⟩ := h3
  refine ⟨b, arr, t, g1, g2, by simpa using g3, fun i u hu => ?_⟩
  by_cases hij : j = i
  · subst hij
    have hlt : j < (AV.kill.killL d cs).length := by
      rw [AV.killL_eq, List.length_map]
      rcases Nat.lt_or_ge j cs.length with h | h
      · exact h
      · rw [List.getElem?_eq_none h] at hj; cases hj
    rw [List.getElem?_set_self hlt] at hu
    injection hu with hu
    subst hu
    obtain ⟨x, hx, hr, ho⟩ := g4 j (.v (.slice none 0 0)) (by rw [AV.killL_eq, List.getElem?_map, hj]; rfl)
    refine ⟨x, hx, ?_, ho⟩
    cases hr with
    | s h =>
    cases h with
    | v h => exact .nil
  · rw [List.getElem?_set_ne hij] at hu
    exact g4 i u hu
end
end Go.Proofs.Ytopcfnlcapibgaa
end
section
namespace Go.Proofs.Ytopcfnlcapibgaa
open Go.RowKit
section
variable {P : Program} {E : Env} {s : AState} {n : Nat} {ops : Array Oper} {Q : Exit → AState → Prop} {D : Dr} {rest : List Oper} {o : Oper}
/-- 'go_callG' of the call whose answer has this name -/
theorem go_callGd (d : Nat) (_ : o.dst = some d) (hi bk : List (Nat × Nat)) (K V : List Nat) {f : Nat} {as' : List AV} {p : Prop} {ob ob1 : List (Nat × AObj)} {r : AV} (h : callG n ops s o hi = some (f, as', p)) (hp : p) (hk : handOK hi bk K V = true)
    (hD : hi.all (fun p => D.W p.1) = true) (hds : D.ds o = true ∨ hi = []) (hob : obIn s hi hi = ob) (hc : GCall P f as' ob r ob1) (hm : AV.allIn.allInL hi (o.op.operands.toList.map s.ev) = true ∨ (r.nm = true ∧ obNm ob1))
    (hr : AListD P E n ops D rest Q ((s.back K V bk ob1).put o.dst true (r.ren bk))) : AListR P E n ops D (o :: rest) Q s := go_callG hi bk K V h hp hk hD hds hob hc hm hr
end
end Go.Proofs.Ytopcfnlcapibgaa
end
section
namespace Go.Proofs.Ytopcfnlcapibgaa
open Go.RowKit
section
variable {P : Program} {T : Nat → Option TyD} {E : Env} {s s' : AState} {tm : Array Value} {w : World} {β : Nat → Option Nat} {F F' : Nat → Prop} {n : Nat} {Q : Exit → AState → Prop}
theorem aw_frz {c : Code} (d : Nat) {t k : Nat} {xs : List (List AV)} (ho : lk s.ob d = some (.row t k xs)) (hd : d < 10000) (h : AWp P E n c Q (s.frz d t k xs)) : AWp P E n c Q s := fun a w ⟨hn, hdf, β, hs⟩ =>
  h a w ⟨hn, hdf, upd β d none, hs.frz (.inl hd) ho⟩
theorem aw_say {c : Code} (t : Nat) {x : AV} (y : AV) (ht : lk s.fr t = some (true, x)) (hu : x.up y) (h : AWp P E n c Q (s.say t y)) : AWp P E n c Q s := fun a w ⟨hn, hdf, β, hs⟩ => h a w ⟨hn, hdf, β, hs.say ht hu⟩
end
end Go.Proofs.Ytopcfnlcapibgaa
end
section
namespace Go.Proofs.Ytopcfnlcapibgaa
open Go.RowKit
/-! Calls whose answer is known but for a choice. -/
/-- as GCall: the answer and the objects behind it are those of some q of which I holds -/
def GCallE (P : Program) (f : Nat) (args : List AV) (ob : List (Nat × AObj)) {A : Type} (I : A → Prop) (r : A → AV) (ob' : A → List (Nat × AObj)) : Prop :=
  (∃ fn, P.funcs[f]? = some fn ∧ fn.body.isSome = true ∧ (fn.name == "runtime.NumGoroutine") = false) ∧
  ∀ (w : World) (F : Nat → Prop) (β : Nat → Option Nat) (vs : Array Value), GIn F β w ob → vs.size = args.length → (∀ (i : Nat) (x : AV) (v : Value), args[i]? = some x → vs[i]? = some v → AVR F β w x v) →
    Calls P f vs w fun e w' => ∃ q v β', I q ∧ e = .returned v ∧ GOut F β w β' w' (ob' q) ∧ AVR (GF F β β' w w') β' w' (r q) v
section
variable {P : Program} {T : Nat → Option TyD} {E : Env} {s s' : AState} {a : Act} {tm : Array Value} {w w' : World} {β β' : Nat → Option Nat} {F F' : Nat → Prop} {n : Nat} {ops : Array Oper} {Q : Exit → AState → Prop} {D : Dr} {rest : List Oper} {o : Oper} {A : Type} {I : A → Prop}
/-- what such a function's end must meet -/
def AEndE (T : Nat → Option TyD) (rs : List ResultVar) (I : A → Prop) (r : A → AV) (ob1 : A → List (Nat × AObj)) : Exit → AState → Prop
  | .ret, s | .normal, s => ∃ p r', resG T s rs = some (p, r') ∧ p ∧ ∃ q, I q ∧ (oneOf r').up (r q) ∧ obUp s.ob (ob1 q)
  | _, _ => False

theorem GCallE.intro (hT : TOK P T) {f : Nat} {fn : Func} {c : Code} {args : List AV} {ob : List (Nat × AObj)} {ob1 : A → List (Nat × AObj)} {r : A → AV} (hf : P.funcs[f]? = some fn) (hb : fn.body = some c) (hnm : (fn.name == "runtime.NumGoroutine") = false) (hn : args.length ≤ fn.ntmps)
    (h : ∀ E : Env, AWp P E fn.ntmps c (AEndE T fn.results.toList I r ob1) { fr := argsFr 0 args, ob := ob }) : GCallE P f args ob I r ob1 := by
  refine ⟨⟨fn, hf, by rw [hb]; rfl, hnm⟩, fun w F β vs hI hl hv => ?_⟩
  let E : Env := ⟨w, F, β, fun d b hd => (hI.rng d b hd).2.2, hI.fl, fun d b hd => (hI.rng d b hd).2.1⟩
  have hFF : ∀ b, F b → FF E β w b := fun b hb => ⟨hI.fl.lt b hb, .inl hb, fun d hd => (hI.rng d b hd).2.1 hb⟩
  have hs0 : SOK E fn.ntmps { fr := argsFr 0 args, ob := ob } { tmps := vs ++ Array.replicate (fn.ntmps - vs.size) undef, defers := [] } w := by
    refine ⟨by simp; omega, rfl, β, ⟨hI.inj, fun d b h => ⟨.inr h, (hI.rng d b h).1⟩, Keeps.refl _ _, fun d o h => ?_, fun t g x h _ => ?_, fun t x h => ?_, fun _ _ _ h => h, fun _ _ _ _ _ _ h => h⟩⟩
    · have := hI.ob d o h
      cases o with
      | row t k xs =>
        obtain ⟨hk, h⟩ := this
        refine ⟨hk, ?_⟩
        rcases h with h | ⟨b, arr, h1, h2, h3, h4⟩
        · exact .inl h
        · exact .inr ⟨b, arr, h1, h2, h3, fun i j cs u hc hu => by
            obtain ⟨x, hx, hr⟩ := h4 i j cs u hc hu
            exact ⟨x, hx, hr.mono hFF (fun _ _ => rfl)⟩⟩
      | var cs =>
        obtain ⟨b, arr, t, h1, h2, h3, h4⟩ := this
        exact ⟨b, arr, t, h1, h2, h3, fun j u hu => by
          obtain ⟨x, hx, hr, ho⟩ := h4 j u hu
          exact ⟨x, hx, hr.mono hFF (fun _ _ => rfl) (fun _ _ h => h) (fun _ _ _ _ _ h => h), ho⟩⟩
      | mapo es =>
        obtain ⟨b, arr, clk, h1, h2, h3, h4⟩ := this
        exact ⟨b, arr, clk, h1, h2, h3, fun i e m he hm => ⟨(h4 i e m he hm).1.mono hFF (fun _ _ => rfl), (h4 i e m he hm).2.mono hFF (fun _ _ => rfl)⟩⟩
    · obtain ⟨_, _, hx⟩ := lk_argsFr args 0 t g x h
      rw [Nat.sub_zero] at hx
      have hlt : t < vs.size := by rw [hl]; exact lt_of_get hx
      have hg : (vs ++ Array.replicate (fn.ntmps - vs.size) undef).getD t undef = vs[t] := by
        simp [Array.getElem?_append_left hlt, Array.getElem?_eq_getElem hlt]
      rw [hg]
      exact (hv t x vs[t] hx (Array.getElem?_eq_getElem hlt)).mono hFF (fun _ _ => rfl) (fun _ _ h => h) (fun _ _ _ _ _ h => h)
    · obtain ⟨h1, _⟩ := lk_argsFr args 0 t false x h
      cases h1
  have hend : ∀ (e : Exit) (a' : Act) (w' : World) (s' : AState), (e = .ret ∨ e = .normal) → AEndE T fn.results.toList I r ob1 e s' → SOK E fn.ntmps s' a' w' →
      a'.defers = [] ∧ ∃ v, (results fn a'.tmps).run P w' = .ok v w' ∧ ∃ q v' β', I q ∧ Ending.returned v = .returned v' ∧ GOut F β w β' w' (ob1 q) ∧ AVR (GF F β β' w w') β' w' (r q) v' := fun e a' w' s' he hE hS => by
    obtain ⟨_, hd, β', hs'⟩ := hS
    obtain ⟨p, r', h1, h2, q, hq, h3, h4⟩ : ∃ p r', resG T s' fn.results.toList = some (p, r') ∧ p ∧ ∃ q, I q ∧ (oneOf r').up (r q) ∧ obUp s'.ob (ob1 q) := by rcases he with rfl | rfl <;> exact hE
    obtain ⟨us, g1, g2, g3⟩ := resG_ok hT hs' _ _ _ h1 h2
    refine ⟨hd, (if h : us.toArray.size = 1 then us.toArray[0] else .tuple us.toArray), ?_, q, _, β', hq, rfl, ⟨hs'.old, hs'.inj, hs'.rng, hs'.fx, hs'.fs, obUp_ok h4 hs'.ob⟩, h3 _ _ _ _ ?_⟩
    · rw [results_eq, Sem.run_bind, Array.mapM_eq_mapM_toList, Sem.run_map, g1]
      rfl
    · show AVR (FF E β' w') β' w' _ _
      by_cases h1' : us.length = 1
      · obtain ⟨u, rfl⟩ := List.length_eq_one_iff.1 h1'
        obtain ⟨x, rfl⟩ := List.length_eq_one_iff.1 (g2.symm.trans h1')
        exact g3 0 x u rfl rfl
      · have hr1 : r'.length ≠ 1 := by omega
        have ho : oneOf r' = .tup r' := by
          unfold oneOf
          split
          · exact absurd rfl hr1
          · rfl
        rw [ho, dif_neg (by simpa using h1')]
        exact .tup (by simp [g2]) fun i x v hx hv' => g3 i x v hx (by simpa using hv')
  refine calls_of_wp hf hb (wp_mono (h E _ w hs0) fun e a' w' hl' => ?_)
  obtain ⟨s', hE, hS⟩ := hl'
  cases e with
  | normal => exact hend .normal a' w' s' (.inr rfl) hE hS
  | ret => exact hend .ret a' w' s' (.inl rfl) hE hS
  | _ => exact hE.elim
theorem go_fnE (hT : TOK P T) {f : Nat} {fn : Func} {c : Code} {args : List AV} {ob : List (Nat × AObj)} {ob1 : A → List (Nat × AObj)} {r : A → AV} {rs : List ResultVar} {n : Nat} (hf : P.funcs[f]? = some fn) (hb : fn.body = some c) (hnm : (fn.name == "runtime.NumGoroutine") = false) (hrs : fn.results.toList = rs) (hn : fn.ntmps = n)
    (hle : Nat.ble args.length n = true) (h : ∀ E : Env, AWp P E n c (AEndE T rs I r ob1) { fr := argsFr 0 args, ob := ob }) : GCallE P f args ob I r ob1 := by
  subst hrs
  subst hn
  exact GCallE.intro hT hf hb hnm (Nat.le_of_ble_eq_true hle) h

theorem go_callV (hi bk : List (Nat × Nat)) (K V : List Nat) {f : Nat} {as' : List AV} {p : Prop} {ob : List (Nat × AObj)} {ob1 : A → List (Nat × AObj)} {r : A → AV} (h : callG n ops s o hi = some (f, as', p)) (hp : p) (hk : handOK hi bk K V = true)
    (hD : hi.all (fun p => D.W p.1) = true) (hds : D.ds o = true ∨ hi = []) (hob : obIn s hi hi = ob) (hc : GCallE P f as' ob I r ob1) (hm : AV.allIn.allInL hi (o.op.operands.toList.map s.ev) = true ∨ (∀ q, (r q).nm = true ∧ obNm (ob1 q)))
    (hr : ∀ q, I q → AListD P E n ops D rest Q ((s.back K V bk (ob1 q)).put o.dst true ((r q).ren bk))) : AListR P E n ops D (o :: rest) Q s := by
  obtain ⟨hg, x, args, ats, first, cap, ho, hx, hgx, hdst, has, hall, hT⟩ := callG_spec h hp
  have H := handOK_ok hk
  intro a w β hn hd hs
  have hw := guard_ok (ops := ops) hs hg
  have hv := hs.ev x hgx (a := a) rfl
  rw [hx] at hv
  obtain ⟨rfl, rfl⟩ := func_plain hv
  generalize hux : a.eval x = ux at hv
  cases hv with | s hv => cases hv with | v hv =>
  obtain ⟨⟨fn, hf, hb, hnm⟩, hcall⟩ := hc
  have hopl : o.op.operands.toList = x :: args.toList := by rw [ho]; simp [Op.operands, Call.operands]
  refine step_list (by rw [ho]; rfl) hw (fun _ => ?_) (fun hGf => by cases hGf)
  unfold Oper.wp
  rw [exec_call (w := w) ho hux hf hb hnm]
  -- the blocks that the callee's arguments hang on
  have key : ∀ F : Nat → Prop, (∀ b, FF E β w b → F b) → FOK F w → (∀ b, F b → ¬ ∃ d, bIn hi β d = some b) →
      (∀ z ∈ args.toList, (s.ev z).allIn hi = true ∨ ∀ d b, lk hi d = none → β d = some b → F b) →
      (∀ (q : A) (β' : Nat → Option Nat) (w' : World), Keeps (fun b => ∃ d, bIn hi β d = some b) w w' → (∀ d b, β' d = some b → (w.heap.size ≤ b ∨ bIn hi β d = some b) ∧ b < w'.heap.size) →
        (∀ d o, lk (ob1 q) d = some o → ObjR (GF F (bIn hi β) β' w w') β' w' d o → ObjR (FF E (bBack bk K V β β') w') β' w' d o) ∧ ∀ v, AVR (GF F (bIn hi β) β' w w') β' w' (r q) v → AVR (FF E (bBack bk K V β β') w') β' w' (r q) v) →
      Calls P f (args.map a.eval) w (fun e w' => ∃ v, e = .returned v ∧ ∃ X', StepX (D.dst o) (XW D β) w X' w' ∧ wpListS P ops D (lift E n Q) (nrm E n D (Q .normal)) rest X' (a.put o.dst v) w') := fun F h1 h2 h3 h4 h5 => by
    refine (hcall w F (bIn hi β) (args.map a.eval) ⟨h2, fun d e b g1 g2 => ?_, fun d b hb => ?_, fun d ob' hd' => ?_⟩ (by rw [← has]; simp) fun i y v hy hv' => ?_).mono fun e w' ⟨q, v, β', hq, he, hout, hres⟩ => ?_
    · obtain ⟨g, k1, k2⟩ := bIn_some g1
      obtain ⟨g', k3, k4⟩ := bIn_some g2
      have := hs.inj g g' b k2 k4
      subst this
      have z1 := (H.hi2 g d k1).1
      rw [(H.hi2 g e k3).1] at z1
      injection z1 with z1
      exact z1.symm
    · obtain ⟨g, k1, k2⟩ := bIn_some hb
      exact ⟨(hs.rng g b k2).2, fun hF => h3 b hF ⟨d, hb⟩, (H.hi2 g d k1).2.1⟩
    · rw [← hob] at hd'
      obtain ⟨e, o', hm', ho', rfl⟩ := obIn_lk hd'
      have hed := H.him e d hm'
      have hin : ∀ d e b, lk hi d = some e → β d = some b → bIn hi β e = some b := fun d e b h1 h2 => by
        unfold bIn; rw [(H.hi1 d e h1).2.1]; exact h2
      exact (hs.ob e o' ho').ren h1 hin fun b hb => hin e d b hed hb
    · rw [Array.getElem?_map] at hv'
      cases hz : args[i]? with
      | none => rw [hz] at hv'; cases hv'
      | some z =>
        rw [hz] at hv'
        injection hv' with hv'
        subst hv'
        have hz' : args.toList[i]? = some z := by simpa using hz
        rw [← has, List.getElem?_map, hz'] at hy
        injection hy with hy
        subst hy
        have hmem := List.mem_of_getElem? hz'
        exact hand_ok hs H h1 (h4 z hmem) (hs.ev z (List.all_eq_true.1 hall z hmem) rfl) (hT z hmem)
    · obtain ⟨t1, t2⟩ := h5 q β' w' hout.keeps hout.rng
      have hs' := hs.called H hout.keeps hout.inj hout.rng hout.fx hout.fs (ob1 := ob1 q) fun d o hd' => t1 d o hd' (hout.ob d o hd')
      have hr' : AVR (FF E (bBack bk K V β β') w') (bBack bk K V β β') w' ((r q).ren bk) v := (t2 v hres).ren (fun _ h => h) fun d e b h hb => by rw [bBack_in H h]; exact hb
      obtain ⟨g1, g2, g3⟩ := putRel hn hd hs' hdst true ((r q).ren bk) (fun _ => hr') (fun h => by cases h)
      have hDW : ∀ g d, lk hi g = some d → D.W g = true := fun g d h => List.all_eq_true.1 hD (g, d) (lk_mem h)
      refine ⟨v, he, XW D (bBack bk K V β β'), ⟨fun hf => ?_, ⟨hout.keeps.size, fun b hb hx => hout.keeps.block b hb fun ⟨d, hd'⟩ => ?_⟩, fun b hb ⟨e, k1, k2⟩ => ?_⟩, hr q hq _ _ _ g1 g2 g3⟩
      · rcases hds with hds | rfl
        · simp only [Dr.dst, ho, isCallV, hds, Bool.and_true, Bool.or_true] at hf; cases hf
        · exact ⟨hout.keeps.size, fun b hb _ => hout.keeps.block b hb fun ⟨d, hd'⟩ => by obtain ⟨g, k1, _⟩ := bIn_some hd'; cases k1⟩
      · obtain ⟨g, k1, k2⟩ := bIn_some hd'
        exact hx ⟨g, hDW g d (H.hi2 g d k1).1, k2⟩
      · rcases bBack_some k2 with ⟨d, hd', hdb⟩ | ⟨_, _, _, heb⟩
        · rcases (hout.rng d b hdb).1 with h | h
          · omega
          · obtain ⟨g, k3, k4⟩ := bIn_some h
            have := (H.bk2 d e hd').2.2 g k3
            subst this
            exact ⟨g, k1, k4⟩
        · exact ⟨e, k1, heb⟩
  have fin : Calls P f (args.map a.eval) w (fun e w' => ∃ v, e = .returned v ∧ ∃ X', StepX (D.dst o) (XW D β) w X' w' ∧ wpListS P ops D (lift E n Q) (nrm E n D (Q .normal)) rest X' (a.put o.dst v) w') := by
    rcases hm with hm | hm12
    · refine key (FF E β w) (fun _ h => h) hs.glo (fun b hb ⟨d, hd'⟩ => ?_) (fun z hz => .inl (AV.allInL_mem hm _ (List.mem_map_of_mem (by rw [hopl]; exact .tail _ hz)))) (fun q β' w' hkp hrg => ?_)
      · obtain ⟨g, _, k2⟩ := bIn_some hd'
        exact hb.2.2 g k2
      · have hgf : ∀ b, GF (FF E β w) (bIn hi β) β' w w' b → FF E (bBack bk K V β β') w' b := fun b hb => by
          refine ⟨hb.1, ?_, fun e he => ?_⟩
          · rcases hb.2.1 with h | h | ⟨d, h⟩
            · exact h.2.1
            · exact .inr (.inl (Nat.le_trans hs.old.size h))
            · obtain ⟨g, _, k2⟩ := bIn_some h
              exact .inr ((hs.rng g b k2).1.imp id fun h => ⟨g, h⟩)
          · rcases bBack_some he with ⟨d, hd', hdb⟩ | ⟨_, heK, heV, heb⟩
            · exact hb.2.2 d hdb
            · rcases hb.2.1 with h | h | ⟨d, h⟩
              · exact h.2.2 e heb
              · have := (hs.rng e b heb).2; omega
              · obtain ⟨g, k1, k2⟩ := bIn_some h
                have := hs.inj e g b heb k2
                subst this
                rcases (H.hi2 e d k1).2.2 with h' | h'
                · exact heK h'
                · exact heV h'
        exact ⟨fun d o _ h => objF h hgf, fun v h => h.mono hgf (fun _ _ => rfl) (fun _ _ h => h) (fun _ _ _ _ _ h => h)⟩
    · have hsub : ∀ b, FF E β w b → b < w.heap.size ∧ ∀ d, bIn hi β d ≠ some b := fun b hb => ⟨hb.1, fun d hd' => by
        obtain ⟨g, _, k2⟩ := bIn_some hd'
        exact hb.2.2 g k2⟩
      refine key (fun b => b < w.heap.size ∧ ∀ d, bIn hi β d ≠ some b) hsub ⟨fun _ h => h.1, fun g vs h => ⟨hsub g (hs.glo.gl g vs h).1, (hs.glo.gl g vs h).2⟩⟩ (fun b hb ⟨d, hd'⟩ => hb.2 d hd') (fun z hz => .inr fun d b hd' hb => ⟨(hs.rng d b hb).2, fun d' hd2 => ?_⟩) (fun q β' w' hkp hrg => ⟨fun d o hd' h => obj_nm h (obNm_lk (hm12 q).2 hd'), fun v h => nm_ok h (hm12 q).1⟩)
      · obtain ⟨g, k1, k2⟩ := bIn_some hd2
        have := hs.inj g d b k2 hb
        subst this
        rw [(H.hi2 g d' k1).1] at hd'
        cases hd'
  exact fin.mono fun e w' ⟨v, he, h⟩ => by subst he; exact h


def EndEK {A : Type} (I : A → Prop) (r : A → AV) (ob : List (Nat × AObj)) (ob1 : A → List (Nat × AObj)) (z : Option (Prop × List AV)) : Prop := ∃ p l, z = some (p, l) ∧ p ∧ ∃ q, I q ∧ (oneOf l).up (r q) ∧ obUp ob (ob1 q)
theorem aweR {rs : List ResultVar} {r : A → AV} {ob1 : A → List (Nat × AObj)} (h : ∀ z, resG T s rs = z → EndEK I r s.ob ob1 z) : AEndE T rs I r ob1 .ret s := by
  obtain ⟨p, l, h1, h2, h3⟩ := h _ rfl
  exact ⟨p, l, h1, h2, h3⟩
theorem aweN {rs : List ResultVar} {r : A → AV} {ob1 : A → List (Nat × AObj)} (h : ∀ z, resG T s rs = z → EndEK I r s.ob ob1 z) : AEndE T rs I r ob1 .normal s := by
  obtain ⟨p, l, h1, h2, h3⟩ := h _ rfl
  exact ⟨p, l, h1, h2, h3⟩
theorem endEK {r : A → AV} {ob : List (Nat × AObj)} {ob1 : A → List (Nat × AObj)} {p : Prop} {l : List AV} (hp : p) (h : ∃ q, I q ∧ (oneOf l).up (r q) ∧ obUp ob (ob1 q)) : EndEK I r ob ob1 (some (p, l)) := ⟨p, l, rfl, hp, h⟩
theorem callGV {hi bk : List (Nat × Nat)} {K V : List Nat} {f : Nat} {as' : List AV} {p : Prop} {ob : List (Nat × AObj)} {ob1 : A → List (Nat × AObj)} {r : A → AV} {al : Bool} (hc : GCallE P f as' ob I r ob1) (hk : handOK hi bk K V = true) (hD : hi.all (fun p => D.W p.1) = true) (hds : D.ds o = true ∨ hi = [])
    (hp : p) (hm : al = true ∨ (∀ q, (r q).nm = true ∧ obNm (ob1 q))) (hr : ∀ q, I q → AListD P E n ops D rest Q ((s.back K V bk (ob1 q)).put o.dst true ((r q).ren bk))) : CallGK P E n ops D rest Q s o hi bk K V (some (f, as', p), ob, al) := fun h => by
  unfold callGE at h
  injection h with h1 h2
  injection h2 with h2 h3
  exact go_callV hi bk K V h1 hp hk hD hds h2 hc (hm.imp (fun e => h3.trans e) id) hr
end
end Go.Proofs.Ytopcfnlcapibgaa
end
section
namespace Go.Proofs.Ytopcfnlcapibgaa
open Go.RowKit
/-! append to a slice that begins within its row: it stays where it is, or it stands alone in a new block. -/
section
variable {P : Program} (w : World)
/-- n elements alone in a new block -/
def NewBlk (w w' : World) (e k n : Nat) (v' : Value) (cells : List Value) : Prop :=
  ∃ c cur, v' = .slice (some ⟨w.heap.size, 0, none⟩) n c ∧ n ≤ c ∧ c ≤ maxLen ∧ w.heap.size < w'.heap.size ∧ w'.heap[w.heap.size]? = some (.cells cur e (0, 0)) ∧ cur.size = c * k ∧ ∀ j, j < n * k → cur[j]? = cells[j]?
theorem run_append_newS (t ty e : TypeId) (i : TypeInfo) (z : Value) (ht : P.underlying t = some (.slice e)) (hi : P.info? e = some i) (hz : i.zero = some z) (hzs : z.cells.size = i.size) (base : Option Addr) (n cap : Nat) (olds : List Value) (hlo : olds.length = n * i.size)
    (hold : (Builtin.firstCells i.size n (.slice base n cap)).run P w.drew = .ok olds.toArray w.drew) (x : Value) (m : Nat) (news : List Value) (hs : Src P i.size t x m news w)
    (hg : cap < n + m) (h63 : n + m ≤ maxLen) (hbytes : (n + m) * i.bytes ≤ 140737488355328) :
    ∃ v' w', (Builtin.append_ #[t, t] ty #[.slice base n cap, x]).run P w = .ok v' w' ∧ Below w.heap.size w w' ∧ NewBlk w w' e i.size (n + m) v' (olds ++ news) := by
  have hrun := run_append_grow_src (P := P) w t t ty e i z ht hi hz base n cap olds hold x m news hs hg (by simp only [maxLen] at h63; omega) (growslice_fits hg hbytes)
  have hlen : (olds ++ news).length = (n + m) * i.size := by rw [List.length_append, hlo, hs.newsLen, Nat.add_mul]
  have hge := grownCap_ge w (n + m) cap e
  refine ⟨_, _, hrun, ⟨rfl, rfl, rfl, by simp, fun k hk => Below.heap_alloc w.drew _ k hk⟩, _, _, rfl, hge, grownCap_le_maxLen w (n + m) cap e h63, by simp, heap_alloc_new w.drew _, ?_, fun j hj => ?_⟩
  · simp only [Array.size_append, List.size_toArray, size_zeroCells, hzs, hlen, ← Nat.add_mul]
    rw [Nat.add_sub_cancel' hge]
  · rw [Array.getElem?_append_left (by simp only [List.size_toArray]; rw [hlen]; exact hj), List.getElem?_toArray]
theorem run_append_off (t ty e : TypeId) (i : TypeInfo) (z : Value) (ht : P.underlying t = some (.slice e)) (hi : P.info? e = some i) (hz : i.zero = some z) (hzs : z.cells.size = i.size)
    (g o n cap : Nat) (cur : Array Value) (hg : w.heap[g]? = some (.cells cur e (0, 0))) (hnc : n ≤ cap) (hcs : cur.size = o + cap * i.size) (x : Value) (m : Nat) (news : List Value)
    (hs : Src P i.size t x m news w) (h63 : n + m ≤ maxLen) (hbytes : (n + m) * i.bytes ≤ 140737488355328) :
    ∃ v' w', (Builtin.append_ #[t, t] ty #[.slice (some ⟨g, o, none⟩) n cap, x]).run P w = .ok v' w' ∧
      ((Keeps (fun b => b = g) w w' ∧ n + m ≤ cap ∧ v' = .slice (some ⟨g, o, none⟩) (n + m) cap ∧ ∃ cur', w'.heap[g]? = some (.cells cur' e (0, 0)) ∧ cur'.size = cur.size ∧ (∀ j, j < o + n * i.size → cur'[j]? = cur[j]?) ∧ ∀ j, j < m * i.size → cur'[o + n * i.size + j]? = news[j]?) ∨
       (Below w.heap.size w w' ∧ NewBlk w w' e i.size (n + m) v' ((cur.toList.drop o).take (n * i.size) ++ news))) := by
  have hnk : n * i.size ≤ cap * i.size := Nat.mul_le_mul_right _ hnc
  have hlo : ((cur.toList.drop o).take (n * i.size)).length = n * i.size := by
    rw [List.length_take, List.length_drop, Array.length_toList, hcs]; omega
  have hget : ∀ j, j < n * i.size → ((cur.toList.drop o).take (n * i.size))[j]? = cur[o + j]? := fun j hj => by
    rw [List.getElem?_take_of_lt hj, List.getElem?_drop, Array.getElem?_toList]
  by_cases hroom : n + m ≤ cap
  · have hfit : o + n * i.size + news.length ≤ cur.size := by
      have : (n + m) * i.size ≤ cap * i.size := Nat.mul_le_mul_right _ hroom
      rw [Nat.add_mul] at this
      rw [hs.newsLen, hcs]; omega
    have hst := run_storeCells_at P g (o + n * i.size) e news 0 cur w hg (by simpa using hfit) hs.one
    simp only [Nat.add_zero] at hst
    have hrun : (Builtin.append_ #[t, t] ty #[.slice (some ⟨g, o, none⟩) n cap, x]).run P w =
        .ok (.slice (some ⟨g, o, none⟩) (n + m) cap) (w.setRow g (cur.toList.take (o + n * i.size) ++ news ++ cur.toList.drop (o + n * i.size + news.length)).toArray) := by
      rcases hs.kind with ⟨e', hk⟩ | hk <;> simp [Builtin.append_, run_underlying ht, sizeOf, typeInfo, hi, hs.len, hroom, hs.cells, Addr.add_lit, hst]
    have hl1 : (cur.toList.take (o + n * i.size)).length = o + n * i.size := by rw [List.length_take, Array.length_toList]; omega
    refine ⟨_, _, hrun, .inl ⟨⟨rfl, rfl, rfl, by simp, fun b _ hn => setRow_other w g b _ hn⟩, hroom, rfl, _, setRow_heap w g cur _ e _ hg, ?_, fun j hj => ?_, fun j hj => ?_⟩⟩
    · simp only [List.size_toArray, List.length_append, List.length_take, List.length_drop, Array.length_toList]
      omega
    · rw [List.getElem?_toArray, List.append_assoc, List.getElem?_append_left (by rw [hl1]; exact hj), List.getElem?_take_of_lt hj, Array.getElem?_toList]
    · rw [List.getElem?_toArray, List.append_assoc, List.getElem?_append_right (by rw [hl1]; omega), hl1, List.getElem?_append_left (by rw [hs.newsLen]; omega)]
      congr 1
      omega
  · have holds : ∀ j u, ((cur.toList.drop o).take (n * i.size))[j]? = some u → w.drew.cell? ((⟨g, o, none⟩ : Addr).add j) = some u := fun j u hu => by
      have hj : j < n * i.size := by
        rw [← hlo]
        exact lt_of_get hu
      rw [hget j hj] at hu
      rw [Addr.add_lit]
      exact (cell_of_row w g (o + j) cur e (0, 0) hg).trans hu
    obtain ⟨v', w', h1, h2, h3⟩ := run_append_newS (P := P) w t ty e i z ht hi hz hzs (some ⟨g, o, none⟩) n cap _ hlo (run_firstCells_some w.drew i.size n _ n cap _ hlo holds) x m news hs (by omega) h63 hbytes
    exact ⟨v', w', h1, .inr ⟨h2, h3⟩⟩
end
section
variable {P : Program} {T : Nat → Option TyD} {E : Env} {s : AState} {tm : Array Value} {w w' : World} {β : Nat → Option Nat} {n : Nat} {ops : Array Oper} {Q : Exit → AState → Prop} {rest : List Oper} {o : Oper}
/-- the state behind it: pre is what stands ahead of it in its row -/
def AState.off (s : AState) (d e k : Nat) (pre zs : List (List AV)) : AState := { fr := (s.drop d).fr, ob := (d, .row e k (pre ++ zs)) :: (s.drop d).ob }
theorem appoff_ok (hT : TOK P T) (hs : SRel E s tm w β) {t e k d off m : Nat} {xs ys : List (List AV)} {b : AV} {dt de : TyD} (hTt : T t = some dt) (hsh : dt.sh = .slice e) (hTe : T e = some de) (hk : k = de.size) (hdo : ownN d)
    (hob : lk s.ob d = some (.row e k xs)) (hlen : off + m = xs.length) (hel : elemsAV s b = some ys) (hwid : b.width k = true) (hin : inAV s b) (hk0 : 0 < de.size) (hb0 : 0 < de.bytes) (hbytes : (m + ys.length) * de.bytes ≤ 140737488355328) {x y : Value}
    (hx : AVR (FF E β w) β w (.ref e k d off m) x) (hy : AVR (FF E β w) β w b y) (ty : Nat) :
    ∃ v w' β' pre, (Builtin.append_ #[t, t] ty #[x, y]).run P w = .ok v w' ∧ (pre = xs.take off ∨ pre = []) ∧ SRel E (s.off d e k pre (xs.drop off ++ ys)) tm w' β' ∧ AVR (FF E β' w') β' w' (.ref e k d pre.length (m + ys.length)) v ∧
      (∀ e b, b < w.heap.size → β' e = some b → β e = some b) ∧ ExtX (fun b => β d = some b) w w' := by
  obtain ⟨d1, d2, d3, d4⟩ := dt
  dsimp only at hsh
  subst hsh
  subst hk
  have hu := T_slice hT hTt rfl
  obtain ⟨⟨i, z, hi, hsz, hby, hz, hzc⟩, hzl, _, _⟩ := hT e de hTe
  have hzs : z.cells.size = i.size := by rw [hzc, hsz]; simp [hzl]
  have hlb : m + ys.length ≤ 140737488355328 := Nat.le_trans (Nat.le_mul_of_pos_right _ hb0) hbytes
  obtain ⟨A, l, c, g, rfl, hl, hrow, hone, hyk, hyr⟩ := (elems_ok hs hy hel hwid fun t k' d off len t' k'' xs ha hl => by subst ha; simp only [inAV, hl] at hin; exact hin).ex
  have hfl := flatG_length g l de.size
  have hsrc : Src P i.size t (.slice A l c) l (flatG g l de.size) w := by
    have hone' : ∀ u ∈ flatG g l de.size, u.oneCell' = true := fun u hu' => by obtain ⟨i', j', h1, h2, rfl⟩ := flatG_mem g l de.size hu'; exact hone i' j' h1 h2
    rcases A with _ | ad
    · have hn : flatG g l de.size = [] := by
        rcases hfe : flatG g l de.size with _ | ⟨x, r⟩
        · rfl
        · rw [hfe] at hrow
          obtain ⟨b, off, h, _⟩ := hrow (by simp)
          cases h
      have hm0 : l = 0 := by
        rw [hn] at hfl
        rcases Nat.eq_zero_or_pos l with h0 | h0
        · exact h0
        · have := Nat.mul_pos h0 hk0
          simp at hfl
          omega
      subst hm0
      rw [hn]
      exact Src.ofNil w hu c
    · refine Src.ofSlice w hu ad l c _ (by rw [hsz]; exact hfl) (fun j u hu' => ?_) hone'
      have hj : 0 < (flatG g l de.size).length := by
        have := lt_of_get hu'
        omega
      obtain ⟨b, off, h, _, hc⟩ := hrow hj
      injection h with h
      subst h
      rw [Addr.add_lit]
      exact hc j u hu'
  obtain ⟨hxk, hxr⟩ := hs.ob d _ hob
  have hyc : ∀ (i j : Nat) (cs : List AV) (u : AV), ys[i]? = some cs → cs[j]? = some u → (flatG g l de.size)[i * de.size + j]? = some (g i j) ∧ SVR (FF E β w) w u (g i j) := fun i j cs u h1 h2 => by
    have hi' : i < l := by rw [hl]; exact lt_of_get h1
    have hj : j < de.size := by rw [← hyk cs (List.mem_of_getElem? h1)]; exact lt_of_get h2
    exact ⟨flatG_get g l de.size hi' hj, hyr i j cs u h1 h2⟩
  have hdl : (xs.drop off).length = m := by rw [List.length_drop]; omega
  have hzk : ∀ cs ∈ xs.drop off ++ ys, cs.length = de.size := fun cs hcs => by
    rcases List.mem_append.1 hcs with h | h
    · exact hxk cs (List.mem_of_mem_drop h)
    · exact hyk cs h
  have hzl2 : (xs.drop off ++ ys).length = m + l := by rw [List.length_append, hdl, hl]
  have hFb : ∀ {w' : World}, Keeps (fun b => β d = some b) w w' → ∀ β' : Nat → Option Nat, (∀ e b, β' e = some b → β e = some b ∨ w.heap.size ≤ b) → ∀ b, FF E β w b → FF E β' w' b := fun hK β' hβ b ⟨h1, h2, h3⟩ => ⟨Nat.lt_of_lt_of_le h1 hK.size, h2, fun e he => by
    rcases hβ e b he with h | h
    · exact h3 e h
    · omega⟩
  -- it stands alone in a new block
  have fresh : ∀ (v : Value) (w' : World) (olds : List Value), (Builtin.append_ #[t, t] ty #[x, .slice A l c]).run P w = .ok v w' → Below w.heap.size w w' → NewBlk w w' e de.size (m + l) v (olds ++ flatG g l de.size) → olds.length = m * de.size →
      (∀ (i j : Nat) (cs : List AV) (u : AV), (xs.drop off)[i]? = some cs → cs[j]? = some u → ∃ x, olds[i * de.size + j]? = some x ∧ SVR (FF E β w) w u x) →
      ∃ v w' β' pre, (Builtin.append_ #[t, t] ty #[x, .slice A l c]).run P w = .ok v w' ∧ (pre = xs.take off ∨ pre = []) ∧ SRel E (s.off d e de.size pre (xs.drop off ++ ys)) tm w' β' ∧ AVR (FF E β' w') β' w' (.ref e de.size d pre.length (m + ys.length)) v ∧
        (∀ e b, b < w.heap.size → β' e = some b → β e = some b) ∧ ExtX (fun b => β d = some b) w w' := by
    intro v w' olds hrun hB ⟨c1, cur, hv, hc1, hc2, hlt, hh, hcs, hcell⟩ hol hold
    have hK : Keeps (fun b => β d = some b) w w' := .of_below _ hB
    have hup : ∀ f b, upd β d (some w.heap.size) f = some b → (f ≠ d ∧ β f = some b) ∨ (f = d ∧ b = w.heap.size) := fun f b h => by
      by_cases hf : f = d
      · subst hf; rw [upd_same] at h; injection h with h; exact .inr ⟨rfl, h.symm⟩
      · rw [upd_other β _ hf] at h; exact .inl ⟨hf, h⟩
    have hS := hs.turn (β' := upd β d (some w.heap.size)) d hdo (fun f hf => upd_other β _ hf) (fun b hb => by rw [upd_same] at hb; injection hb with hb; exact .inr ⟨by omega, by omega⟩) hK
    have hF := hFb hK (upd β d (some w.heap.size)) fun f b h => by
      rcases hup f b h with h | h
      · exact .inl h.2
      · exact .inr (by omega)
    have hFw : ∀ b, FF E β w b → w'.heap[b]? = w.heap[b]? := fun b h => hK.block b h.1 (h.2.2 d)
    refine ⟨v, w', _, [], hrun, .inr rfl, hS.add d _ ⟨hzk, .inr ⟨w.heap.size, cur, upd_same _ _ _, hh, by rw [hcs, List.nil_append, hzl2]; exact Nat.mul_le_mul_right _ hc1, fun i j cs u h1 h2 => ?_⟩⟩, ?_, fun f b hb h => ?_, ⟨hK.size, fun b hb hn => hK.block b hb hn⟩⟩
    · rw [List.nil_append] at h1
      have hj : j < de.size := by rw [← hzk cs (List.mem_of_getElem? h1)]; exact lt_of_get h2
      have hi' : i < m + l := by rw [← hzl2]; exact lt_of_get h1
      have hlt2 : i * de.size + j < (m + l) * de.size := by
        have : (i + 1) * de.size ≤ (m + l) * de.size := Nat.mul_le_mul_right _ hi'
        rw [Nat.add_mul] at this
        omega
      rw [hcell _ hlt2]
      by_cases him : i < m
      · rw [List.getElem?_append_left (by rw [hdl]; exact him)] at h1
        obtain ⟨x0, hx0, hr0⟩ := hold i j cs u h1 h2
        have hlo : i * de.size + j < olds.length := lt_of_get hx0
        exact ⟨x0, by rw [List.getElem?_append_left hlo]; exact hx0, hr0.mono hF hFw⟩
      · rw [List.getElem?_append_right (by rw [hdl]; omega), hdl] at h1
        obtain ⟨q1, q2⟩ := hyc (i - m) j cs u h1 h2
        have hge : m * de.size ≤ i * de.size := Nat.mul_le_mul_right _ (by omega)
        refine ⟨_, ?_, q2.mono hF hFw⟩
        rw [List.getElem?_append_right (by rw [hol]; omega), hol, ← q1, Nat.sub_mul]
        congr 1
        omega
    · subst hv
      rw [← hl]
      exact .ref (upd_same _ _ _) hc1 hc2 (by rw [List.length_nil, Nat.zero_mul]) ⟨cur, hh, by rw [List.length_nil, Nat.zero_add]; exact hcs⟩
    · rcases hup f b h with h | h
      · exact h.2
      · omega
  -- nothing there, nothing more
  have bare : ∀ A0 : Option Addr, m = 0 → x = .slice A0 0 0 → (A0 = none ∨ 0 < off) →
      ∃ v w' β' pre, (Builtin.append_ #[t, t] ty #[x, .slice A l c]).run P w = .ok v w' ∧ (pre = xs.take off ∨ pre = []) ∧ SRel E (s.off d e de.size pre (xs.drop off ++ ys)) tm w' β' ∧ AVR (FF E β' w') β' w' (.ref e de.size d pre.length (m + ys.length)) v ∧
        (∀ e b, b < w.heap.size → β' e = some b → β e = some b) ∧ ExtX (fun b => β d = some b) w w' := by
    intro A0 hm0 hxe hA0
    subst hm0
    subst hxe
    rcases Nat.eq_zero_or_pos l with h0 | h0
    · have hys : ys = [] := List.eq_nil_of_length_eq_zero (by omega)
      subst h0
      have hn0 : flatG g 0 de.size = [] := List.eq_nil_of_length_eq_zero (by rw [hfl, Nat.zero_mul])
      rw [hn0] at hsrc
      have hdr : xs.drop off = [] := List.eq_nil_of_length_eq_zero hdl
      have htk : xs.take off = xs := take_len (by omega)
      have hS := hs.turn (β' := β) (w' := w) d hdo (fun _ _ => rfl) (fun b hb => .inl hb) (Keeps.refl _ _)
      refine ⟨_, _, β, xs.take off, run_append_nothing w t t ty e i hu hi A0 0 0 (Nat.le_refl _) _ hsrc, .inl rfl, ?_, ?_, fun _ _ _ h => h, ⟨Nat.le_refl _, fun _ _ _ => rfl⟩⟩
      · rw [hdr, hys, htk, AState.off, List.append_nil, List.append_nil]
        exact hS.add d _ ⟨hxk, hxr⟩
      · rw [hys, List.length_nil]
        rcases hA0 with rfl | h
        · exact .nil
        · cases A0 with
          | none => exact .nil
          | some A0 => exact .empty (by rw [List.length_take]; omega)
    · have hold : (Builtin.firstCells i.size 0 (.slice A0 0 0)).run P w.drew = .ok ([] : List Value).toArray w.drew := by
        cases A0 with
        | none => exact run_firstCells_none w.drew i.size 0 0 0
        | some a => exact run_firstCells_some w.drew i.size 0 a 0 0 [] (by simp) (by intro j v h; simp at h)
      obtain ⟨v, w', g1, g2, g3⟩ := run_append_newS (P := P) w t ty e i z hu hi hz hzs A0 0 0 [] (by simp) hold _ l _ hsrc (by omega) (by simp only [maxLen]; omega) (by rw [hby, hl]; exact hbytes)
      rw [hsz] at g3
      exact fresh v w' [] g1 g2 g3 (by simp) fun i j cs u h1 h2 => by
        rw [List.eq_nil_of_length_eq_zero hdl] at h1
        simp at h1
  cases hx with
  | s h => cases h
  | nil => exact bare none rfl rfl (.inl rfl)
  | empty h => exact bare _ rfl rfl (.inr h)
  | @ref _ _ _ _ _ c0 b0 A0 g1 g2 g3 g4 g5 =>
    subst g4
    obtain ⟨arr, harr, hasz⟩ := g5
    rw [Nat.add_mul] at hasz
    obtain ⟨v, w', hrun, hcase⟩ := run_append_off (P := P) w t ty e i z hu hi hz hzs b0 (off * de.size) m c0 arr harr g2 (by rw [hsz]; exact hasz) _ l _ hsrc (by simp only [maxLen]; omega) (by rw [hby, hl]; exact hbytes)
    rw [hsz] at hcase
    have hxa : ∀ (i j : Nat) (cs : List AV) (u : AV), xs[i]? = some cs → cs[j]? = some u → i * de.size + j < off * de.size + m * de.size ∧ ∃ x, arr[i * de.size + j]? = some x ∧ SVR (FF E β w) w u x := fun i j cs u h1 h2 => by
      have hi' : i < off + m := by rw [hlen]; exact lt_of_get h1
      have hj : j < de.size := by rw [← hxk cs (List.mem_of_getElem? h1)]; exact lt_of_get h2
      have : (i + 1) * de.size ≤ (off + m) * de.size := Nat.mul_le_mul_right _ hi'
      rw [Nat.add_mul, Nat.add_mul] at this
      refine ⟨by omega, ?_⟩
      rcases hxr with rfl | ⟨b', arr', e1, e2, e3, e4⟩
      · simp at h1
      · rw [g1] at e1
        injection e1 with e1
        subst e1
        rw [harr] at e2
        injection e2 with e2
        injection e2 with e2 _
        subst e2
        exact e4 i j cs u h1 h2
    rcases hcase with ⟨hK, hroom, hv, cur', hc1, hc2, hc3, hc4⟩ | ⟨hB, hN⟩
    · have hK' : Keeps (fun b => β d = some b) w w' := ⟨hK.os, hK.tape, hK.output, hK.size, fun b hb hn => hK.block b hb fun h => hn (by rw [h]; exact g1)⟩
      have hS := hs.turn (β' := β) d hdo (fun _ _ => rfl) (fun b hb => .inl hb) hK'
      have hF := hFb hK' β fun f b h => .inl h
      have hFw : ∀ b, FF E β w b → w'.heap[b]? = w.heap[b]? := fun b h => hK'.block b h.1 (h.2.2 d)
      have htl : (xs.take off).length = off := by rw [List.length_take]; omega
      have hall : xs.take off ++ (xs.drop off ++ ys) = xs ++ ys := by rw [← List.append_assoc, List.take_append_drop]
      refine ⟨v, w', β, xs.take off, hrun, .inl rfl, ?_, ?_, fun _ _ _ h => h, ⟨hK.size, fun b hb hn => hK'.block b hb hn⟩⟩
      · rw [AState.off, hall]
        refine hS.add d _ ⟨fun cs hcs => ?_, .inr ⟨b0, cur', g1, hc1, ?_, fun i j cs u h1 h2 => ?_⟩⟩
        · rcases List.mem_append.1 hcs with h | h
          · exact hxk cs h
          · exact hyk cs h
        · rw [hc2, hasz, List.length_append, ← hlen, Nat.add_mul, Nat.add_mul, ← hl]
          have : (m + l) * de.size ≤ c0 * de.size := Nat.mul_le_mul_right _ hroom
          rw [Nat.add_mul] at this
          omega
        · by_cases hix : i < xs.length
          · rw [List.getElem?_append_left hix] at h1
            obtain ⟨q1, x0, q2, q3⟩ := hxa i j cs u h1 h2
            exact ⟨x0, (hc3 _ q1).trans q2, q3.mono hF hFw⟩
          · rw [List.getElem?_append_right (by omega)] at h1
            obtain ⟨q1, q2⟩ := hyc (i - xs.length) j cs u h1 h2
            have hj : j < de.size := by rw [← hyk cs (List.mem_of_getElem? h1)]; exact lt_of_get h2
            have hil : i - xs.length < l := by rw [hl]; exact lt_of_get h1
            have hlt2 : (i - xs.length) * de.size + j < l * de.size := by
              have : (i - xs.length + 1) * de.size ≤ l * de.size := Nat.mul_le_mul_right _ hil
              rw [Nat.add_mul] at this
              omega
            have h4 := hc4 _ hlt2
            rw [q1] at h4
            refine ⟨_, ?_, q2.mono hF hFw⟩
            rw [← h4]
            congr 1
            have : (off + m) * de.size ≤ i * de.size := Nat.mul_le_mul_right _ (by omega)
            rw [Nat.sub_mul, ← hlen, Nat.add_mul]
            rw [Nat.add_mul] at this
            omega
      · subst hv
        rw [htl, ← hl]
        refine .ref g1 hroom g3 rfl ⟨cur', hc1, ?_⟩
        rw [hc2, hasz, Nat.add_mul]
    · refine fresh v w' _ hrun hB hN ?_ fun i j cs u h1 h2 => ?_
      · rw [List.length_take, List.length_drop, Array.length_toList, hasz]
        have : m * de.size ≤ c0 * de.size := Nat.mul_le_mul_right _ g2
        omega
      · have hi' : i < m := by rw [← hdl]; exact lt_of_get h1
        rw [List.getElem?_drop] at h1
        obtain ⟨q1, x0, q2, q3⟩ := hxa (off + i) j cs u h1 h2
        have hj : j < de.size := by rw [← hxk cs (List.mem_of_getElem? h1)]; exact lt_of_get h2
        have hlt2 : i * de.size + j < m * de.size := by
          have : (i + 1) * de.size ≤ m * de.size := Nat.mul_le_mul_right _ hi'
          rw [Nat.add_mul] at this
          omega
        refine ⟨x0, ?_, q3⟩
        rw [List.getElem?_take_of_lt hlt2, List.getElem?_drop, Array.getElem?_toList, ← q2, Nat.add_mul, Nat.add_assoc]
/-- the rule, as a walk takes it -/
theorem al_appoff (hT : TOK P T) {x y : Operand} {t e k d off m : Nat} {xs ys : List (List AV)} {dt de : TyD} (hG : guardAV ops s o.guard = some true) (ho : o.op = .call ⟨.builtin .append, #[x, y], #[t, t]⟩) (hdst : dstOK n o.dst) (hgx : s.gd x = true) (hgy : s.gd y = true)
    (hx : s.ev x = .ref e k d off m) (hTt : T t = some dt) (hsh : dt.sh = .slice e) (hTe : T e = some de) (hk : k = de.size) (hdo : ownN d) (hob : lk s.ob d = some (.row e k xs)) (hlen : off + m = xs.length)
    (hel : elemsAV s (s.ev y) = some ys) (hwid : (s.ev y).width k = true) (hin : inAV s (s.ev y)) (hk0 : 0 < de.size) (hb0 : 0 < de.bytes) (hbytes : (m + ys.length) * de.bytes ≤ 140737488355328)
    {p0 zs : List (List AV)} {l : Nat} (hp0 : xs.take off = p0) (hzs : xs.drop off ++ ys = zs) (hl : m + ys.length = l) (hr : ∀ pre : List (List AV), pre = p0 ∨ pre = [] → AListD P E n ops seqD rest Q ((s.off d e k pre zs).put o.dst true (.ref e k d pre.length l))) : AListR P E n ops seqD (o :: rest) Q s := by
  subst hp0
  subst hzs
  subst hl
  intro a w β hn hd hs
  have hw := guard_ok (ops := ops) hs hG
  have vx := hs.ev x hgx (a := a) rfl
  have vy := hs.ev y hgy (a := a) rfl
  rw [hx] at vx
  obtain ⟨v, w', β', pre, h1, h2, h3, h4, h5, h6⟩ := appoff_ok (P := P) hT hs hTt hsh hTe hk hdo hob hlen hel hwid hin hk0 hb0 hbytes vx vy o.type
  refine step_list (by rw [ho]; rfl) hw (fun _ => ?_) (fun hGf => by cases hGf)
  obtain ⟨g1, g2, g3⟩ := putRel hn hd h3 hdst true _ (fun _ => h4) (fun h => by cases h)
  refine wp_value (v := v) (w' := w') (by simp [execOp, ho, resolve, invoke, builtin, h1]) ⟨XW seqD β', StepX.dst (o := o) ⟨fun h => ?_, ⟨h6.1, fun b hb hn => h6.2 b hb fun hd' => hn ⟨d, rfl, hd'⟩⟩, XW_old h5⟩, hr pre h2 _ _ _ g1 g2 g3⟩
  rw [ho] at h
  cases h
end
end Go.Proofs.Ytopcfnlcapibgaa
end
section
namespace Go.Proofs.Ytopcfnlcapibgaa
open Go.RowKit
/-! copy; strings of slices of the call's own. -/
section
variable {P : Program} {T : Nat → Option TyD} {E : Env} {s : AState} {tm : Array Value} {w w' : World} {β : Nat → Option Nat} {n : Nat} {ops : Array Oper} {Q : Exit → AState → Prop} {rest : List Oper} {o : Oper} {D : Dr}
/-- what a copy leaves -/
def cpy (xs ys : List (List AV)) (off c : Nat) : List (List AV) := xs.take off ++ ys.take c ++ xs.drop (off + c)
theorem cpy_zero (xs ys : List (List AV)) (off : Nat) : cpy xs ys off 0 = xs := by simp [cpy]
theorem copy_ok (hT : TOK P T) (hs : SRel E s tm w β) {t t' e d off m : Nat} {xs ys : List (List AV)} {b : AV} {dt de : TyD} (hTt : T t = some dt) (hsh : dt.sh = .slice e) (hTe : T e = some de) (hk : de.size = 1)
    (hob : lk s.ob d = some (.row e 1 xs)) (hlen : off + m ≤ xs.length) (hel : elemsAV s b = some ys) (hwid : b.width 1 = true) (hin : inAV s b) {x y : Value} (hx : AVR (FF E β w) β w (.ref e 1 d off m) x) (hy : AVR (FF E β w) β w b y) (ty : Nat) :
    ∃ w', (Builtin.copy_ #[t, t'] ty #[x, y]).run P w = .ok (.int .i64 (min ys.length m : Nat)) w' ∧ SRel E { fr := s.fr, ob := (d, .row e 1 (cpy xs ys off (min ys.length m))) :: rm d s.ob } tm w' β ∧ ExtX (fun b => β d = some b) w w' := by
  obtain ⟨d1, d2, d3, d4⟩ := dt
  dsimp only at hsh
  subst hsh
  have hu := T_slice hT hTt rfl
  obtain ⟨⟨i, z, hi, hsz, hby, hz, hzc⟩, hzl, _, _⟩ := hT e de hTe
  have hs1 : (P.info? e).map (·.size) = some 1 := by rw [hi, Option.map_some, hsz, hk]
  obtain ⟨A, l, c, g, rfl, hl, hrow, hone, hyk, hyr⟩ := (elems_ok hs hy hel hwid fun t k' d off len t' k'' xs ha hl => by subst ha; simp only [inAV, hl] at hin; exact hin).ex
  subst hl
  have hsame : SRel E { fr := s.fr, ob := (d, .row e 1 xs) :: rm d s.ob } tm w β := hs.weaken (fun t g a h => h) fun d' o h => by
    have h' : lk ((d, AObj.row e 1 xs) :: rm d s.ob) d' = some o := h
    rw [lk_cons, lk_rm] at h'
    by_cases he' : d = d'
    · subst he'
      rw [bif_eq rfl] at h'
      rw [hob]; exact h'
    · rw [bif_ne he', bif_ne (Ne.symm he')] at h'; exact h'
  have zero0 : ∀ (A0 : Option Addr) (m0 c0 : Nat), x = .slice A0 m0 c0 → m0 = m → min ys.length m = 0 → ∃ w', (Builtin.copy_ #[t, t'] ty #[x, .slice A ys.length c]).run P w = .ok (.int .i64 (min ys.length m : Nat)) w' ∧ SRel E { fr := s.fr, ob := (d, .row e 1 (cpy xs ys off (min ys.length m))) :: rm d s.ob } tm w' β ∧ ExtX (fun b => β d = some b) w w' := by
    intro A0 m0 c0 hxe hm hmin
    subst hxe
    subst hm
    rw [hmin, cpy_zero]
    exact ⟨w, run_copy_none w t t' ty e A0 A m0 c0 ys.length c hu hs1 hmin, hsame, ⟨Nat.le_refl _, fun _ _ _ => rfl⟩⟩
  cases hx with
  | s h => cases h
  | nil => exact zero0 _ _ _ rfl rfl (by omega)
  | empty h => exact zero0 _ _ _ rfl rfl (by omega)
  | @ref _ _ _ _ _ c0 b0 A0 g1 g2 g3 g4 g5 =>
    rcases Nat.eq_zero_or_pos (min ys.length m) with h0 | h0
    · exact zero0 _ _ _ rfl rfl h0
    subst g4
    rw [Nat.mul_one]
    obtain ⟨arr, harr, hasz⟩ := g5
    rw [Nat.mul_one] at hasz
    have hfl := flatG_length g ys.length 1
    rw [Nat.mul_one] at hfl
    obtain ⟨bs, os, hA, hbs, hcell⟩ := hrow (by rw [hfl]; omega)
    subst hA
    generalize hq : min ys.length m = q at *
    have hcl : ((flatG g ys.length 1).take q).length = q := by rw [List.length_take, hfl]; omega
    have hg : ∀ j, j < ys.length → (flatG g ys.length 1)[j]? = some (g j 0) := fun j hj => by
      have := flatG_get g ys.length 1 hj (Nat.zero_lt_one)
      simpa using this
    have hrun := run_copy_row (P := P) w t t' ty e b0 off m c0 ⟨bs, os, none⟩ ys.length c arr e ((flatG g ys.length 1).take q) hu hs1 harr (hcl.trans hq.symm) (fun j v hv => by
      rw [Addr.add_lit]
      have hj : j < q := by rw [← hcl]; exact lt_of_get hv
      rw [List.getElem?_take_of_lt hj] at hv
      exact hcell j v hv) (by rw [hcl]; omega) (fun v hv => by
      obtain ⟨i', j', h1, h2, rfl⟩ := flatG_mem g ys.length 1 (List.mem_of_mem_take hv)
      exact hone i' j' h1 h2)
    rw [hcl] at hrun
    have hK : Keeps (fun b => β d = some b) w (w.setRow b0 (arr.toList.take off ++ (flatG g ys.length 1).take q ++ arr.toList.drop (off + q)).toArray) := ⟨rfl, rfl, rfl, by simp, fun b _ hn => setRow_other w b0 b _ fun h => hn (by rw [h]; exact g1)⟩
    have hh := setRow_heap w b0 arr (arr.toList.take off ++ (flatG g ys.length 1).take q ++ arr.toList.drop (off + q)).toArray e (0, 0) harr
    have hsz2 : (arr.toList.take off ++ (flatG g ys.length 1).take q ++ arr.toList.drop (off + q)).toArray.size = arr.size := by
      simp only [List.size_toArray, List.length_append, List.length_take, List.length_drop, Array.length_toList, hfl]
      omega
    have hF : ∀ b, FF E β w b → FF E β (w.setRow b0 (arr.toList.take off ++ (flatG g ys.length 1).take q ++ arr.toList.drop (off + q)).toArray) b := fun b ⟨h1, h2, h3⟩ => ⟨Nat.lt_of_lt_of_le h1 hK.size, h2, h3⟩
    have hFw : ∀ b, FF E β w b → (w.setRow b0 (arr.toList.take off ++ (flatG g ys.length 1).take q ++ arr.toList.drop (off + q)).toArray).heap[b]? = w.heap[b]? := fun b h => hK.block b h.1 (h.2.2 d)
    have hC := hs.content d hK fun b t n hb ⟨arr', h1, h2⟩ => by
      rw [g1] at hb
      injection hb with hb
      subst hb
      rw [harr] at h1
      injection h1 with h1
      injection h1 with h1 h1'
      subst h1
      subst h1'
      exact ⟨_, hh, hsz2.trans h2⟩
    obtain ⟨hxk, hxr⟩ := hs.ob d _ hob
    have hxe : xs ≠ [] := fun h => by have := congrArg List.length h; rw [List.length_nil] at this; omega
    have hl1 : (arr.toList.take off).length = off := by rw [List.length_take, Array.length_toList]; omega
    have hx1 : (xs.take off).length = off := by rw [List.length_take]; omega
    have hy1 : (ys.take q).length = q := by rw [List.length_take]; omega
    refine ⟨_, hrun, hC.add d _ ⟨fun cs hcs => ?_, .inr ⟨b0, _, g1, hh, ?_, fun i j cs u h1 h2 => ?_⟩⟩, ⟨hK.size, fun b hb hn => hK.block b hb hn⟩⟩
    · rw [cpy] at hcs
      rcases List.mem_append.1 hcs with h | h
      · rcases List.mem_append.1 h with h | h
        · exact hxk cs (List.mem_of_mem_take h)
        · exact hyk cs (List.mem_of_mem_take h)
      · exact hxk cs (List.mem_of_mem_drop h)
    · rw [hsz2, cpy, List.length_append, List.length_append, hx1, hy1, List.length_drop]
      rcases hxr with rfl | ⟨b', arr', e1, e2, e3, e4⟩
      · simp at hlen; omega
      · rw [g1] at e1
        injection e1 with e1
        subst e1
        rw [harr] at e2
        injection e2 with e2
        injection e2 with e2 _
        subst e2
        omega
    · have hcs1 : cs.length = 1 := by
        rw [cpy] at h1
        rcases List.mem_append.1 (List.mem_of_getElem? h1) with h | h
        · rcases List.mem_append.1 h with h | h
          · exact hxk cs (List.mem_of_mem_take h)
          · exact hyk cs (List.mem_of_mem_take h)
        · exact hxk cs (List.mem_of_mem_drop h)
      have hj : j = 0 := by have := lt_of_get h2; omega
      subst hj
      rw [Nat.mul_one, Nat.add_zero, List.getElem?_toArray]
      have hxa : ∀ i cs, xs[i]? = some cs → cs[0]? = some u → ∃ x, arr[i]? = some x ∧ SVR (FF E β w) w u x := fun i cs h1 h2 => by
        obtain ⟨b', arr', e1, e2, e3, e4⟩ := hxr.resolve_left hxe
        · rw [g1] at e1
          injection e1 with e1
          subst e1
          rw [harr] at e2
          injection e2 with e2
          injection e2 with e2 _
          subst e2
          have := e4 i 0 cs u h1 h2
          rwa [Nat.mul_one, Nat.add_zero] at this
      rw [cpy] at h1
      by_cases hi1 : i < off
      · rw [List.append_assoc, List.getElem?_append_left (by omega), List.getElem?_take_of_lt hi1] at h1
        obtain ⟨x0, q1, q2⟩ := hxa i cs h1 h2
        exact ⟨x0, by rw [List.append_assoc, List.getElem?_append_left (by omega), List.getElem?_take_of_lt hi1, Array.getElem?_toList]; exact q1, q2.mono hF hFw⟩
      · by_cases hi2 : i < off + q
        · rw [List.append_assoc, List.getElem?_append_right (by omega), hx1, List.getElem?_append_left (by omega), List.getElem?_take_of_lt (by omega)] at h1
          have hiy : i - off < ys.length := lt_of_get h1
          refine ⟨g (i - off) 0, ?_, (hyr _ 0 cs u h1 h2).mono hF hFw⟩
          rw [List.append_assoc, List.getElem?_append_right (by omega), hl1, List.getElem?_append_left (by omega), List.getElem?_take_of_lt (by omega), hg _ hiy]
        · rw [List.getElem?_append_right (by rw [List.length_append]; omega), List.length_append, hx1, hy1, List.getElem?_drop, show off + q + (i - (off + q)) = i by omega] at h1
          obtain ⟨x0, q1, q2⟩ := hxa i cs h1 h2
          refine ⟨x0, ?_, q2.mono hF hFw⟩
          rw [List.getElem?_append_right (by rw [List.length_append]; omega), List.length_append, hl1, hcl, List.getElem?_drop, show off + q + (i - (off + q)) = i by omega, Array.getElem?_toList]
          exact q1
/-- copy, as a walk takes it -/
theorem al_copy (hT : TOK P T) {x y : Operand} {t t' e d off m : Nat} {xs ys : List (List AV)} {dt de : TyD} (hG : guardAV ops s o.guard = some true) (ho : o.op = .call ⟨.builtin .copy, #[x, y], #[t, t']⟩) (hdst : dstOK n o.dst) (hgx : s.gd x = true) (hgy : s.gd y = true)
    (hx : s.ev x = .ref e 1 d off m) (hTt : T t = some dt) (hsh : dt.sh = .slice e) (hTe : T e = some de) (hk : de.size = 1) (hob : lk s.ob d = some (.row e 1 xs)) (hlen : off + m ≤ xs.length)
    (hel : elemsAV s (s.ev y) = some ys) (hwid : (s.ev y).width 1 = true) (hin : inAV s (s.ev y))
    {zs : List (List AV)} {c : Nat} (hc : min ys.length m = c) (hzs : cpy xs ys off c = zs) (hr : AListD P E n ops seqD rest Q (({ fr := s.fr, ob := (d, .row e 1 zs) :: rm d s.ob } : AState).put o.dst true (.v (.int .i64 (c : Nat))))) : AListR P E n ops seqD (o :: rest) Q s := by
  subst hc
  subst hzs
  intro a w β hn hd hs
  have hw := guard_ok (ops := ops) hs hG
  have vx := hs.ev x hgx (a := a) rfl
  have vy := hs.ev y hgy (a := a) rfl
  rw [hx] at vx
  obtain ⟨w', h1, h3, h6⟩ := copy_ok (P := P) (t' := t') hT hs hTt hsh hTe hk hob hlen hel hwid hin vx vy o.type
  refine step_list (by rw [ho]; rfl) hw (fun _ => ?_) (fun hGf => by cases hGf)
  obtain ⟨g1, g2, g3⟩ := putRel hn hd h3 hdst true (.v (.int .i64 (min ys.length m : Nat))) (v := .int .i64 (min ys.length m : Nat)) (fun _ => .s (.v rfl)) (fun h => by cases h)
  refine wp_value (w' := w') (by simp [execOp, ho, resolve, invoke, builtin, h1]) ⟨XW seqD β, StepX.dst (o := o) ⟨fun h => ?_, ⟨h6.1, fun b hb hn => h6.2 b hb fun hd' => hn ⟨d, rfl, hd'⟩⟩, fun _ _ h => h⟩, hr _ _ _ g1 g2 g3⟩
  rw [ho] at h
  cases h
/-- the string of a slice of the call's own -/
theorem al_conv (hT : TOK P T) {x : Operand} {t t' : Nat} {p : Prop} {r : AV} (hG : guardAV ops s o.guard = some true) (ho : o.op = .convert t t' x) (hdst : dstOK n o.dst) (hgx : s.gd x = true) (hwk : D.wk o = true)
    (hsn : (s.ev x).snapOK s) (hc : convAV T t t' ((s.ev x).snap s) = some (p, r)) (hp : p) (hfl : r.flat = true) (hr : AListD P E n ops D rest Q (s.put o.dst true r)) : AListR P E n ops D (o :: rest) Q s := by
  intro a w β hn hd hs
  have hw := guard_ok (ops := ops) hs hG
  have vx := snap_ok (F' := fun b => b < w.heap.size) hs (fun b hb => hb.1) (fun d b hb => (hs.rng d b hb).2) (hs.ev x hgx (a := a) rfl) hsn
  obtain ⟨u, h1, h2⟩ := convAV_ok (X := noX) hT hc hp (fun b _ => noX_not b) vx
  obtain ⟨g1, g2, g3⟩ := putRel hn hd hs hdst true r (v := u) (fun _ => flat_ok h1 hfl) (fun h => by cases h)
  refine step_N (v := u) (by rw [ho]; rfl) hw (fun _ w' hw' => ?_) (fun h => by cases h) (hr _ _ _ g1 g2 g3)
  rw [hwk, if_pos rfl] at hw'
  have := h2 w' hw'
  simp [execOp, ho, this]
end
end Go.Proofs.Ytopcfnlcapibgaa
end
section
namespace Go.Proofs.Ytopcfnlcapibgaa
open Go.RowKit
/-! numbers and truths -/
abbrev vU8 (c : Int) : AV := .v (.int .u8 c)
abbrev vB (b : Bool) : AV := .v (.bool b)
abbrev vI (n : Int) : AV := .v (.int .i64 n)
end Go.Proofs.Ytopcfnlcapibgaa
end
section
namespace Go.Proofs.Ytopcfnlcapibgaa
open Go.RowKit
set_option maxRecDepth 100000
set_option maxHeartbeats 8000000
/-! cursor.Input. -/
def encB (l : List Int) : List (List AV) := l.map fun b => [.v (.int .u8 b)]
theorem encB_len (l : List Int) : (encB l).length = l.length := by simp [encB]
theorem encB_app (a b : List Int) : encB a ++ encB b = encB (a ++ b) := by simp [encB]
theorem encB_get {l : List Int} {i : Nat} (h : i < l.length) : (encB l)[i]? = some [.v (.int .u8 l[i])] := by simp [encB, h]
theorem encB_take (l : List Int) (n : Nat) : (encB l).take n = encB (l.take n) := by simp [encB]
theorem encB_drop (l : List Int) (n : Nat) : (encB l).drop n = encB (l.drop n) := by simp [encB]
theorem encB_at {pre hs : List Int} {i : Nat} (h : i < hs.length) : (encB (pre ++ hs))[pre.length + i]? = some [.v (.int .u8 hs[i])] := by
  rw [encB_get (by simp; omega)]
  simp
/-- an input: what was there, what waits -/
def inO (pre hs : List Int) (at_ : Int) (over : Bool) : List (Nat × AObj) := [(10000, .var [.ref 5 1 15000 pre.length hs.length, vI at_, vB over]), (15000, .row 5 1 (encB (pre ++ hs)))]
def okIn (hs : List Int) (at_ : Int) : Prop := hs.length ≤ 1000000000 ∧ 0 ≤ at_ ∧ at_ ≤ 1000000000000
theorem gone_G (pre hs : List Int) (at_ : Int) (over : Bool) (h : okIn hs at_) (k : Nat) (hk : k ≤ hs.length) :
    GCall Try.prog 39 [.ptr 1 10000 0 0, vI k] (inO pre hs at_ over) (.tup []) (inO (pre ++ hs.take k) (hs.drop k) (at_ + k) over) := by
  obtain ⟨h1, h2, h3⟩ := h
  have hw := wrap_i64 (n := at_ + k) (by omega)
  have zk : ((k : Int)).toNat = k := by omega
  have e : inO (pre ++ hs.take k) (hs.drop k) (at_ + k) over = [(10000, .var [.ref 5 1 15000 (pre.length + k) (hs.length - k), vI (at_ + k), vB over]), (15000, .row 5 1 (encB (pre ++ hs)))] := by
    simp [inO, Nat.min_eq_left hk]
  rw [e]
  unfold inO
  refine go_fnG (tyOf_ok _) Try.func39 rfl rfl (by rw [Try.results39]) Try.ntmps39 rfl fun E => ?_
  (repeat' (first
    | exact trivial
    | (with_reducible first | refine awA ?_ | refine awB ?_ | refine awC ?_ | refine awD ?_ | refine awE ?_ | refine awF ?_ | refine awG ?_ | refine awH ?_ | refine awI ?_ | refine awJ ?_ | refine awK ?_ | refine awL ?_ | refine awM (by decide) ?_)
    | ((with_reducible first | refine awN (tyOf_ok _) [] ?_ | refine awO (tyOf_ok _) [] ?_ | refine awP (tyOf_ok _) [] ?_ | refine awQ ?_ | refine awR ?_ | refine awS ?_ | refine awT ?_ | refine awU ?_); intro r hr; simp only [go_sem, Nat.reduceBEq, Nat.reduceBneDiff, Nat.reduceLT, Nat.reduceLeDiff, Nat.reduceAdd, Nat.reduceMul, Nat.reduceSub, Nat.reduceEqDiff, reduceCtorEq, inO, hw, zk] at hr; subst hr; (first | refine awV ?_ ?_ | refine awW ?_ ?_ | refine endK ?_ ?_ | refine endGK ?_ ?_ ?_ | (refine condK (fun h => ?_) (fun h => ?_) <;> (try simp only [go_sem, reduceCtorEq] at h) <;> (try (exfalso; omega))))) | fail)) <;> (try omega)
  all_goals first | exact AV.up_rfl _ | exact obUp_cons rfl (obUp_cons rfl obUp_nil)
theorem ended_G (pre hs : List Int) (at_ : Int) (over : Bool) : GCall Try.prog 19 [.ptr 1 10000 0 0] (inO pre hs at_ over) (vB over) (inO pre hs at_ over) := by
  unfold inO
  refine go_fnG (tyOf_ok _) Try.func19 rfl rfl (by rw [Try.results19]) Try.ntmps19 rfl fun E => ?_
  (repeat' (first
    | exact trivial
    | (with_reducible first | refine awA ?_ | refine awB ?_ | refine awC ?_ | refine awD ?_ | refine awE ?_ | refine awF ?_ | refine awG ?_ | refine awH ?_ | refine awI ?_ | refine awJ ?_ | refine awK ?_ | refine awL ?_ | refine awM (by decide) ?_)
    | ((with_reducible first | refine awN (tyOf_ok _) [] ?_ | refine awO (tyOf_ok _) [] ?_ | refine awP (tyOf_ok _) [] ?_ | refine awQ ?_ | refine awR ?_ | refine awS ?_ | refine awT ?_ | refine awU ?_); intro r hr; simp only [go_sem, Nat.reduceBEq, Nat.reduceBneDiff, Nat.reduceLT, Nat.reduceLeDiff, Nat.reduceAdd, Nat.reduceMul, Nat.reduceSub, Nat.reduceEqDiff, reduceCtorEq, inO] at hr; subst hr; (first | refine awV ?_ ?_ | refine awW ?_ ?_ | refine endK ?_ ?_ | refine endGK ?_ ?_ ?_ | (refine condK (fun h => ?_) (fun h => ?_) <;> (try simp only [go_sem, reduceCtorEq] at h) <;> (try (exfalso; omega))))) | fail)) <;> (try omega)
  all_goals first | exact AV.up_rfl _ | exact obUp_cons rfl (obUp_cons rfl obUp_nil)
theorem at_G (pre hs : List Int) (at_ : Int) (over : Bool) : GCall Try.prog 16 [.ptr 1 10000 0 0] (inO pre hs at_ over) (vI at_) (inO pre hs at_ over) := by
  unfold inO
  refine go_fnG (tyOf_ok _) Try.func16 rfl rfl (by rw [Try.results16]) Try.ntmps16 rfl fun E => ?_
  (repeat' (first
    | exact trivial
    | (with_reducible first | refine awA ?_ | refine awB ?_ | refine awC ?_ | refine awD ?_ | refine awE ?_ | refine awF ?_ | refine awG ?_ | refine awH ?_ | refine awI ?_ | refine awJ ?_ | refine awK ?_ | refine awL ?_ | refine awM (by decide) ?_)
    | ((with_reducible first | refine awN (tyOf_ok _) [] ?_ | refine awO (tyOf_ok _) [] ?_ | refine awP (tyOf_ok _) [] ?_ | refine awQ ?_ | refine awR ?_ | refine awS ?_ | refine awT ?_ | refine awU ?_); intro r hr; simp only [go_sem, Nat.reduceBEq, Nat.reduceBneDiff, Nat.reduceLT, Nat.reduceLeDiff, Nat.reduceAdd, Nat.reduceMul, Nat.reduceSub, Nat.reduceEqDiff, reduceCtorEq, inO] at hr; subst hr; (first | refine awV ?_ ?_ | refine awW ?_ ?_ | refine endK ?_ ?_ | refine endGK ?_ ?_ ?_ | (refine condK (fun h => ?_) (fun h => ?_) <;> (try simp only [go_sem, reduceCtorEq] at h) <;> (try (exfalso; omega))))) | fail)) <;> (try omega)
  all_goals first | exact AV.up_rfl _ | exact obUp_cons rfl (obUp_cons rfl obUp_nil)
theorem held_G (pre hs : List Int) (at_ : Int) (over : Bool) : GCall Try.prog 17 [.ptr 1 10000 0 0] (inO pre hs at_ over) (vI hs.length) (inO pre hs at_ over) := by
  unfold inO
  refine go_fnG (tyOf_ok _) Try.func17 rfl rfl (by rw [Try.results17]) Try.ntmps17 rfl fun E => ?_
  (repeat' (first
    | exact trivial
    | (with_reducible first | refine awA ?_ | refine awB ?_ | refine awC ?_ | refine awD ?_ | refine awE ?_ | refine awF ?_ | refine awG ?_ | refine awH ?_ | refine awI ?_ | refine awJ ?_ | refine awK ?_ | refine awL ?_ | refine awM (by decide) ?_)
    | ((with_reducible first | refine awN (tyOf_ok _) [] ?_ | refine awO (tyOf_ok _) [] ?_ | refine awP (tyOf_ok _) [] ?_ | refine awQ ?_ | refine awR ?_ | refine awS ?_ | refine awT ?_ | refine awU ?_); intro r hr; simp only [go_sem, Nat.reduceBEq, Nat.reduceBneDiff, Nat.reduceLT, Nat.reduceLeDiff, Nat.reduceAdd, Nat.reduceMul, Nat.reduceSub, Nat.reduceEqDiff, reduceCtorEq, inO] at hr; subst hr; (first | refine awV ?_ ?_ | refine awW ?_ ?_ | refine endK ?_ ?_ | refine endGK ?_ ?_ ?_ | (refine condK (fun h => ?_) (fun h => ?_) <;> (try simp only [go_sem, reduceCtorEq] at h) <;> (try (exfalso; omega))))) | fail)) <;> (try omega)
  all_goals first | exact AV.up_rfl _ | exact obUp_cons rfl (obUp_cons rfl obUp_nil)
theorem end_G (pre hs : List Int) (at_ : Int) (over : Bool) : GCall Try.prog 18 [.ptr 1 10000 0 0] (inO pre hs at_ over) (vI (if over = true then 30 else 0)) (inO pre hs at_ true) := by
  unfold inO
  cases over
  · refine go_fnG (tyOf_ok _) Try.func18 rfl rfl (by rw [Try.results18]) Try.ntmps18 rfl fun E => ?_
    (repeat' (first
    | exact trivial
    | (with_reducible first | refine awA ?_ | refine awB ?_ | refine awC ?_ | refine awD ?_ | refine awE ?_ | refine awF ?_ | refine awG ?_ | refine awH ?_ | refine awI ?_ | refine awJ ?_ | refine awK ?_ | refine awL ?_ | refine awM (by decide) ?_)
    | ((with_reducible first | refine awN (tyOf_ok _) [] ?_ | refine awO (tyOf_ok _) [] ?_ | refine awP (tyOf_ok _) [] ?_ | refine awQ ?_ | refine awR ?_ | refine awS ?_ | refine awT ?_ | refine awU ?_); intro r hr; simp only [go_sem, Nat.reduceBEq, Nat.reduceBneDiff, Nat.reduceLT, Nat.reduceLeDiff, Nat.reduceAdd, Nat.reduceMul, Nat.reduceSub, Nat.reduceEqDiff, reduceCtorEq, inO] at hr; subst hr; (first | refine awV ?_ ?_ | refine awW ?_ ?_ | refine endK ?_ ?_ | refine endGK ?_ ?_ ?_ | (refine condK (fun h => ?_) (fun h => ?_) <;> (try simp only [go_sem, reduceCtorEq] at h) <;> (try (exfalso; omega))))) | fail)) <;> (try omega)
    all_goals first | exact AV.up_rfl _ | exact obUp_cons rfl (obUp_cons rfl obUp_nil)
  · refine go_fnG (tyOf_ok _) Try.func18 rfl rfl (by rw [Try.results18]) Try.ntmps18 rfl fun E => ?_
    (repeat' (first
    | exact trivial
    | (with_reducible first | refine awA ?_ | refine awB ?_ | refine awC ?_ | refine awD ?_ | refine awE ?_ | refine awF ?_ | refine awG ?_ | refine awH ?_ | refine awI ?_ | refine awJ ?_ | refine awK ?_ | refine awL ?_ | refine awM (by decide) ?_)
    | ((with_reducible first | refine awN (tyOf_ok _) [] ?_ | refine awO (tyOf_ok _) [] ?_ | refine awP (tyOf_ok _) [] ?_ | refine awQ ?_ | refine awR ?_ | refine awS ?_ | refine awT ?_ | refine awU ?_); intro r hr; simp only [go_sem, Nat.reduceBEq, Nat.reduceBneDiff, Nat.reduceLT, Nat.reduceLeDiff, Nat.reduceAdd, Nat.reduceMul, Nat.reduceSub, Nat.reduceEqDiff, reduceCtorEq, inO] at hr; subst hr; (first | refine awV ?_ ?_ | refine awW ?_ ?_ | refine endK ?_ ?_ | refine endGK ?_ ?_ ?_ | (refine condK (fun h => ?_) (fun h => ?_) <;> (try simp only [go_sem, reduceCtorEq] at h) <;> (try (exfalso; omega))))) | fail)) <;> (try omega)
    all_goals first | exact AV.up_rfl _ | exact obUp_cons rfl (obUp_cons rfl obUp_nil)
theorem take_none (pre : List Int) (at_ : Int) (over : Bool) : GCall Try.prog 13 [.ptr 1 10000 0 0] (inO pre [] at_ over) (.tup [vU8 0, vB false]) (inO pre [] at_ over) := by
  have e0 : (((0 : Nat) : Int) = 0) = True := eq_true rfl
  have e : inO pre [] at_ over = [(10000, .var [.ref 5 1 15000 pre.length 0, vI at_, vB over]), (15000, .row 5 1 (encB pre))] := by simp [inO]
  rw [e]
  refine go_fnG (tyOf_ok _) Try.func13 rfl rfl (by rw [Try.results13]) Try.ntmps13 rfl fun E => ?_
  (repeat' (first
    | exact trivial
    | (with_reducible first | refine awA ?_ | refine awB ?_ | refine awC ?_ | refine awD ?_ | refine awE ?_ | refine awF ?_ | refine awG ?_ | refine awH ?_ | refine awI ?_ | refine awJ ?_ | refine awK ?_ | refine awL ?_ | refine awM (by decide) ?_)
    | ((with_reducible first | refine awN (tyOf_ok _) [] ?_ | refine awO (tyOf_ok _) [] ?_ | refine awP (tyOf_ok _) [] ?_ | refine awQ ?_ | refine awR ?_ | refine awS ?_ | refine awT ?_ | refine awU ?_); intro r hr; simp only [go_sem, Nat.reduceBEq, Nat.reduceBneDiff, Nat.reduceLT, Nat.reduceLeDiff, Nat.reduceAdd, Nat.reduceMul, Nat.reduceSub, Nat.reduceEqDiff, reduceCtorEq, e0] at hr; subst hr; (first | refine awV ?_ ?_ | refine awW ?_ ?_ | refine endK ?_ ?_ | refine endGK ?_ ?_ ?_ | (refine condK (fun h => ?_) (fun h => ?_) <;> (try simp only [go_sem, reduceCtorEq] at h) <;> (try (exfalso; omega))))) | fail)) <;> (try omega)
  all_goals first | exact AV.up_rfl _ | exact obUp_cons rfl (obUp_cons rfl obUp_nil)
theorem take_some (pre : List Int) (b : Int) (hs : List Int) (at_ : Int) (over : Bool) (h : okIn (b :: hs) at_) :
    GCall Try.prog 13 [.ptr 1 10000 0 0] (inO pre (b :: hs) at_ over) (.tup [vU8 b, vB true]) (inO (pre ++ [b]) hs (at_ + 1) over) := by
  have hg := gone_G pre (b :: hs) at_ over h 1 (by simp)
  have e0 : (((hs.length + 1 : Nat) : Int) = 0) = False := eq_false (by omega)
  have hl : hs.length + 1 ≤ 1000000000 := by have := h.1; simpa using this
  have gb : (encB (pre ++ b :: hs))[pre.length]? = some [.v (.int .u8 b)] := by
    have := encB_at (pre := pre) (hs := b :: hs) (i := 0) (by simp)
    simpa using this
  have p0 : 0 < hs.length + 1 := by omega
  unfold inO
  refine go_fnG (tyOf_ok _) Try.func13 rfl rfl (by rw [Try.results13]) Try.ntmps13 rfl fun E => ?_
  (repeat' (first
    | exact trivial
    | (with_reducible first | refine awA ?_ | refine awB ?_ | refine awC ?_ | refine awD ?_ | refine awE ?_ | refine awF ?_ | refine awG ?_ | refine awH ?_ | refine awI ?_ | refine awJ ?_ | refine awK ?_ | refine awL ?_ | refine awM (by decide) ?_)
    | ((with_reducible first | refine awN (tyOf_ok _) [] ?_ | refine awO (tyOf_ok _) [] ?_ | refine awP (tyOf_ok _) [] ?_ | refine awQ ?_ | refine awR ?_ | refine awS ?_ | refine awT ?_ | refine awU ?_); intro r hr; simp only [go_sem, Nat.reduceBEq, Nat.reduceBneDiff, Nat.reduceLT, Nat.reduceLeDiff, Nat.reduceAdd, Nat.reduceMul, Nat.reduceSub, Nat.reduceEqDiff, reduceCtorEq, inO, List.length_cons, e0, gb, Int.toNat_zero, Nat.add_zero, Nat.succ_ne_zero, Int.cast_ofNat_Int, Int.reduceToNat, Int.reduceEq, Int.reduceLT, Int.reduceLE, Int.reduceNe] at hr; subst hr; (first | refine awV ?_ ?_ | refine awW ?_ ?_ | refine endK ?_ ?_ | refine endGK ?_ ?_ ?_ | (refine condK (fun h => ?_) (fun h => ?_) <;> (try simp only [go_sem, reduceCtorEq] at h) <;> (try (exfalso; omega)))))
    | (refine go_callGE [(10000, 10000), (15000, 15000)] [(10000, 10000), (15000, 15000)] [15000] [10000] ?_; intro r hr; simp only [go_sem, Nat.reduceBEq, Nat.reduceBneDiff, Nat.reduceLT, Nat.reduceLeDiff, Nat.reduceAdd, Nat.reduceMul, Nat.reduceSub, Nat.reduceEqDiff, reduceCtorEq, inO, List.length_cons, e0, gb, Int.toNat_zero, Nat.add_zero, Nat.succ_ne_zero, Int.cast_ofNat_Int, Int.reduceToNat, Int.reduceEq, Int.reduceLT, Int.reduceLE, Int.reduceNe] at hr; subst hr; refine callGK (hg) rfl rfl (by first | exact .inl rfl | exact .inr rfl) ?_ (.inl rfl) ?_) | fail)) <;> (try omega)
  all_goals first | exact AV.up_rfl _ | exact obUp_cons rfl (obUp_cons rfl obUp_nil)
theorem skip_bad (pre hs : List Int) (at_ : Int) (over : Bool) (n : Int) (h : n < 0 ∨ hs.length < n) : GCall Try.prog 15 [.ptr 1 10000 0 0, vI n] (inO pre hs at_ over) (vI 3) (inO pre hs at_ over) := by
  unfold inO
  refine go_fnG (tyOf_ok _) Try.func15 rfl rfl (by rw [Try.results15]) Try.ntmps15 rfl fun E => ?_
  by_cases h0 : n < 0
  · have e0 : (n < 0) = True := eq_true h0
    (repeat' (first
    | exact trivial
    | (with_reducible first | refine awA ?_ | refine awB ?_ | refine awC ?_ | refine awD ?_ | refine awE ?_ | refine awF ?_ | refine awG ?_ | refine awH ?_ | refine awI ?_ | refine awJ ?_ | refine awK ?_ | refine awL ?_ | refine awM (by decide) ?_)
    | ((with_reducible first | refine awN (tyOf_ok _) [] ?_ | refine awO (tyOf_ok _) [] ?_ | refine awP (tyOf_ok _) [] ?_ | refine awQ ?_ | refine awR ?_ | refine awS ?_ | refine awT ?_ | refine awU ?_); intro r hr; simp only [go_sem, Nat.reduceBEq, Nat.reduceBneDiff, Nat.reduceLT, Nat.reduceLeDiff, Nat.reduceAdd, Nat.reduceMul, Nat.reduceSub, Nat.reduceEqDiff, reduceCtorEq, e0] at hr; subst hr; (first | refine awV ?_ ?_ | refine awW ?_ ?_ | refine endK ?_ ?_ | refine endGK ?_ ?_ ?_ | (refine condK (fun h => ?_) (fun h => ?_) <;> (try simp only [go_sem, reduceCtorEq] at h) <;> (try (exfalso; omega))))) | fail)) <;> (try omega)
    all_goals first | exact AV.up_rfl _ | exact obUp_cons rfl (obUp_cons rfl obUp_nil)
  · have e0 : (n < 0) = False := eq_false h0
    have e1 : ((hs.length : Int) < n) = True := eq_true (h.resolve_left h0)
    (repeat' (first
    | exact trivial
    | (with_reducible first | refine awA ?_ | refine awB ?_ | refine awC ?_ | refine awD ?_ | refine awE ?_ | refine awF ?_ | refine awG ?_ | refine awH ?_ | refine awI ?_ | refine awJ ?_ | refine awK ?_ | refine awL ?_ | refine awM (by decide) ?_)
    | ((with_reducible first | refine awN (tyOf_ok _) [] ?_ | refine awO (tyOf_ok _) [] ?_ | refine awP (tyOf_ok _) [] ?_ | refine awQ ?_ | refine awR ?_ | refine awS ?_ | refine awT ?_ | refine awU ?_); intro r hr; simp only [go_sem, Nat.reduceBEq, Nat.reduceBneDiff, Nat.reduceLT, Nat.reduceLeDiff, Nat.reduceAdd, Nat.reduceMul, Nat.reduceSub, Nat.reduceEqDiff, reduceCtorEq, e0, e1] at hr; subst hr; (first | refine awV ?_ ?_ | refine awW ?_ ?_ | refine endK ?_ ?_ | refine endGK ?_ ?_ ?_ | (refine condK (fun h => ?_) (fun h => ?_) <;> (try simp only [go_sem, reduceCtorEq] at h) <;> (try (exfalso; omega))))) | fail)) <;> (try omega)
    all_goals first | exact AV.up_rfl _ | exact obUp_cons rfl (obUp_cons rfl obUp_nil)
theorem skip_ok (pre hs : List Int) (at_ : Int) (over : Bool) (h : okIn hs at_) (k : Nat) (hk : k ≤ hs.length) :
    GCall Try.prog 15 [.ptr 1 10000 0 0, vI k] (inO pre hs at_ over) (vI 0) (inO (pre ++ hs.take k) (hs.drop k) (at_ + k) over) := by
  have hg := gone_G pre hs at_ over h k hk
  have e0 : ((k : Int) < 0) = False := eq_false (by omega)
  have e1 : ((hs.length : Int) < (k : Int)) = False := eq_false (by omega)
  unfold inO at *
  refine go_fnG (tyOf_ok _) Try.func15 rfl rfl (by rw [Try.results15]) Try.ntmps15 rfl fun E => ?_
  (repeat' (first
    | exact trivial
    | (with_reducible first | refine awA ?_ | refine awB ?_ | refine awC ?_ | refine awD ?_ | refine awE ?_ | refine awF ?_ | refine awG ?_ | refine awH ?_ | refine awI ?_ | refine awJ ?_ | refine awK ?_ | refine awL ?_ | refine awM (by decide) ?_)
    | ((with_reducible first | refine awN (tyOf_ok _) [] ?_ | refine awO (tyOf_ok _) [] ?_ | refine awP (tyOf_ok _) [] ?_ | refine awQ ?_ | refine awR ?_ | refine awS ?_ | refine awT ?_ | refine awU ?_); intro r hr; simp only [go_sem, Nat.reduceBEq, Nat.reduceBneDiff, Nat.reduceLT, Nat.reduceLeDiff, Nat.reduceAdd, Nat.reduceMul, Nat.reduceSub, Nat.reduceEqDiff, reduceCtorEq, e0, e1] at hr; subst hr; (first | refine awV ?_ ?_ | refine awW ?_ ?_ | refine endK ?_ ?_ | refine endGK ?_ ?_ ?_ | (refine condK (fun h => ?_) (fun h => ?_) <;> (try simp only [go_sem, reduceCtorEq] at h) <;> (try (exfalso; omega)))))
    | (refine go_callGE [(10000, 10000), (15000, 15000)] [(10000, 10000), (15000, 15000)] [15000] [10000] ?_; intro r hr; simp only [go_sem, Nat.reduceBEq, Nat.reduceBneDiff, Nat.reduceLT, Nat.reduceLeDiff, Nat.reduceAdd, Nat.reduceMul, Nat.reduceSub, Nat.reduceEqDiff, reduceCtorEq, e0, e1] at hr; subst hr; refine callGK (hg) rfl rfl (by first | exact .inl rfl | exact .inr rfl) ?_ (.inl rfl) ?_) | fail)) <;> (try omega)
  all_goals first | exact AV.up_rfl _ | exact obUp_cons rfl (obUp_cons rfl obUp_nil)
theorem peek_bad (pre hs : List Int) (at_ : Int) (over : Bool) (n : Int) (h : n < 0 ∨ hs.length < n) : GCall Try.prog 14 [.ptr 1 10000 0 0, vI n] (inO pre hs at_ over) (.tup [.v (.slice none 0 0), vB false]) (inO pre hs at_ over) := by
  unfold inO
  refine go_fnG (tyOf_ok _) Try.func14 rfl rfl (by rw [Try.results14]) Try.ntmps14 rfl fun E => ?_
  by_cases h0 : n < 0
  · have e0 : (n < 0) = True := eq_true h0
    (repeat' (first
    | exact trivial
    | (with_reducible first | refine awA ?_ | refine awB ?_ | refine awC ?_ | refine awD ?_ | refine awE ?_ | refine awF ?_ | refine awG ?_ | refine awH ?_ | refine awI ?_ | refine awJ ?_ | refine awK ?_ | refine awL ?_ | refine awM (by decide) ?_)
    | ((with_reducible first | refine awN (tyOf_ok _) [] ?_ | refine awO (tyOf_ok _) [] ?_ | refine awP (tyOf_ok _) [] ?_ | refine awQ ?_ | refine awR ?_ | refine awS ?_ | refine awT ?_ | refine awU ?_); intro r hr; simp only [go_sem, Nat.reduceBEq, Nat.reduceBneDiff, Nat.reduceLT, Nat.reduceLeDiff, Nat.reduceAdd, Nat.reduceMul, Nat.reduceSub, Nat.reduceEqDiff, reduceCtorEq, e0] at hr; subst hr; (first | refine awV ?_ ?_ | refine awW ?_ ?_ | refine endK ?_ ?_ | refine endGK ?_ ?_ ?_ | (refine condK (fun h => ?_) (fun h => ?_) <;> (try simp only [go_sem, reduceCtorEq] at h) <;> (try (exfalso; omega))))) | fail)) <;> (try omega)
    all_goals first | exact AV.up_rfl _ | exact obUp_cons rfl (obUp_cons rfl obUp_nil)
  · have e0 : (n < 0) = False := eq_false h0
    have e1 : ((hs.length : Int) < n) = True := eq_true (h.resolve_left h0)
    (repeat' (first
    | exact trivial
    | (with_reducible first | refine awA ?_ | refine awB ?_ | refine awC ?_ | refine awD ?_ | refine awE ?_ | refine awF ?_ | refine awG ?_ | refine awH ?_ | refine awI ?_ | refine awJ ?_ | refine awK ?_ | refine awL ?_ | refine awM (by decide) ?_)
    | ((with_reducible first | refine awN (tyOf_ok _) [] ?_ | refine awO (tyOf_ok _) [] ?_ | refine awP (tyOf_ok _) [] ?_ | refine awQ ?_ | refine awR ?_ | refine awS ?_ | refine awT ?_ | refine awU ?_); intro r hr; simp only [go_sem, Nat.reduceBEq, Nat.reduceBneDiff, Nat.reduceLT, Nat.reduceLeDiff, Nat.reduceAdd, Nat.reduceMul, Nat.reduceSub, Nat.reduceEqDiff, reduceCtorEq, e0, e1] at hr; subst hr; (first | refine awV ?_ ?_ | refine awW ?_ ?_ | refine endK ?_ ?_ | refine endGK ?_ ?_ ?_ | (refine condK (fun h => ?_) (fun h => ?_) <;> (try simp only [go_sem, reduceCtorEq] at h) <;> (try (exfalso; omega))))) | fail)) <;> (try omega)
    all_goals first | exact AV.up_rfl _ | exact obUp_cons rfl (obUp_cons rfl obUp_nil)
theorem encB_mid (pre hs : List Int) : ((encB (pre ++ hs)).take (pre.length + hs.length)).drop pre.length = encB hs := by
  rw [encB_take, take_len (by simp), encB_drop, List.drop_left]
theorem peek_cpy (pre hs : List Int) (z : List AV) (k : Nat) (hk : k ≤ hs.length) : cpy (List.replicate k z) (((encB (pre ++ hs)).take (pre.length + hs.length)).drop pre.length) 0 k = encB (hs.take k) := by
  rw [encB_mid]
  simp [cpy, encB_take]
theorem peek_ok (pre hs : List Int) (at_ : Int) (over : Bool) (h : okIn hs at_) (k : Nat) (hk : k ≤ hs.length) :
    GCall Try.prog 14 [.ptr 1 10000 0 0, vI k] (inO pre hs at_ over) (.tup [.ref 5 1 19 0 k, vB true]) ((19, .row 5 1 (encB (hs.take k))) :: inO pre hs at_ over) := by
  obtain ⟨h1, h2, h3⟩ := h
  have e0 : ((k : Int) < 0) = False := eq_false (by omega)
  have e1 : ((hs.length : Int) < (k : Int)) = False := eq_false (by omega)
  have zk : ((k : Int)).toNat = k := by omega
  unfold inO
  refine go_fnG (tyOf_ok _) Try.func14 rfl rfl (by rw [Try.results14]) Try.ntmps14 rfl fun E => ?_
  (repeat' (first
    | exact trivial
    | (with_reducible first | refine awA ?_ | refine awB ?_ | refine awC ?_ | refine awD ?_ | refine awE ?_ | refine awF ?_ | refine awG ?_ | refine awH ?_ | refine awI ?_ | refine awJ ?_ | refine awK ?_ | refine awL ?_ | refine awM (by decide) ?_)
    | ((with_reducible first | refine awN (tyOf_ok _) [] ?_ | refine awO (tyOf_ok _) [] ?_ | refine awP (tyOf_ok _) [] ?_ | refine awQ ?_ | refine awR ?_ | refine awS ?_ | refine awT ?_ | refine awU ?_); intro r hr; simp only [go_sem, Nat.reduceBEq, Nat.reduceBneDiff, Nat.reduceLT, Nat.reduceLeDiff, Nat.reduceAdd, Nat.reduceMul, Nat.reduceSub, Nat.reduceEqDiff, reduceCtorEq, e0, e1, zk] at hr; subst hr; (first | refine awV ?_ ?_ | refine awW ?_ ?_ | refine endK ?_ ?_ | refine endGK ?_ ?_ ?_ | (refine condK (fun h => ?_) (fun h => ?_) <;> (try simp only [go_sem, reduceCtorEq] at h) <;> (try (exfalso; omega)))))
    | (refine al_copy (tyOf_ok _) rfl rfl ⟨by decide, by decide⟩ rfl rfl rfl t28 rfl t5 rfl rfl (by simp) rfl rfl (show (1 : Nat) = 1 ∧ _ ≤ _ from ⟨rfl, by simp [encB_len]⟩) (c := k) (by rw [encB_mid, encB_len]; omega) (peek_cpy pre hs _ k hk) ?_) | fail)) <;> (try omega)
  all_goals first | exact AV.up_rfl _ | exact obUp_cons rfl (obUp_cons rfl (obUp_cons rfl obUp_nil))
theorem give_over (pre hs b : List Int) (at_ : Int) : GCall Try.prog 12 [.ptr 1 10000 0 0, .lst 1 (encB b)] (inO pre hs at_ true) (vI 30) (inO pre hs at_ true) := by
  unfold inO
  refine go_fnG (tyOf_ok _) Try.func12 rfl rfl (by rw [Try.results12]) Try.ntmps12 rfl fun E => ?_
  (repeat' (first
    | exact trivial
    | (with_reducible first | refine awA ?_ | refine awB ?_ | refine awC ?_ | refine awD ?_ | refine awE ?_ | refine awF ?_ | refine awG ?_ | refine awH ?_ | refine awI ?_ | refine awJ ?_ | refine awK ?_ | refine awL ?_ | refine awM (by decide) ?_)
    | ((with_reducible first | refine awN (tyOf_ok _) [] ?_ | refine awO (tyOf_ok _) [] ?_ | refine awP (tyOf_ok _) [] ?_ | refine awQ ?_ | refine awR ?_ | refine awS ?_ | refine awT ?_ | refine awU ?_); intro r hr; simp only [go_sem, Nat.reduceBEq, Nat.reduceBneDiff, Nat.reduceLT, Nat.reduceLeDiff, Nat.reduceAdd, Nat.reduceMul, Nat.reduceSub, Nat.reduceEqDiff, reduceCtorEq] at hr; subst hr; (first | refine awV ?_ ?_ | refine awW ?_ ?_ | refine endK ?_ ?_ | refine endGK ?_ ?_ ?_ | (refine condK (fun h => ?_) (fun h => ?_) <;> (try simp only [go_sem, reduceCtorEq] at h) <;> (try (exfalso; omega))))) | fail)) <;> (try omega)
  all_goals first | exact AV.up_rfl _ | exact obUp_cons rfl (obUp_cons rfl obUp_nil)
theorem give_E (pre hs b : List Int) (at_ : Int) (h : hs.length + b.length ≤ 1000000000) :
    GCallE Try.prog 12 [.ptr 1 10000 0 0, .lst 1 (encB b)] (inO pre hs at_ false) (fun q : List Int => q = pre ∨ q = []) (fun _ => vI 0) (fun q => inO q (hs ++ b) at_ false) := by
  have e : inO pre hs at_ false = [(10000, .var [.ref 5 1 15000 pre.length hs.length, vI at_, vB false]), (15000, .row 5 1 (encB (pre ++ hs)))] := rfl
  rw [e]
  refine go_fnE (tyOf_ok _) Try.func12 rfl rfl (by rw [Try.results12]) Try.ntmps12 rfl fun E => ?_
  (repeat' (first
    | exact trivial
    | (with_reducible first | refine awA ?_ | refine awB ?_ | refine awC ?_ | refine awD ?_ | refine awE ?_ | refine awF ?_ | refine awG ?_ | refine awH ?_ | refine awI ?_ | refine awJ ?_ | refine awK ?_ | refine awL ?_ | refine awM (by decide) ?_)
    | ((with_reducible first | refine awN (tyOf_ok _) [3000015] ?_ | refine awO (tyOf_ok _) [3000015] ?_ | refine awP (tyOf_ok _) [3000015] ?_ | refine awQ ?_ | refine awR ?_ | refine awS ?_ | refine aweR ?_ | refine aweN ?_); intro r hr; simp only [go_sem, Nat.reduceBEq, Nat.reduceBneDiff, Nat.reduceLT, Nat.reduceLeDiff, Nat.reduceAdd, Nat.reduceMul, Nat.reduceSub, Nat.reduceEqDiff, reduceCtorEq, AState.off] at hr; subst hr; (first | refine awV ?_ ?_ | refine awW ?_ ?_ | refine endK ?_ ?_ | refine endEK ?_ ?_ | (refine condK (fun h => ?_) (fun h => ?_) <;> (try simp only [go_sem, reduceCtorEq] at h) <;> (try (exfalso; omega)))))
    | (refine al_appoff (tyOf_ok _) rfl rfl ⟨by decide, by decide⟩ rfl rfl rfl t28 rfl t5 rfl (.inr (by decide)) rfl (by simp [encB_len]) rfl rfl trivial (by decide) (by decide) (by simp only [encB_len]; show (hs.length + b.length) * 1 ≤ _; omega) (p0 := encB pre) (zs := encB (hs ++ b)) (l := hs.length + b.length) (by simp [encB_take]) (by rw [encB_drop, List.drop_left, encB_app]) (by rw [encB_len]) (fun p hp => ?_)) | fail)) <;> (try omega)
  rcases hp with rfl | rfl
  · refine ⟨pre, .inl rfl, AV.up_rfl _, ?_⟩
    rw [show inO pre (hs ++ b) at_ false = [(10000, .var [.ref 5 1 15000 (encB pre).length (hs.length + b.length), vI at_, vB false]), (15000, .row 5 1 (encB pre ++ encB (hs ++ b)))] by simp [inO, encB_len, encB_app]]
    exact obUp_cons rfl (obUp_cons rfl obUp_nil)
  · refine ⟨[], .inr rfl, AV.up_rfl _, ?_⟩
    rw [show inO [] (hs ++ b) at_ false = [(10000, .var [.ref 5 1 15000 ([] : List (List AV)).length (hs.length + b.length), vI at_, vB false]), (15000, .row 5 1 ([] ++ encB (hs ++ b)))] by simp [inO]]
    exact obUp_cons rfl (obUp_cons rfl obUp_nil)
theorem new_bad (n : Int) (h : n < 0 ∨ 2147483647 < n) : GCall Try.prog 9 [vI n] [] (.tup [.v (.pointer none), vI 3]) [] := by
  refine go_fnG (tyOf_ok _) Try.func9 rfl rfl (by rw [Try.results9]) Try.ntmps9 rfl fun E => ?_
  by_cases h0 : n < 0
  · have e0 : (n < 0) = True := eq_true h0
    (repeat' (first
    | exact trivial
    | (with_reducible first | refine awA ?_ | refine awB ?_ | refine awC ?_ | refine awD ?_ | refine awE ?_ | refine awF ?_ | refine awG ?_ | refine awH ?_ | refine awI ?_ | refine awJ ?_ | refine awK ?_ | refine awL ?_ | refine awM (by decide) ?_)
    | ((with_reducible first | refine awN (tyOf_ok _) [] ?_ | refine awO (tyOf_ok _) [] ?_ | refine awP (tyOf_ok _) [] ?_ | refine awQ ?_ | refine awR ?_ | refine awS ?_ | refine awT ?_ | refine awU ?_); intro r hr; simp only [go_sem, Nat.reduceBEq, Nat.reduceBneDiff, Nat.reduceLT, Nat.reduceLeDiff, Nat.reduceAdd, Nat.reduceMul, Nat.reduceSub, Nat.reduceEqDiff, reduceCtorEq, e0, Int.cast_ofNat_Int, Int.reduceToNat, Int.reduceEq, Int.reduceLT, Int.reduceLE, Int.reduceNe] at hr; subst hr; (first | refine awV ?_ ?_ | refine awW ?_ ?_ | refine endK ?_ ?_ | refine endGK ?_ ?_ ?_ | (refine condK (fun h => ?_) (fun h => ?_) <;> (try simp only [go_sem, reduceCtorEq] at h) <;> (try (exfalso; omega))))) | fail)) <;> (try omega)
    all_goals first | exact AV.up_rfl _ | exact obUp_nil
  · have e0 : (n < 0) = False := eq_false h0
    have e1 : (2147483647 < n) = True := eq_true (h.resolve_left h0)
    (repeat' (first
    | exact trivial
    | (with_reducible first | refine awA ?_ | refine awB ?_ | refine awC ?_ | refine awD ?_ | refine awE ?_ | refine awF ?_ | refine awG ?_ | refine awH ?_ | refine awI ?_ | refine awJ ?_ | refine awK ?_ | refine awL ?_ | refine awM (by decide) ?_)
    | ((with_reducible first | refine awN (tyOf_ok _) [] ?_ | refine awO (tyOf_ok _) [] ?_ | refine awP (tyOf_ok _) [] ?_ | refine awQ ?_ | refine awR ?_ | refine awS ?_ | refine awT ?_ | refine awU ?_); intro r hr; simp only [go_sem, Nat.reduceBEq, Nat.reduceBneDiff, Nat.reduceLT, Nat.reduceLeDiff, Nat.reduceAdd, Nat.reduceMul, Nat.reduceSub, Nat.reduceEqDiff, reduceCtorEq, e0, e1] at hr; subst hr; (first | refine awV ?_ ?_ | refine awW ?_ ?_ | refine endK ?_ ?_ | refine endGK ?_ ?_ ?_ | (refine condK (fun h => ?_) (fun h => ?_) <;> (try simp only [go_sem, reduceCtorEq] at h) <;> (try (exfalso; omega))))) | fail)) <;> (try omega)
    all_goals first | exact AV.up_rfl _ | exact obUp_nil
theorem new_ok (n : Int) (h0 : 0 ≤ n) (h1 : n ≤ 2147483647) : GCall Try.prog 9 [vI n] [] (.tup [.ptr 1 12 0 0, vI 0]) [(12, .var [.v (.slice none 0 0), vI n, vB false])] := by
  have e0 : (n < 0) = False := eq_false (by omega)
  have e1 : (2147483647 < n) = False := eq_false (by omega)
  refine go_fnG (tyOf_ok _) Try.func9 rfl rfl (by rw [Try.results9]) Try.ntmps9 rfl fun E => ?_
  (repeat' (first
    | exact trivial
    | (with_reducible first | refine awA ?_ | refine awB ?_ | refine awC ?_ | refine awD ?_ | refine awE ?_ | refine awF ?_ | refine awG ?_ | refine awH ?_ | refine awI ?_ | refine awJ ?_ | refine awK ?_ | refine awL ?_ | refine awM (by decide) ?_)
    | ((with_reducible first | refine awN (tyOf_ok _) [] ?_ | refine awO (tyOf_ok _) [] ?_ | refine awP (tyOf_ok _) [] ?_ | refine awQ ?_ | refine awR ?_ | refine awS ?_ | refine awT ?_ | refine awU ?_); intro r hr; simp only [go_sem, Nat.reduceBEq, Nat.reduceBneDiff, Nat.reduceLT, Nat.reduceLeDiff, Nat.reduceAdd, Nat.reduceMul, Nat.reduceSub, Nat.reduceEqDiff, reduceCtorEq, e0, e1] at hr; subst hr; (first | refine awV ?_ ?_ | refine awW ?_ ?_ | refine endK ?_ ?_ | refine endGK ?_ ?_ ?_ | (refine condK (fun h => ?_) (fun h => ?_) <;> (try simp only [go_sem, reduceCtorEq] at h) <;> (try (exfalso; omega))))) | fail)) <;> (try omega)
  all_goals first | exact AV.up_rfl _ | exact obUp_cons rfl obUp_nil
end Go.Proofs.Ytopcfnlcapibgaa
end

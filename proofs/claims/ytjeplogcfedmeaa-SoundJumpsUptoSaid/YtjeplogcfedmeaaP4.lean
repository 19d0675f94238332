import Derived.KernelRfl
import Derived.Test.YtjeplogcfedmeaaP3
set_option linter.all false
section
namespace Go.Proofs.Ytjeplogcfedmeaa
open Go.RowKit
def AV.ren (ρ : List (Nat × Nat)) : AV → AV
 | .agg cs => .agg (renL ρ cs)
 | .tup cs => .tup (renL ρ cs)
 | .ref t k d off len => match lk ρ d with
  | some e => .ref t k e off len
  | none => .dead
 | .rfx t k d off len ext => match lk ρ d with
  | some e => .rfx t k e off len ext
  | none => .dead
 | .ptr k d i j => match lk ρ d with
  | some e => .ptr k e i j
  | none => .dead
 | .map d => match lk ρ d with
  | some e => .map e
  | none => .dead
 | .v x => .v x
 | .lst k xs => .lst k xs
 | .lsx k xs ys => .lsx k xs ys
 | .elt k xs i j => .elt k xs i j
 | .slen n => .slen n
 | .fn f cs => .fn f (renL ρ cs)
 | .ifc t a => .ifc t (a.ren ρ)
 | .dead => .dead
where
 renL (ρ : List (Nat × Nat)) : List AV → List AV
 | [] => []
 | c :: cs => c.ren ρ :: renL ρ cs
theorem AV.renL_eq (ρ : List (Nat × Nat)) (cs : List AV) : AV.ren.renL ρ cs = cs.map (AV.ren ρ) := by
 induction cs with
 | nil => simp [AV.ren.renL]
 | cons c cs ih => simp [AV.ren.renL, ih]
def AObj.ren (ρ : List (Nat × Nat)) : AObj → AObj
 | .row t k xs => .row t k xs
 | .var cs => .var (AV.ren.renL ρ cs)
 | .mapo es => .mapo es
 | .mapr clk es => .mapr clk (mapM (AV.ren ρ) es)
 | .iter e ok s q => match lk ρ e with
  | some e' => .iter e' ok s q
  | none => .iter e false s q
 | .mapl .. => .row 0 0 []
def AV.cut (K V : List Nat) : AV → AV
 | .agg cs => .agg (cutL K V cs)
 | .tup cs => .tup (cutL K V cs)
 | .ref t k d off len => bif K.contains d then .dead else .ref t k d off len
 | .rfx t k d off len ext => bif K.contains d then .dead else .rfx t k d off len ext
 | .ptr k d i j => bif K.contains d then .dead else .ptr k d i j
 | .map d => bif K.contains d then .dead else .map d
 | .v x => .v x
 | .lst k xs => .lst k xs
 | .lsx k xs ys => .lsx k xs ys
 | .elt k xs i j => .elt k xs i j
 | .slen n => .slen n
 | .fn f cs => .fn f (cutL K V cs)
 | .ifc t a => .ifc t (a.cut K V)
 | .dead => .dead
where
 cutL (K V : List Nat) : List AV → List AV
 | [] => []
 | c :: cs => c.cut K V :: cutL K V cs
theorem AV.cutL_eq (K V : List Nat) (cs : List AV) : AV.cut.cutL K V cs = cs.map (AV.cut K V) := by
 induction cs with
 | nil => simp [AV.cut.cutL]
 | cons c cs ih => simp [AV.cut.cutL, ih]
def AObj.cut (K V : List Nat) : AObj → AObj
 | .row t k xs => .row t k xs
 | .var cs => .var (AV.cut.cutL K V cs)
 | .mapo es => .mapo es
 | .mapr clk es => .mapr clk (mapM (AV.cut K V) es)
 | .iter e ok s q => .iter e (ok && !(K.contains e)) s q
 | .mapl t clk es h => bif (K.all (fun e => decide (e < 20000)) && V.all fun e => decide (e < 20000)) then .mapl t clk es h else .row 0 0 []
theorem lk_append {α : Type} (l m : List (Nat × α)) (t : Nat) : lk (l ++ m) t = match lk l t with | some a => some a | none => lk m t := by
 induction l with
 | nil => rfl
 | cons p l ih =>
  obtain ⟨k, a⟩ := p
  rw [List.cons_append, lk_cons, lk_cons, ih]
  cases h : k == t <;> simp
theorem lk_mem {α : Type} {l : List (Nat × α)} {t : Nat} {a : α} (h : lk l t = some a) : (t, a) ∈ l := by
 induction l with
 | nil => cases h
 | cons p l ih =>
  obtain ⟨k, b⟩ := p
  rw [lk_cons] at h
  by_cases hk : k = t
  ·rw [bif_eq hk] at h
   injection h with h
   subst h; subst hk
   exact .head _
  ·rw [bif_ne hk] at h
   exact .tail _ (ih h)
section
variable {F F' : Nat → Prop} {β β' : Nat → Option Nat} {w w' : World}
theorem AVR.ren {x : AV} {v : Value} {ρ : List (Nat × Nat)} (h : AVR F β w x v) (hF : ∀ b, F b → F' b) (hρ : ∀ d e b, lk ρ d = some e → β d = some b → β' e = some b) : AVR F' β' w (x.ren ρ) v := by
 induction h with
 | s h =>
  cases h with
  | v h => exact .s (.v h)
  | lst g h1 h2 h3 h4 h5 h6 h7 => exact .s ((SVR.lst g h1 h2 h3 h4 h5 h6 h7).mono hF (fun _ _ => rfl))
  | lsx h => exact .s ((SVR.lsx h).mono hF (fun _ _ => rfl))
 | agg h1 h2 _ ih =>
  simp only [AV.ren, AV.renL_eq]
  exact .agg (by simpa using h1) h2 (AVR.map_list ih)
 | tup h1 _ ih =>
  simp only [AV.ren, AV.renL_eq]
  exact .tup (by simpa using h1) (AVR.map_list ih)
 | @nil t k d off =>
  simp only [AV.ren]
  split
  ·exact .nil
  ·exact .dead
 | @ref t k d off len c b A h1 h2 h3 h5 h6 =>
  simp only [AV.ren]
  split
  ·rename_i e he; exact .ref (hρ _ _ _ he h1) h2 h3 h5 h6
  ·exact .dead
 | @empty t k d off A h1 =>
  simp only [AV.ren]
  split
  ·exact .empty h1
  ·exact .dead
 | @rfx t k d off len ext c A h ih =>
  simp only [AV.ren] at ih ⊢
  split
  ·rename_i e he; rw [he] at ih; exact .rfx ih
  ·exact .dead
 | @ptr k d i j b h1 =>
  simp only [AV.ren]
  split
  ·rename_i e he; exact .ptr (hρ _ _ _ he h1)
  ·exact .dead
 | elt g h1 h2 h3 h4 h5 =>
  simp only [AV.ren]
  exact .elt g (hF _ h1) h2 h3 h4 (fun i j cs u hc hu => (h5 i j cs u hc hu).mono hF (fun _ _ => rfl))
 | @map d b h1 =>
  simp only [AV.ren]
  split
  ·rename_i e he; exact .map (hρ _ _ _ he h1)
  ·exact .dead
 | slen => exact .slen
 | fn h0 h1 _ ih =>
  simp only [AV.ren, AV.renL_eq]
  exact .fn h0 (by simpa using h1) (AVR.map_list ih)
 | ifc _ ih => exact .ifc ih
 | dead => exact .dead
theorem ObjR.ren {d e : Nat} {o : AObj} {ρ : List (Nat × Nat)} (h : ObjR F β w d o) (hF : ∀ b, F b → F' b) (hρ : ∀ d e b, lk ρ d = some e → β d = some b → β' e = some b) (hd : ∀ b, β d = some b → β' e = some b) : ObjR F' β' w e (o.ren ρ) := by
 cases o with
 | row t k xs =>
  obtain ⟨hk, h⟩ := h
  refine ⟨hk, ?_⟩
  rcases h with h | ⟨b, arr, h1, h2, h3, h4⟩
  ·exact .inl h
  ·exact .inr ⟨b, arr, hd b h1, h2, h3, fun i j cs u hc hu => by
    obtain ⟨x, hx, hr⟩ := h4 i j cs u hc hu
    exact ⟨x, hx, hr.mono hF (fun _ _ => rfl)⟩⟩
 | var cs =>
  obtain ⟨b, arr, t, h1, h2, h3, h4⟩ := h
  refine ⟨b, arr, t, hd b h1, h2, by simpa [AV.renL_eq] using h3, fun j u hu => ?_⟩
  rw [AV.renL_eq, List.getElem?_map] at hu
  cases hc : cs[j]? with
  | none => rw [hc] at hu; cases hu
  | some u' =>
   rw [hc] at hu
   injection hu with hu
   subst hu
   obtain ⟨x, hx, hr, ho⟩ := h4 j u' hc
   exact ⟨x, hx, hr.ren hF hρ, ho⟩
 | mapo es =>
  obtain ⟨b, arr, clk, h1, h2, h3, h4⟩ := h
  exact ⟨b, arr, clk, hd b h1, h2, h3, fun i e m he hm => ⟨(h4 i e m he hm).1.mono hF (fun _ _ => rfl), (h4 i e m he hm).2.mono hF (fun _ _ => rfl)⟩⟩
 | mapr clk es =>
  obtain ⟨b, arr, h1, h2, h3, h4⟩ := h
  refine ⟨b, arr, hd b h1, h2, by rw [mapM_len]; exact h3, fun i e' m hi hm => ?_⟩
  obtain ⟨e0, he0, rfl⟩ := mapM_get hi
  obtain ⟨k1, k2, k3⟩ := h4 i e0 m he0 hm
  exact ⟨k1, k2.mono hF (fun _ _ => rfl), k3.ren hF hρ⟩
 | mapl t clk es q => exact ⟨fun cs h => (by cases h), .inl rfl⟩
 | iter e' ok since seen =>
  obtain ⟨r, b, last, h1, h2, h3⟩ := h
  simp only [AObj.ren]
  split
  ·rename_i e2 he2; exact ⟨r, b, last, hd r h1, h2, fun hok => hρ _ _ _ he2 (h3 hok)⟩
  ·exact ⟨r, b, last, hd r h1, h2, fun hok => by cases hok⟩
theorem AVR.cut {x : AV} {v : Value} {K V : List Nat} (h : AVR F β w x v) (hF : ∀ b, F b → F' b) (hw : ∀ b, F b → w'.heap[b]? = w.heap[b]?) (hβ : ∀ e b, e ∉ K → β e = some b → β' e = some b)
  (hs : ∀ e b t n, e ∉ K → β e = some b → Shp w b t n → Shp w' b t n) : AVR F' β' w' (x.cut K V) v := by
 induction h with
 | s h =>
  cases h with
  | v h => exact .s (.v h)
  | lst g h1 h2 h3 h4 h5 h6 h7 => exact .s ((SVR.lst g h1 h2 h3 h4 h5 h6 h7).mono hF hw)
  | lsx h => exact .s ((SVR.lsx h).mono hF hw)
 | agg h1 h2 _ ih =>
  simp only [AV.cut, AV.cutL_eq]
  exact .agg (by simpa using h1) h2 (AVR.map_list ih)
 | tup h1 _ ih =>
  simp only [AV.cut, AV.cutL_eq]
  exact .tup (by simpa using h1) (AVR.map_list ih)
 | @nil t k d off =>
  simp only [AV.cut]
  cases K.contains d
  ·exact .nil
  ·exact .dead
 | @ref t k d off len c b A h1 h2 h3 h5 h6 =>
  simp only [AV.cut]
  cases hc : K.contains d
  ·simp only [List.contains_eq_mem, decide_eq_false_iff_not] at hc
   exact .ref (hβ _ _ hc h1) h2 h3 h5 (hs _ _ _ _ hc h1 h6)
  ·exact .dead
 | @empty t k d off A h1 =>
  simp only [AV.cut]
  cases K.contains d
  ·exact .empty h1
  ·exact .dead
 | @rfx t k d off len ext c A h ih =>
  simp only [AV.cut] at ih ⊢
  cases hc : K.contains d
  ·rw [hc] at ih; exact .rfx ih
  ·exact .dead
 | @ptr k d i j b h1 =>
  simp only [AV.cut]
  cases hc : K.contains d
  ·simp only [List.contains_eq_mem, decide_eq_false_iff_not] at hc
   exact .ptr (hβ _ _ hc h1)
  ·exact .dead
 | elt g h1 h2 h3 h4 h5 =>
  simp only [AV.cut]
  exact .elt g (hF _ h1) h2 (fun i j hi hj => (World.cell?_of_block (a := ⟨_, _, none⟩) (hw _ h1)).trans (h3 i j hi hj)) h4 (fun i j cs u hc hu => (h5 i j cs u hc hu).mono hF hw)
 | @map d b h1 =>
  simp only [AV.cut]
  cases hc : K.contains d
  ·simp only [List.contains_eq_mem, decide_eq_false_iff_not] at hc
   exact .map (hβ _ _ hc h1)
  ·exact .dead
 | slen => exact .slen
 | fn h0 h1 _ ih =>
  simp only [AV.cut, AV.cutL_eq]
  exact .fn h0 (by simpa using h1) (AVR.map_list ih)
 | ifc _ ih => exact .ifc ih
 | dead => exact .dead
theorem ObjR.cut {d : Nat} {o : AObj} {K V : List Nat} (h : ObjR F β w d o) (hF : ∀ b, F b → F' b) (hw : ∀ b, F b → w'.heap[b]? = w.heap[b]?) (hβ : ∀ e b, e ∉ K → β e = some b → β' e = some b)
  (hs' : ∀ e b t n, e ∉ K → β e = some b → Shp w b t n → Shp w' b t n) (hs : ∀ e b, e ∉ K → e ∉ V → β e = some b → w'.heap[b]? = w.heap[b]?) (hd : d ∉ K) (hd' : d ∉ V) : ObjR F' β' w' d (o.cut K V) := by
 cases o with
 | row t k xs =>
  obtain ⟨hk, h⟩ := h
  refine ⟨hk, ?_⟩
  rcases h with h | ⟨b, arr, h1, h2, h3, h4⟩
  ·exact .inl h
  ·exact .inr ⟨b, arr, hβ d b hd h1, (hs d b hd hd' h1).trans h2, h3, fun i j cs u hc hu => by
    obtain ⟨x, hx, hr⟩ := h4 i j cs u hc hu
    exact ⟨x, hx, hr.mono hF hw⟩⟩
 | var cs =>
  obtain ⟨b, arr, t, h1, h2, h3, h4⟩ := h
  refine ⟨b, arr, t, hβ d b hd h1, (hs d b hd hd' h1).trans h2, by simpa [AV.cutL_eq] using h3, fun j u hu => ?_⟩
  rw [AV.cutL_eq, List.getElem?_map] at hu
  cases hc : cs[j]? with
  | none => rw [hc] at hu; cases hu
  | some u' =>
   rw [hc] at hu
   injection hu with hu
   subst hu
   obtain ⟨x, hx, hr, ho⟩ := h4 j u' hc
   exact ⟨x, hx, hr.cut hF hw hβ hs', ho⟩
 | mapo es =>
  obtain ⟨b, arr, clk, h1, h2, h3, h4⟩ := h
  exact ⟨b, arr, clk, hβ d b hd h1, (hs d b hd hd' h1).trans h2, h3, fun i e m he hm => ⟨(h4 i e m he hm).1.mono hF hw, (h4 i e m he hm).2.mono hF hw⟩⟩
 | mapr clk es =>
  obtain ⟨b, arr, h1, h2, h3, h4⟩ := h
  refine ⟨b, arr, hβ d b hd h1, (hs d b hd hd' h1).trans h2, by rw [mapM_len]; exact h3, fun i e' m hi hm => ?_⟩
  obtain ⟨e0, he0, rfl⟩ := mapM_get hi
  obtain ⟨k1, k2, k3⟩ := h4 i e0 m he0 hm
  exact ⟨k1, k2.mono hF hw, k3.cut hF hw hβ hs'⟩
 | mapl t clk es q =>
  obtain ⟨b, arr, h1, h2, h3, h4⟩ := h
  simp only [AObj.cut]
  cases hall : (K.all (fun e => decide (e < 20000)) && V.all fun e => decide (e < 20000)) with
  | false => exact ⟨fun cs h => (by cases h), .inl rfl⟩
  | true =>
   simp only [Bool.and_eq_true, List.all_eq_true, decide_eq_true_eq] at hall
   have hk : ∀ i, kn d i ∉ K ∧ kn d i ∉ V := fun i => ⟨fun h => kn_ne2 (hall.1 _ h) rfl, fun h => kn_ne2 (hall.2 _ h) rfl⟩
   exact ⟨b, arr, hβ d b hd h1, (hs d b hd hd' h1).trans h2, h3, fun i x m hx hm => ⟨(h4 i x m hx hm).1, (h4 i x m hx hm).2.1, fun hq => ((h4 i x m hx hm).2.2 hq).step (fun c hc => hβ _ c (hk i).1 hc) fun c hc => hs _ c (hk i).1 (hk i).2 hc⟩⟩
 | iter e' ok since seen =>
  obtain ⟨r, b, last, h1, h2, h3⟩ := h
  refine ⟨r, b, last, hβ d r hd h1, (hs d r hd hd' h1).trans h2, fun hok => ?_⟩
  simp only [Bool.and_eq_true, Bool.not_eq_true', List.contains_eq_mem, decide_eq_false_iff_not] at hok
  exact hβ e' b hok.2 (h3 hok.1)
end
structure GIn (F : Nat → Prop) (β : Nat → Option Nat) (w : World) (ob : List (Nat × AObj)) : Prop where
 fl : FOK F w
 inj : ∀ d e b, β d = some b → β e = some b → d = e
 rng : ∀ d b, β d = some b → b < w.heap.size ∧ ¬ F b ∧ 10000 ≤ d ∧ d < 20000
 ob : ∀ d o, lk ob d = some o → ObjR F β w d o
def GF (F : Nat → Prop) (β β' : Nat → Option Nat) (w w' : World) (b : Nat) : Prop := b < w'.heap.size ∧ (F b ∨ w.heap.size ≤ b ∨ ∃ d, β d = some b) ∧ ∀ d, β' d ≠ some b
structure GOut (F : Nat → Prop) (β : Nat → Option Nat) (w : World) (β' : Nat → Option Nat) (w' : World) (ob : List (Nat × AObj)) : Prop where
 keeps : Keeps (fun b => ∃ d, β d = some b) w w'
 inj : ∀ d e b, β' d = some b → β' e = some b → d = e
 rng : ∀ d b, β' d = some b → (w.heap.size ≤ b ∨ β d = some b) ∧ b < w'.heap.size
 fx : ∀ d b, d < 15000 → β d = some b → β' d = some b
 fs : ∀ d b t n, d < 15000 → β d = some b → Shp w b t n → Shp w' b t n
 ob : ∀ d o, lk ob d = some o → ObjR (GF F β β' w w') β' w' d o
def GCall (P : Program) (f : Nat) (args : List AV) (ob : List (Nat × AObj)) (r : AV) (ob' : List (Nat × AObj)) : Prop :=
 (∃ fn, P.funcs[f]? = some fn ∧ fn.body.isSome = true ∧ (fn.name == "runtime.NumGoroutine") = false) ∧
 ∀ (w : World) (F : Nat → Prop) (β : Nat → Option Nat) (vs : Array Value), GIn F β w ob → vs.size = args.length → (∀ (i : Nat) (x : AV) (v : Value), args[i]? = some x → vs[i]? = some v → AVR F β w x v) →
  Calls P f vs w fun e w' => ∃ v β', e = .returned v ∧ GOut F β w β' w' ob' ∧ AVR (GF F β β' w w') β' w' r v
section
variable {P : Program} {T : Nat → Option TyD} {E : Env} {s s' : AState} {a : Act} {tm : Array Value} {w w' : World} {β β' : Nat → Option Nat} {F F' : Nat → Prop} {n : Nat} {ops : Array Oper} {Q : Exit → AState → Prop} {D : Dr}
def resG (T : Nat → Option TyD) (s : AState) : List ResultVar → Option (Prop × List AV)
 | [] => some (True, [])
 | .tmp t :: l =>
  match resG T s l with
  | some (p, r) => some (s.gd (.tmp t) = true ∧ p, s.ev (.tmp t) :: r)
  | none => none
 | .cell t ty :: l =>
  match loadAV T s ty (s.ev (.tmp t)), resG T s l with
  | some (q, x), some (p, r) => some ((s.gd (.tmp t) = true ∧ q) ∧ p, x :: r)
  | _, _ => none
def obUp (ob ob1 : List (Nat × AObj)) : Prop := ∀ d o, lk ob1 d = some o → lk ob d = some o ∨ (∃ t k, o = .row t k []) ∨ ∃ t k xs n, lk ob d = some (.row t k xs) ∧ o = .row t k (xs.take n)
theorem ObjR.take {d t k : Nat} {xs : List (List AV)} (h : ObjR F β w d (.row t k xs)) (n : Nat) : ObjR F β w d (.row t k (xs.take n)) := by
 obtain ⟨hk, h⟩ := h
 refine ⟨fun cs hcs => hk cs (List.mem_of_mem_take hcs), ?_⟩
 rcases h with rfl | ⟨b, arr, h1, h2, h3, h4⟩
 ·exact .inl (by simp)
 ·refine .inr ⟨b, arr, h1, h2, Nat.le_trans (Nat.mul_le_mul_right k (by rw [List.length_take]; omega)) h3, fun i j cs u hc hu => ?_⟩
  rw [List.getElem?_take] at hc
  split at hc
  ·exact h4 i j cs u hc hu
  ·cases hc
theorem ObjR.nil {d t k : Nat} : ObjR F β w d (.row t k []) := ⟨fun cs h => (by cases h), .inl rfl⟩
theorem obUp_ok {ob ob1 : List (Nat × AObj)} (h : obUp ob ob1) (hs : ∀ d o, lk ob d = some o → ObjR F β w d o) : ∀ d o, lk ob1 d = some o → ObjR F β w d o := fun d o hd => by
 rcases h d o hd with h | ⟨t, k, rfl⟩ | ⟨t, k, xs, n, h, rfl⟩
 ·exact hs d o h
 ·exact ObjR.nil
 ·exact (hs d _ h).take n
def AEndG (T : Nat → Option TyD) (rs : List ResultVar) (r : AV) (ob1 : List (Nat × AObj)) : Exit → AState → Prop
 | .ret, s | .normal, s => ∃ p r', resG T s rs = some (p, r') ∧ p ∧ (oneOf r').up r ∧ obUp s.ob ob1
 | _, _ => False
theorem resG_ok (hT : TOK P T) (hs : SRel E s tm w β) : ∀ (rs : List ResultVar) (p : Prop) (r : List AV), resG T s rs = some (p, r) → p →
  ∃ vs : List Value, (rs.mapM (resOne tm)).run P w = .ok vs w ∧ vs.length = r.length ∧
   ∀ (i : Nat) (x : AV) (v : Value), r[i]? = some x → vs[i]? = some v → AVR (FF E β w) β w x v := by
 intro rs
 induction rs with
 | nil =>
  intro p r h _
  simp only [resG, Option.some.injEq, Prod.mk.injEq] at h
  obtain ⟨_, rfl⟩ := h
  exact ⟨[], rfl, rfl, fun i x v h => by simp at h⟩
 | cons q rs ih =>
  intro p r h hp
  cases q with
  | tmp t =>
   simp only [resG] at h
   split at h
   case h_2 => cases h
   rename_i p' r' hr
   simp only [Option.some.injEq, Prod.mk.injEq] at h
   obtain ⟨rfl, rfl⟩ := h
   obtain ⟨hg, hp'⟩ := hp
   obtain ⟨vs, h1, h2, h3⟩ := ih p' r' hr hp'
   refine ⟨tm.getD t undef :: vs, ?_, by simp [h2], fun i x v hx hv => ?_⟩
   ·rw [List.mapM_cons]
    simp only [resOne, Sem.run_bind, Sem.run_pure, Result.andThen_ok, h1]
   ·cases i with
    | zero =>
     simp only [List.getElem?_cons_zero, Option.some.injEq] at hx hv
     subst hx
     subst hv
     exact hs.ev (.tmp t) hg (a := ⟨tm, []⟩) rfl
    | succ i => exact h3 i x v (by simpa using hx) (by simpa using hv)
  | cell t ty =>
   simp only [resG] at h
   split at h
   case h_2 => cases h
   rename_i q' x' p' r' hl hr
   simp only [Option.some.injEq, Prod.mk.injEq] at h
   obtain ⟨rfl, rfl⟩ := h
   obtain ⟨⟨hg, hq⟩, hp'⟩ := hp
   obtain ⟨vs, h1, h2, h3⟩ := ih p' r' hr hp'
   have hv := hs.ev (.tmp t) hg (a := ⟨tm, []⟩) rfl
   obtain ⟨v, g1, g2⟩ := loadAV_ok (X := noX) hT hs hl hq (fun b _ => noX_not b) (fun _ _ _ _ b _ _ => noX_not b) hv
   have hrun := g2 w (ExtX.refl noX w)
   have haddr : ∃ ad, (Act.mk tm []).eval (.tmp t) = .pointer (some ad) := by
    have hv' := hv
    generalize (Act.mk tm []).eval (.tmp t) = u at hv' ⊢
    generalize s.ev (.tmp t) = av at hl hv'
    unfold loadAV at hl
    split at hl
    ·cases hl
    split at hl
    ·cases hv' with
     | s h => cases h
     | ptr => exact ⟨_, rfl⟩
    ·cases hv' with
     | s h => cases h
     | elt => exact ⟨_, rfl⟩
    ·cases hl
   obtain ⟨ad, had⟩ := haddr
   have had' : tm.getD t undef = .pointer (some ad) := had
   rw [had] at hrun
   refine ⟨v :: vs, ?_, by simp [h2], fun i x u hx hu => ?_⟩
   ·rw [List.mapM_cons]
    have hlv : (loadVar ty ad).run P w = .ok v w := by simpa [Instr.loadAt, Instr.sureAddr] using hrun
    have hax : (asAddr (tm.getD t undef)).run P w = .ok ad w := by rw [had']; rfl
    simp only [resOne, Sem.run_bind, Sem.run_pure, Result.andThen_ok, hax, hlv, h1]
   ·cases i with
    | zero =>
     simp only [List.getElem?_cons_zero, Option.some.injEq] at hx hu
     subst hx
     subst hu
     exact g1
    | succ i => exact h3 i x u (by simpa using hx) (by simpa using hu)
theorem GCall.intro (hT : TOK P T) {f : Nat} {fn : Func} {c : Code} {args : List AV} {ob ob1 : List (Nat × AObj)} {r : AV} (hf : P.funcs[f]? = some fn) (hb : fn.body = some c) (hnm : (fn.name == "runtime.NumGoroutine") = false) (hn : args.length ≤ fn.ntmps)
  (h : ∀ E : Env, AWp P E fn.ntmps c (AEndG T fn.results.toList r ob1) { fr := argsFr 0 args, ob := ob }) : GCall P f args ob r ob1 := by
 refine ⟨⟨fn, hf, by rw [hb]; rfl, hnm⟩, fun w F β vs hI hl hv => ?_⟩
 let E : Env := ⟨w, F, β, fun d b hd => (hI.rng d b hd).2.2, hI.fl, fun d b hd => (hI.rng d b hd).2.1⟩
 have hFF : ∀ b, F b → FF E β w b := fun b hb => ⟨hI.fl.lt b hb, .inl hb, fun d hd => (hI.rng d b hd).2.1 hb⟩
 have hs0 : SOK E fn.ntmps { fr := argsFr 0 args, ob := ob } { tmps := vs ++ Array.replicate (fn.ntmps - vs.size) undef, defers := [] } w := by
  refine ⟨by simp; omega, rfl, β, ⟨hI.inj, fun d b h => ⟨.inr h, (hI.rng d b h).1⟩, Keeps.refl _ _, fun d o h => ?_, fun t g x h _ => ?_, fun t x h => ?_, fun _ _ _ h => h, fun _ _ _ _ _ _ h => h⟩⟩
  ·have := hI.ob d o h
   cases o with
   | row t k xs =>
    obtain ⟨hk, h⟩ := this
    refine ⟨hk, ?_⟩
    rcases h with h | ⟨b, arr, h1, h2, h3, h4⟩
    ·exact .inl h
    ·exact .inr ⟨b, arr, h1, h2, h3, fun i j cs u hc hu => by
      obtain ⟨x, hx, hr⟩ := h4 i j cs u hc hu
      exact ⟨x, hx, hr.mono hFF (fun _ _ => rfl)⟩⟩
   | var cs =>
    obtain ⟨b, arr, t, h1, h2, h3, h4⟩ := this
    exact ⟨b, arr, t, h1, h2, h3, fun j u hu => by
     obtain ⟨x, hx, hr, ho⟩ := h4 j u hu
     exact ⟨x, hx, hr.mono hFF (fun _ _ => rfl) (fun _ _ h => h) (fun _ _ _ _ _ h => h), ho⟩⟩
   | mapo es =>
    obtain ⟨b, arr, clk, h1, h2, h3, h4⟩ := this
    exact ⟨b, arr, clk, h1, h2, h3, fun i e m he hm => ⟨(h4 i e m he hm).1.mono hFF (fun _ _ => rfl), (h4 i e m he hm).2.mono hFF (fun _ _ => rfl)⟩⟩
   | mapr clk es =>
    obtain ⟨b, arr, h1, h2, h3, h4⟩ := this
    exact ⟨b, arr, h1, h2, h3, fun i e m he hm => by
     obtain ⟨k1, k2, k3⟩ := h4 i e m he hm
     exact ⟨k1, k2.mono hFF (fun _ _ => rfl), k3.mono hFF (fun _ _ => rfl) (fun _ _ h => h) (fun _ _ _ _ _ h => h)⟩⟩
   | mapl t clk es q => exact this
   | iter e' ok since seen => exact this
  ·obtain ⟨_, _, hx⟩ := lk_argsFr args 0 t g x h
   rw [Nat.sub_zero] at hx
   have hlt : t < vs.size := by rw [hl]; exact lt_of_get hx
   have hg : (vs ++ Array.replicate (fn.ntmps - vs.size) undef).getD t undef = vs[t] := by
    simp [Array.getElem?_append_left hlt, Array.getElem?_eq_getElem hlt]
   rw [hg]
   exact (hv t x vs[t] hx (Array.getElem?_eq_getElem hlt)).mono hFF (fun _ _ => rfl) (fun _ _ h => h) (fun _ _ _ _ _ h => h)
  ·obtain ⟨h1, _⟩ := lk_argsFr args 0 t false x h
   cases h1
 have hend : ∀ (e : Exit) (a' : Act) (w' : World) (s' : AState), (e = .ret ∨ e = .normal) → AEndG T fn.results.toList r ob1 e s' → SOK E fn.ntmps s' a' w' →
   a'.defers = [] ∧ ∃ v, (results fn a'.tmps).run P w' = .ok v w' ∧ ∃ v' β', Ending.returned v = .returned v' ∧ GOut F β w β' w' ob1 ∧ AVR (GF F β β' w w') β' w' r v' := fun e a' w' s' he hE hS => by
  obtain ⟨_, hd, β', hs'⟩ := hS
  obtain ⟨p, r', h1, h2, h3, h4⟩ : ∃ p r', resG T s' fn.results.toList = some (p, r') ∧ p ∧ (oneOf r').up r ∧ obUp s'.ob ob1 := by rcases he with rfl | rfl <;> exact hE
  obtain ⟨us, g1, g2, g3⟩ := resG_ok hT hs' _ _ _ h1 h2
  refine ⟨hd, (if h : us.toArray.size = 1 then us.toArray[0] else .tuple us.toArray), ?_, _, β', rfl, ⟨hs'.old, hs'.inj, hs'.rng, hs'.fx, hs'.fs, obUp_ok h4 hs'.ob⟩, h3 _ _ _ _ ?_⟩
  ·rw [results_eq, Sem.run_bind, Array.mapM_eq_mapM_toList, Sem.run_map, g1]
   rfl
  ·show AVR (FF E β' w') β' w' _ _
   by_cases h1' : us.length = 1
   ·obtain ⟨u, rfl⟩ := List.length_eq_one_iff.1 h1'
    obtain ⟨x, rfl⟩ := List.length_eq_one_iff.1 (g2.symm.trans h1')
    exact g3 0 x u rfl rfl
   ·have hr1 : r'.length ≠ 1 := by omega
    have ho : oneOf r' = .tup r' := by
     unfold oneOf
     split
     ·exact absurd rfl hr1
     ·rfl
    rw [ho, dif_neg (by simpa using h1')]
    exact .tup (by simp [g2]) fun i x v hx hv' => g3 i x v hx (by simpa using hv')
 refine calls_of_wp hf hb (wp_mono (h E _ w hs0) fun e a' w' hl' => ?_)
 obtain ⟨s', hE, hS⟩ := hl'
 cases e with
 | normal => exact hend .normal a' w' s' (.inr rfl) hE hS
 | ret => exact hend .ret a' w' s' (.inl rfl) hE hS
 | _ => exact hE.elim
theorem go_fnG (hT : TOK P T) {f : Nat} {fn : Func} {c : Code} {args : List AV} {ob ob1 : List (Nat × AObj)} {r : AV} {rs : List ResultVar} {n : Nat} (hf : P.funcs[f]? = some fn) (hb : fn.body = some c) (hnm : (fn.name == "runtime.NumGoroutine") = false) (hrs : fn.results.toList = rs) (hn : fn.ntmps = n)
  (hle : Nat.ble args.length n = true) (h : ∀ E : Env, AWp P E n c (AEndG T rs r ob1) { fr := argsFr 0 args, ob := ob }) : GCall P f args ob r ob1 := by
 subst hrs
 subst hn
 exact GCall.intro hT hf hb hnm (Nat.le_of_ble_eq_true hle) h
theorem aendG_ret {rs : List ResultVar} {r : AV} {ob1 : List (Nat × AObj)} {p : Prop} {r' : List AV} (h : resG T s rs = some (p, r')) (hp : p) (hR : (oneOf r').up r) (ho : obUp s.ob ob1) : AEndG T rs r ob1 .ret s := ⟨p, r', h, hp, hR, ho⟩
theorem aendG_normal {rs : List ResultVar} {r : AV} {ob1 : List (Nat × AObj)} {p : Prop} {r' : List AV} (h : resG T s rs = some (p, r')) (hp : p) (hR : (oneOf r').up r) (ho : obUp s.ob ob1) : AEndG T rs r ob1 .normal s := ⟨p, r', h, hp, hR, ho⟩
end
end Go.Proofs.Ytjeplogcfedmeaa
end
section
namespace Go.Proofs.Ytjeplogcfedmeaa
open Go.RowKit
def inv2 (l : List (Nat × Nat)) : List (Nat × Nat) := l.map fun p => (p.2, p.1)
theorem lk_inv2 {l : List (Nat × Nat)} {a b : Nat} (h : lk (inv2 l) a = some b) : (b, a) ∈ l := by
 have := lk_mem h
 simp only [inv2, List.mem_map, Prod.mk.injEq, Prod.exists] at this
 obtain ⟨x, y, h1, rfl, rfl⟩ := this
 exact h1
def rmL {α : Type} (K V : List Nat) : List (Nat × α) → List (Nat × α)
 | [] => []
 | (k, a) :: l => bif K.contains k || V.contains k then rmL K V l else (k, a) :: rmL K V l
theorem lk_rmL {α : Type} {K V : List Nat} {l : List (Nat × α)} {t : Nat} {a : α} (h : lk (rmL K V l) t = some a) : t ∉ K ∧ t ∉ V ∧ lk l t = some a := by
 induction l with
 | nil => cases h
 | cons p l ih =>
  obtain ⟨k, b⟩ := p
  unfold rmL at h
  cases hc : K.contains k || V.contains k with
  | true =>
   rw [hc] at h
   obtain ⟨h1, h2, h3⟩ := ih h
   refine ⟨h1, h2, ?_⟩
   have hk : k ≠ t := by
    rintro rfl
    simp only [Bool.or_eq_true, List.contains_eq_mem, decide_eq_true_eq] at hc
    rcases hc with hc | hc
    ·exact h1 hc
    ·exact h2 hc
   rw [lk_cons, bif_ne hk]; exact h3
  | false =>
   rw [hc, cond_false, lk_cons] at h
   simp only [Bool.or_eq_false_iff, List.contains_eq_mem, decide_eq_false_iff_not] at hc
   by_cases hk : k = t
   ·subst hk
    rw [bif_eq rfl] at h
    rw [lk_cons, bif_eq rfl]
    exact ⟨hc.1, hc.2, h⟩
   ·rw [bif_ne hk] at h
    rw [lk_cons, bif_ne hk]
    exact ih h
def handOK (hi bk : List (Nat × Nat)) (K V : List Nat) : Bool :=
 hi.all (fun p => (Nat.ble 10000 p.2 && Nat.blt p.2 20000) && (lk hi p.1 == some p.2) && (lk (inv2 hi) p.2 == some p.1) && (K.contains p.1 || V.contains p.1)) &&
 bk.all (fun p => (lk bk p.1 == some p.2) && (lk (inv2 bk) p.2 == some p.1) && (match lk (inv2 hi) p.1 with | some e => e == p.2 | none => true) && (K.contains p.2 || V.contains p.2)) &&
 V.all (fun e => match lk hi e with | some d => Nat.blt d 15000 && (lk bk d == some e) | none => false) &&
 K.all (fun e => decide (e < 10000) || decide (15000 ≤ e))
structure HandOK (hi bk : List (Nat × Nat)) (K V : List Nat) : Prop where
 hi1 : ∀ g d, lk hi g = some d → (10000 ≤ d ∧ d < 20000) ∧ lk (inv2 hi) d = some g ∧ (g ∈ K ∨ g ∈ V)
 hi2 : ∀ g d, lk (inv2 hi) d = some g → lk hi g = some d ∧ (10000 ≤ d ∧ d < 20000) ∧ (g ∈ K ∨ g ∈ V)
 bk1 : ∀ d e, lk bk d = some e → lk (inv2 bk) e = some d
 bk2 : ∀ d e, lk (inv2 bk) e = some d → lk bk d = some e ∧ (e ∈ K ∨ e ∈ V) ∧ ∀ g, lk (inv2 hi) d = some g → g = e
 him : ∀ g d, (g, d) ∈ hi → lk hi g = some d
 bkm : ∀ d e, (d, e) ∈ bk → lk bk d = some e
 v : ∀ e, e ∈ V → ∃ d, lk hi e = some d ∧ d < 15000 ∧ lk bk d = some e
 k : ∀ e, e ∈ K → ownN e
theorem handOK_ok {hi bk : List (Nat × Nat)} {K V : List Nat} (h : handOK hi bk K V = true) : HandOK hi bk K V := by
 simp only [handOK, Bool.and_eq_true, List.all_eq_true, beq_iff_eq, Bool.or_eq_true, List.contains_eq_mem, decide_eq_true_eq, Prod.forall] at h
 obtain ⟨⟨⟨h1, h2⟩, h3⟩, h4⟩ := h
 have H1 : ∀ g d, lk hi g = some d → (10000 ≤ d ∧ d < 20000) ∧ lk (inv2 hi) d = some g ∧ (g ∈ K ∨ g ∈ V) := fun g d h => by
  have := h1 g d (lk_mem h)
  exact ⟨⟨Nat.le_of_ble_eq_true this.1.1.1.1, Nat.le_of_ble_eq_true this.1.1.1.2⟩, this.1.2, this.2⟩
 have B1 : ∀ d e, lk bk d = some e → lk (inv2 bk) e = some d := fun d e h => (h2 d e (lk_mem h)).1.1.2
 refine ⟨H1, fun g d h => ?_, B1, fun d e h => ?_, fun g d h => (h1 g d h).1.1.2, fun d e h => (h2 d e h).1.1.1, fun e he => ?_, fun e he => h4 e he⟩
 ·have := h1 g d (lk_inv2 h)
  exact ⟨this.1.1.2, ⟨Nat.le_of_ble_eq_true this.1.1.1.1, Nat.le_of_ble_eq_true this.1.1.1.2⟩, this.2⟩
 ·have := h2 d e (lk_inv2 h)
  refine ⟨this.1.1.1, this.2, fun g hg => ?_⟩
  have h5 := this.1.2
  rw [hg] at h5
  simpa using h5
 ·have := h3 e he
  split at this
  ·rename_i d hd
   simp only [Bool.and_eq_true, beq_iff_eq] at this
   exact ⟨d, hd, Nat.le_of_ble_eq_true this.1, this.2⟩
  ·cases this
def AV.hand (hi : List (Nat × Nat)) (s : AState) : AV → AV
 | .agg cs => .agg (handL hi s cs)
 | .tup cs => .tup (handL hi s cs)
 | .ref t k d off len => match lk hi d with
  | some e => .ref t k e off len
  | none => (AV.ref t k d off len).snap s
 | .rfx t k d off len ext => match lk hi d with
  | some e => .rfx t k e off len ext
  | none => (AV.ref t k d off len).snap s
 | .ptr k d i j => match lk hi d with
  | some e => .ptr k e i j
  | none => .dead
 | .map d => match lk hi d with
  | some e => .map e
  | none => .dead
 | .v x => .v x
 | .lst k xs => .lst k xs
 | .lsx k xs ys => .lsx k xs ys
 | .elt k xs i j => .elt k xs i j
 | .slen n => .slen n
 | .fn f cs => .fn f (handL hi s cs)
 | .ifc t a => .ifc t (a.hand hi s)
 | .dead => .dead
where
 handL (hi : List (Nat × Nat)) (s : AState) : List AV → List AV
 | [] => []
 | c :: cs => c.hand hi s :: handL hi s cs
theorem AV.handL_eq (hi : List (Nat × Nat)) (s : AState) (cs : List AV) : AV.hand.handL hi s cs = cs.map (AV.hand hi s) := by
 induction cs with
 | nil => simp [AV.hand.handL]
 | cons c cs ih => simp [AV.hand.handL, ih]
def AV.handT (hi : List (Nat × Nat)) (s : AState) : AV → Prop
 | .agg cs => handTL hi s cs
 | .tup cs => handTL hi s cs
 | .ref t k d off len => match lk hi d with
  | some _ => True
  | none => (AV.ref t k d off len).snapOK s
 | .rfx t k d off len _ => match lk hi d with
  | some _ => True
  | none => (AV.ref t k d off len).snapOK s
 | .fn _ cs => handTL hi s cs
 | .ifc _ a => a.handT hi s
 | _ => True
where
 handTL (hi : List (Nat × Nat)) (s : AState) : List AV → Prop
 | [] => True
 | c :: cs => c.handT hi s ∧ handTL hi s cs
theorem AV.handTL_mem {hi : List (Nat × Nat)} {s : AState} {cs : List AV} (h : AV.handT.handTL hi s cs) : ∀ c ∈ cs, c.handT hi s := by
 induction cs with
 | nil => intro c hc; cases hc
 | cons c cs ih =>
  simp only [AV.handT.handTL] at h
  intro x hx
  rcases List.mem_cons.1 hx with rfl | hx
  ·exact h.1
  ·exact ih h.2 x hx
def AV.allIn (hi : List (Nat × Nat)) : AV → Bool
 | .agg cs => allInL hi cs
 | .tup cs => allInL hi cs
 | .ref _ _ d _ _ => (lk hi d).isSome
 | .rfx _ _ d _ _ _ => (lk hi d).isSome
 | .fn _ cs => allInL hi cs
 | .ifc _ a => a.allIn hi
 | _ => true
where
 allInL (hi : List (Nat × Nat)) : List AV → Bool
 | [] => true
 | c :: cs => c.allIn hi && allInL hi cs
theorem AV.allInL_mem {hi : List (Nat × Nat)} {cs : List AV} (h : AV.allIn.allInL hi cs = true) : ∀ c ∈ cs, c.allIn hi = true := by
 induction cs with
 | nil => intro c hc; cases hc
 | cons c cs ih =>
  simp only [AV.allIn.allInL, Bool.and_eq_true] at h
  intro x hx
  rcases List.mem_cons.1 hx with rfl | hx
  ·exact h.1
  ·exact ih h.2 x hx
def AV.nm : AV → Bool
 | .agg cs => nmL cs
 | .tup cs => nmL cs
 | .lst .. => false
 | .lsx .. => false
 | .elt .. => false
 | .fn _ cs => nmL cs
 | .ifc _ a => a.nm
 | _ => true
where
 nmL : List AV → Bool
 | [] => true
 | c :: cs => c.nm && nmL cs
theorem AV.nmL_mem {cs : List AV} (h : AV.nm.nmL cs = true) : ∀ c ∈ cs, c.nm = true := by
 induction cs with
 | nil => intro c hc; cases hc
 | cons c cs ih =>
  simp only [AV.nm.nmL, Bool.and_eq_true] at h
  intro x hx
  rcases List.mem_cons.1 hx with rfl | hx
  ·exact h.1
  ·exact ih h.2 x hx
def AObj.nm : AObj → Prop
 | .row _ _ xs => ∀ cs ∈ xs, ∀ u ∈ cs, ∃ x, u = .v x
 | .var cs => AV.nm.nmL cs = true
 | .mapo es => ∀ e ∈ es, (∃ x, e.1 = .v x) ∧ ∃ x, e.2 = .v x
 | .mapr _ es => ∀ e ∈ es, (∃ x, e.2.1 = .v x) ∧ e.2.2.nm = true
 | .iter .. => True
 | .mapl .. => True
def obNm : List (Nat × AObj) → Prop
 | [] => True
 | p :: l => p.2.nm ∧ obNm l
theorem obNm_lk {l : List (Nat × AObj)} (h : obNm l) {d : Nat} {o : AObj} (hl : lk l d = some o) : o.nm := by
 induction l with
 | nil => cases hl
 | cons p l ih =>
  obtain ⟨k, a⟩ := p
  rw [lk_cons] at hl
  by_cases hk : k = d
  ·rw [bif_eq hk] at hl; injection hl with hl; subst hl; exact h.1
  ·rw [bif_ne hk] at hl; exact ih h.2 hl
theorem svr_v {F F' : Nat → Prop} {w w' : World} {a : AV} {x : Value} (h : SVR F w a x) (ha : ∃ y, a = .v y) : SVR F' w' a x := by
 obtain ⟨y, rfl⟩ := ha
 cases h with
 | v h => exact .v h
theorem nm_ok {F F' : Nat → Prop} {β : Nat → Option Nat} {w : World} {x : AV} {v : Value} (h : AVR F β w x v) (hf : x.nm = true) : AVR F' β w x v := by
 induction h with
 | s h =>
  cases h with
  | v h => exact .s (.v h)
  | lst => cases hf
  | lsx => cases hf
 | agg h1 h2 _ ih => exact .agg h1 h2 fun i c u hc hu => ih i c u hc hu (AV.nmL_mem (by simpa only [AV.nm] using hf) c (List.mem_of_getElem? hc))
 | tup h1 _ ih => exact .tup h1 fun i c u hc hu => ih i c u hc hu (AV.nmL_mem (by simpa only [AV.nm] using hf) c (List.mem_of_getElem? hc))
 | nil => exact .nil
 | ref h1 h2 h3 h4 h5 => exact .ref h1 h2 h3 h4 h5
 | empty h1 => exact .empty h1
 | rfx h ih => exact .rfx (ih rfl)
 | ptr h1 => exact .ptr h1
 | elt => cases hf
 | map h1 => exact .map h1
 | slen => exact .slen
 | fn h0 h1 _ ih => exact .fn h0 h1 fun i c u hc hu => ih i c u hc hu (AV.nmL_mem (by simpa only [AV.nm] using hf) c (List.mem_of_getElem? hc))
 | ifc _ ih => exact .ifc (ih (by simpa only [AV.nm] using hf))
 | dead => exact .dead
theorem obj_nm {F F' : Nat → Prop} {β : Nat → Option Nat} {w : World} {d : Nat} {o : AObj} (h : ObjR F β w d o) (hn : o.nm) : ObjR F' β w d o := by
 cases o with
 | row t k xs =>
  obtain ⟨hk, h⟩ := h
  refine ⟨hk, ?_⟩
  rcases h with h | ⟨b, arr, h1, h2, h3, h4⟩
  ·exact .inl h
  ·exact .inr ⟨b, arr, h1, h2, h3, fun i j cs u hc hu => by
    obtain ⟨x, hx, hr⟩ := h4 i j cs u hc hu
    exact ⟨x, hx, svr_v hr (hn cs (List.mem_of_getElem? hc) u (List.mem_of_getElem? hu))⟩⟩
 | var cs =>
  obtain ⟨b, arr, t, h1, h2, h3, h4⟩ := h
  exact ⟨b, arr, t, h1, h2, h3, fun j u hu => by
   obtain ⟨x, hx, hr, ho⟩ := h4 j u hu
   exact ⟨x, hx, nm_ok hr (AV.nmL_mem hn u (List.mem_of_getElem? hu)), ho⟩⟩
 | mapo es =>
  obtain ⟨b, arr, clk, h1, h2, h3, h4⟩ := h
  exact ⟨b, arr, clk, h1, h2, h3, fun i e m he hm => ⟨svr_v (h4 i e m he hm).1 (hn e (List.mem_of_getElem? he)).1, svr_v (h4 i e m he hm).2 (hn e (List.mem_of_getElem? he)).2⟩⟩
 | mapr clk es =>
  obtain ⟨b, arr, h1, h2, h3, h4⟩ := h
  exact ⟨b, arr, h1, h2, h3, fun i e m he hm => ⟨(h4 i e m he hm).1, svr_v (h4 i e m he hm).2.1 (hn e (List.mem_of_getElem? he)).1, nm_ok (h4 i e m he hm).2.2 (hn e (List.mem_of_getElem? he)).2⟩⟩
 | mapl t clk es q => exact h
 | iter e' ok since seen => exact h
theorem objF {F F' : Nat → Prop} {β : Nat → Option Nat} {w : World} {d : Nat} {o : AObj} (h : ObjR F β w d o) (hF : ∀ b, F b → F' b) : ObjR F' β w d o := by
 cases o with
 | row t k xs =>
  obtain ⟨hk, h⟩ := h
  refine ⟨hk, ?_⟩
  rcases h with h | ⟨b, arr, h1, h2, h3, h4⟩
  ·exact .inl h
  ·exact .inr ⟨b, arr, h1, h2, h3, fun i j cs u hc hu => by
    obtain ⟨x, hx, hr⟩ := h4 i j cs u hc hu
    exact ⟨x, hx, hr.mono hF (fun _ _ => rfl)⟩⟩
 | var cs =>
  obtain ⟨b, arr, t, h1, h2, h3, h4⟩ := h
  exact ⟨b, arr, t, h1, h2, h3, fun j u hu => by
   obtain ⟨x, hx, hr, ho⟩ := h4 j u hu
   exact ⟨x, hx, hr.mono hF (fun _ _ => rfl) (fun _ _ h => h) (fun _ _ _ _ _ h => h), ho⟩⟩
 | mapo es =>
  obtain ⟨b, arr, clk, h1, h2, h3, h4⟩ := h
  exact ⟨b, arr, clk, h1, h2, h3, fun i e m he hm => ⟨(h4 i e m he hm).1.mono hF (fun _ _ => rfl), (h4 i e m he hm).2.mono hF (fun _ _ => rfl)⟩⟩
 | mapr clk es =>
  obtain ⟨b, arr, h1, h2, h3, h4⟩ := h
  exact ⟨b, arr, h1, h2, h3, fun i e m he hm => ⟨(h4 i e m he hm).1, (h4 i e m he hm).2.1.mono hF (fun _ _ => rfl), (h4 i e m he hm).2.2.mono hF (fun _ _ => rfl) (fun _ _ h => h) (fun _ _ _ _ _ h => h)⟩⟩
 | mapl t clk es q => exact h
 | iter e' ok since seen => exact h
def obIn (s : AState) (h0 : List (Nat × Nat)) : List (Nat × Nat) → List (Nat × AObj)
 | [] => []
 | (e, d) :: l => match lk s.ob e with
  | some o => (d, o.ren h0) :: obIn s h0 l
  | none => obIn s h0 l
theorem obIn_lk {s : AState} {h0 l : List (Nat × Nat)} {d : Nat} {o : AObj} (h : lk (obIn s h0 l) d = some o) : ∃ e o', (e, d) ∈ l ∧ lk s.ob e = some o' ∧ o = o'.ren h0 := by
 induction l with
 | nil => cases h
 | cons p l ih =>
  obtain ⟨e, d'⟩ := p
  unfold obIn at h
  split at h
  ·rename_i o' ho
   rw [lk_cons] at h
   by_cases hk : d' = d
   ·subst hk; rw [bif_eq rfl] at h; injection h with h; subst h; exact ⟨e, o', .head _, ho, rfl⟩
   ·rw [bif_ne hk] at h
    obtain ⟨e', o'', h1, h2, h3⟩ := ih h
    exact ⟨e', o'', .tail _ h1, h2, h3⟩
  ·obtain ⟨e', o'', h1, h2, h3⟩ := ih h
   exact ⟨e', o'', .tail _ h1, h2, h3⟩
def obBack (ob1 : List (Nat × AObj)) (b0 : List (Nat × Nat)) : List (Nat × Nat) → List (Nat × AObj)
 | [] => []
 | (d, e) :: l => match lk ob1 d with
  | some o => (e, o.ren b0) :: obBack ob1 b0 l
  | none => obBack ob1 b0 l
theorem obBack_lk {ob1 : List (Nat × AObj)} {b0 l : List (Nat × Nat)} {e : Nat} {o : AObj} (h : lk (obBack ob1 b0 l) e = some o) : ∃ d o', (d, e) ∈ l ∧ lk ob1 d = some o' ∧ o = o'.ren b0 := by
 induction l with
 | nil => cases h
 | cons p l ih =>
  obtain ⟨d, e'⟩ := p
  unfold obBack at h
  split at h
  ·rename_i o' ho
   rw [lk_cons] at h
   by_cases hk : e' = e
   ·subst hk; rw [bif_eq rfl] at h; injection h with h; subst h; exact ⟨d, o', .head _, ho, rfl⟩
   ·rw [bif_ne hk] at h
    obtain ⟨e', o'', h1, h2, h3⟩ := ih h
    exact ⟨e', o'', .tail _ h1, h2, h3⟩
  ·obtain ⟨e', o'', h1, h2, h3⟩ := ih h
   exact ⟨e', o'', .tail _ h1, h2, h3⟩
def AState.back (s : AState) (K V : List Nat) (bk : List (Nat × Nat)) (ob1 : List (Nat × AObj)) : AState :=
 { fr := s.fr.map fun p => (p.1, p.2.1, p.2.2.cut K V), ob := obBack ob1 bk bk ++ (rmL K V s.ob).map fun p => (p.1, p.2.cut K V) }
section
variable {P : Program} {T : Nat → Option TyD} {E : Env} {s s' : AState} {a : Act} {tm : Array Value} {w w' : World} {β β' : Nat → Option Nat} {F F' : Nat → Prop} {n : Nat} {ops : Array Oper} {Q : Exit → AState → Prop} {D : Dr} {hi bk : List (Nat × Nat)} {K V : List Nat}
def bIn (hi : List (Nat × Nat)) (β : Nat → Option Nat) (d : Nat) : Option Nat := (lk (inv2 hi) d).bind β
def bBack (bk : List (Nat × Nat)) (K V : List Nat) (β β' : Nat → Option Nat) (e : Nat) : Option Nat :=
 match lk (inv2 bk) e with
 | some d => β' d
 | none => bif K.contains e || V.contains e then none else β e
theorem bIn_some {d b : Nat} (h : bIn hi β d = some b) : ∃ g, lk (inv2 hi) d = some g ∧ β g = some b := by
 unfold bIn at h
 cases hl : lk (inv2 hi) d with
 | none => rw [hl] at h; cases h
 | some g => rw [hl] at h; exact ⟨g, rfl, h⟩
theorem bBack_some {e b : Nat} (h : bBack bk K V β β' e = some b) : (∃ d, lk (inv2 bk) e = some d ∧ β' d = some b) ∨ (lk (inv2 bk) e = none ∧ e ∉ K ∧ e ∉ V ∧ β e = some b) := by
 unfold bBack at h
 split at h
 ·rename_i d hd; exact .inl ⟨d, hd, h⟩
 ·rename_i hd
  cases hc : K.contains e || V.contains e with
  | true => rw [hc] at h; cases h
  | false =>
   rw [hc] at h
   simp only [Bool.or_eq_false_iff, List.contains_eq_mem, decide_eq_false_iff_not] at hc
   exact .inr ⟨hd, hc.1, hc.2, h⟩
theorem bBack_in {d e : Nat} (H : HandOK hi bk K V) (h : lk bk d = some e) : bBack bk K V β β' e = β' d := by
 unfold bBack; rw [H.bk1 d e h]
theorem bBack_out {e : Nat} (H : HandOK hi bk K V) (h1 : e ∉ K) (h2 : e ∉ V) : bBack bk K V β β' e = β e := by
 unfold bBack
 cases hl : lk (inv2 bk) e with
 | some d =>
  rcases (H.bk2 d e hl).2.1 with h | h
  ·exact absurd h h1
  ·exact absurd h h2
 | none =>
  have : (K.contains e || V.contains e) = false := by simp [h1, h2]
  rw [this]; rfl
theorem SRel.called (hs : SRel E s tm w β) (H : HandOK hi bk K V) (hkeep : Keeps (fun b => ∃ d, bIn hi β d = some b) w w') (hinj : ∀ d e b, β' d = some b → β' e = some b → d = e)
  (hrng : ∀ d b, β' d = some b → (w.heap.size ≤ b ∨ bIn hi β d = some b) ∧ b < w'.heap.size) (hfx : ∀ d b, d < 15000 → bIn hi β d = some b → β' d = some b) (hfs : ∀ d b t n, d < 15000 → bIn hi β d = some b → Shp w b t n → Shp w' b t n)
  {ob1 : List (Nat × AObj)} (hob : ∀ d o, lk ob1 d = some o → ObjR (FF E (bBack bk K V β β') w') β' w' d o) : SRel E (s.back K V bk ob1) tm w' (bBack bk K V β β') := by
 have hsz := hkeep.size
 have hout : ∀ e b, e ∉ K → e ∉ V → β e = some b → w'.heap[b]? = w.heap[b]? := fun e b h1 h2 hb => hkeep.block b (hs.rng e b hb).2 fun ⟨d, hd⟩ => by
  obtain ⟨g, hg, hgb⟩ := bIn_some hd
  have := hs.inj g e b hgb hb
  subst this
  rcases (H.hi2 g d hg).2.2 with h | h
  ·exact h1 h
  ·exact h2 h
 have hFF : ∀ b, FF E β w b → ¬ ∃ d, bIn hi β d = some b := fun b hb ⟨d, hd⟩ => by
  obtain ⟨g, _, hgb⟩ := bIn_some hd
  exact hb.2.2 g hgb
 have hFw : ∀ b, FF E β w b → w'.heap[b]? = w.heap[b]? := fun b hb => hkeep.block b hb.1 (hFF b hb)
 have hF : ∀ b, FF E β w b → FF E (bBack bk K V β β') w' b := fun b hb => ⟨Nat.lt_of_lt_of_le hb.1 hsz, hb.2.1, fun e he => by
  rcases bBack_some he with ⟨d, hd, hdb⟩ | ⟨_, _, _, heb⟩
  ·rcases (hrng d b hdb).1 with h | h
   ·have := hb.1; omega
   ·exact hFF b hb ⟨d, h⟩
  ·exact hb.2.2 e heb⟩
 have hvb : ∀ e b, e ∈ V → β e = some b → bBack bk K V β β' e = some b := fun e b he hb => by
  obtain ⟨d, h1, h2, h3⟩ := H.v e he
  rw [bBack_in H h3]
  refine hfx d b h2 ?_
  unfold bIn
  rw [(H.hi1 e d h1).2.1]; exact hb
 have hβ : ∀ e b, e ∉ K → β e = some b → bBack bk K V β β' e = some b := fun e b he hb => by
  by_cases hv : e ∈ V
  ·exact hvb e b hv hb
  ·rw [bBack_out H he hv]; exact hb
 have hsh : ∀ e b t n, e ∉ K → β e = some b → Shp w b t n → Shp w' b t n := fun e b t n he hb h => by
  by_cases hv : e ∈ V
  ·obtain ⟨d, h1, h2, h3⟩ := H.v e hv
   exact hfs d b t n h2 (by unfold bIn; rw [(H.hi1 e d h1).2.1]; exact hb) h
  ·exact h.of_heap (hout e b he hv hb)
 have hown : ∀ e d b, lk (inv2 bk) e = some d → bIn hi β d = some b → β e = some b := fun e d b hd hb => by
  obtain ⟨g, hg, hgb⟩ := bIn_some hb
  have := (H.bk2 d e hd).2.2 g hg
  subst this; exact hgb
 refine ⟨fun e f b h1 h2 => ?_, fun e b h => ?_, ?_, fun e o ho => ?_, fun t g x ht hg => ?_, fun t x ht => ?_, fun e b hlt he => ?_, fun e b t n hlt he hS => ?_⟩
 ·rcases bBack_some h1 with ⟨d, hd, hdb⟩ | ⟨_, k1, v1, heb⟩ <;> rcases bBack_some h2 with ⟨d', hd', hdb'⟩ | ⟨_, k2, v2, hfb⟩
  ·have := hinj d d' b hdb hdb'
   subst this
   have a1 := (H.bk2 d e hd).1
   have a2 := (H.bk2 d f hd').1
   rw [a1] at a2
   injection a2
  ·rcases (hrng d b hdb).1 with h | h
   ·have := (hs.rng f b hfb).2; omega
   ·have h3 := hown e d b hd h
    have := hs.inj e f b h3 hfb
    subst this
    rcases (H.bk2 d e hd).2.1 with h | h
    ·exact absurd h k2
    ·exact absurd h v2
  ·rcases (hrng d' b hdb').1 with h | h
   ·have := (hs.rng e b heb).2; omega
   ·have h3 := hown f d' b hd' h
    have := hs.inj f e b h3 heb
    subst this
    rcases (H.bk2 d' f hd').2.1 with h | h
    ·exact absurd h k1
    ·exact absurd h v1
  ·exact hs.inj e f b heb hfb
 ·rcases bBack_some h with ⟨d, hd, hdb⟩ | ⟨_, _, _, heb⟩
  ·have h1 := hrng d b hdb
   refine ⟨?_, h1.2⟩
   rcases h1.1 with h | h
   ·exact .inl (Nat.le_trans hs.old.size h)
   ·exact (hs.rng e b (hown e d b hd h)).1
  ·have := hs.rng e b heb
   exact ⟨this.1, by omega⟩
 ·refine hs.old.trans hkeep fun m hm ⟨d, hd⟩ => ?_
  obtain ⟨g, _, hgb⟩ := bIn_some hd
  rcases (hs.rng g m hgb).1 with h | h
  ·omega
  ·exact ⟨g, h⟩
 ·have ho' : lk (obBack ob1 bk bk ++ (rmL K V s.ob).map fun p => (p.1, p.2.cut K V)) e = some o := ho
  rw [lk_append] at ho'
  cases hl : lk (obBack ob1 bk bk) e with
  | some o1 =>
   rw [hl] at ho'
   injection ho' with ho'
   subst ho'
   obtain ⟨d, o2, hm, hd, rfl⟩ := obBack_lk hl
   exact (hob d o2 hd).ren (fun _ h => h) (fun d e b h hb => by rw [bBack_in H h]; exact hb) fun b hb => by rw [bBack_in H (H.bkm d e hm)]; exact hb
  | none =>
   rw [hl] at ho'
   dsimp only at ho'
   rw [lk_map (fun o : AObj => o.cut K V)] at ho'
   cases hr : lk (rmL K V s.ob) e with
   | none => rw [hr] at ho'; cases ho'
   | some o1 =>
    rw [hr] at ho'
    injection ho' with ho'
    subst ho'
    obtain ⟨k1, v1, h1⟩ := lk_rmL hr
    exact (hs.ob e o1 h1).cut hF hFw hβ hsh hout k1 v1
 ·have ht' : lk (s.fr.map fun p => (p.1, p.2.1, p.2.2.cut K V)) t = some (g, x) := ht
  rw [lk_map (fun p : Bool × AV => (p.1, p.2.cut K V))] at ht'
  cases hl : lk s.fr t with
  | none => rw [hl] at ht'; cases ht'
  | some p =>
   obtain ⟨g', x'⟩ := p
   rw [hl] at ht'
   injection ht' with ht'
   injection ht' with h1 h2
   subst h1
   subst h2
   exact (hs.fr t g' x' hl hg).cut hF hFw hβ hsh
 ·have ht' : lk (s.fr.map fun p => (p.1, p.2.1, p.2.2.cut K V)) t = some (false, x) := ht
  rw [lk_map (fun p : Bool × AV => (p.1, p.2.cut K V))] at ht'
  cases hl : lk s.fr t with
  | none => rw [hl] at ht'; cases ht'
  | some p =>
   obtain ⟨g', x'⟩ := p
   rw [hl] at ht'
   injection ht' with ht'
   injection ht' with h1 h2
   dsimp only at h1
   subst h1
   exact hs.un t x' hl
 ·have h1 := hs.fx e b hlt he
  refine hβ e b (fun hk => ?_) h1
  have h2 := H.k e hk
  have h3 := E.hβ e b he
  rcases h2 with h | h <;> omega
 ·refine hsh e b t n (fun hk => ?_) (hs.fx e b hlt he) (hs.fs e b t n hlt he hS)
  have h2 := H.k e hk
  have h3 := E.hβ e b he
  rcases h2 with h | h <;> omega
theorem snap_ref (hs : SRel E s tm w β) {t k d off len : Nat} {v : Value} (h : AVR (FF E β w) β w (.ref t k d off len) v) (hd : lk hi d = none) (hF : ∀ b, FF E β w b → F' b) (hβ : ∀ d b, lk hi d = none → β d = some b → F' b)
  (hok : (AV.ref t k d off len).snapOK s) {β1 : Nat → Option Nat} : AVR F' β1 w ((AV.ref t k d off len).snap s) v := by
 have nil0 : ∀ (k' : Nat) (xs : List (List AV)) (A : Option Addr), ∀ (w : World), SVR F' w (.lst k' ((xs.take (off + 0)).drop off)) (.slice A 0 0) := fun k' xs A w => by
  have hz : (xs.take (off + 0)).drop off = [] := List.eq_nil_of_length_eq_zero (by rw [List.length_drop, List.length_take]; omega)
  rw [hz]
  exact .lst (fun _ _ => .nilFunc) rfl (Nat.le_refl _) (by decide) (fun cs hcs => by cases hcs) (fun h => by omega) (fun i j hi => by omega) fun i j cs u hc => by simp at hc
 simp only [AV.snap]
 split
 case h_2 => exact .dead
 rename_i t' k' xs hob
 cases h with
 | s h => cases h
 | nil => exact .s (nil0 _ _ _ _)
 | empty h1 => exact .s (nil0 _ _ _ _)
 | @ref _ _ _ _ _ c b A h1 h2 h3 h4 h5 =>
  simp only [AV.snapOK, hob] at hok
  obtain ⟨rfl, rfl, hl⟩ := hok
  obtain ⟨hk, hrow⟩ := hs.ob d _ hob
  have hlen : ((xs.take (off + len)).drop off).length = len := by rw [List.length_drop, List.length_take]; omega
  have hkk : ∀ cs ∈ (xs.take (off + len)).drop off, cs.length = k' := fun cs hcs => hk cs (List.mem_of_mem_take (List.mem_of_mem_drop hcs))
  subst h4
  rcases hrow with rfl | ⟨b', arr, hb', harr, hsz, hc⟩
  ·simp only [List.length_nil] at hl
   have hl0 : len = 0 := by omega
   subst hl0
   exact .s (.lst (fun _ _ => .nilFunc) hlen.symm h2 h3 (fun cs hcs => hkk cs hcs) (fun h => by omega) (fun i j hi => by omega) fun i j cs u hc => by simp at hc)
  ·rw [h1] at hb'
   injection hb' with hb'
   subst hb'
   have get : ∀ i cs, ((xs.take (off + len)).drop off)[i]? = some cs → i < len ∧ xs[off + i]? = some cs := fun i cs hcs => by
    have hi : i < len := by rw [← hlen]; exact lt_of_get hcs
    rw [List.getElem?_drop, List.getElem?_take_of_lt (by omega)] at hcs
    exact ⟨hi, hcs⟩
   have hall : ∀ i j, i < len → j < k' → ∃ x, arr[(off + i) * k' + j]? = some x ∧ x.oneCell' = true := fun i j hi hj => by
    have hlt : off + i < xs.length := by omega
    have hlj : j < (xs[off + i]).length := by rw [hk _ (List.getElem_mem hlt)]; exact hj
    obtain ⟨x, hx, hr⟩ := hc (off + i) j xs[off + i] (xs[off + i])[j] (List.getElem?_eq_getElem hlt) (List.getElem?_eq_getElem hlj)
    exact ⟨x, hx, hr.one⟩
   refine .s (.lst (fun i j => (arr[(off + i) * k' + j]?).getD undef) hlen.symm h2 h3 hkk (fun _ => ⟨b, off * k', rfl, hβ d b hd h1, fun i j hi hj => ?_⟩) (fun i j hi hj => ?_) fun i j cs u hcs hu => ?_)
   ·obtain ⟨x, hx, _⟩ := hall i j hi hj
    rw [cell_of_row w b _ arr t' (0, 0) harr, show off * k' + (i * k' + j) = (off + i) * k' + j by rw [Nat.add_mul]; omega, hx]
    rfl
   ·obtain ⟨x, hx, ho⟩ := hall i j hi hj
    show ((arr[(off + i) * k' + j]?).getD undef).oneCell' = true
    rw [hx]; exact ho
   ·obtain ⟨hi, hcs'⟩ := get i cs hcs
    obtain ⟨x, hx, hr⟩ := hc (off + i) j cs u hcs' hu
    show SVR F' w u ((arr[(off + i) * k' + j]?).getD undef)
    rw [hx]; exact hr.mono hF (fun _ _ => rfl)
theorem hand_ok (hs : SRel E s tm w β) (H : HandOK hi bk K V) (hF : ∀ b, FF E β w b → F' b) {x : AV} {v : Value} (hβ : x.allIn hi = true ∨ ∀ d b, lk hi d = none → β d = some b → F' b) (h : AVR (FF E β w) β w x v) (hok : x.handT hi s) :
  AVR F' (bIn hi β) w (x.hand hi s) v := by
 have hin : ∀ d e b, lk hi d = some e → β d = some b → bIn hi β e = some b := fun d e b h1 h2 => by
  unfold bIn; rw [(H.hi1 d e h1).2.1]; exact h2
 induction h with
 | s h =>
  cases h with
  | v h => exact .s (.v h)
  | lst g h1 h2 h3 h4 h5 h6 h7 => exact .s ((SVR.lst g h1 h2 h3 h4 h5 h6 h7).mono hF (fun _ _ => rfl))
  | lsx h => exact .s ((SVR.lsx h).mono hF (fun _ _ => rfl))
 | @agg cs vs h1 h2 _ ih =>
  simp only [AV.hand, AV.handL_eq]
  refine .agg (by simpa using h1) h2 fun i c u hc hu => ?_
  rw [List.getElem?_map] at hc
  cases hci : cs[i]? with
  | none => rw [hci] at hc; cases hc
  | some c' => rw [hci] at hc; injection hc with hc; subst hc; exact ih i c' u hci hu (hβ.imp (fun h => AV.allInL_mem (by simpa only [AV.allIn] using h) c' (List.mem_of_getElem? hci)) id) (AV.handTL_mem (by simpa only [AV.handT] using hok) c' (List.mem_of_getElem? hci))
 | @tup cs vs h1 _ ih =>
  simp only [AV.hand, AV.handL_eq]
  refine .tup (by simpa using h1) fun i c u hc hu => ?_
  rw [List.getElem?_map] at hc
  cases hci : cs[i]? with
  | none => rw [hci] at hc; cases hc
  | some c' => rw [hci] at hc; injection hc with hc; subst hc; exact ih i c' u hci hu (hβ.imp (fun h => AV.allInL_mem (by simpa only [AV.allIn] using h) c' (List.mem_of_getElem? hci)) id) (AV.handTL_mem (by simpa only [AV.handT] using hok) c' (List.mem_of_getElem? hci))
 | @nil t k d off =>
  simp only [AV.hand]
  split
  ·exact .nil
  ·rename_i hd
   exact snap_ref hs (.nil) hd hF (hβ.resolve_left (by simp [AV.allIn, hd])) (by simpa only [AV.handT, hd] using hok)
 | @empty t k d off A h1 =>
  simp only [AV.hand]
  split
  ·exact .empty h1
  ·rename_i hd
   exact snap_ref hs (.empty h1) hd hF (hβ.resolve_left (by simp [AV.allIn, hd])) (by simpa only [AV.handT, hd] using hok)
 | @ref t k d off len c b A h1 h2 h3 h4 h5 =>
  simp only [AV.hand]
  split
  ·rename_i e he; exact .ref (hin _ _ _ he h1) h2 h3 h4 h5
  ·rename_i hd
   exact snap_ref hs (.ref h1 h2 h3 h4 h5) hd hF (hβ.resolve_left (by simp [AV.allIn, hd])) (by simpa only [AV.handT, hd] using hok)
 | @rfx t k d off len ext c A h ih =>
  simp only [AV.hand]
  split
  ·rename_i e he
   have h' := ih (hβ.imp (fun h => by simpa only [AV.allIn] using h) id) (by simp only [AV.handT, he])
   simp only [AV.hand, he] at h'
   exact .rfx h'
  ·rename_i hd
   exact snap_ref hs (AVR.rfx h).rfx_ref hd hF (hβ.resolve_left (by simp [AV.allIn, hd])) (by simpa only [AV.handT, hd] using hok)
 | @ptr k d i j b h1 =>
  simp only [AV.hand]
  split
  ·rename_i e he; exact .ptr (hin _ _ _ he h1)
  ·exact .dead
 | elt g h1 h2 h3 h4 h5 =>
  simp only [AV.hand]
  exact .elt g (hF _ h1) h2 h3 h4 (fun i j cs u hc hu => (h5 i j cs u hc hu).mono hF (fun _ _ => rfl))
 | @map d b h1 =>
  simp only [AV.hand]
  split
  ·rename_i e he; exact .map (hin _ _ _ he h1)
  ·exact .dead
 | slen => exact .slen
 | @fn f g cs vs xs ys h0 h1 _ ih =>
  simp only [AV.hand, AV.handL_eq]
  refine .fn h0 (by simpa using h1) fun i c u hc hu => ?_
  rw [List.getElem?_map] at hc
  cases hci : cs[i]? with
  | none => rw [hci] at hc; cases hc
  | some c' => rw [hci] at hc; injection hc with hc; subst hc; exact ih i c' u hci hu (hβ.imp (fun h => AV.allInL_mem (by simpa only [AV.allIn] using h) c' (List.mem_of_getElem? hci)) id) (AV.handTL_mem (by simpa only [AV.handT] using hok) c' (List.mem_of_getElem? hci))
 | @ifc t a x _ ih => exact .ifc (ih (hβ.imp (fun h => by simpa only [AV.allIn] using h) id) (by simpa only [AV.handT] using hok))
 | dead => exact .dead
end
end Go.Proofs.Ytjeplogcfedmeaa
end
section
namespace Go.Proofs.Ytjeplogcfedmeaa
open Go.RowKit
def callG (n : Nat) (ops : Array Oper) (s : AState) (o : Oper) (hi : List (Nat × Nat)) : Option (Nat × List AV × Prop) :=
 match guardAV ops s o.guard, o.op with
 | some G, .call ⟨.value x, args, _⟩ =>
  match s.ev x with
  | .v (.func (.func f) _ _) => some (f, args.toList.map (fun z => (s.ev z).hand hi s), G = true ∧ dstOK n o.dst ∧ s.gd x = true ∧ args.toList.all s.gd = true ∧ AV.handT.handTL hi s (args.toList.map s.ev))
  | _ => none
 | _, _ => none
section
variable {P : Program} {T : Nat → Option TyD} {E : Env} {s s' : AState} {a : Act} {tm : Array Value} {w w' : World} {β β' : Nat → Option Nat} {F F' : Nat → Prop} {n : Nat} {ops : Array Oper} {Q : Exit → AState → Prop} {D : Dr} {rest : List Oper} {o : Oper}
theorem callG_spec {f : Nat} {as' : List AV} {p : Prop} {hi : List (Nat × Nat)} (h : callG n ops s o hi = some (f, as', p)) (hp : p) :
  guardAV ops s o.guard = some true ∧ ∃ x args ats first cap, o.op = .call ⟨.value x, args, ats⟩ ∧ s.ev x = .v (.func (.func f) first cap) ∧ s.gd x = true ∧ dstOK n o.dst ∧ args.toList.map (fun z => (s.ev z).hand hi s) = as' ∧
   args.toList.all s.gd = true ∧ ∀ z ∈ args.toList, (s.ev z).handT hi s := by
 unfold callG at h
 split at h
 case h_2 => cases h
 rename_i G x args ats hg ho
 split at h
 case h_2 => cases h
 rename_i f' first cap hx
 simp only [Option.some.injEq, Prod.mk.injEq] at h
 obtain ⟨rfl, rfl, rfl⟩ := h
 obtain ⟨rfl, h1, h2, h3, h4⟩ := hp
 exact ⟨hg, x, args, ats, first, cap, ho, hx, h2, h1, rfl, h3, fun z hz => AV.handTL_mem h4 _ (List.mem_map_of_mem hz)⟩
theorem go_callG (hi bk : List (Nat × Nat)) (K V : List Nat) {f : Nat} {as' : List AV} {p : Prop} {ob ob1 : List (Nat × AObj)} {r : AV} (h : callG n ops s o hi = some (f, as', p)) (hp : p) (hk : handOK hi bk K V = true)
  (hD : hi.all (fun p => D.W p.1) = true) (hds : D.ds o = true ∨ hi = []) (hob : obIn s hi hi = ob) (hc : GCall P f as' ob r ob1) (hm : AV.allIn.allInL hi (o.op.operands.toList.map s.ev) = true ∨ (r.nm = true ∧ obNm ob1))
  (hr : AListD P E n ops D rest Q ((s.back K V bk ob1).put o.dst true (r.ren bk))) : AListR P E n ops D (o :: rest) Q s := by
 obtain ⟨hg, x, args, ats, first, cap, ho, hx, hgx, hdst, has, hall, hT⟩ := callG_spec h hp
 have H := handOK_ok hk
 intro a w β hn hd hs
 have hw := guard_ok (ops := ops) hs hg
 have hv := hs.ev x hgx (a := a) rfl
 rw [hx] at hv
 obtain ⟨rfl, rfl⟩ := func_plain hv
 generalize hux : a.eval x = ux at hv
 cases hv with | s hv => cases hv with | v hv =>
 obtain ⟨⟨fn, hf, hb, hnm⟩, hcall⟩ := hc
 have hopl : o.op.operands.toList = x :: args.toList := by rw [ho]; simp [Op.operands, Call.operands]
 refine step_list (by rw [ho]; rfl) hw (fun _ => ?_) (fun hGf => by cases hGf)
 unfold Oper.wp
 rw [exec_call (w := w) ho hux hf hb hnm]
 have key : ∀ F : Nat → Prop, (∀ b, FF E β w b → F b) → FOK F w → (∀ b, F b → ¬ ∃ d, bIn hi β d = some b) →
   (∀ z ∈ args.toList, (s.ev z).allIn hi = true ∨ ∀ d b, lk hi d = none → β d = some b → F b) →
   (∀ (β' : Nat → Option Nat) (w' : World), Keeps (fun b => ∃ d, bIn hi β d = some b) w w' → (∀ d b, β' d = some b → (w.heap.size ≤ b ∨ bIn hi β d = some b) ∧ b < w'.heap.size) →
    (∀ d o, lk ob1 d = some o → ObjR (GF F (bIn hi β) β' w w') β' w' d o → ObjR (FF E (bBack bk K V β β') w') β' w' d o) ∧ ∀ v, AVR (GF F (bIn hi β) β' w w') β' w' r v → AVR (FF E (bBack bk K V β β') w') β' w' r v) →
   Calls P f (args.map a.eval) w (fun e w' => ∃ v, e = .returned v ∧ ∃ X', StepX (D.dst o) (XW D β) w X' w' ∧ wpListS P ops D (lift E n Q) (nrm E n D (Q .normal)) rest X' (a.put o.dst v) w') := fun F h1 h2 h3 h4 h5 => by
  refine (hcall w F (bIn hi β) (args.map a.eval) ⟨h2, fun d e b g1 g2 => ?_, fun d b hb => ?_, fun d ob' hd' => ?_⟩ (by rw [← has]; simp) fun i y v hy hv' => ?_).mono fun e w' ⟨v, β', he, hout, hres⟩ => ?_
  ·obtain ⟨g, k1, k2⟩ := bIn_some g1
   obtain ⟨g', k3, k4⟩ := bIn_some g2
   have := hs.inj g g' b k2 k4
   subst this
   have z1 := (H.hi2 g d k1).1
   rw [(H.hi2 g e k3).1] at z1
   injection z1 with z1
   exact z1.symm
  ·obtain ⟨g, k1, k2⟩ := bIn_some hb
   exact ⟨(hs.rng g b k2).2, fun hF => h3 b hF ⟨d, hb⟩, (H.hi2 g d k1).2.1⟩
  ·rw [← hob] at hd'
   obtain ⟨e, o', hm', ho', rfl⟩ := obIn_lk hd'
   have hed := H.him e d hm'
   have hin : ∀ d e b, lk hi d = some e → β d = some b → bIn hi β e = some b := fun d e b h1 h2 => by
    unfold bIn; rw [(H.hi1 d e h1).2.1]; exact h2
   exact (hs.ob e o' ho').ren h1 hin fun b hb => hin e d b hed hb
  ·rw [Array.getElem?_map] at hv'
   cases hz : args[i]? with
   | none => rw [hz] at hv'; cases hv'
   | some z =>
    rw [hz] at hv'
    injection hv' with hv'
    subst hv'
    have hz' : args.toList[i]? = some z := by simpa using hz
    rw [← has, List.getElem?_map, hz'] at hy
    injection hy with hy
    subst hy
    have hmem := List.mem_of_getElem? hz'
    exact hand_ok hs H h1 (h4 z hmem) (hs.ev z (List.all_eq_true.1 hall z hmem) rfl) (hT z hmem)
  ·obtain ⟨t1, t2⟩ := h5 β' w' hout.keeps hout.rng
   have hs' := hs.called H hout.keeps hout.inj hout.rng hout.fx hout.fs (ob1 := ob1) fun d o hd' => t1 d o hd' (hout.ob d o hd')
   have hr' : AVR (FF E (bBack bk K V β β') w') (bBack bk K V β β') w' (r.ren bk) v := (t2 v hres).ren (fun _ h => h) fun d e b h hb => by rw [bBack_in H h]; exact hb
   obtain ⟨g1, g2, g3⟩ := putRel hn hd hs' hdst true (r.ren bk) (fun _ => hr') (fun h => by cases h)
   have hDW : ∀ g d, lk hi g = some d → D.W g = true := fun g d h => List.all_eq_true.1 hD (g, d) (lk_mem h)
   refine ⟨v, he, XW D (bBack bk K V β β'), ⟨fun hf => ?_, ⟨hout.keeps.size, fun b hb hx => hout.keeps.block b hb fun ⟨d, hd'⟩ => ?_⟩, fun b hb ⟨e, k1, k2⟩ => ?_⟩, hr _ _ _ g1 g2 g3⟩
   ·rcases hds with hds | rfl
    ·simp only [Dr.dst, ho, isCallV, hds, Bool.and_true, Bool.or_true] at hf; cases hf
    ·exact ⟨hout.keeps.size, fun b hb _ => hout.keeps.block b hb fun ⟨d, hd'⟩ => by obtain ⟨g, k1, _⟩ := bIn_some hd'; cases k1⟩
   ·obtain ⟨g, k1, k2⟩ := bIn_some hd'
    exact hx ⟨g, hDW g d (H.hi2 g d k1).1, k2⟩
   ·rcases bBack_some k2 with ⟨d, hd', hdb⟩ | ⟨_, _, _, heb⟩
    ·rcases (hout.rng d b hdb).1 with h | h
     ·omega
     ·obtain ⟨g, k3, k4⟩ := bIn_some h
      have := (H.bk2 d e hd').2.2 g k3
      subst this
      exact ⟨g, k1, k4⟩
    ·exact ⟨e, k1, heb⟩
 have fin : Calls P f (args.map a.eval) w (fun e w' => ∃ v, e = .returned v ∧ ∃ X', StepX (D.dst o) (XW D β) w X' w' ∧ wpListS P ops D (lift E n Q) (nrm E n D (Q .normal)) rest X' (a.put o.dst v) w') := by
  rcases hm with hm | ⟨hm1, hm2⟩
  ·refine key (FF E β w) (fun _ h => h) hs.glo (fun b hb ⟨d, hd'⟩ => ?_) (fun z hz => .inl (AV.allInL_mem hm _ (List.mem_map_of_mem (by rw [hopl]; exact .tail _ hz)))) (fun β' w' hkp hrg => ?_)
   ·obtain ⟨g, _, k2⟩ := bIn_some hd'
    exact hb.2.2 g k2
   ·have hgf : ∀ b, GF (FF E β w) (bIn hi β) β' w w' b → FF E (bBack bk K V β β') w' b := fun b hb => by
     refine ⟨hb.1, ?_, fun e he => ?_⟩
     ·rcases hb.2.1 with h | h | ⟨d, h⟩
      ·exact h.2.1
      ·exact .inr (.inl (Nat.le_trans hs.old.size h))
      ·obtain ⟨g, _, k2⟩ := bIn_some h
       exact .inr ((hs.rng g b k2).1.imp id fun h => ⟨g, h⟩)
     ·rcases bBack_some he with ⟨d, hd', hdb⟩ | ⟨_, heK, heV, heb⟩
      ·exact hb.2.2 d hdb
      ·rcases hb.2.1 with h | h | ⟨d, h⟩
       ·exact h.2.2 e heb
       ·have := (hs.rng e b heb).2; omega
       ·obtain ⟨g, k1, k2⟩ := bIn_some h
        have := hs.inj e g b heb k2
        subst this
        rcases (H.hi2 e d k1).2.2 with h' | h'
        ·exact heK h'
        ·exact heV h'
    exact ⟨fun d o _ h => objF h hgf, fun v h => h.mono hgf (fun _ _ => rfl) (fun _ _ h => h) (fun _ _ _ _ _ h => h)⟩
  ·have hsub : ∀ b, FF E β w b → b < w.heap.size ∧ ∀ d, bIn hi β d ≠ some b := fun b hb => ⟨hb.1, fun d hd' => by
    obtain ⟨g, _, k2⟩ := bIn_some hd'
    exact hb.2.2 g k2⟩
   refine key (fun b => b < w.heap.size ∧ ∀ d, bIn hi β d ≠ some b) hsub ⟨fun _ h => h.1, fun g vs h => ⟨hsub g (hs.glo.gl g vs h).1, (hs.glo.gl g vs h).2⟩⟩ (fun b hb ⟨d, hd'⟩ => hb.2 d hd') (fun z hz => .inr fun d b hd' hb => ⟨(hs.rng d b hb).2, fun d' hd2 => ?_⟩) (fun β' w' hkp hrg => ⟨fun d o hd' h => obj_nm h (obNm_lk hm2 hd'), fun v h => nm_ok h hm1⟩)
   ·obtain ⟨g, k1, k2⟩ := bIn_some hd2
    have := hs.inj g d b k2 hb
    subst this
    rw [(H.hi2 g d' k1).1] at hd'
    cases hd'
 exact fin.mono fun e w' ⟨v, he, h⟩ => by subst he; exact h
theorem obUp_nil {ob : List (Nat × AObj)} : obUp ob [] := fun d o h => by cases h
theorem obUp_cons {ob l : List (Nat × AObj)} {d : Nat} {o : AObj} (h : lk ob d = some o) (hl : obUp ob l) : obUp ob ((d, o) :: l) := fun e o' h' => by
 rw [lk_cons] at h'
 by_cases hk : d = e
 ·subst hk; rw [bif_eq rfl] at h'; injection h' with h'; subst h'; exact .inl h
 ·rw [bif_ne hk] at h'; exact hl e o' h'
theorem obUp_row0 {ob l : List (Nat × AObj)} {d t k : Nat} (hl : obUp ob l) : obUp ob ((d, .row t k []) :: l) := fun e o' h' => by
 rw [lk_cons] at h'
 by_cases hk : d = e
 ·subst hk; rw [bif_eq rfl] at h'; injection h' with h'; subst h'; exact .inr (.inl ⟨t, k, rfl⟩)
 ·rw [bif_ne hk] at h'; exact hl e o' h'
theorem obUp_take {ob l : List (Nat × AObj)} {d t k m : Nat} {xs : List (List AV)} (h : lk ob d = some (.row t k xs)) (hl : obUp ob l) : obUp ob ((d, .row t k (xs.take m)) :: l) := fun e o' h' => by
 rw [lk_cons] at h'
 by_cases hk : d = e
 ·subst hk; rw [bif_eq rfl] at h'; injection h' with h'; subst h'; exact .inr (.inr ⟨t, k, xs, m, h, rfl⟩)
 ·rw [bif_ne hk] at h'; exact hl e o' h'
theorem AV.up_nilref (t k d off : Nat) : (AV.v (.slice none 0 0)).up (.ref t k d off 0) := fun F β w x h => by
 cases h with
 | s h =>
 cases h with
 | v h => exact .nil
theorem GCall.toP {f : Nat} {args : List AV} {r : AV} {ob1 : List (Nat × AObj)} (h : GCall P f args [] r ob1) (hok : r.snapOK { fr := [], ob := ob1 }) : PCall P f args (fun x => x = r.snap { fr := [], ob := ob1 }) := by
 refine ⟨h.1, fun w F vs hF hl ha => ?_⟩
 refine (h.2 w F (fun _ => none) vs ⟨hF, fun _ _ _ h => (by cases h), fun _ _ h => (by cases h), fun _ _ h => (by cases h)⟩ hl ha).mono fun e w' ⟨v, β', he, hout, hr⟩ => ?_
 let E : Env := ⟨w, F, fun _ => none, fun _ _ h => (by cases h), hF, fun _ _ h => (by cases h)⟩
 have hs : SRel E { fr := [], ob := ob1 } #[] w' β' := ⟨hout.inj, fun d b hb => ⟨(hout.rng d b hb).1, (hout.rng d b hb).2⟩, hout.keeps.trans (Keeps.refl _ _) (fun _ _ h => h), hout.ob, fun _ _ _ h => (by cases h), fun _ _ h => (by cases h), fun _ _ _ h => (by cases h), fun _ _ _ _ _ h => (by cases h)⟩
 refine ⟨v, _, he, rfl, hout.keeps.below (fun b ⟨_, h⟩ => by cases h), ?_⟩
 exact snap_ok hs (fun b hb => by
  rcases hb.2.1 with h | h | ⟨_, h⟩
  ·exact .inl h
  ·exact .inr ⟨h, hb.1⟩
  ·cases h) (fun d b hb => by
  rcases (hout.rng d b hb).1 with h | h
  ·exact .inr ⟨h, (hout.rng d b hb).2⟩
  ·cases h) hr hok
end
end Go.Proofs.Ytjeplogcfedmeaa
end
section
namespace Go.Proofs.Ytjeplogcfedmeaa
open Go.RowKit
attribute [go_sem] ptrN Option.isSome_none Sh.isIface List.isEmpty_nil List.isEmpty_cons mapM runOps stepAV frzAV AV.frz AV.frz.frzL AObj.frz AState.frz AState.say glo guardAV pureAV pureCall pickAV extAV effAV effCall binA binV boolV eqA eqL eqV mmA nilA unV loadAV fieldAddrAV fieldAV indexAddrAV indexAV sliceAV bndAV lenAV convAV extractAV buildAV partsAV fillAV allT AV.cells1 putL storeAV setXs allS litAV litXs makeAV mapAV newMap mput keyOf appendAV keepAV appendVarAV headVar litVarAV headAV elemsAV AV.width inAV AState.ev AState.gd AState.put AState.drop AState.var AState.row AState.keep AV.kill AV.kill.killL AObj.kill rm rmo AObj.loose lk rd dstOK ownN Op.operands Call.operands argsFr flatV Sh.agg callAV AV.snap AV.snap.snapL AV.snapOK AV.snapOK.snapOKL resAV oneOf AV.flat AV.flat.flatL AV.clean AV.clean.cleanL callG AState.back AV.cut AV.cut.cutL AObj.cut rmL obBack obIn inv2 AV.ren AV.ren.renL AObj.ren AV.hand AV.hand.handL AV.handT AV.handT.handTL AV.nm AV.nm.nmL AObj.nm obNm AV.allIn AV.allIn.allInL resG List.contains_cons Bool.false_or Bool.or_false Bool.true_or Bool.or_true cond_true cond_false Option.map_some Option.map_none Option.bind_some Option.getD_some Option.getD_none Option.isSome_some List.map_cons List.map_nil List.getElem?_cons_zero List.getElem?_cons_succ List.getElem?_toArray List.getElem?_nil List.all_cons List.all_nil List.length_cons List.length_nil List.length_map List.drop_zero List.drop_succ_cons List.take_succ_cons List.take_zero List.set_cons_zero List.set_cons_succ List.replicate_succ List.replicate_zero List.nil_append List.cons_append List.append_nil List.filterMap_cons List.filterMap_nil List.contains_nil List.size_toArray List.append_toArray List.toList_toArray Bool.and_self Bool.and_true Bool.true_and Bool.false_and Bool.and_false Bool.not_false Bool.not_true beq_self_eq_true beq_true beq_false BEq.rfl Bool.cond_true_left Bool.cond_false_right Bool.cond_true_right Bool.cond_false_left Bool.cond_self Int.toNat_natCast Nat.zero_add Nat.add_zero Nat.zero_le Nat.lt_add_one true_and and_true true_or or_true and_self true_implies false_implies implies_true imp_self nt_imp opt_none opt_some forall_const if_true if_false ite_true ite_false decide_true decide_false ne_eq not_false_eq_true not_true_eq_false eq_self runOpsD drOK wrOK rdObj wrObj objOf drD drR drC List.mem_singleton List.not_mem_nil forall_eq
end Go.Proofs.Ytjeplogcfedmeaa
end
section
namespace Go.Proofs.Ytjeplogcfedmeaa
open Go.RowKit
section
variable {P : Program} {T : Nat → Option TyD} {E : Env} {s s' : AState} {n : Nat} {ops : Array Oper} {Q : Exit → AState → Prop} {K : AState → Prop} {rest : List Oper} {o : Oper} {D : Dr}
def CondK (A B : Prop) (r : AV × Bool) : Prop := ∃ b, r = (.v (.bool b), true) ∧ (b = true → A) ∧ (b = false → B)
theorem aw_condE {c : Operand} {x y : Code} (h : ∀ r, (s.ev c, s.gd c) = r → CondK (AWp P E n x Q s) (AWp P E n y Q s) r) : AWp P E n (.cond c x y) Q s := by
 obtain ⟨b, h1, h2, h3⟩ := h _ rfl
 injection h1 with g1 g2
 exact aw_cond g1 g2 h2 h3
theorem condK {A B : Prop} {b : Bool} (h1 : b = true → A) (h2 : b = false → B) : CondK A B (.v (.bool b), true) := ⟨b, rfl, h1, h2⟩
def EndK (R : AV → Prop) (r : Option (Prop × List AV)) : Prop := ∃ p l, r = some (p, l) ∧ p ∧ R (oneOf l)
theorem aend_retE {rs : List ResultVar} {R : AV → Prop} (h : ∀ r, resAV T s rs = r → EndK R r) : AEnd T rs R .ret s := by
 obtain ⟨p, l, h1, h2, h3⟩ := h _ rfl
 exact aend_ret h1 h2 h3
theorem aend_normalE {rs : List ResultVar} {R : AV → Prop} (h : ∀ r, resAV T s rs = r → EndK R r) : AEnd T rs R .normal s := by
 obtain ⟨p, l, h1, h2, h3⟩ := h _ rfl
 exact aend_normal h1 h2 h3
theorem endK {R : AV → Prop} {p : Prop} {l : List AV} (hp : p) (h : R (oneOf l)) : EndK R (some (p, l)) := ⟨p, l, rfl, hp, h⟩
def EndGK (r : AV) (ob ob1 : List (Nat × AObj)) (q : Option (Prop × List AV)) : Prop := ∃ p l, q = some (p, l) ∧ p ∧ (oneOf l).up r ∧ obUp ob ob1
theorem aendG_retE {rs : List ResultVar} {r : AV} {ob1 : List (Nat × AObj)} (h : ∀ q, resG T s rs = q → EndGK r s.ob ob1 q) : AEndG T rs r ob1 .ret s := by
 obtain ⟨p, l, h1, h2, h3, h4⟩ := h _ rfl
 exact aendG_ret h1 h2 h3 h4
theorem aendG_normalE {rs : List ResultVar} {r : AV} {ob1 : List (Nat × AObj)} (h : ∀ q, resG T s rs = q → EndGK r s.ob ob1 q) : AEndG T rs r ob1 .normal s := by
 obtain ⟨p, l, h1, h2, h3, h4⟩ := h _ rfl
 exact aendG_normal h1 h2 h3 h4
theorem endGK {r : AV} {ob ob1 : List (Nat × AObj)} {p : Prop} {l : List AV} (hp : p) (h : (oneOf l).up r) (ho : obUp ob ob1) : EndGK r ob ob1 (some (p, l)) := ⟨p, l, rfl, hp, h, ho⟩
def callGE (n : Nat) (ops : Array Oper) (s : AState) (o : Oper) (hi : List (Nat × Nat)) : Option (Nat × List AV × Prop) × List (Nat × AObj) × Bool := (callG n ops s o hi, obIn s hi hi, AV.allIn.allInL hi (o.op.operands.toList.map s.ev))
def CallGK (P : Program) (E : Env) (n : Nat) (ops : Array Oper) (D : Dr) (rest : List Oper) (Q : Exit → AState → Prop) (s : AState) (o : Oper) (hi bk : List (Nat × Nat)) (K V : List Nat) (r : Option (Nat × List AV × Prop) × List (Nat × AObj) × Bool) : Prop :=
 callGE n ops s o hi = r → AListR P E n ops D (o :: rest) Q s
theorem go_callGE (hi bk : List (Nat × Nat)) (K V : List Nat) (h : ∀ r, callGE n ops s o hi = r → CallGK P E n ops D rest Q s o hi bk K V r) : AListR P E n ops D (o :: rest) Q s := h _ rfl rfl
theorem callGK {hi bk : List (Nat × Nat)} {K V : List Nat} {f : Nat} {as' : List AV} {p : Prop} {ob ob1 : List (Nat × AObj)} {r : AV} {al : Bool} (hc : GCall P f as' ob r ob1) (hk : handOK hi bk K V = true) (hD : hi.all (fun p => D.W p.1) = true) (hds : D.ds o = true ∨ hi = [])
  (hp : p) (hm : al = true ∨ (r.nm = true ∧ obNm ob1)) (hr : AListD P E n ops D rest Q ((s.back K V bk ob1).put o.dst true (r.ren bk))) : CallGK P E n ops D rest Q s o hi bk K V (some (f, as', p), ob, al) := fun h => by
 unfold callGE at h
 injection h with h1 h2
 injection h2 with h2 h3
 exact go_callG hi bk K V h1 hp hk hD hds h2 hc (hm.imp (fun e => h3.trans e) id) hr
def call1E (n : Nat) (ops : Array Oper) (s : AState) (o : Oper) : Option (Bool × Nat × List AV × Prop) × Bool × List AV × List AV := (callAV n ops s o, AV.clean.cleanL (o.op.operands.toList.map s.ev), o.op.operands.toList.map (fun z => (s.ev z).snap s), o.op.operands.toList.map s.ev)
def headC (n : Nat) (ops : Array Oper) (s : AState) : List Oper → Option (Option (Bool × Nat × List AV × Prop) × Bool × List AV × List AV)
 | [] => none
 | o :: _ => some (call1E n ops s o)
abbrev RunT := Prop × AState × List Oper × Option (Option (Bool × Nat × List AV × Prop) × Bool × List AV × List AV)
def withC (n : Nat) (ops : Array Oper) : Prop × AState × List Oper → RunT
 | (p, s', l') => (p, s', l', headC n ops s' l')
def RunC (P : Program) (E : Env) (n : Nat) (ops : Array Oper) (D : Dr) (Q : Exit → AState → Prop) (r : RunT) : Prop := r.2.2.2 = headC n ops r.2.1 r.2.2.1 → r.1 ∧ AListR P E n ops D r.2.2.1 Q r.2.1
theorem awA {x y : Code} (h : AWp P E n x (ASeq (AWp P E n y Q) Q) s) : AWp P E n (.seq x y) Q s := aw_seq h
theorem awB {id : Nat} {c : Code} (h : AWp P E n c (ABlk id Q) s) : AWp P E n (.block id c) Q s := aw_block h
theorem awC (h : Q .normal s) : AWp P E n .skip Q s := aw_skip h
theorem awD (h : Q .ret s) : AWp P E n .ret Q s := aw_ret h
theorem awE {id : Nat} (h : Q (.exit id) s) : AWp P E n (.exit id) Q s := aw_exit h
theorem awF (h : K s) : ASeq K Q .normal s := h
theorem awG (h : Q .ret s) : ASeq K Q .ret s := h
theorem awH {i : Nat} (h : Q (.exit i) s) : ASeq K Q (.exit i) s := h
theorem awI {id : Nat} (h : Q .normal s) : ABlk id Q .normal s := h
theorem awJ {id : Nat} (h : Q .ret s) : ABlk id Q .ret s := h
theorem awK {id : Nat} (h : Q .normal s) : ABlk id Q (.exit id) s := ablk_hit h
theorem awL (h : Q .normal s) : AListR P E n ops D [] Q s := go_nil h
theorem awM {id i : Nat} (hne : i ≠ id) (h : Q (.exit i) s) : ABlk id Q (.exit i) s := ablk_miss hne h
theorem awN (hT : TOK P T) (O : List Nat) {id : Nat} (h : ∀ r, withC n ops (runOps T O n ops s ops.toList) = r → RunC P E n ops seqD Q r) : AWp P E n (.region id ops false) Q s :=
 aw_region (go_run hT O (l := ops.toList) rfl (h _ rfl rfl).1 (h _ rfl rfl).2)
theorem awO (hT : TOK P T) (O : List Nat) {l : List Oper} (h : ∀ r, withC n ops (runOps T O n ops s l) = r → RunC P E n ops seqD Q r) : AListD P E n ops seqD l Q s :=
 go_run hT O (l := l) rfl (h _ rfl rfl).1 (h _ rfl rfl).2
theorem awP (hT : TOK P T) (O : List Nat) {l : List Oper} (h : ∀ r, withC n ops (runOpsD T O D n ops s l) = r → RunC P E n ops D Q r) : AListD P E n ops D l Q s :=
 go_runD hT O (l := l) rfl (h _ rfl rfl).1 (h _ rfl rfl).2
theorem awn {id : Nat} (h : ∀ r, withC n ops (runOps (tyOf P) [] n ops s ops.toList) = r → RunC P E n ops seqD Q r) : AWp P E n (.region id ops false) Q s := awN (tyOf_ok P) [] h
theorem awo {l : List Oper} (h : ∀ r, withC n ops (runOps (tyOf P) [] n ops s l) = r → RunC P E n ops seqD Q r) : AListD P E n ops seqD l Q s := awO (tyOf_ok P) [] h
theorem awp {l : List Oper} (h : ∀ r, withC n ops (runOpsD (tyOf P) [] D n ops s l) = r → RunC P E n ops D Q r) : AListD P E n ops D l Q s := awP (tyOf_ok P) [] h
theorem awQ {c : Operand} {x y : Code} (h : ∀ r, (s.ev c, s.gd c) = r → CondK (AWp P E n x Q s) (AWp P E n y Q s) r) : AWp P E n (.cond c x y) Q s := aw_condE h
theorem awR {rs : List ResultVar} {R : AV → Prop} (h : ∀ r, resAV T s rs = r → EndK R r) : AEnd T rs R .ret s := aend_retE h
theorem awS {rs : List ResultVar} {R : AV → Prop} (h : ∀ r, resAV T s rs = r → EndK R r) : AEnd T rs R .normal s := aend_normalE h
theorem awT {rs : List ResultVar} {r : AV} {ob1 : List (Nat × AObj)} (h : ∀ q, resG T s rs = q → EndGK r s.ob ob1 q) : AEndG T rs r ob1 .ret s := aendG_retE h
theorem awU {rs : List ResultVar} {r : AV} {ob1 : List (Nat × AObj)} (h : ∀ q, resG T s rs = q → EndGK r s.ob ob1 q) : AEndG T rs r ob1 .normal s := aendG_normalE h
theorem awV {p : Prop} {q : Option (Option (Bool × Nat × List AV × Prop) × Bool × List AV × List AV)} (hp : p) (h : Q .normal s') : RunC P E n ops D Q (p, s', [], q) := fun _ => ⟨hp, go_nil h⟩
theorem awW {p : Prop} {l : List Oper} {q : Option (Option (Bool × Nat × List AV × Prop) × Bool × List AV × List AV)} (hp : p) (h : AListR P E n ops D l Q s') : RunC P E n ops D Q (p, s', l, q) := fun _ => ⟨hp, h⟩
theorem caA {G : Bool} {f : Nat} {as' : List AV} {p p' : Prop} {ra : AV} {q : Bool × List AV × List AV} (hc : G = true → PCall P f as' (fun r => r = ra)) (hflat : ra.flat = true) (hp : p) (hp' : p') (hr : AListD P E n ops D rest Q (s'.put o.dst G ra)) : RunC P E n ops D Q (p, s', o :: rest, some (some (G, f, as', p'), q)) := fun h => by
 injection h with h
 injection h with h _
 exact ⟨hp, go_call h.symm hp' hc hflat hr⟩
theorem caB (f : Nat) (ra : AV) {as' : List AV} {p p' : Prop} {q : Bool × List AV × List AV} (hp : p) (hp' : p') (hr : AListD P E n ops D rest Q (s'.put o.dst false ra)) : RunC P E n ops D Q (p, s', o :: rest, some (some (false, f, as', p'), q)) := fun h => by
 injection h with h
 injection h with h _
 exact ⟨hp, go_call0 f ra h.symm hp' hr⟩
theorem caC {f : Nat} {as' : List AV} {p p' : Prop} {l : List AV} {r : AV} (hc : PCall P f as' (fun x => x = r)) (hgd : o.guard = none) (hp : p) (hp' : p') (hr : AListD P E n ops D rest Q (s'.put o.dst true r)) : RunC P E n ops D Q (p, s', o :: rest, some (some (true, f, as', p'), true, l, l)) := fun h => by
 injection h with h
 injection h with h1 h2
 injection h2 with h2 h3
 injection h3 with h3 h4
 exact ⟨hp, go_call1 h1.symm hp' hgd h2.symm (h3.symm.trans h4) hc hr⟩
theorem caD {f : Nat} {as' : List AV} {p p' : Prop} {l : List AV} {R : AV → Prop} (hc : PCall P f as' R) (hgd : o.guard = none) (hp : p) (hp' : p') (hr : ∀ r, R r → AListD P E n ops D rest Q (s'.put o.dst true r)) : RunC P E n ops D Q (p, s', o :: rest, some (some (true, f, as', p'), true, l, l)) := fun h => by
 injection h with h
 injection h with h1 h2
 injection h2 with h2 h3
 injection h3 with h3 h4
 exact ⟨hp, go_callR h1.symm hp' hgd h2.symm (h3.symm.trans h4) hc hr⟩
attribute [go_sem] callGE call1E headC withC decide_eq_true_eq decide_eq_false_iff_not Bool.not_eq_true' Bool.not_eq_false' Bool.or_eq_true Bool.or_eq_false_iff Bool.and_eq_true Bool.and_eq_false_iff Decidable.not_not
end
end Go.Proofs.Ytjeplogcfedmeaa
end
section
namespace Go.Proofs.Ytjeplogcfedmeaa
theorem mixed : Try.prog.follows .mixedOrders = true := by kernel_rfl
theorem t1 : tyOf Try.prog 1 = some ⟨1, 8, [.nilFunc], .fn⟩ := by kernel_rfl 
theorem t2 : tyOf Try.prog 2 = some ⟨1, 8, [.int .i64 0], .int .i64⟩ := by kernel_rfl 
theorem t3 : tyOf Try.prog 3 = some ⟨1, 8, [.int .i64 0], .int .i64⟩ := by kernel_rfl 
theorem t4 : tyOf Try.prog 4 = some ⟨1, 1, [.bool false], .bool⟩ := by kernel_rfl 
theorem t9 : tyOf Try.prog 9 = some ⟨1, 16, [.string ByteArray.empty], .str⟩ := by kernel_rfl 
theorem t22 : tyOf Try.prog 22 = some ⟨1, 24, [.slice none 0 0], .slice 37⟩ := by kernel_rfl 
theorem t23 : tyOf Try.prog 23 = some ⟨1, 24, [.slice none 0 0], .slice 3⟩ := by kernel_rfl 
theorem t25 : tyOf Try.prog 25 = some ⟨3, 56, [.bool false, .slice none 0 0, .slice none 0 0], .strct [(0, 4), (1, 22), (2, 23)] true⟩ := by kernel_rfl 
theorem t28 : tyOf Try.prog 28 = some ⟨1, 8, [.int .i64 0], .int .i64⟩ := by kernel_rfl 
theorem t30 : tyOf Try.prog 30 = some ⟨2, 16, [.int .i64 0, .int .i64 0], .strct [(0, 28), (1, 3)] true⟩ := by kernel_rfl 
theorem t37 : tyOf Try.prog 37 = some ⟨4, 32, [.int .i64 0, .int .i64 0, .int .i64 0, .int .i64 0], .strct [(0, 3), (1, 3), (2, 3), (3, 3)] true⟩ := by kernel_rfl 
theorem t42 : tyOf Try.prog 42 = some ⟨1, 24, [.slice none 0 0], .slice 23⟩ := by kernel_rfl 
theorem t43 : tyOf Try.prog 43 = some ⟨1, 8, [.pointer none], .ptr 57⟩ := by kernel_rfl 
theorem t49 : tyOf Try.prog 49 = some ⟨2, 32, [.string ByteArray.empty, .string ByteArray.empty], .strct [(0, 9), (1, 9)] true⟩ := by kernel_rfl 
theorem t53 : tyOf Try.prog 53 = some ⟨1, 24, [.slice none 0 0], .slice 62⟩ := by kernel_rfl 
theorem t54 : tyOf Try.prog 54 = some ⟨1, 24, [.slice none 0 0], .slice 4⟩ := by kernel_rfl 
theorem t55 : tyOf Try.prog 55 = some ⟨1, 24, [.slice none 0 0], .slice 3⟩ := by kernel_rfl 
theorem t57 : tyOf Try.prog 57 = some ⟨6, 128, [.bool false, .slice none 0 0, .slice none 0 0, .slice none 0 0, .slice none 0 0, .slice none 0 0], .strct [(0, 25), (3, 53), (4, 54), (5, 55)] true⟩ := by kernel_rfl 
theorem t58 : tyOf Try.prog 58 = some ⟨1, 8, [.int .i64 0], .int .i64⟩ := by kernel_rfl 
theorem t59 : tyOf Try.prog 59 = some ⟨1, 8, [.int .u64 0], .int .u64⟩ := by kernel_rfl 
theorem t60 : tyOf Try.prog 60 = some ⟨1, 8, [.int .i64 0], .int .i64⟩ := by kernel_rfl 
theorem t62 : tyOf Try.prog 62 = some ⟨6, 48, [.int .i64 0, .int .u64 0, .int .i64 0, .int .i64 0, .int .i64 0, .int .i64 0], .strct [(0, 58), (1, 59), (2, 3), (3, 3), (4, 60), (5, 3)] true⟩ := by kernel_rfl 
theorem t66 : tyOf Try.prog 66 = some ⟨1, 24, [.slice none 0 0], .slice 49⟩ := by kernel_rfl 
theorem t67 : tyOf Try.prog 67 = some ⟨1, 8, [.int .u64 0], .int .u64⟩ := by kernel_rfl 
theorem t72 : tyOf Try.prog 72 = some ⟨1, 8, [.pointer none], .ptr 55⟩ := by kernel_rfl 
theorem t73 : tyOf Try.prog 73 = some ⟨1, 8, [.pointer none], .ptr 76⟩ := by kernel_rfl 
theorem t74 : tyOf Try.prog 74 = some ⟨1, 8, [.map none], .map 3 3⟩ := by kernel_rfl 
theorem t76 : tyOf Try.prog 76 = some ⟨6, 96, [.bool false, .slice none 0 0, .slice none 0 0, .slice none 0 0, .int .i64 0, .map none], .strct [(0, 25), (3, 54), (4, 3), (5, 74)] true⟩ := by kernel_rfl 
theorem t82 : tyOf Try.prog 82 = some ⟨2, 32, [.string ByteArray.empty, .string ByteArray.empty], .strct [(0, 9), (1, 9)] true⟩ := by kernel_rfl 
theorem t89 : tyOf Try.prog 89 = some ⟨12, 96, [.int .i64 0, .int .u64 0, .int .i64 0, .int .i64 0, .int .i64 0, .int .i64 0, .int .i64 0, .int .u64 0, .int .i64 0, .int .i64 0, .int .i64 0, .int .i64 0], .strct [(0, 62), (6, 62)] true⟩ := by kernel_rfl 
theorem t101 : tyOf Try.prog 101 = some ⟨1, 8, [.map none], .map 3 23⟩ := by kernel_rfl 
attribute [go_sem] t1 t2 t3 t4 t9 t22 t23 t25 t28 t30 t37 t42 t43 t49 t53 t54 t55 t57 t58 t59 t60 t62 t66 t67 t72 t73 t74 t76 t82 t89 t101
end Go.Proofs.Ytjeplogcfedmeaa
end
section
namespace Go.Proofs.Ytjeplogcfedmeaa
open Go.RowKit
def v8 (zs : List Int) : List (List AV) := zs.map fun z => [.v (.int .i64 z)]
theorem v8_len (zs : List Int) : (v8 zs).length = zs.length := by simp [v8]
theorem v8_get {zs : List Int} {k : Nat} (h : k < zs.length) : (v8 zs)[k]? = some [.v (.int .i64 zs[k])] := by simp [v8, h]
theorem v8_app (zs : List Int) (z : Int) : v8 zs ++ [[.v (.int .i64 z)]] = v8 (zs ++ [z]) := by simp [v8]
theorem v8_take (zs : List Int) (n : Nat) : (v8 zs).take n = v8 (zs.take n) := by simp [v8]
theorem wrap_i64 {n : Int} (h : -9223372036854775808 ≤ n ∧ n ≤ 9223372036854775807) : IntKind.i64.wrap n = n := IntWalk.i64_in _ (by omega)
end Go.Proofs.Ytjeplogcfedmeaa
end
section
namespace Go.Proofs.Ytjeplogcfedmeaa
open Go.RowKit
instance (n : Int) : Decidable (I64 n) := by unfold I64; exact inferInstance
theorem AV.up_agg {l m : List AV} (h : AV.upL l m) : (AV.agg l).up (.agg m) := fun F β w x hx => by
  obtain ⟨g1, g2⟩ := AV.upL_get h
  cases hx with
  | s h => cases h
  | agg h1 h2 h3 =>
    refine .agg (h1.trans g1) h2 fun i c u hc hu => ?_
    obtain ⟨a, ha, hu'⟩ := g2 i c hc
    exact hu' _ _ _ _ (h3 i a u ha hu)
theorem AV.up_cons' {a b : AV} {l m : List AV} (h : a.up b) (h' : AV.upL l m) : AV.upL (a :: l) (b :: m) := ⟨h, h'⟩
theorem AV.upL_rfl : ∀ l : List AV, AV.upL l l
  | [] => trivial
  | a :: l => ⟨AV.up_rfl a, AV.upL_rfl l⟩
theorem AV.up_trans {a b c : AV} (h : a.up b) (h' : b.up c) : a.up c := fun F β w x hx => h' F β w x (h F β w x hx)
mutual
inductive Up : AV → AV → Prop
  | rfl (a : AV) : Up a a
  | nil (k : Nat) : Up (.v (.slice none 0 0)) (.lst k [])
  | agg {l m : List AV} : UpL l m → Up (.agg l) (.agg m)
  | tup {l m : List AV} : UpL l m → Up (.tup l) (.tup m)
  | lst {k : Nat} {xs ys : List (List AV)} : UpLL xs ys → Up (.lst k xs) (.lst k ys)
  | lsx {k : Nat} {xs ys zs : List (List AV)} : UpLL xs ys → Up (.lsx k xs zs) (.lst k ys)
inductive UpL : List AV → List AV → Prop
  | nil : UpL [] []
  | cons {a b : AV} {l m : List AV} : Up a b → UpL l m → UpL (a :: l) (b :: m)
inductive UpLL : List (List AV) → List (List AV) → Prop
  | nil : UpLL [] []
  | cons {a b : List AV} {l m : List (List AV)} : UpL a b → UpLL l m → UpLL (a :: l) (b :: m)
end
section
variable {F : Nat → Prop} {w : World}
mutual
theorem Up.svr : ∀ {a b : AV}, Up a b → ∀ {x : Value}, SVR F w a x → SVR F w b x
  | _, _, .rfl _, _, h => h
  | _, _, .nil k, x, h => by
    have := AV.up_nil k F (fun _ => none) w x (.s h)
    cases this with
    | s h => exact h
  | _, _, .agg _, _, h => by cases h
  | _, _, .tup _, _, h => by cases h
  | _, _, .lst hu, _, h => by
    cases h with
    | lst g h1 h2 h3 h4 h5 h6 h7 =>
      have hl := UpLL.svr hu
      refine .lst g (h1.trans hl.1) h2 h3 (fun cs hcs => ?_) h5 h6 fun i j cs u hc hu => ?_
      · obtain ⟨i, hi⟩ := List.getElem?_of_mem hcs
        obtain ⟨cs', h8, h9, _⟩ := hl.2 i cs hi
        rw [← h9]; exact h4 cs' (List.mem_of_getElem? h8)
      · obtain ⟨cs', h8, _, h10⟩ := hl.2 i cs hc
        obtain ⟨u', h11, h12⟩ := h10 j u hu
        exact h12 _ (h7 i j cs' u' h8 h11)
  | _, _, .lsx hu, _, h => by
    replace h := h.lsx_lst
    cases h with
    | lst g h1 h2 h3 h4 h5 h6 h7 =>
      have hl := UpLL.svr hu
      refine .lst g (h1.trans hl.1) h2 h3 (fun cs hcs => ?_) h5 h6 fun i j cs u hc hu => ?_
      · obtain ⟨i, hi⟩ := List.getElem?_of_mem hcs
        obtain ⟨cs', h8, h9, _⟩ := hl.2 i cs hi
        rw [← h9]; exact h4 cs' (List.mem_of_getElem? h8)
      · obtain ⟨cs', h8, _, h10⟩ := hl.2 i cs hc
        obtain ⟨u', h11, h12⟩ := h10 j u hu
        exact h12 _ (h7 i j cs' u' h8 h11)
theorem UpL.svr : ∀ {l m : List AV}, UpL l m → l.length = m.length ∧ ∀ (j : Nat) (u : AV), m[j]? = some u → ∃ u', l[j]? = some u' ∧ ∀ x, SVR F w u' x → SVR F w u x
  | _, _, .nil => ⟨Eq.refl _, fun j u h => by simp at h⟩
  | _, _, .cons h hl => by
    have h1 := fun x => Up.svr h (x := x)
    have h2 := UpL.svr hl
    refine ⟨by simp [h2.1], fun j u hu => ?_⟩
    cases j with
    | zero => simp only [List.getElem?_cons_zero, Option.some.injEq] at hu; subst hu; exact ⟨_, by simp, fun x hx => h1 x hx⟩
    | succ j => exact h2.2 j u (by simpa using hu)
theorem UpLL.svr : ∀ {l m : List (List AV)}, UpLL l m → l.length = m.length ∧ ∀ (i : Nat) (cs : List AV), m[i]? = some cs → ∃ cs', l[i]? = some cs' ∧ cs'.length = cs.length ∧ ∀ (j : Nat) (u : AV), cs[j]? = some u → ∃ u', cs'[j]? = some u' ∧ ∀ x, SVR F w u' x → SVR F w u x
  | _, _, .nil => ⟨Eq.refl _, fun j u h => by simp at h⟩
  | _, _, .cons h hl => by
    have h1 := UpL.svr h
    have h2 := UpLL.svr hl
    refine ⟨by simp [h2.1], fun j u hu => ?_⟩
    cases j with
    | zero => simp only [List.getElem?_cons_zero, Option.some.injEq] at hu; subst hu; exact ⟨_, by simp, h1.1, h1.2⟩
    | succ j => exact h2.2 j u (by simpa using hu)
end
end
mutual
theorem Up.up : ∀ {a b : AV}, Up a b → a.up b
  | _, _, .rfl a => AV.up_rfl a
  | _, _, .nil k => AV.up_nil k
  | _, _, .agg h => AV.up_agg (UpL.up h)
  | _, _, .tup h => AV.up_tup (UpL.up h)
  | _, _, .lst h => fun F β w x hx => by
    cases hx with
    | s hx => exact .s (Up.svr (.lst h) hx)
  | _, _, .lsx h => fun F β w x hx => by
    cases hx with
    | s hx => exact .s (Up.svr (.lsx h) hx)
theorem UpL.up : ∀ {l m : List AV}, UpL l m → AV.upL l m
  | _, _, .nil => trivial
  | _, _, .cons h hl => ⟨Up.up h, UpL.up hl⟩
end
theorem PCall.args {P : Program} {f : Nat} {as' bs : List AV} {R : AV → Prop} (hu : UpL as' bs) (h : PCall P f bs R) : PCall P f as' R :=
  ⟨h.1, fun w F vs h1 h2 h3 => h.2 w F vs h1 (by
    have := (AV.upL_get hu.up).1
    omega) fun i x v hx hv => by
    obtain ⟨a, ha, hau⟩ := (AV.upL_get hu.up).2 i x hx
    exact hau _ _ _ _ (h3 i a v ha hv)⟩
section
variable {P : Program} {T : Nat → Option TyD} {E : Env} {s s' : AState} {n : Nat} {Q : Exit → AState → Prop}
def AState.nilvar (s : AState) (o j ty k d : Nat) (cs : List AV) : AState := { fr := (s.drop d).fr, ob := (o, .var ((AV.kill.killL d cs).set j (.ref ty k d 0 0))) :: (d, .row ty k []) :: (s.drop d).ob }
theorem aw_nilvar {c : Code} (o j ty k d : Nat) {cs : List AV} (hd : ownN d) (hne : o ≠ d) (ho : lk s.ob o = some (.var cs)) (hj : cs[j]? = some (.v (.slice none 0 0))) (h : AWp P E n c Q (s.nilvar o j ty k d cs)) : AWp P E n c Q s := fun a w ⟨hn, hdf, β, hs⟩ => by
  refine h a w ⟨hn, hdf, upd β d none, ?_⟩
  have h1 := hs.turn (β' := upd β d none) (w' := w) d hd (fun e he => upd_other β _ he) (fun b hb => by rw [upd_same] at hb; cases hb) (Keeps.refl _ _)
  have h2 := h1.add d (.row ty k []) ⟨fun cs h => (by cases h), .inl rfl⟩
  refine h2.add o _ ?_
  have h3 := h1.ob o (.var (AV.kill.killL d cs)) (by rw [lk_drop_ob, bif_ne hne, ho]; rfl)
  obtain ⟨b, arr, t, g1, g2, g3, g4⟩ := h3
  refine ⟨b, arr, t, g1, g2, by simpa using g3, fun i u hu => ?_⟩
  by_cases hij : j = i
  · subst hij
    have hlt : j < (AV.kill.killL d cs).length := by
      rw [AV.killL_eq, List.length_map]
      rcases Nat.lt_or_ge j cs.length with h | h
      · exact h
      · rw [List.getElem?_eq_none h] at hj; cases hj
    rw [List.getElem?_set_self hlt] at hu
    injection hu with hu
    subst hu
    obtain ⟨x, hx, hr, ho⟩ := g4 j (.v (.slice none 0 0)) (by rw [AV.killL_eq, List.getElem?_map, hj]; rfl)
    refine ⟨x, hx, ?_, ho⟩
    cases hr with
    | s h =>
    cases h with
    | v h => exact .nil
  · rw [List.getElem?_set_ne hij] at hu
    exact g4 i u hu
end
end Go.Proofs.Ytjeplogcfedmeaa
end
section
namespace Go.Proofs.Ytjeplogcfedmeaa
open Go.RowKit
section
variable {P : Program} {E : Env} {s : AState} {n : Nat} {ops : Array Oper} {Q : Exit → AState → Prop} {D : Dr} {rest : List Oper} {o : Oper}
theorem go_callGd (d : Nat) (_ : o.dst = some d) (hi bk : List (Nat × Nat)) (K V : List Nat) {f : Nat} {as' : List AV} {p : Prop} {ob ob1 : List (Nat × AObj)} {r : AV} (h : callG n ops s o hi = some (f, as', p)) (hp : p) (hk : handOK hi bk K V = true)
  (hD : hi.all (fun p => D.W p.1) = true) (hds : D.ds o = true ∨ hi = []) (hob : obIn s hi hi = ob) (hc : GCall P f as' ob r ob1) (hm : AV.allIn.allInL hi (o.op.operands.toList.map s.ev) = true ∨ (r.nm = true ∧ obNm ob1))
  (hr : AListD P E n ops D rest Q ((s.back K V bk ob1).put o.dst true (r.ren bk))) : AListR P E n ops D (o :: rest) Q s := go_callG hi bk K V h hp hk hD hds hob hc hm hr
end
end Go.Proofs.Ytjeplogcfedmeaa
end
section
namespace Go.Proofs.Ytjeplogcfedmeaa
open Go.RowKit
section
variable {P : Program} {T : Nat → Option TyD} {E : Env} {s s' : AState} {tm : Array Value} {w : World} {β : Nat → Option Nat} {F F' : Nat → Prop} {n : Nat} {Q : Exit → AState → Prop}
theorem aw_frz {c : Code} (d : Nat) {t k : Nat} {xs : List (List AV)} (ho : lk s.ob d = some (.row t k xs)) (hd : d < 10000) (h : AWp P E n c Q (s.frz d t k xs)) : AWp P E n c Q s := fun a w ⟨hn, hdf, β, hs⟩ =>
 h a w ⟨hn, hdf, upd β d none, hs.frz (.inl hd) ho⟩
end
end Go.Proofs.Ytjeplogcfedmeaa
end
section
namespace Go.Proofs.Ytjeplogcfedmeaa
open Go.RowKit
def GCallE (P : Program) (f : Nat) (args : List AV) (ob : List (Nat × AObj)) {A : Type} (I : A → Prop) (r : A → AV) (ob' : A → List (Nat × AObj)) : Prop :=
 (∃ fn, P.funcs[f]? = some fn ∧ fn.body.isSome = true ∧ (fn.name == "runtime.NumGoroutine") = false) ∧
 ∀ (w : World) (F : Nat → Prop) (β : Nat → Option Nat) (vs : Array Value), GIn F β w ob → vs.size = args.length → (∀ (i : Nat) (x : AV) (v : Value), args[i]? = some x → vs[i]? = some v → AVR F β w x v) →
  Calls P f vs w fun e w' => ∃ q v β', I q ∧ e = .returned v ∧ GOut F β w β' w' (ob' q) ∧ AVR (GF F β β' w w') β' w' (r q) v
section
variable {P : Program} {T : Nat → Option TyD} {E : Env} {s s' : AState} {a : Act} {tm : Array Value} {w w' : World} {β β' : Nat → Option Nat} {F F' : Nat → Prop} {n : Nat} {ops : Array Oper} {Q : Exit → AState → Prop} {D : Dr} {rest : List Oper} {o : Oper} {A : Type} {I : A → Prop}
def AEndE (T : Nat → Option TyD) (rs : List ResultVar) (I : A → Prop) (r : A → AV) (ob1 : A → List (Nat × AObj)) : Exit → AState → Prop
 | .ret, s | .normal, s => ∃ p r', resG T s rs = some (p, r') ∧ p ∧ ∃ q, I q ∧ (oneOf r').up (r q) ∧ obUp s.ob (ob1 q)
 | _, _ => False
theorem GCallE.intro (hT : TOK P T) {f : Nat} {fn : Func} {c : Code} {args : List AV} {ob : List (Nat × AObj)} {ob1 : A → List (Nat × AObj)} {r : A → AV} (hf : P.funcs[f]? = some fn) (hb : fn.body = some c) (hnm : (fn.name == "runtime.NumGoroutine") = false) (hn : args.length ≤ fn.ntmps)
  (h : ∀ E : Env, AWp P E fn.ntmps c (AEndE T fn.results.toList I r ob1) { fr := argsFr 0 args, ob := ob }) : GCallE P f args ob I r ob1 := by
 refine ⟨⟨fn, hf, by rw [hb]; rfl, hnm⟩, fun w F β vs hI hl hv => ?_⟩
 let E : Env := ⟨w, F, β, fun d b hd => (hI.rng d b hd).2.2, hI.fl, fun d b hd => (hI.rng d b hd).2.1⟩
 have hFF : ∀ b, F b → FF E β w b := fun b hb => ⟨hI.fl.lt b hb, .inl hb, fun d hd => (hI.rng d b hd).2.1 hb⟩
 have hs0 : SOK E fn.ntmps { fr := argsFr 0 args, ob := ob } { tmps := vs ++ Array.replicate (fn.ntmps - vs.size) undef, defers := [] } w := by
  refine ⟨by simp; omega, rfl, β, ⟨hI.inj, fun d b h => ⟨.inr h, (hI.rng d b h).1⟩, Keeps.refl _ _, fun d o h => ?_, fun t g x h _ => ?_, fun t x h => ?_, fun _ _ _ h => h, fun _ _ _ _ _ _ h => h⟩⟩
  ·have := hI.ob d o h
   cases o with
   | row t k xs =>
    obtain ⟨hk, h⟩ := this
    refine ⟨hk, ?_⟩
    rcases h with h | ⟨b, arr, h1, h2, h3, h4⟩
    ·exact .inl h
    ·exact .inr ⟨b, arr, h1, h2, h3, fun i j cs u hc hu => by
      obtain ⟨x, hx, hr⟩ := h4 i j cs u hc hu
      exact ⟨x, hx, hr.mono hFF (fun _ _ => rfl)⟩⟩
   | var cs =>
    obtain ⟨b, arr, t, h1, h2, h3, h4⟩ := this
    exact ⟨b, arr, t, h1, h2, h3, fun j u hu => by
     obtain ⟨x, hx, hr, ho⟩ := h4 j u hu
     exact ⟨x, hx, hr.mono hFF (fun _ _ => rfl) (fun _ _ h => h) (fun _ _ _ _ _ h => h), ho⟩⟩
   | mapo es =>
    obtain ⟨b, arr, clk, h1, h2, h3, h4⟩ := this
    exact ⟨b, arr, clk, h1, h2, h3, fun i e m he hm => ⟨(h4 i e m he hm).1.mono hFF (fun _ _ => rfl), (h4 i e m he hm).2.mono hFF (fun _ _ => rfl)⟩⟩
   | mapr clk es =>
    obtain ⟨b, arr, h1, h2, h3, h4⟩ := this
    exact ⟨b, arr, h1, h2, h3, fun i e m he hm => by
     obtain ⟨k1, k2, k3⟩ := h4 i e m he hm
     exact ⟨k1, k2.mono hFF (fun _ _ => rfl), k3.mono hFF (fun _ _ => rfl) (fun _ _ h => h) (fun _ _ _ _ _ h => h)⟩⟩
   | mapl t clk es q => exact this
   | iter e' ok since seen => exact this
  ·obtain ⟨_, _, hx⟩ := lk_argsFr args 0 t g x h
   rw [Nat.sub_zero] at hx
   have hlt : t < vs.size := by rw [hl]; exact lt_of_get hx
   have hg : (vs ++ Array.replicate (fn.ntmps - vs.size) undef).getD t undef = vs[t] := by
    simp [Array.getElem?_append_left hlt, Array.getElem?_eq_getElem hlt]
   rw [hg]
   exact (hv t x vs[t] hx (Array.getElem?_eq_getElem hlt)).mono hFF (fun _ _ => rfl) (fun _ _ h => h) (fun _ _ _ _ _ h => h)
  ·obtain ⟨h1, _⟩ := lk_argsFr args 0 t false x h
   cases h1
 have hend : ∀ (e : Exit) (a' : Act) (w' : World) (s' : AState), (e = .ret ∨ e = .normal) → AEndE T fn.results.toList I r ob1 e s' → SOK E fn.ntmps s' a' w' →
   a'.defers = [] ∧ ∃ v, (results fn a'.tmps).run P w' = .ok v w' ∧ ∃ q v' β', I q ∧ Ending.returned v = .returned v' ∧ GOut F β w β' w' (ob1 q) ∧ AVR (GF F β β' w w') β' w' (r q) v' := fun e a' w' s' he hE hS => by
  obtain ⟨_, hd, β', hs'⟩ := hS
  obtain ⟨p, r', h1, h2, q, hq, h3, h4⟩ : ∃ p r', resG T s' fn.results.toList = some (p, r') ∧ p ∧ ∃ q, I q ∧ (oneOf r').up (r q) ∧ obUp s'.ob (ob1 q) := by rcases he with rfl | rfl <;> exact hE
  obtain ⟨us, g1, g2, g3⟩ := resG_ok hT hs' _ _ _ h1 h2
  refine ⟨hd, (if h : us.toArray.size = 1 then us.toArray[0] else .tuple us.toArray), ?_, q, _, β', hq, rfl, ⟨hs'.old, hs'.inj, hs'.rng, hs'.fx, hs'.fs, obUp_ok h4 hs'.ob⟩, h3 _ _ _ _ ?_⟩
  ·rw [results_eq, Sem.run_bind, Array.mapM_eq_mapM_toList, Sem.run_map, g1]
   rfl
  ·show AVR (FF E β' w') β' w' _ _
   by_cases h1' : us.length = 1
   ·obtain ⟨u, rfl⟩ := List.length_eq_one_iff.1 h1'
    obtain ⟨x, rfl⟩ := List.length_eq_one_iff.1 (g2.symm.trans h1')
    exact g3 0 x u rfl rfl
   ·have hr1 : r'.length ≠ 1 := by omega
    have ho : oneOf r' = .tup r' := by
     unfold oneOf
     split
     ·exact absurd rfl hr1
     ·rfl
    rw [ho, dif_neg (by simpa using h1')]
    exact .tup (by simp [g2]) fun i x v hx hv' => g3 i x v hx (by simpa using hv')
 refine calls_of_wp hf hb (wp_mono (h E _ w hs0) fun e a' w' hl' => ?_)
 obtain ⟨s', hE, hS⟩ := hl'
 cases e with
 | normal => exact hend .normal a' w' s' (.inr rfl) hE hS
 | ret => exact hend .ret a' w' s' (.inl rfl) hE hS
 | _ => exact hE.elim
theorem go_fnE (hT : TOK P T) {f : Nat} {fn : Func} {c : Code} {args : List AV} {ob : List (Nat × AObj)} {ob1 : A → List (Nat × AObj)} {r : A → AV} {rs : List ResultVar} {n : Nat} (hf : P.funcs[f]? = some fn) (hb : fn.body = some c) (hnm : (fn.name == "runtime.NumGoroutine") = false) (hrs : fn.results.toList = rs) (hn : fn.ntmps = n)
  (hle : Nat.ble args.length n = true) (h : ∀ E : Env, AWp P E n c (AEndE T rs I r ob1) { fr := argsFr 0 args, ob := ob }) : GCallE P f args ob I r ob1 := by
 subst hrs
 subst hn
 exact GCallE.intro hT hf hb hnm (Nat.le_of_ble_eq_true hle) h
theorem go_callV (hi bk : List (Nat × Nat)) (K V : List Nat) {f : Nat} {as' : List AV} {p : Prop} {ob : List (Nat × AObj)} {ob1 : A → List (Nat × AObj)} {r : A → AV} (h : callG n ops s o hi = some (f, as', p)) (hp : p) (hk : handOK hi bk K V = true)
  (hD : hi.all (fun p => D.W p.1) = true) (hds : D.ds o = true ∨ hi = []) (hob : obIn s hi hi = ob) (hc : GCallE P f as' ob I r ob1) (hm : AV.allIn.allInL hi (o.op.operands.toList.map s.ev) = true ∨ (∀ q, (r q).nm = true ∧ obNm (ob1 q)))
  (hr : ∀ q, I q → AListD P E n ops D rest Q ((s.back K V bk (ob1 q)).put o.dst true ((r q).ren bk))) : AListR P E n ops D (o :: rest) Q s := by
 obtain ⟨hg, x, args, ats, first, cap, ho, hx, hgx, hdst, has, hall, hT⟩ := callG_spec h hp
 have H := handOK_ok hk
 intro a w β hn hd hs
 have hw := guard_ok (ops := ops) hs hg
 have hv := hs.ev x hgx (a := a) rfl
 rw [hx] at hv
 obtain ⟨rfl, rfl⟩ := func_plain hv
 generalize hux : a.eval x = ux at hv
 cases hv with | s hv => cases hv with | v hv =>
 obtain ⟨⟨fn, hf, hb, hnm⟩, hcall⟩ := hc
 have hopl : o.op.operands.toList = x :: args.toList := by rw [ho]; simp [Op.operands, Call.operands]
 refine step_list (by rw [ho]; rfl) hw (fun _ => ?_) (fun hGf => by cases hGf)
 unfold Oper.wp
 rw [exec_call (w := w) ho hux hf hb hnm]
 have key : ∀ F : Nat → Prop, (∀ b, FF E β w b → F b) → FOK F w → (∀ b, F b → ¬ ∃ d, bIn hi β d = some b) →
   (∀ z ∈ args.toList, (s.ev z).allIn hi = true ∨ ∀ d b, lk hi d = none → β d = some b → F b) →
   (∀ (q : A) (β' : Nat → Option Nat) (w' : World), Keeps (fun b => ∃ d, bIn hi β d = some b) w w' → (∀ d b, β' d = some b → (w.heap.size ≤ b ∨ bIn hi β d = some b) ∧ b < w'.heap.size) →
    (∀ d o, lk (ob1 q) d = some o → ObjR (GF F (bIn hi β) β' w w') β' w' d o → ObjR (FF E (bBack bk K V β β') w') β' w' d o) ∧ ∀ v, AVR (GF F (bIn hi β) β' w w') β' w' (r q) v → AVR (FF E (bBack bk K V β β') w') β' w' (r q) v) →
   Calls P f (args.map a.eval) w (fun e w' => ∃ v, e = .returned v ∧ ∃ X', StepX (D.dst o) (XW D β) w X' w' ∧ wpListS P ops D (lift E n Q) (nrm E n D (Q .normal)) rest X' (a.put o.dst v) w') := fun F h1 h2 h3 h4 h5 => by
  refine (hcall w F (bIn hi β) (args.map a.eval) ⟨h2, fun d e b g1 g2 => ?_, fun d b hb => ?_, fun d ob' hd' => ?_⟩ (by rw [← has]; simp) fun i y v hy hv' => ?_).mono fun e w' ⟨q, v, β', hq, he, hout, hres⟩ => ?_
  ·obtain ⟨g, k1, k2⟩ := bIn_some g1
   obtain ⟨g', k3, k4⟩ := bIn_some g2
   have := hs.inj g g' b k2 k4
   subst this
   have z1 := (H.hi2 g d k1).1
   rw [(H.hi2 g e k3).1] at z1
   injection z1 with z1
   exact z1.symm
  ·obtain ⟨g, k1, k2⟩ := bIn_some hb
   exact ⟨(hs.rng g b k2).2, fun hF => h3 b hF ⟨d, hb⟩, (H.hi2 g d k1).2.1⟩
  ·rw [← hob] at hd'
   obtain ⟨e, o', hm', ho', rfl⟩ := obIn_lk hd'
   have hed := H.him e d hm'
   have hin : ∀ d e b, lk hi d = some e → β d = some b → bIn hi β e = some b := fun d e b h1 h2 => by
    unfold bIn; rw [(H.hi1 d e h1).2.1]; exact h2
   exact (hs.ob e o' ho').ren h1 hin fun b hb => hin e d b hed hb
  ·rw [Array.getElem?_map] at hv'
   cases hz : args[i]? with
   | none => rw [hz] at hv'; cases hv'
   | some z =>
    rw [hz] at hv'
    injection hv' with hv'
    subst hv'
    have hz' : args.toList[i]? = some z := by simpa using hz
    rw [← has, List.getElem?_map, hz'] at hy
    injection hy with hy
    subst hy
    have hmem := List.mem_of_getElem? hz'
    exact hand_ok hs H h1 (h4 z hmem) (hs.ev z (List.all_eq_true.1 hall z hmem) rfl) (hT z hmem)
  ·obtain ⟨t1, t2⟩ := h5 q β' w' hout.keeps hout.rng
   have hs' := hs.called H hout.keeps hout.inj hout.rng hout.fx hout.fs (ob1 := ob1 q) fun d o hd' => t1 d o hd' (hout.ob d o hd')
   have hr' : AVR (FF E (bBack bk K V β β') w') (bBack bk K V β β') w' ((r q).ren bk) v := (t2 v hres).ren (fun _ h => h) fun d e b h hb => by rw [bBack_in H h]; exact hb
   obtain ⟨g1, g2, g3⟩ := putRel hn hd hs' hdst true ((r q).ren bk) (fun _ => hr') (fun h => by cases h)
   have hDW : ∀ g d, lk hi g = some d → D.W g = true := fun g d h => List.all_eq_true.1 hD (g, d) (lk_mem h)
   refine ⟨v, he, XW D (bBack bk K V β β'), ⟨fun hf => ?_, ⟨hout.keeps.size, fun b hb hx => hout.keeps.block b hb fun ⟨d, hd'⟩ => ?_⟩, fun b hb ⟨e, k1, k2⟩ => ?_⟩, hr q hq _ _ _ g1 g2 g3⟩
   ·rcases hds with hds | rfl
    ·simp only [Dr.dst, ho, isCallV, hds, Bool.and_true, Bool.or_true] at hf; cases hf
    ·exact ⟨hout.keeps.size, fun b hb _ => hout.keeps.block b hb fun ⟨d, hd'⟩ => by obtain ⟨g, k1, _⟩ := bIn_some hd'; cases k1⟩
   ·obtain ⟨g, k1, k2⟩ := bIn_some hd'
    exact hx ⟨g, hDW g d (H.hi2 g d k1).1, k2⟩
   ·rcases bBack_some k2 with ⟨d, hd', hdb⟩ | ⟨_, _, _, heb⟩
    ·rcases (hout.rng d b hdb).1 with h | h
     ·omega
     ·obtain ⟨g, k3, k4⟩ := bIn_some h
      have := (H.bk2 d e hd').2.2 g k3
      subst this
      exact ⟨g, k1, k4⟩
    ·exact ⟨e, k1, heb⟩
 have fin : Calls P f (args.map a.eval) w (fun e w' => ∃ v, e = .returned v ∧ ∃ X', StepX (D.dst o) (XW D β) w X' w' ∧ wpListS P ops D (lift E n Q) (nrm E n D (Q .normal)) rest X' (a.put o.dst v) w') := by
  rcases hm with hm | hm12
  ·refine key (FF E β w) (fun _ h => h) hs.glo (fun b hb ⟨d, hd'⟩ => ?_) (fun z hz => .inl (AV.allInL_mem hm _ (List.mem_map_of_mem (by rw [hopl]; exact .tail _ hz)))) (fun q β' w' hkp hrg => ?_)
   ·obtain ⟨g, _, k2⟩ := bIn_some hd'
    exact hb.2.2 g k2
   ·have hgf : ∀ b, GF (FF E β w) (bIn hi β) β' w w' b → FF E (bBack bk K V β β') w' b := fun b hb => by
     refine ⟨hb.1, ?_, fun e he => ?_⟩
     ·rcases hb.2.1 with h | h | ⟨d, h⟩
      ·exact h.2.1
      ·exact .inr (.inl (Nat.le_trans hs.old.size h))
      ·obtain ⟨g, _, k2⟩ := bIn_some h
       exact .inr ((hs.rng g b k2).1.imp id fun h => ⟨g, h⟩)
     ·rcases bBack_some he with ⟨d, hd', hdb⟩ | ⟨_, heK, heV, heb⟩
      ·exact hb.2.2 d hdb
      ·rcases hb.2.1 with h | h | ⟨d, h⟩
       ·exact h.2.2 e heb
       ·have := (hs.rng e b heb).2; omega
       ·obtain ⟨g, k1, k2⟩ := bIn_some h
        have := hs.inj e g b heb k2
        subst this
        rcases (H.hi2 e d k1).2.2 with h' | h'
        ·exact heK h'
        ·exact heV h'
    exact ⟨fun d o _ h => objF h hgf, fun v h => h.mono hgf (fun _ _ => rfl) (fun _ _ h => h) (fun _ _ _ _ _ h => h)⟩
  ·have hsub : ∀ b, FF E β w b → b < w.heap.size ∧ ∀ d, bIn hi β d ≠ some b := fun b hb => ⟨hb.1, fun d hd' => by
    obtain ⟨g, _, k2⟩ := bIn_some hd'
    exact hb.2.2 g k2⟩
   refine key (fun b => b < w.heap.size ∧ ∀ d, bIn hi β d ≠ some b) hsub ⟨fun _ h => h.1, fun g vs h => ⟨hsub g (hs.glo.gl g vs h).1, (hs.glo.gl g vs h).2⟩⟩ (fun b hb ⟨d, hd'⟩ => hb.2 d hd') (fun z hz => .inr fun d b hd' hb => ⟨(hs.rng d b hb).2, fun d' hd2 => ?_⟩) (fun q β' w' hkp hrg => ⟨fun d o hd' h => obj_nm h (obNm_lk (hm12 q).2 hd'), fun v h => nm_ok h (hm12 q).1⟩)
   ·obtain ⟨g, k1, k2⟩ := bIn_some hd2
    have := hs.inj g d b k2 hb
    subst this
    rw [(H.hi2 g d' k1).1] at hd'
    cases hd'
 exact fin.mono fun e w' ⟨v, he, h⟩ => by subst he; exact h
def EndEK {A : Type} (I : A → Prop) (r : A → AV) (ob : List (Nat × AObj)) (ob1 : A → List (Nat × AObj)) (z : Option (Prop × List AV)) : Prop := ∃ p l, z = some (p, l) ∧ p ∧ ∃ q, I q ∧ (oneOf l).up (r q) ∧ obUp ob (ob1 q)
theorem aweR {rs : List ResultVar} {r : A → AV} {ob1 : A → List (Nat × AObj)} (h : ∀ z, resG T s rs = z → EndEK I r s.ob ob1 z) : AEndE T rs I r ob1 .ret s := by
 obtain ⟨p, l, h1, h2, h3⟩ := h _ rfl
 exact ⟨p, l, h1, h2, h3⟩
theorem aweN {rs : List ResultVar} {r : A → AV} {ob1 : A → List (Nat × AObj)} (h : ∀ z, resG T s rs = z → EndEK I r s.ob ob1 z) : AEndE T rs I r ob1 .normal s := by
 obtain ⟨p, l, h1, h2, h3⟩ := h _ rfl
 exact ⟨p, l, h1, h2, h3⟩
theorem endEK {r : A → AV} {ob : List (Nat × AObj)} {ob1 : A → List (Nat × AObj)} {p : Prop} {l : List AV} (hp : p) (h : ∃ q, I q ∧ (oneOf l).up (r q) ∧ obUp ob (ob1 q)) : EndEK I r ob ob1 (some (p, l)) := ⟨p, l, rfl, hp, h⟩
theorem callGV {hi bk : List (Nat × Nat)} {K V : List Nat} {f : Nat} {as' : List AV} {p : Prop} {ob : List (Nat × AObj)} {ob1 : A → List (Nat × AObj)} {r : A → AV} {al : Bool} (hc : GCallE P f as' ob I r ob1) (hk : handOK hi bk K V = true) (hD : hi.all (fun p => D.W p.1) = true) (hds : D.ds o = true ∨ hi = [])
  (hp : p) (hm : al = true ∨ (∀ q, (r q).nm = true ∧ obNm (ob1 q))) (hr : ∀ q, I q → AListD P E n ops D rest Q ((s.back K V bk (ob1 q)).put o.dst true ((r q).ren bk))) : CallGK P E n ops D rest Q s o hi bk K V (some (f, as', p), ob, al) := fun h => by
 unfold callGE at h
 injection h with h1 h2
 injection h2 with h2 h3
 exact go_callV hi bk K V h1 hp hk hD hds h2 hc (hm.imp (fun e => h3.trans e) id) hr
end
end Go.Proofs.Ytjeplogcfedmeaa
end
section
namespace Go.Proofs.Ytjeplogcfedmeaa
open Go.RowKit
section
variable {P : Program} {T : Nat → Option TyD} {E : Env} {s s' : AState} {a : Act} {tm : Array Value} {w w' : World} {β β' : Nat → Option Nat} {F F' : Nat → Prop} {n : Nat} {ops : Array Oper} {Q : Exit → AState → Prop} {D : Dr} {rest : List Oper} {o : Oper}
theorem go_callXE (hi bk : List (Nat × Nat)) (K V : List Nat) {f : Nat} {as0 : List AV} {ob : List (Nat × AObj)} {A : Type} {I : A → Prop} {ob1 : A → List (Nat × AObj)} {r : A → AV}
  (hg : guardAV ops s o.guard = some true) (hkd : kindN o.op = false) (hdst : dstOK n o.dst)
  (hex : ∀ (a : Act) (w : World) (β : Nat → Option Nat), SRel E s a.tmps w β → ∃ vs : Array Value, (execOp a.eval o).run P w = .ok (.enter f vs) w ∧ vs.size = as0.length ∧ ∀ (i : Nat) (x : AV) (v : Value), as0[i]? = some x → vs[i]? = some v → AVR (FF E β w) β w x v)
  (hT : AV.handT.handTL hi s as0) (hk : handOK hi bk K V = true) (hD : hi.all (fun p => D.W p.1) = true) (hds : D.dst o = true ∨ hi = []) (hob : obIn s hi hi = ob)
  (hc : GCallE P f (AV.hand.handL hi s as0) ob I r ob1) (hm : AV.allIn.allInL hi as0 = true ∨ ∀ q, (r q).nm = true ∧ obNm (ob1 q))
  (hr : ∀ q, I q → AListD P E n ops D rest Q ((s.back K V bk (ob1 q)).put o.dst true ((r q).ren bk))) : AListR P E n ops D (o :: rest) Q s := by
 have H := handOK_ok hk
 rw [AV.handL_eq] at hc
 intro a w β hn hd hs
 have hw := guard_ok (ops := ops) hs hg
 obtain ⟨vs, hexec, hvsz, hvs⟩ := hex a w β hs
 obtain ⟨⟨fn, hf, hb, hnm⟩, hcall⟩ := hc
 refine step_list hkd hw (fun _ => ?_) (fun hGf => by cases hGf)
 unfold Oper.wp
 rw [hexec]
 have hin : ∀ d e b, lk hi d = some e → β d = some b → bIn hi β e = some b := fun d e b h1 h2 => by
  unfold bIn; rw [(H.hi1 d e h1).2.1]; exact h2
 have key : ∀ F : Nat → Prop, (∀ b, FF E β w b → F b) → FOK F w → (∀ b, F b → ¬ ∃ d, bIn hi β d = some b) →
   (∀ z ∈ as0, z.allIn hi = true ∨ ∀ d b, lk hi d = none → β d = some b → F b) →
   (∀ (q : A) (β' : Nat → Option Nat) (w' : World), Keeps (fun b => ∃ d, bIn hi β d = some b) w w' → (∀ d b, β' d = some b → (w.heap.size ≤ b ∨ bIn hi β d = some b) ∧ b < w'.heap.size) →
    (∀ d o, lk (ob1 q) d = some o → ObjR (GF F (bIn hi β) β' w w') β' w' d o → ObjR (FF E (bBack bk K V β β') w') β' w' d o) ∧ ∀ v, AVR (GF F (bIn hi β) β' w w') β' w' (r q) v → AVR (FF E (bBack bk K V β β') w') β' w' (r q) v) →
   Calls P f vs w (fun e w' => ∃ v, e = .returned v ∧ ∃ X', StepX (D.dst o) (XW D β) w X' w' ∧ wpListS P ops D (lift E n Q) (nrm E n D (Q .normal)) rest X' (a.put o.dst v) w') := fun F h1 h2 h3 h4 h5 => by
  refine (hcall w F (bIn hi β) vs ⟨h2, fun d e b g1 g2 => ?_, fun d b hb => ?_, fun d ob' hd' => ?_⟩ (by simpa using hvsz) fun i y v hy hv' => ?_).mono fun e w' ⟨q, v, β', hI, he, hout, hres⟩ => ?_
  ·obtain ⟨g, k1, k2⟩ := bIn_some g1
   obtain ⟨g', k3, k4⟩ := bIn_some g2
   have := hs.inj g g' b k2 k4
   subst this
   have z1 := (H.hi2 g d k1).1
   rw [(H.hi2 g e k3).1] at z1
   injection z1 with z1
   exact z1.symm
  ·obtain ⟨g, k1, k2⟩ := bIn_some hb
   exact ⟨(hs.rng g b k2).2, fun hF => h3 b hF ⟨d, hb⟩, (H.hi2 g d k1).2.1⟩
  ·rw [← hob] at hd'
   obtain ⟨e, o', hm', ho', rfl⟩ := obIn_lk hd'
   exact (hs.ob e o' ho').ren h1 hin fun b hb => hin e d b (H.him e d hm') hb
  ·rw [List.getElem?_map] at hy
   cases hz : as0[i]? with
   | none => rw [hz] at hy; cases hy
   | some z =>
    rw [hz] at hy
    injection hy with hy
    subst hy
    have hmem := List.mem_of_getElem? hz
    exact hand_ok hs H h1 (h4 z hmem) (hvs i z v hz hv') (AV.handTL_mem hT z hmem)
  ·obtain ⟨t1, t2⟩ := h5 q β' w' hout.keeps hout.rng
   have hs' := hs.called H hout.keeps hout.inj hout.rng hout.fx hout.fs (ob1 := ob1 q) fun d o hd' => t1 d o hd' (hout.ob d o hd')
   have hr' : AVR (FF E (bBack bk K V β β') w') (bBack bk K V β β') w' ((r q).ren bk) v := (t2 v hres).ren (fun _ h => h) fun d e b h hb => by rw [bBack_in H h]; exact hb
   obtain ⟨g1, g2, g3⟩ := putRel hn hd hs' hdst true ((r q).ren bk) (fun _ => hr') (fun h => by cases h)
   have hDW : ∀ g d, lk hi g = some d → D.W g = true := fun g d h => List.all_eq_true.1 hD (g, d) (lk_mem h)
   refine ⟨v, he, XW D (bBack bk K V β β'), ⟨fun hf => ?_, ⟨hout.keeps.size, fun b hb hx => hout.keeps.block b hb fun ⟨d, hd'⟩ => ?_⟩, fun b hb ⟨e, k1, k2⟩ => ?_⟩, hr q hI _ _ _ g1 g2 g3⟩
   ·rcases hds with hds | rfl
    ·rw [hds] at hf; cases hf
    ·exact ⟨hout.keeps.size, fun b hb _ => hout.keeps.block b hb fun ⟨d, hd'⟩ => by obtain ⟨g, k1, _⟩ := bIn_some hd'; cases k1⟩
   ·obtain ⟨g, k1, k2⟩ := bIn_some hd'
    exact hx ⟨g, hDW g d (H.hi2 g d k1).1, k2⟩
   ·rcases bBack_some k2 with ⟨d, hd', hdb⟩ | ⟨_, _, _, heb⟩
    ·rcases (hout.rng d b hdb).1 with h | h
     ·omega
     ·obtain ⟨g, k3, k4⟩ := bIn_some h
      have := (H.bk2 d e hd').2.2 g k3
      subst this
      exact ⟨g, k1, k4⟩
    ·exact ⟨e, k1, heb⟩
 have fin : Calls P f vs w (fun e w' => ∃ v, e = .returned v ∧ ∃ X', StepX (D.dst o) (XW D β) w X' w' ∧ wpListS P ops D (lift E n Q) (nrm E n D (Q .normal)) rest X' (a.put o.dst v) w') := by
  rcases hm with hm | hm
  ·refine key (FF E β w) (fun _ h => h) hs.glo (fun b hb ⟨d, hd'⟩ => ?_) (fun z hz => .inl (AV.allInL_mem hm _ hz)) (fun q β' w' hkp hrg => ?_)
   ·obtain ⟨g, _, k2⟩ := bIn_some hd'
    exact hb.2.2 g k2
   ·have hgf : ∀ b, GF (FF E β w) (bIn hi β) β' w w' b → FF E (bBack bk K V β β') w' b := fun b hb => by
     refine ⟨hb.1, ?_, fun e he => ?_⟩
     ·rcases hb.2.1 with h | h | ⟨d, h⟩
      ·exact h.2.1
      ·exact .inr (.inl (Nat.le_trans hs.old.size h))
      ·obtain ⟨g, _, k2⟩ := bIn_some h
       exact .inr ((hs.rng g b k2).1.imp id fun h => ⟨g, h⟩)
     ·rcases bBack_some he with ⟨d, hd', hdb⟩ | ⟨_, heK, heV, heb⟩
      ·exact hb.2.2 d hdb
      ·rcases hb.2.1 with h | h | ⟨d, h⟩
       ·exact h.2.2 e heb
       ·have := (hs.rng e b heb).2; omega
       ·obtain ⟨g, k1, k2⟩ := bIn_some h
        have := hs.inj e g b heb k2
        subst this
        rcases (H.hi2 e d k1).2.2 with h' | h'
        ·exact heK h'
        ·exact heV h'
    exact ⟨fun d o _ h => objF h hgf, fun v h => h.mono hgf (fun _ _ => rfl) (fun _ _ h => h) (fun _ _ _ _ _ h => h)⟩
  ·have hsub : ∀ b, FF E β w b → b < w.heap.size ∧ ∀ d, bIn hi β d ≠ some b := fun b hb => ⟨hb.1, fun d hd' => by
    obtain ⟨g, _, k2⟩ := bIn_some hd'
    exact hb.2.2 g k2⟩
   refine key (fun b => b < w.heap.size ∧ ∀ d, bIn hi β d ≠ some b) hsub ⟨fun _ h => h.1, fun g vs h => ⟨hsub g (hs.glo.gl g vs h).1, (hs.glo.gl g vs h).2⟩⟩ (fun b hb ⟨d, hd'⟩ => hb.2 d hd') (fun z hz => .inr fun d b hd' hb => ⟨(hs.rng d b hb).2, fun d' hd2 => ?_⟩) (fun q β' w' hkp hrg => ⟨fun d o hd' h => obj_nm h (obNm_lk (hm q).2 hd'), fun v h => nm_ok h (hm q).1⟩)
   ·obtain ⟨g, k1, k2⟩ := bIn_some hd2
    have := hs.inj g d b k2 hb
    subst this
    rw [(H.hi2 g d' k1).1] at hd'
    cases hd'
 exact fin.mono fun e w' ⟨v, he, h⟩ => by subst he; exact h
theorem go_callX (hi bk : List (Nat × Nat)) (K V : List Nat) {f : Nat} {as0 : List AV} {ob ob1 : List (Nat × AObj)} {r : AV}
  (hg : guardAV ops s o.guard = some true) (hkd : kindN o.op = false) (hdst : dstOK n o.dst)
  (hex : ∀ (a : Act) (w : World) (β : Nat → Option Nat), SRel E s a.tmps w β → ∃ vs : Array Value, (execOp a.eval o).run P w = .ok (.enter f vs) w ∧ vs.size = as0.length ∧ ∀ (i : Nat) (x : AV) (v : Value), as0[i]? = some x → vs[i]? = some v → AVR (FF E β w) β w x v)
  (hT : AV.handT.handTL hi s as0) (hk : handOK hi bk K V = true) (hD : hi.all (fun p => D.W p.1) = true) (hds : D.dst o = true ∨ hi = []) (hob : obIn s hi hi = ob)
  (hc : GCall P f (AV.hand.handL hi s as0) ob r ob1) (hm : AV.allIn.allInL hi as0 = true ∨ (r.nm = true ∧ obNm ob1))
  (hr : AListD P E n ops D rest Q ((s.back K V bk ob1).put o.dst true (r.ren bk))) : AListR P E n ops D (o :: rest) Q s :=
 go_callXE (A := Unit) (I := fun _ => True) (ob1 := fun _ => ob1) (r := fun _ => r) hi bk K V hg hkd hdst hex hT hk hD hds hob
  ⟨hc.1, fun w F β vs h1 h2 h3 => (hc.2 w F β vs h1 h2 h3).mono fun e w' ⟨v, β', he, ho, hr⟩ => ⟨(), v, β', trivial, he, ho, hr⟩⟩ (hm.imp id fun h _ => h) fun _ _ => hr
theorem exec_callF {o : Oper} {x : Operand} {args : Array Operand} {ats : Array TypeId} (ho : o.op = .call ⟨.value x, args, ats⟩) {f : Nat} {fst cap : Array Value} (hx : a.eval x = .func (.func f) fst cap)
  {fn : Func} (hf : P.funcs[f]? = some fn) (hb : fn.body.isSome = true) (hn : (fn.name == "runtime.NumGoroutine") = false) : (execOp a.eval o).run P w = .ok (.enter f (fst ++ args.map a.eval ++ cap)) w := by
 have hb' : fn.body.isNone = false := by cases h : fn.body <;> simp_all
 unfold execOp
 simp only [ho, resolve, hx, Deferred.ofValue, Sem.run_bind, Sem.run_pure, Result.andThen_ok, invoke, callFunc, run_program, hf, hn, hb', Bool.false_eq_true, if_false]
def fnGo (f : Nat) (cs as0 : List AV) : Nat × List AV := bif decide (f < 1000000) then (f, as0 ++ cs) else (f - 1000000, cs ++ as0)
theorem fn_rel {x : AV} {f : Nat} {cs : List AV} {v : Value} (h : AVR F β w x v) (hx : x = .fn f cs) : ∃ vs xs ys g, v = .func (.func g) xs ys ∧ (f = g ∧ f < 1000000 ∧ xs = #[] ∧ ys = vs ∨ f = g + 1000000 ∧ xs = vs ∧ ys = #[]) ∧ vs.size = cs.length ∧ ∀ (i : Nat) (c : AV) (u : Value), cs[i]? = some c → vs[i]? = some u → AVR F β w c u := by
 subst hx
 cases h with
 | s h => cases h
 | fn h0 h1 h2 => exact ⟨_, _, _, _, rfl, h0, h1, h2⟩
theorem rel_app {as1 as2 : List AV} {v1 v2 : Array Value} (l1 : v1.size = as1.length) (h1 : ∀ (i : Nat) (c : AV) (u : Value), as1[i]? = some c → v1[i]? = some u → AVR F β w c u) (h2 : ∀ (i : Nat) (c : AV) (u : Value), as2[i]? = some c → v2[i]? = some u → AVR F β w c u)
  (i : Nat) (c : AV) (u : Value) (hc : (as1 ++ as2)[i]? = some c) (hu : (v1 ++ v2)[i]? = some u) : AVR F β w c u := by
 rcases Nat.lt_or_ge i as1.length with hi | hi
 ·rw [List.getElem?_append_left hi] at hc
  rw [Array.getElem?_append_left (by omega)] at hu
  exact h1 i c u hc hu
 ·rw [List.getElem?_append_right hi] at hc
  rw [Array.getElem?_append_right (by omega), l1] at hu
  exact h2 _ c u hc hu
theorem ev_all (hs : SRel E s a.tmps w β) {args : Array Operand} (hall : args.toList.all s.gd = true) (i : Nat) (x : AV) (v : Value) (hx : (args.toList.map s.ev)[i]? = some x) (hv : (args.map a.eval)[i]? = some v) : AVR (FF E β w) β w x v := by
 rw [List.getElem?_map] at hx
 rw [Array.getElem?_map] at hv
 cases hz : args[i]? with
 | none => rw [hz] at hv; cases hv
 | some z =>
  have hz' : args.toList[i]? = some z := by simpa using hz
  rw [hz'] at hx
  rw [hz] at hv
  injection hx with hx
  injection hv with hv
  subst hx
  subst hv
  exact hs.ev z (List.all_eq_true.1 hall z (List.mem_of_getElem? hz')) rfl
theorem hex_fn {x : Operand} {args : Array Operand} {ats : Array TypeId} {f : Nat} {cs : List AV} {fn : Func} (ho : o.op = .call ⟨.value x, args, ats⟩) (hx : s.ev x = .fn f cs) (hgx : s.gd x = true) (hall : args.toList.all s.gd = true)
  (hf : P.funcs[(fnGo f cs (args.toList.map s.ev)).1]? = some fn) (hb : fn.body.isSome = true) (hn : (fn.name == "runtime.NumGoroutine") = false) :
  ∀ (a : Act) (w : World) (β : Nat → Option Nat), SRel E s a.tmps w β → ∃ vs : Array Value, (execOp a.eval o).run P w = .ok (.enter (fnGo f cs (args.toList.map s.ev)).1 vs) w ∧ vs.size = (fnGo f cs (args.toList.map s.ev)).2.length ∧ ∀ (i : Nat) (x : AV) (v : Value), (fnGo f cs (args.toList.map s.ev)).2[i]? = some x → vs[i]? = some v → AVR (FF E β w) β w x v := by
 intro a w β hs
 obtain ⟨vs, xs, ys, g, h1, h0, h2, h3⟩ := fn_rel (hs.ev x hgx (a := a) rfl) hx
 have ha : (args.map a.eval).size = (args.toList.map s.ev).length := by simp
 unfold fnGo at hf ⊢
 rcases h0 with ⟨rfl, hlt, rfl, rfl⟩ | ⟨rfl, rfl, rfl⟩
 ·rw [decide_eq_true hlt] at hf ⊢
  refine ⟨_, exec_callF ho h1 hf hb hn, by simp [h2], fun i y v hy hv => ?_⟩
  rw [Array.empty_append] at hv
  exact rel_app ha (ev_all hs hall) h3 i y v hy hv
 ·rw [decide_eq_false (by omega)] at hf ⊢
  simp only [cond_false, Nat.add_sub_cancel] at hf ⊢
  refine ⟨_, exec_callF ho h1 hf hb hn, by simp [h2], fun i y v hy hv => ?_⟩
  rw [Array.append_empty] at hv
  exact rel_app h2 h3 (ev_all hs hall) i y v hy hv
theorem hex_fc {x : Operand} {args : Array Operand} {ats : Array TypeId} {f : Nat} {fn : Func} (ho : o.op = .call ⟨.value x, args, ats⟩) (hx : s.ev x = .v (.func (.func f) #[] #[])) (hgx : s.gd x = true) (hall : args.toList.all s.gd = true)
  (hf : P.funcs[f]? = some fn) (hb : fn.body.isSome = true) (hn : (fn.name == "runtime.NumGoroutine") = false) :
  ∀ (a : Act) (w : World) (β : Nat → Option Nat), SRel E s a.tmps w β → ∃ vs : Array Value, (execOp a.eval o).run P w = .ok (.enter f vs) w ∧ vs.size = (args.toList.map s.ev).length ∧ ∀ (i : Nat) (x : AV) (v : Value), (args.toList.map s.ev)[i]? = some x → vs[i]? = some v → AVR (FF E β w) β w x v := by
 intro a w β hs
 have h1 := hs.ev x hgx (a := a) rfl
 rw [hx] at h1
 generalize hu : a.eval x = u at h1
 cases h1 with
 | s h1 =>
 cases h1 with
 | v _ => exact ⟨_, exec_callF ho hu hf hb hn, by simp, fun i y v hy hv => by rw [Array.empty_append, Array.append_empty] at hv; exact ev_all hs hall i y v hy hv⟩
end
end Go.Proofs.Ytjeplogcfedmeaa
end

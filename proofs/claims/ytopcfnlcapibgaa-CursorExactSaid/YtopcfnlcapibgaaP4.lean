import Derived.KernelRfl
import Derived.Test.YtopcfnlcapibgaaP3
set_option linter.all false
section
namespace Go.Proofs.Ytopcfnlcapibgaa
open Go.RowKit

/-! Regions that draw their order. -/

def dstr (D : Dr) (ops : Array Oper) (i : Nat) : Bool := (ops[i]?).any fun o => D.dst o

section
variable {P : Program} {ops : Array Oper} {R : Exit → Act → World → Prop} {md : Region.Mode} {D : Dr}

/-- whatever order is picked from here on; what each operation leaves as it was -/
def wpAnyE (P : Program) (D : Dr) (md : Region.Mode) (ops : Array Oper) (R : Exit → Act → World → Prop) : Nat → Array Bool → (Nat → Prop) → Act → World → Prop
  | 0, listed, _, a, w => Region.ready md ops listed = [] ∧ R .normal a w
  | fuel + 1, listed, X, a, w =>
    (Region.ready md ops listed = [] → R .normal a w) ∧
    ∀ i ∈ Region.ready md ops listed, wpOp P ops R i (fun a' w' => ∃ X', StepX (dstr D ops i) X w X' w' ∧ wpAnyE P D md ops R fuel (listed.setIfInBounds i true) X' a' w') a w

theorem wpAny_of_E : ∀ (fuel : Nat) (listed : Array Bool) (X : Nat → Prop) (a : Act) (w : World), wpAnyE P D md ops R fuel listed X a w → wpAny P md ops R fuel listed a w
  | 0, _, _, _, _, h => h
  | fuel + 1, _, _, _, _, h => ⟨h.1, fun i hi => wpOp_mono (fun a' w' ⟨X', _, h'⟩ => wpAny_of_E fuel _ X' a' w' h') (h.2 i hi)⟩

theorem unlisted {listed : Array Bool} {i : Nat} (h : listed.getD i true = false) : listed.getD i false = false := by
  rcases Nat.lt_or_ge i listed.size with h' | h'
  · simpa [h'] using h
  · simp [Array.getElem?_eq_none h'] at h
theorem StepX.refl (d : Bool) (X : Nat → Prop) (w : World) : StepX d X w X w := ⟨fun _ => ExtX.refl _ w, ExtX.refl _ w, fun _ _ h => h⟩

/-- an operation that may come up now may be taken first: if its value is the same in every world in which nothing but the objects that the region writes has turned; or if whatever writes waits for it -/
theorem wpAnyE_first {i : Nat} {oi : Oper} {v : Value} (hi : ops[i]? = some oi) (hsel : ∀ (j : Nat) (o : Oper) cs b, ops[j]? = some o → o.op ≠ .select cs b)
    (hQ : ∀ c a w, R (.panic c) (a.put oi.dst v) w → R (.panic c) a w) (B : Nat → Bool) (weak : Bool) :
    ∀ (fuel : Nat) (listed : Array Bool) (X : Nat → Prop) (a : Act) (w : World),
      (∀ j oj, ops[j]? = some oj → j ≠ i → listed.getD j true = false → (∀ e ∈ oj.after, Region.binds md e = true → e.on ≠ i) → oi.apart ops oj = true) →
      (∀ j, B j = true → listed.getD j true = false ∧ ∃ oj, ops[j]? = some oj ∧ ∃ e ∈ oj.after, Region.binds md e = true ∧ (e.on = i ∨ B e.on = true)) →
      (weak = true → ∀ j, listed.getD j true = false → j ≠ i → dstr D ops j = true → B j = true) →
      i ∈ Region.ready md ops listed → YieldsIf P ops (ExtX (if weak = true then noX else X) w) oi v a →
      wpAnyE P D md ops R fuel (listed.setIfInBounds i true) X (a.put oi.dst v) w → wpAnyE P D md ops R (fuel + 1) listed X a w := by
  intro fuel
  induction fuel with
  | zero =>
    intro listed X a w _ _ _ hr hy H
    refine ⟨fun h => (by rw [h] at hr; cases hr), fun j hj => ?_⟩
    by_cases hji : j = i
    · subst hji; exact hy.wpOp hi (ExtX.refl _ w) ⟨X, StepX.refl _ X w, H⟩
    · have := ready_mono hj hji
      rw [H.1] at this
      cases this
  | succ fuel ih =>
    intro listed X a w hfree hB hD hr hy H
    refine ⟨fun h => (by rw [h] at hr; cases hr), fun j hj => ?_⟩
    by_cases hji : j = i
    · subst hji; exact hy.wpOp hi (ExtX.refl _ w) ⟨X, StepX.refl _ X w, H⟩
    · have h1 := H.2 j (ready_mono hj hji)
      obtain ⟨hjun, oj, hoj, hall⟩ := mem_ready.1 hj
      have hiun := (mem_ready.1 hr).1
      have hnot : ∀ e ∈ oj.after, Region.binds md e = true → e.on ≠ i := fun e he hb heq => by
        have h1 := hall e he hb
        rw [heq, unlisted hiun] at h1
        cases h1
      have hBj : B j = false := by
        cases hbj : B j with
        | false => rfl
        | true =>
          obtain ⟨_, oj', hoj', e, he, hbe, hor⟩ := hB j hbj
          rw [hoj] at hoj'
          injection hoj' with hoj'
          subst hoj'
          have hl := hall e he hbe
          rcases hor with heq | hbk
          · exact absurd heq (hnot e he hbe)
          · rw [unlisted (hB e.on hbk).1] at hl; cases hl
      have hDj : weak = true → dstr D ops j = false := fun hwk => by
        cases hd : dstr D ops j with
        | false => rfl
        | true => rw [hD hwk j hjun hji hd] at hBj; cases hBj
      have h2 := wpOp_putIf hoj (hfree j oj hoj hji hjun hnot) (fun cs b => hsel i oi cs b hi) (fun cs b => hsel j oj cs b hoj) hQ hy h1
      have hkeep : ∀ k, (listed.setIfInBounds j true).getD k true = false → listed.getD k true = false := fun k hk => by
        by_cases hjk : j = k
        · subst hjk; exact hjun
        · rw [getD_set_ne true hjk] at hk; exact hk
      refine wpOp_mono (fun a' w' ⟨hyi, X', hst, h3⟩ => ⟨X', hst, ih (listed.setIfInBounds j true) X' a' w' ?_ ?_ ?_ (ready_mono hr (Ne.symm hji)) ?_ ?_⟩) h2
      · exact fun k ok hk hki hun hno => hfree k ok hk hki (hkeep k hun) hno
      · intro k hk
        obtain ⟨g1, g2⟩ := hB k hk
        have hjk : j ≠ k := fun h => by subst h; rw [hBj] at hk; cases hk
        exact ⟨by rw [getD_set_ne true hjk]; exact g1, g2⟩
      · exact fun hwk k hun hki hd => hD hwk k (hkeep k hun) hki hd
      · refine hyi.imp (fun ⟨g1, g2⟩ => ⟨g1, fun w'' hw => g2 w'' ?_⟩) id
        cases weak with
        | true => exact (hst.1 (hDj rfl)).trans hw (fun _ _ h => h)
        | false => exact hst.2.1.trans hw hst.2.2
      · rw [Array.setIfInBounds_comm _ _ hji]
        exact h3
end

/-- what waits, by itself or through others, for operation i -/
def behind (md : Region.Mode) (ops : Array Oper) (listed : Array Bool) (i : Nat) : List Nat :=
  (List.range ops.size).foldl (fun acc j => if !listed.getD j true && j != i && (ops[j]?).any (·.after.any fun e => Region.binds md e && (e.on == i || acc.contains e.on)) then j :: acc else acc) []
/-- may operation i be taken first? -/
def firstOK (md : Region.Mode) (ops : Array Oper) (D : Dr) (listed : Array Bool) (i : Nat) : Bool :=
  (ops[i]?).any (fun o => kindN o.op) && Region.free md ops listed i &&
  (!(ops[i]?).any (fun o => D.wk o) ||
    (let B := behind md ops listed i
    B.all (fun j => !listed.getD j true && (ops[j]?).any (·.after.any fun e => Region.binds md e && (e.on == i || B.contains e.on))) &&
    (List.range ops.size).all (fun j => listed.getD j true || j == i || !dstr D ops j || B.contains j)))

/-- orders that stand for all: operations one after the other, then a choice, or the end -/
inductive PT where
  | node (l : List Nat) (ts : List PT)
deriving Inhabited
def PT.push (i : Nat) : PT → PT
  | .node l ts => .node (i :: l) ts
def planT (md : Region.Mode) (ops : Array Oper) (D : Dr) : Nat → Array Bool → Option PT
  | 0, listed => if (Region.ready md ops listed).isEmpty then some (.node [] []) else none
  | fuel + 1, listed =>
    match Region.ready md ops listed with
    | [] => some (.node [] [])
    | r :: rs =>
      match (r :: rs).find? (firstOK md ops D listed) with
      | some i => (planT md ops D fuel (listed.setIfInBounds i true)).map (PT.push i)
      | none =>
        match rs with
        | [] => (planT md ops D fuel (listed.setIfInBounds r true)).map (PT.push r)
        | _ => ((r :: rs).mapM fun i => (planT md ops D fuel (listed.setIfInBounds i true)).map (PT.push i)).map (PT.node [])

section
variable {P : Program} {ops : Array Oper} {md : Region.Mode} {D : Dr}
/-- a tree of orders, walked -/
def wpT (P : Program) (ops : Array Oper) (D : Dr) (R : Exit → Act → World → Prop) : PT → (Nat → Prop) → Act → World → Prop
  | .node l ts, X, a, w => wpListS P ops D R (fun X a w => match ts with
      | [] => R .normal a w
      | t :: ts' => wpT P ops D R t X a w ∧ wpTs ts' X a w) (l.filterMap (ops[·]?)) X a w
where
  wpTs : List PT → (Nat → Prop) → Act → World → Prop
  | [], _, _, _ => True
  | t :: ts, X, a, w => wpT P ops D R t X a w ∧ wpTs ts X a w

/-- what stands behind a tree's first stretch -/
def afterT (P : Program) (ops : Array Oper) (D : Dr) (R : Exit → Act → World → Prop) (ts : List PT) : (Nat → Prop) → Act → World → Prop :=
  fun X a w => if ts = [] then R .normal a w else ∀ t ∈ ts, wpT P ops D R t X a w

theorem wpTs_mem {R : Exit → Act → World → Prop} {X : Nat → Prop} {a : Act} {w : World} : ∀ {ts : List PT}, wpT.wpTs P ops D R ts X a w ↔ ∀ t ∈ ts, wpT P ops D R t X a w := by
  intro ts
  induction ts with
  | nil => simp [wpT.wpTs]
  | cons t ts ih => simp [wpT.wpTs, ih]

theorem wpListS_mono {R : Exit → Act → World → Prop} {N N' : (Nat → Prop) → Act → World → Prop} (h : ∀ X a w, N X a w → N' X a w) : ∀ (l : List Oper) (X : Nat → Prop) (a : Act) (w : World), wpListS P ops D R N l X a w → wpListS P ops D R N' l X a w := by
  intro l
  induction l with
  | nil => intro X a w hl; exact h _ _ _ hl
  | cons o l ih =>
    intro X a w hl
    unfold wpListS at hl ⊢
    split
    · rename_i hk
      rw [if_pos hk] at hl
      obtain ⟨v, hy, hr⟩ := hl
      exact ⟨v, hy, ih _ _ _ hr⟩
    · rename_i hk
      rw [if_neg hk] at hl
      split
      · rename_i hw
        rw [if_pos hw] at hl
        exact hl.imp (Oper.wp_mono fun a' w' ⟨X', h1, h2⟩ => ⟨X', h1, ih _ _ _ h2⟩) id
      · rename_i hw
        rw [if_neg hw] at hl
        exact ih _ _ _ hl

theorem wpT_eq {R : Exit → Act → World → Prop} {l : List Nat} {ts : List PT} {X : Nat → Prop} {a : Act} {w : World} : wpT P ops D R (.node l ts) X a w ↔ wpListS P ops D R (afterT P ops D R ts) (l.filterMap (ops[·]?)) X a w := by
  unfold wpT
  constructor
  · refine wpListS_mono (fun X a w h => ?_) _ _ _ _
    cases ts with
    | nil => simpa [afterT] using h
    | cons t ts =>
      rw [afterT, if_neg (by simp)]
      intro t' ht'
      rcases List.mem_cons.1 ht' with rfl | ht'
      · exact h.1
      · exact wpTs_mem.1 h.2 t' ht'
  · refine wpListS_mono (fun X a w h => ?_) _ _ _ _
    cases ts with
    | nil => simpa [afterT] using h
    | cons t ts => rw [afterT, if_neg (by simp)] at h; exact ⟨h t (by simp), wpTs_mem.2 fun t' ht' => h t' (by simp [ht'])⟩

theorem firstOK_spec {listed : Array Bool} {i : Nat} (h : firstOK md ops D listed i = true) {oi : Oper} (hi : ops[i]? = some oi) :
    kindN oi.op = true ∧ (∀ j oj, ops[j]? = some oj → j ≠ i → listed.getD j true = false → (∀ e ∈ oj.after, Region.binds md e = true → e.on ≠ i) → oi.apart ops oj = true) ∧
    ∃ B : Nat → Bool, (∀ j, B j = true → listed.getD j true = false ∧ ∃ oj, ops[j]? = some oj ∧ ∃ e ∈ oj.after, Region.binds md e = true ∧ (e.on = i ∨ B e.on = true)) ∧
      (D.wk oi = true → ∀ j, listed.getD j true = false → j ≠ i → dstr D ops j = true → B j = true) := by
  unfold firstOK at h
  simp only [Bool.and_eq_true] at h
  obtain ⟨⟨h1, h2⟩, h3⟩ := h
  rw [hi] at h1 h3
  cases hwk : D.wk oi with
  | false => exact ⟨h1, Region.free_spec hi h2, fun _ => false, fun j hj => (by cases hj), fun hk => (by cases hk)⟩
  | true =>
    simp only [Option.any_some, hwk, Bool.not_true, Bool.false_or, Bool.and_eq_true] at h3
    obtain ⟨h3, h4⟩ := h3
    refine ⟨h1, Region.free_spec hi h2, fun j => (behind md ops listed i).contains j, fun j hj => ?_, fun _ j hj hji hd => ?_⟩
    · have := List.all_eq_true.1 h3 j (by simpa using hj)
      simp only [Bool.and_eq_true, Bool.not_eq_true'] at this
      obtain ⟨g1, g2⟩ := this
      refine ⟨g1, ?_⟩
      cases ho : ops[j]? with
      | none => rw [ho] at g2; cases g2
      | some oj =>
        rw [ho] at g2
        simp only [Option.any_some, Array.any_eq_true, Bool.and_eq_true, Bool.or_eq_true, beq_iff_eq] at g2
        obtain ⟨q, hq, hb, hor⟩ := g2
        exact ⟨oj, rfl, oj.after[q], Array.getElem_mem hq, hb, hor⟩
    · have hlt : j < ops.size := by
        unfold dstr at hd
        cases ho : ops[j]? with
        | none => rw [ho] at hd; cases hd
        | some o => exact (Array.getElem?_eq_some_iff.1 ho).1
      have := List.all_eq_true.1 h4 j (by simpa using hlt)
      simp only [Bool.or_eq_true, beq_iff_eq, Bool.not_eq_true', hj, hd] at this
      rcases this with ((h | h) | h) | h
      · cases h
      · exact absurd h hji
      · cases h
      · exact h

theorem node_step {R : Exit → Act → World → Prop} {i : Nat} {l : List Nat} {ts : List PT} {X : Nat → Prop} {a : Act} {w : World} {o : Oper} (hi : ops[i]? = some o) (h : wpT P ops D R (.node (i :: l) ts) X a w) :
    (kindN o.op = true ∧ ∃ v, YieldsIf P ops (ExtX (if D.wk o = true then noX else X) w) o v a ∧ wpT P ops D R (.node l ts) X (a.put o.dst v) w) ∨
    (kindN o.op = false ∧ wpOp P ops R i (fun a' w' => ∃ X', StepX (dstr D ops i) X w X' w' ∧ wpT P ops D R (.node l ts) X' a' w') a w) := by
  have hde : dstr D ops i = D.dst o := by simp [dstr, hi]
  rw [wpT_eq, List.filterMap_cons, hi] at h
  dsimp only at h
  unfold wpListS at h
  split at h
  · rename_i hk
    obtain ⟨v, hy, hr⟩ := h
    exact .inl ⟨hk, v, hy, wpT_eq.2 hr⟩
  · rename_i hk
    refine .inr ⟨by simpa using hk, ?_⟩
    unfold wpOp
    simp only [hi]
    split
    · rename_i hw
      rw [if_pos hw] at h
      exact h.imp (Oper.wp_mono fun a' w' ⟨X', h1, h2⟩ => ⟨X', by rw [hde]; exact h1, wpT_eq.2 h2⟩) id
    · rename_i hw
      rw [if_neg hw] at h
      exact ⟨X, StepX.refl _ X w, wpT_eq.2 h⟩

theorem wpListS_out {R R' : Exit → Act → World → Prop} {N : (Nat → Prop) → Act → World → Prop} (h : ∀ e a w, e ≠ .normal → R e a w → R' e a w) : ∀ (l : List Oper) (X : Nat → Prop) (a : Act) (w : World), wpListS P ops D R N l X a w → wpListS P ops D R' N l X a w := by
  intro l
  induction l with
  | nil => intro X a w hl; exact hl
  | cons o l ih =>
    intro X a w hl
    unfold wpListS at hl ⊢
    split
    · rename_i hk
      rw [if_pos hk] at hl
      obtain ⟨v, hy, hr⟩ := hl
      exact ⟨v, hy, ih _ _ _ hr⟩
    · rename_i hk
      rw [if_neg hk] at hl
      split
      · rename_i hw
        rw [if_pos hw] at hl
        refine hl.imp (fun hwp => ?_) (fun ⟨h1, a0, w0, hq⟩ => ⟨h1, a0, w0, h _ _ _ (by simp) hq⟩)
        have := Oper.wp_mono (fun a' w' ⟨X', h1, h2⟩ => (⟨X', h1, ih X' a' w' h2⟩ : ∃ X', StepX (D.dst o) X w X' w' ∧ wpListS P ops D R' N l X' a' w')) hwp
        unfold Oper.wp at this ⊢
        generalize (execOp a.eval o).run P w = r at *
        cases r with
        | ok n w' =>
          cases n <;> simp only [Oper.upon] at this ⊢ <;> first
            | exact this
            | (refine Calls.mono this fun e w'' he => ?_
               cases e with
               | returned v => exact he
               | panicked c => exact h _ _ _ (by simp) he
               | outgrown => obtain ⟨a0, w0, hq⟩ := he; exact ⟨a0, w0, h _ _ _ (by simp) hq⟩)
        | halt x w' =>
          cases x <;> simp only [Oper.upon] at this ⊢
          exact h _ _ _ (by simp) this
      · rename_i hw
        rw [if_neg hw] at hl
        exact ih _ _ _ hl

theorem plan_ok {R : Exit → Act → World → Prop} (hsel : ∀ (j : Nat) (o : Oper) cs b, ops[j]? = some o → o.op ≠ .select cs b) (hQ : ∀ c a w, ¬ R (.panic c) a w) :
    ∀ (fuel : Nat) (listed : Array Bool) (t : PT) (X : Nat → Prop) (a : Act) (w : World), planT md ops D fuel listed = some t → wpT P ops D R t X a w → wpAnyE P D md ops R fuel listed X a w := by
  intro fuel
  induction fuel with
  | zero =>
    intro listed t X a w hp ht
    simp only [planT] at hp
    split at hp
    · rename_i hr
      injection hp with hp
      subst hp
      rw [wpT_eq] at ht
      exact ⟨by simpa using hr, by simpa [wpListS, afterT] using ht⟩
    · cases hp
  | succ fuel ih =>
    intro listed t X a w hp ht
    simp only [planT] at hp
    split at hp
    · rename_i hr
      injection hp with hp
      subst hp
      rw [wpT_eq] at ht
      exact ⟨fun _ => by simpa [wpListS, afterT] using ht, fun i hi => by rw [hr] at hi; cases hi⟩
    · rename_i r rs hr
      -- one step of whichever
      have one : ∀ i ∈ Region.ready md ops listed, ∀ t', (planT md ops D fuel (listed.setIfInBounds i true)).map (PT.push i) = some t' → wpT P ops D R t' X a w →
          wpOp P ops R i (fun a' w' => ∃ X', StepX (dstr D ops i) X w X' w' ∧ wpAnyE P D md ops R fuel (listed.setIfInBounds i true) X' a' w') a w := fun i hi t' ht' hw => by
        obtain ⟨_, o, ho, _⟩ := mem_ready.1 hi
        cases hpl : planT md ops D fuel (listed.setIfInBounds i true) with
        | none => rw [hpl] at ht'; cases ht'
        | some t'' =>
          rw [hpl] at ht'
          injection ht' with ht'
          subst ht'
          obtain ⟨l, ts⟩ := t''
          rcases node_step ho hw with ⟨hk, v, hy, hrest⟩ | ⟨hk, hstep⟩
          · exact hy.wpOp ho (ExtX.refl _ w) ⟨X, StepX.refl _ X w, ih _ _ _ _ _ hpl hrest⟩
          · exact wpOp_mono (fun a' w' ⟨X', h1, h2⟩ => ⟨X', h1, ih _ _ _ _ _ hpl h2⟩) hstep
      split at hp
      · rename_i i hfind
        have hfo := List.find?_some hfind
        have him : i ∈ Region.ready md ops listed := by rw [hr]; exact List.mem_of_find?_eq_some hfind
        obtain ⟨_, o, ho, _⟩ := mem_ready.1 him
        obtain ⟨hk, hfree, B, hB, hD⟩ := firstOK_spec hfo ho
        cases hpl : planT md ops D fuel (listed.setIfInBounds i true) with
        | none => rw [hpl] at hp; cases hp
        | some t'' =>
          rw [hpl] at hp
          injection hp with hp
          subst hp
          obtain ⟨l, ts⟩ := t''
          rcases node_step ho ht with ⟨_, v, hy, hrest⟩ | ⟨hk', _⟩
          · exact wpAnyE_first ho hsel (fun c a w h => (hQ c _ _ h).elim) B (D.wk o) fuel listed X a w hfree hB hD him hy (ih _ _ _ _ _ hpl hrest)
          · rw [hk] at hk'; cases hk'
      · split at hp
        · refine ⟨fun h => (by rw [hr] at h; cases h), fun i hi => ?_⟩
          have hi' := hi
          rw [hr] at hi'
          have : i = r := by simpa using hi'
          subst this
          exact one i hi t hp ht
        · refine ⟨fun h => (by rw [hr] at h; cases h), fun i hi => ?_⟩
          cases hm : (r :: rs).mapM fun i => (planT md ops D fuel (listed.setIfInBounds i true)).map (PT.push i) with
          | none => rw [hm] at hp; cases hp
          | some ts =>
            rw [hm] at hp
            injection hp with hp
            subst hp
            rw [wpT_eq] at ht
            have hlen : ∀ (xs : List Nat) (ts : List PT), xs.mapM (fun i => (planT md ops D fuel (listed.setIfInBounds i true)).map (PT.push i)) = some ts → ∀ i ∈ xs, ∃ t' ∈ ts, (planT md ops D fuel (listed.setIfInBounds i true)).map (PT.push i) = some t' := by
              intro xs
              induction xs with
              | nil => intro ts _ i hi; cases hi
              | cons x xs ihx =>
                intro ts h i hi
                rw [List.mapM_cons] at h
                cases hx : (planT md ops D fuel (listed.setIfInBounds x true)).map (PT.push x) with
                | none => rw [hx] at h; simp at h
                | some t1 =>
                  cases hxs : xs.mapM (fun i => (planT md ops D fuel (listed.setIfInBounds i true)).map (PT.push i)) with
                  | none => rw [hx, hxs] at h; simp at h
                  | some ts1 =>
                    rw [hx, hxs] at h
                    simp only [Option.bind_eq_bind, Option.bind_some, Option.pure_def, Option.some.injEq] at h
                    subst h
                    rcases List.mem_cons.1 hi with rfl | hi
                    · exact ⟨t1, by simp, hx⟩
                    · obtain ⟨t', h1, h2⟩ := ihx ts1 hxs i hi
                      exact ⟨t', by simp [h1], h2⟩
            rw [hr] at hi
            obtain ⟨t', ht', hpt⟩ := hlen _ _ hm i hi
            have hall : ∀ t ∈ ts, wpT P ops D R t X a w := by
              have hne : ts ≠ [] := fun h => by rw [h] at ht'; cases ht'
              simpa [wpListS, afterT, hne] using ht
            exact one i (by rw [hr]; exact hi) t' hpt (hall t' ht')

variable {T : Nat → Option TyD} {E : Env} {s s' : AState} {n : Nat} {Q : Exit → AState → Prop}
/-- a tree of orders over an abstract state -/
def AT (P : Program) (E : Env) (n : Nat) (ops : Array Oper) (D : Dr) (t : PT) (Q : Exit → AState → Prop) (s : AState) : Prop := ∀ a w β, a.tmps.size = n → a.defers = [] → SRel E s a.tmps w β → wpT P ops D (lift E n Q) t (XW D β) a w
theorem at_done {l : List Nat} {l' : List Oper} (hl : l.filterMap (ops[·]?) = l') (h : AListD P E n ops D l' Q s) : AT P E n ops D (.node l []) Q s := fun a w β h1 h2 h3 => by
  rw [wpT_eq, hl]
  exact wpListS_mono (fun X a w hh => by rw [afterT, if_pos rfl]; exact nrm_lift hh) _ _ _ _ (h a w β h1 h2 h3)
/-- behind a stretch, each of what may follow -/
def QAlt (P : Program) (E : Env) (n : Nat) (ops : Array Oper) (D : Dr) (ts : List PT) (Q : Exit → AState → Prop) : Exit → AState → Prop
  | .normal, s => ATs ts s
  | e, s => Q e s
where
  ATs : List PT → AState → Prop
  | [], _ => True
  | t :: ts, s => AT P E n ops D t Q s ∧ ATs ts s
theorem ATs_mem {ts : List PT} {s : AState} (h : QAlt.ATs P E n ops D Q ts s) : ∀ t ∈ ts, AT P E n ops D t Q s := by
  induction ts with
  | nil => intro t ht; cases ht
  | cons t ts ih =>
    intro t' ht'
    rcases List.mem_cons.1 ht' with rfl | ht'
    · exact h.1
    · exact ih h.2 t' ht'
theorem at_alt {l : List Nat} {l' : List Oper} {t : PT} {ts : List PT} (hl : l.filterMap (ops[·]?) = l') (h : AListD P E n ops D l' (QAlt P E n ops D (t :: ts) Q) s) : AT P E n ops D (.node l (t :: ts)) Q s := fun a w β h1 h2 h3 => by
  rw [wpT_eq, hl]
  have hq : lift E n (QAlt P E n ops D (t :: ts) Q) = fun e a w => match e with | .normal => lift E n (QAlt P E n ops D (t :: ts) Q) .normal a w | e => lift E n Q e a w := by
    funext e a w
    cases e <;> rfl
  have hh := h a w β h1 h2 h3
  refine wpListS_out (fun e a w hne hl => ?_) _ _ _ _ (wpListS_mono (fun X a w hh => ?_) _ _ _ _ hh)
  · cases e <;> first | exact absurd rfl hne | exact hl
  · obtain ⟨s', β', rfl, g1, g2, g3, g4⟩ := hh
    rw [afterT, if_neg (by simp)]
    exact fun t' ht' => ATs_mem g4 t' ht' a w β' g1 g2 g3
theorem aw_draw {id : Nat} {t : PT} (D : Dr) (hm : P.follows .mixedOrders = true) (hsel : Region.noSelect ops = true) (hp : planT .any ops D ops.size (Array.replicate ops.size false) = some t) (hnp : ∀ c s, ¬ Q (.panic c) s) (h : AT P E n ops D t Q s) :
    AWp P E n (.region id ops true) Q s := fun a w hs => by
  obtain ⟨h1, h2, β, h3⟩ := hs
  have h3' : SRel E s a.tmps { w with drawn := w.drawn + 1 } β := h3.ext ((Below.refl _ w).drew)
  exact wp_region_any hm (wpAny_of_E _ _ _ _ _ (plan_ok (Region.noSelect_spec hsel) (fun c a w ⟨s, h1, _⟩ => hnp c s h1) _ _ _ _ _ _ hp (h a _ β h1 h2 h3')))
end
end Go.Proofs.Ytopcfnlcapibgaa
end
section
namespace Go.Proofs.Ytopcfnlcapibgaa
open Go.RowKit

/-! The rules as a walk takes them: regions that draw their order; loops. -/

def drD (W wk : List Nat) : Dr := ⟨fun d => W.contains d, fun o => match o.dst with | some d => wk.contains d | none => false, fun _ => false⟩
/-- with calls that write: the results' names of these calls -/
def drC (W wk ds : List Nat) : Dr := ⟨fun d => W.contains d, fun o => match o.dst with | some d => wk.contains d | none => false, fun o => match o.dst with | some d => ds.contains d | none => false⟩

/-- whatever but the objects R may be written -/
def drR (R wk ds : List Nat) : Dr := ⟨fun d => !R.contains d, fun o => match o.dst with | some d => wk.contains d | none => false, fun o => match o.dst with | some d => ds.contains d | none => false⟩

section
variable {P : Program} {T : Nat → Option TyD} {E : Env} {s s' : AState} {n : Nat} {ops : Array Oper} {Q : Exit → AState → Prop} {K : AState → Prop} {D : Dr} {ts : List PT} {t : PT}
theorem qalt_normal (h : QAlt.ATs P E n ops D Q ts s) : QAlt P E n ops D ts Q .normal s := h
theorem ats_nil : QAlt.ATs P E n ops D Q [] s := trivial
theorem ats_cons (h1 : AT P E n ops D t Q s) (h2 : QAlt.ATs P E n ops D Q ts s) : QAlt.ATs P E n ops D Q (t :: ts) s := ⟨h1, h2⟩

/-- a loop: its state's shape, what holds of it, a measure -/
theorem go_loop {α : Type} {c : Code} (ts os : List Nat) (sh : α → AState) (inv : α → Prop) (μ : α → Nat) (x0 : α) (hs : s.keep ts os = sh x0) (h0 : inv x0)
    (round : ∀ x, inv x → AWp P E n c (ASeq (fun s' => ∃ y, s'.keep ts os = sh y ∧ inv y ∧ μ y < μ x) Q) (sh x)) : AWp P E n (.loop c) Q s := by
  refine aw_keep ts os ?_
  rw [hs]
  refine aw_loop (fun m s => ∃ x, s = sh x ∧ inv x ∧ m = μ x) (μ x0) ⟨x0, rfl, h0, rfl⟩ fun k s ⟨x, hsx, hx, hk⟩ => ?_
  subst hsx
  subst hk
  intro a w hw
  refine wp_mono (round x hx a w hw) fun e a' w' hl => ?_
  cases e with
  | normal =>
    obtain ⟨s', ⟨y, h1, h2, h3⟩, h4⟩ := hl
    exact ⟨s'.keep ts os, ⟨μ y, h3, y, h1, h2, rfl⟩, h4.weaken (fun t p => lk_keep s'.fr t p ts) (fun d o => lk_keep s'.ob d o os)⟩
  | _ => exact hl
/-- a cut: what stands ahead leads to a state of this shape -/
theorem go_cut {α : Type} {c d : Code} (ts os : List Nat) (sh : α → AState) (inv : α → Prop)
    (h1 : AWp P E n c (ASeq (fun s' => ∃ y, s'.keep ts os = sh y ∧ inv y) Q) s) (h2 : ∀ y, inv y → AWp P E n d Q (sh y)) : AWp P E n (.seq c d) Q s := by
  refine aw_seq fun a w hw => wp_mono (h1 a w hw) fun e a' w' hl => ?_
  cases e with
  | normal =>
    obtain ⟨s', ⟨y, g1, g2⟩, g3⟩ := hl
    refine ⟨s'.keep ts os, ?_, g3.weaken (fun t p => lk_keep s'.fr t p ts) (fun d o => lk_keep s'.ob d o os)⟩
    rw [g1]
    exact h2 y g2
  | _ => exact hl
end
end Go.Proofs.Ytopcfnlcapibgaa
end
section
namespace Go.Proofs.Ytopcfnlcapibgaa
open Go.RowKit

/-! What more a walk needs: nil as an empty row; answers of which less is said. -/

theorem opt_none {α : Type} : (none : Option α).toArray = #[] := rfl
theorem opt_some {α : Type} (a : α) : (some a).toArray = #[a] := rfl
theorem nt_imp (b : Bool) : (b = false → (!b) = true) ↔ True := by cases b <;> simp

/-- whatever a says, b says -/
def AV.up (a b : AV) : Prop := ∀ F β w x, AVR F β w a x → AVR F β w b x
theorem AV.up_rfl (a : AV) : a.up a := fun _ _ _ _ h => h
theorem AV.up_eq {a b : AV} (h : a = b) : a.up b := h ▸ AV.up_rfl a
theorem AV.up_nil (k : Nat) : (AV.v (.slice none 0 0)).up (.lst k []) := fun F β w x h => by
  cases h with
  | s h =>
  cases h with
  | v h => exact .s (.lst (fun _ _ => .nilFunc) rfl (Nat.le_refl _) (Nat.zero_le _) (fun _ h => by cases h) (fun h => absurd h (Nat.lt_irrefl _)) (fun i j hi => absurd hi (Nat.not_lt_zero _)) (fun i j cs u h => by simp at h))
def AV.upL : List AV → List AV → Prop
  | [], [] => True
  | a :: l, b :: m => a.up b ∧ AV.upL l m
  | _, _ => False
theorem AV.upL_get : ∀ {l m : List AV}, AV.upL l m → l.length = m.length ∧ ∀ (i : Nat) (b : AV), m[i]? = some b → ∃ a, l[i]? = some a ∧ a.up b
  | [], [], _ => ⟨rfl, fun i b h => by simp at h⟩
  | a :: l, b :: m, h => by
    obtain ⟨h1, h2⟩ := AV.upL_get (l := l) (m := m) h.2
    refine ⟨by simp [h1], fun i x hx => ?_⟩
    cases i with
    | zero => exact ⟨a, rfl, by simp only [List.getElem?_cons_zero, Option.some.injEq] at hx; exact hx ▸ h.1⟩
    | succ i => exact h2 i x (by simpa using hx)
theorem AV.up_tup {l m : List AV} (h : AV.upL l m) : (AV.tup l).up (.tup m) := fun F β w x hx => by
  obtain ⟨g1, g2⟩ := AV.upL_get h
  cases hx with
  | s h => cases h
  | tup h1 h2 =>
    refine .tup (h1.trans g1) fun i c u hc hu => ?_
    obtain ⟨a, ha, hu'⟩ := g2 i c hc
    exact hu' _ _ _ _ (h2 i a u ha hu)
theorem AV.up_nil2 (k : Nat) (a : AV) : (AV.tup [.v (.slice none 0 0), a]).up (.tup [.lst k [], a]) := AV.up_tup ⟨AV.up_nil k, AV.up_rfl a, trivial⟩
theorem AV.up_nil3 (k : Nat) (a b : AV) : (AV.tup [.v (.slice none 0 0), a, b]).up (.tup [.lst k [], a, b]) := AV.up_tup ⟨AV.up_nil k, AV.up_rfl a, AV.up_rfl b, trivial⟩

section
variable {P : Program} {T : Nat → Option TyD} {E : Env} {s s' : AState} {n : Nat} {ops : Array Oper} {Q : Exit → AState → Prop} {K : AState → Prop} {D : Dr}
theorem PCall.up {f : Nat} {args : List AV} {r : AV} (h : PCall P f args (fun x => x.up r)) : PCall P f args (fun x => x = r) :=
  ⟨h.1, fun w F vs h1 h2 h3 => (h.2 w F vs h1 h2 h3).mono fun _ _ ⟨v, _, g1, g2, g3, g4⟩ => ⟨v, r, g1, rfl, g3, g2 _ _ _ _ g4⟩⟩

/-- nil as an empty row of an object that has no block yet -/
def AState.nilrow (s : AState) (t ty k d : Nat) : AState := { fr := (t, true, .ref ty k d 0 0) :: (s.drop d).fr, ob := (d, .row ty k []) :: (s.drop d).ob }
theorem aw_nilrow {c : Code} (t ty k d : Nat) (hd : ownN d) (ht : (lk s.fr t) = some (true, .v (.slice none 0 0))) (h : AWp P E n c Q (s.nilrow t ty k d)) : AWp P E n c Q s := fun a w ⟨hn, hdf, β, hs⟩ => by
  refine h a w ⟨hn, hdf, upd β d none, ?_⟩
  have h1 := hs.turn (β' := upd β d none) (w' := w) d hd (fun e he => upd_other β _ he) (fun b hb => by rw [upd_same] at hb; cases hb) (Keeps.refl _ _)
  have h2 := h1.add d (.row ty k []) ⟨fun cs h => (by cases h), .inl rfl⟩
  refine ⟨h2.inj, h2.rng, h2.old, h2.ob, fun t' g x hx hg => ?_, fun t' x hx => ?_, h2.fx, h2.fs⟩
  · have hx' : lk ((t, true, .ref ty k d 0 0) :: (s.drop d).fr) t' = some (g, x) := hx
    rw [lk_cons] at hx'
    by_cases he : t = t'
    · rw [bif_eq he] at hx'
      injection hx' with hx'
      injection hx' with _ hx'
      subst hx'
      subst he
      have := hs.fr t _ _ ht rfl
      cases this with
      | s h =>
      generalize hz : a.tmps.getD t undef = z at h
      cases h with
      | v h => exact .nil
    · rw [bif_ne he] at hx'
      exact h2.fr t' g x hx' hg
  · have hx' : lk ((t, true, .ref ty k d 0 0) :: (s.drop d).fr) t' = some (false, x) := hx
    rw [lk_cons] at hx'
    by_cases he : t = t'
    · rw [bif_eq he] at hx'
      injection hx' with hx'
      injection hx' with hx' _
      cases hx'
    · rw [bif_ne he] at hx'
      exact h2.un t' x hx'

theorem al_id {l : List Oper} (h : AList P E n ops l Q s) : AList P E n ops l Q s := h
theorem al_of {l : List Oper} (h : AList P E n ops l Q s) : AListD P E n ops seqD l Q s := h
theorem ald_id {l : List Oper} (h : AListD P E n ops D l Q s) : AListD P E n ops D l Q s := h
/-- a call of which the answer is known -/
theorem go_call1 {o : Oper} {f : Nat} {as' : List AV} {p : Prop} (h : callAV n ops s o = some (true, f, as', p)) (hp : p) (hgd : o.guard = none) (hcl : AV.clean.cleanL (o.op.operands.toList.map s.ev) = true) (hsn : o.op.operands.toList.map (fun z => (s.ev z).snap s) = o.op.operands.toList.map s.ev)
    {r : AV} (hc : PCall P f as' (fun x => x = r)) {rest : List Oper} (hr : AListD P E n ops D rest Q (s.put o.dst true r)) : AListR P E n ops D (o :: rest) Q s :=
  go_callR h hp hgd hcl hsn hc fun _ hx => hx ▸ hr

/-- a function of which the answer is known, nil read as an empty list -/
theorem go_fnU (hT : TOK P T) {f : Nat} {fn : Func} {c : Code} {args : List AV} {r : AV} {rs : List ResultVar} {n : Nat} (hf : P.funcs[f]? = some fn) (hb : fn.body = some c) (hnm : (fn.name == "runtime.NumGoroutine") = false) (hrs : fn.results.toList = rs) (hn : fn.ntmps = n)
    (hle : Nat.ble args.length n = true) (h : ∀ E : Env, AWp P E n c (AEnd T rs (fun x => x.up r)) { fr := argsFr 0 args, ob := [] }) : PCall P f args (fun x => x = r) :=
  (go_fn hT hf hb hnm hrs hn hle h).up
end
end Go.Proofs.Ytopcfnlcapibgaa
end
section
namespace Go.Proofs.Ytopcfnlcapibgaa
open Go.RowKit

/-! Calls that are handed objects to write, and whose answers the caller may write. -/

/-! ## other names -/
def AV.ren (ρ : List (Nat × Nat)) : AV → AV
  | .agg cs => .agg (renL ρ cs)
  | .tup cs => .tup (renL ρ cs)
  | .ref t k d off len => match lk ρ d with
    | some e => .ref t k e off len
    | none => .dead
  | .rfx t k d off len ext => match lk ρ d with
    | some e => .rfx t k e off len ext
    | none => .dead
  | .ptr k d i j => match lk ρ d with
    | some e => .ptr k e i j
    | none => .dead
  | .map d => match lk ρ d with
    | some e => .map e
    | none => .dead
  | .v x => .v x
  | .lst k xs => .lst k xs
  | .lsx k xs ys => .lsx k xs ys
  | .elt k xs i j => .elt k xs i j
  | .slen n => .slen n
  | .dead => .dead
where
  renL (ρ : List (Nat × Nat)) : List AV → List AV
  | [] => []
  | c :: cs => c.ren ρ :: renL ρ cs
theorem AV.renL_eq (ρ : List (Nat × Nat)) (cs : List AV) : AV.ren.renL ρ cs = cs.map (AV.ren ρ) := by
  induction cs with
  | nil => simp [AV.ren.renL]
  | cons c cs ih => simp [AV.ren.renL, ih]
def AObj.ren (ρ : List (Nat × Nat)) : AObj → AObj
  | .row t k xs => .row t k xs
  | .var cs => .var (AV.ren.renL ρ cs)
  | .mapo es => .mapo es
/-- references are struck out: to an object of K; slices and maps of an object of V -/
def AV.cut (K V : List Nat) : AV → AV
  | .agg cs => .agg (cutL K V cs)
  | .tup cs => .tup (cutL K V cs)
  | .ref t k d off len => bif K.contains d then .dead else .ref t k d off len
  | .rfx t k d off len ext => bif K.contains d then .dead else .rfx t k d off len ext
  | .ptr k d i j => bif K.contains d then .dead else .ptr k d i j
  | .map d => bif K.contains d || V.contains d then .dead else .map d
  | .v x => .v x
  | .lst k xs => .lst k xs
  | .lsx k xs ys => .lsx k xs ys
  | .elt k xs i j => .elt k xs i j
  | .slen n => .slen n
  | .dead => .dead
where
  cutL (K V : List Nat) : List AV → List AV
  | [] => []
  | c :: cs => c.cut K V :: cutL K V cs
theorem AV.cutL_eq (K V : List Nat) (cs : List AV) : AV.cut.cutL K V cs = cs.map (AV.cut K V) := by
  induction cs with
  | nil => simp [AV.cut.cutL]
  | cons c cs ih => simp [AV.cut.cutL, ih]
def AObj.cut (K V : List Nat) : AObj → AObj
  | .row t k xs => .row t k xs
  | .var cs => .var (AV.cut.cutL K V cs)
  | .mapo es => .mapo es

theorem lk_append {α : Type} (l m : List (Nat × α)) (t : Nat) : lk (l ++ m) t = match lk l t with | some a => some a | none => lk m t := by
  induction l with
  | nil => rfl
  | cons p l ih =>
    obtain ⟨k, a⟩ := p
    rw [List.cons_append, lk_cons, lk_cons, ih]
    cases h : k == t <;> simp
theorem lk_mem {α : Type} {l : List (Nat × α)} {t : Nat} {a : α} (h : lk l t = some a) : (t, a) ∈ l := by
  induction l with
  | nil => cases h
  | cons p l ih =>
    obtain ⟨k, b⟩ := p
    rw [lk_cons] at h
    by_cases hk : k = t
    · rw [bif_eq hk] at h
      injection h with h
      subst h; subst hk
      exact .head _
    · rw [bif_ne hk] at h
      exact .tail _ (ih h)

section
variable {F F' : Nat → Prop} {β β' : Nat → Option Nat} {w w' : World}
theorem AVR.ren {x : AV} {v : Value} {ρ : List (Nat × Nat)} (h : AVR F β w x v) (hF : ∀ b, F b → F' b) (hρ : ∀ d e b, lk ρ d = some e → β d = some b → β' e = some b) : AVR F' β' w (x.ren ρ) v := by
  induction h with
  | s h =>
    cases h with
    | v h => exact .s (.v h)
    | lst g h1 h2 h3 h4 h5 h6 h7 => exact .s ((SVR.lst g h1 h2 h3 h4 h5 h6 h7).mono hF (fun _ _ => rfl))
    | lsx h => exact .s ((SVR.lsx h).mono hF (fun _ _ => rfl))
  | agg h1 h2 _ ih =>
    simp only [AV.ren, AV.renL_eq]
    exact .agg (by simpa using h1) h2 (AVR.map_list ih)
  | tup h1 _ ih =>
    simp only [AV.ren, AV.renL_eq]
    exact .tup (by simpa using h1) (AVR.map_list ih)
  | @nil t k d off =>
    simp only [AV.ren]
    split
    · exact .nil
    · exact .dead
  | @ref t k d off len c b A h1 h2 h3 h5 h6 =>
    simp only [AV.ren]
    split
    · rename_i e he; exact .ref (hρ _ _ _ he h1) h2 h3 h5 h6
    · exact .dead
  | @empty t k d off A h1 =>
    simp only [AV.ren]
    split
    · exact .empty h1
    · exact .dead
  | @rfx t k d off len ext c A h ih =>
    simp only [AV.ren] at ih ⊢
    split
    · rename_i e he; rw [he] at ih; exact .rfx ih
    · exact .dead
  | @ptr k d i j b h1 =>
    simp only [AV.ren]
    split
    · rename_i e he; exact .ptr (hρ _ _ _ he h1)
    · exact .dead
  | elt g h1 h2 h3 h4 h5 =>
    simp only [AV.ren]
    exact .elt g (hF _ h1) h2 h3 h4 (fun i j cs u hc hu => (h5 i j cs u hc hu).mono hF (fun _ _ => rfl))
  | @map d b h1 =>
    simp only [AV.ren]
    split
    · rename_i e he; exact .map (hρ _ _ _ he h1)
    · exact .dead
  | slen => exact .slen
  | dead => exact .dead
theorem ObjR.ren {d e : Nat} {o : AObj} {ρ : List (Nat × Nat)} (h : ObjR F β w d o) (hF : ∀ b, F b → F' b) (hρ : ∀ d e b, lk ρ d = some e → β d = some b → β' e = some b) (hd : ∀ b, β d = some b → β' e = some b) : ObjR F' β' w e (o.ren ρ) := by
  cases o with
  | row t k xs =>
    obtain ⟨hk, h⟩ := h
    refine ⟨hk, ?_⟩
    rcases h with h | ⟨b, arr, h1, h2, h3, h4⟩
    · exact .inl h
    · exact .inr ⟨b, arr, hd b h1, h2, h3, fun i j cs u hc hu => by
        obtain ⟨x, hx, hr⟩ := h4 i j cs u hc hu
        exact ⟨x, hx, hr.mono hF (fun _ _ => rfl)⟩⟩
  | var cs =>
    obtain ⟨b, arr, t, h1, h2, h3, h4⟩ := h
    refine ⟨b, arr, t, hd b h1, h2, by simpa [AV.renL_eq] using h3, fun j u hu => ?_⟩
    rw [AV.renL_eq, List.getElem?_map] at hu
    cases hc : cs[j]? with
    | none => rw [hc] at hu; cases hu
    | some u' =>
      rw [hc] at hu
      injection hu with hu
      subst hu
      obtain ⟨x, hx, hr, ho⟩ := h4 j u' hc
      exact ⟨x, hx, hr.ren hF hρ, ho⟩
  | mapo es =>
    obtain ⟨b, arr, clk, h1, h2, h3, h4⟩ := h
    exact ⟨b, arr, clk, hd b h1, h2, h3, fun i e m he hm => ⟨(h4 i e m he hm).1.mono hF (fun _ _ => rfl), (h4 i e m he hm).2.mono hF (fun _ _ => rfl)⟩⟩
theorem AVR.cut {x : AV} {v : Value} {K V : List Nat} (h : AVR F β w x v) (hF : ∀ b, F b → F' b) (hw : ∀ b, F b → w'.heap[b]? = w.heap[b]?) (hβ : ∀ e b, e ∉ K → β e = some b → β' e = some b)
    (hs : ∀ e b t n, e ∉ K → β e = some b → Shp w b t n → Shp w' b t n) : AVR F' β' w' (x.cut K V) v := by
  induction h with
  | s h =>
    cases h with
    | v h => exact .s (.v h)
    | lst g h1 h2 h3 h4 h5 h6 h7 => exact .s ((SVR.lst g h1 h2 h3 h4 h5 h6 h7).mono hF hw)
    | lsx h => exact .s ((SVR.lsx h).mono hF hw)
  | agg h1 h2 _ ih =>
    simp only [AV.cut, AV.cutL_eq]
    exact .agg (by simpa using h1) h2 (AVR.map_list ih)
  | tup h1 _ ih =>
    simp only [AV.cut, AV.cutL_eq]
    exact .tup (by simpa using h1) (AVR.map_list ih)
  | @nil t k d off =>
    simp only [AV.cut]
    cases K.contains d
    · exact .nil
    · exact .dead
  | @ref t k d off len c b A h1 h2 h3 h5 h6 =>
    simp only [AV.cut]
    cases hc : K.contains d
    · simp only [List.contains_eq_mem, decide_eq_false_iff_not] at hc
      exact .ref (hβ _ _ hc h1) h2 h3 h5 (hs _ _ _ _ hc h1 h6)
    · exact .dead
  | @empty t k d off A h1 =>
    simp only [AV.cut]
    cases K.contains d
    · exact .empty h1
    · exact .dead
  | @rfx t k d off len ext c A h ih =>
    simp only [AV.cut] at ih ⊢
    cases hc : K.contains d
    · rw [hc] at ih; exact .rfx ih
    · exact .dead
  | @ptr k d i j b h1 =>
    simp only [AV.cut]
    cases hc : K.contains d
    · simp only [List.contains_eq_mem, decide_eq_false_iff_not] at hc
      exact .ptr (hβ _ _ hc h1)
    · exact .dead
  | elt g h1 h2 h3 h4 h5 =>
    simp only [AV.cut]
    exact .elt g (hF _ h1) h2 (fun i j hi hj => (World.cell?_of_block (a := ⟨_, _, none⟩) (hw _ h1)).trans (h3 i j hi hj)) h4 (fun i j cs u hc hu => (h5 i j cs u hc hu).mono hF hw)
  | @map d b h1 =>
    simp only [AV.cut]
    cases hc : K.contains d || V.contains d
    · simp only [Bool.or_eq_false_iff, List.contains_eq_mem, decide_eq_false_iff_not] at hc
      exact .map (hβ _ _ hc.1 h1)
    · exact .dead
  | slen => exact .slen
  | dead => exact .dead
theorem ObjR.cut {d : Nat} {o : AObj} {K V : List Nat} (h : ObjR F β w d o) (hF : ∀ b, F b → F' b) (hw : ∀ b, F b → w'.heap[b]? = w.heap[b]?) (hβ : ∀ e b, e ∉ K → β e = some b → β' e = some b)
    (hs' : ∀ e b t n, e ∉ K → β e = some b → Shp w b t n → Shp w' b t n) (hs : ∀ e b, e ∉ K → e ∉ V → β e = some b → w'.heap[b]? = w.heap[b]?) (hd : d ∉ K) (hd' : d ∉ V) : ObjR F' β' w' d (o.cut K V) := by
  cases o with
  | row t k xs =>
    obtain ⟨hk, h⟩ := h
    refine ⟨hk, ?_⟩
    rcases h with h | ⟨b, arr, h1, h2, h3, h4⟩
    · exact .inl h
    · exact .inr ⟨b, arr, hβ d b hd h1, (hs d b hd hd' h1).trans h2, h3, fun i j cs u hc hu => by
        obtain ⟨x, hx, hr⟩ := h4 i j cs u hc hu
        exact ⟨x, hx, hr.mono hF hw⟩⟩
  | var cs =>
    obtain ⟨b, arr, t, h1, h2, h3, h4⟩ := h
    refine ⟨b, arr, t, hβ d b hd h1, (hs d b hd hd' h1).trans h2, by simpa [AV.cutL_eq] using h3, fun j u hu => ?_⟩
    rw [AV.cutL_eq, List.getElem?_map] at hu
    cases hc : cs[j]? with
    | none => rw [hc] at hu; cases hu
    | some u' =>
      rw [hc] at hu
      injection hu with hu
      subst hu
      obtain ⟨x, hx, hr, ho⟩ := h4 j u' hc
      exact ⟨x, hx, hr.cut hF hw hβ hs', ho⟩
  | mapo es =>
    obtain ⟨b, arr, clk, h1, h2, h3, h4⟩ := h
    exact ⟨b, arr, clk, hβ d b hd h1, (hs d b hd hd' h1).trans h2, h3, fun i e m he hm => ⟨(h4 i e m he hm).1.mono hF hw, (h4 i e m he hm).2.mono hF hw⟩⟩
end

/-! ## what a call says -/
structure GIn (F : Nat → Prop) (β : Nat → Option Nat) (w : World) (ob : List (Nat × AObj)) : Prop where
  fl : FOK F w
  inj : ∀ d e b, β d = some b → β e = some b → d = e
  rng : ∀ d b, β d = some b → b < w.heap.size ∧ ¬ F b ∧ 10000 ≤ d ∧ d < 20000
  ob : ∀ d o, lk ob d = some o → ObjR F β w d o
/-- blocks that nobody writes any more, behind the call -/
def GF (F : Nat → Prop) (β β' : Nat → Option Nat) (w w' : World) (b : Nat) : Prop := b < w'.heap.size ∧ (F b ∨ w.heap.size ≤ b ∨ ∃ d, β d = some b) ∧ ∀ d, β' d ≠ some b
structure GOut (F : Nat → Prop) (β : Nat → Option Nat) (w : World) (β' : Nat → Option Nat) (w' : World) (ob : List (Nat × AObj)) : Prop where
  keeps : Keeps (fun b => ∃ d, β d = some b) w w'
  inj : ∀ d e b, β' d = some b → β' e = some b → d = e
  rng : ∀ d b, β' d = some b → (w.heap.size ≤ b ∨ β d = some b) ∧ b < w'.heap.size
  fx : ∀ d b, d < 15000 → β d = some b → β' d = some b
  fs : ∀ d b t n, d < 15000 → β d = some b → Shp w b t n → Shp w' b t n
  ob : ∀ d o, lk ob d = some o → ObjR (GF F β β' w w') β' w' d o
/-- what function f answers when called with such arguments and handed such objects: its answer, and the objects behind it -/
def GCall (P : Program) (f : Nat) (args : List AV) (ob : List (Nat × AObj)) (r : AV) (ob' : List (Nat × AObj)) : Prop :=
  (∃ fn, P.funcs[f]? = some fn ∧ fn.body.isSome = true ∧ (fn.name == "runtime.NumGoroutine") = false) ∧
  ∀ (w : World) (F : Nat → Prop) (β : Nat → Option Nat) (vs : Array Value), GIn F β w ob → vs.size = args.length → (∀ (i : Nat) (x : AV) (v : Value), args[i]? = some x → vs[i]? = some v → AVR F β w x v) →
    Calls P f vs w fun e w' => ∃ v β', e = .returned v ∧ GOut F β w β' w' ob' ∧ AVR (GF F β β' w w') β' w' r v

section
variable {P : Program} {T : Nat → Option TyD} {E : Env} {s s' : AState} {a : Act} {tm : Array Value} {w w' : World} {β β' : Nat → Option Nat} {F F' : Nat → Prop} {n : Nat} {ops : Array Oper} {Q : Exit → AState → Prop} {D : Dr}

/-- the results of a call, as they are -/
def resG (T : Nat → Option TyD) (s : AState) : List ResultVar → Option (Prop × List AV)
  | [] => some (True, [])
  | .tmp t :: l =>
    match resG T s l with
    | some (p, r) => some (s.gd (.tmp t) = true ∧ p, s.ev (.tmp t) :: r)
    | none => none
  | .cell t ty :: l =>
    match loadAV T s ty (s.ev (.tmp t)), resG T s l with
    | some (q, x), some (p, r) => some ((s.gd (.tmp t) = true ∧ q) ∧ p, x :: r)
    | _, _ => none
/-- an object of which less is said: a row's front; a nil row -/
def AObj.le (F : Nat → Prop) (β : Nat → Option Nat) (w : World) (d : Nat) (o' o : AObj) : Prop := ObjR F β w d o' → ObjR F β w d o
def obUp (ob ob1 : List (Nat × AObj)) : Prop := ∀ d o, lk ob1 d = some o → lk ob d = some o ∨ (∃ t k, o = .row t k []) ∨ ∃ t k xs n, lk ob d = some (.row t k xs) ∧ o = .row t k (xs.take n)
theorem ObjR.take {d t k : Nat} {xs : List (List AV)} (h : ObjR F β w d (.row t k xs)) (n : Nat) : ObjR F β w d (.row t k (xs.take n)) := by
  obtain ⟨hk, h⟩ := h
  refine ⟨fun cs hcs => hk cs (List.mem_of_mem_take hcs), ?_⟩
  rcases h with rfl | ⟨b, arr, h1, h2, h3, h4⟩
  · exact .inl (by simp)
  · refine .inr ⟨b, arr, h1, h2, Nat.le_trans (Nat.mul_le_mul_right k (by rw [List.length_take]; omega)) h3, fun i j cs u hc hu => ?_⟩
    rw [List.getElem?_take] at hc
    split at hc
    · exact h4 i j cs u hc hu
    · cases hc
theorem ObjR.nil {d t k : Nat} : ObjR F β w d (.row t k []) := ⟨fun cs h => (by cases h), .inl rfl⟩
theorem obUp_ok {ob ob1 : List (Nat × AObj)} (h : obUp ob ob1) (hs : ∀ d o, lk ob d = some o → ObjR F β w d o) : ∀ d o, lk ob1 d = some o → ObjR F β w d o := fun d o hd => by
  rcases h d o hd with h | ⟨t, k, rfl⟩ | ⟨t, k, xs, n, h, rfl⟩
  · exact hs d o h
  · exact ObjR.nil
  · exact (hs d _ h).take n
/-- what a function's end must meet -/
def AEndG (T : Nat → Option TyD) (rs : List ResultVar) (r : AV) (ob1 : List (Nat × AObj)) : Exit → AState → Prop
  | .ret, s | .normal, s => ∃ p r', resG T s rs = some (p, r') ∧ p ∧ (oneOf r').up r ∧ obUp s.ob ob1
  | _, _ => False

theorem resG_ok (hT : TOK P T) (hs : SRel E s tm w β) : ∀ (rs : List ResultVar) (p : Prop) (r : List AV), resG T s rs = some (p, r) → p →
    ∃ vs : List Value, (rs.mapM (resOne tm)).run P w = .ok vs w ∧ vs.length = r.length ∧
      ∀ (i : Nat) (x : AV) (v : Value), r[i]? = some x → vs[i]? = some v → AVR (FF E β w) β w x v := by
  intro rs
  induction rs with
  | nil =>
    intro p r h _
    simp only [resG, Option.some.injEq, Prod.mk.injEq] at h
    obtain ⟨_, rfl⟩ := h
    exact ⟨[], rfl, rfl, fun i x v h => by simp at h⟩
  | cons q rs ih =>
    intro p r h hp
    cases q with
    | tmp t =>
      simp only [resG] at h
      split at h
      case h_2 => cases h
      rename_i p' r' hr
      simp only [Option.some.injEq, Prod.mk.injEq] at h
      obtain ⟨rfl, rfl⟩ := h
      obtain ⟨hg, hp'⟩ := hp
      obtain ⟨vs, h1, h2, h3⟩ := ih p' r' hr hp'
      refine ⟨tm.getD t undef :: vs, ?_, by simp [h2], fun i x v hx hv => ?_⟩
      · rw [List.mapM_cons]
        simp only [resOne, Sem.run_bind, Sem.run_pure, Result.andThen_ok, h1]
      · cases i with
        | zero =>
          simp only [List.getElem?_cons_zero, Option.some.injEq] at hx hv
          subst hx
          subst hv
          exact hs.ev (.tmp t) hg (a := ⟨tm, []⟩) rfl
        | succ i => exact h3 i x v (by simpa using hx) (by simpa using hv)
    | cell t ty =>
      simp only [resG] at h
      split at h
      case h_2 => cases h
      rename_i q' x' p' r' hl hr
      simp only [Option.some.injEq, Prod.mk.injEq] at h
      obtain ⟨rfl, rfl⟩ := h
      obtain ⟨⟨hg, hq⟩, hp'⟩ := hp
      obtain ⟨vs, h1, h2, h3⟩ := ih p' r' hr hp'
      have hv := hs.ev (.tmp t) hg (a := ⟨tm, []⟩) rfl
      obtain ⟨v, g1, g2⟩ := loadAV_ok (X := noX) hT hs hl hq (fun b _ => noX_not b) (fun _ _ _ _ b _ _ => noX_not b) hv
      have hrun := g2 w (ExtX.refl noX w)
      have haddr : ∃ ad, (Act.mk tm []).eval (.tmp t) = .pointer (some ad) := by
        have hv' := hv
        generalize (Act.mk tm []).eval (.tmp t) = u at hv' ⊢
        generalize s.ev (.tmp t) = av at hl hv'
        unfold loadAV at hl
        split at hl
        · cases hl
        split at hl
        · cases hv' with
          | s h => cases h
          | ptr => exact ⟨_, rfl⟩
        · cases hv' with
          | s h => cases h
          | elt => exact ⟨_, rfl⟩
        · cases hl
      obtain ⟨ad, had⟩ := haddr
      have had' : tm.getD t undef = .pointer (some ad) := had
      rw [had] at hrun
      refine ⟨v :: vs, ?_, by simp [h2], fun i x u hx hu => ?_⟩
      · rw [List.mapM_cons]
        have hlv : (loadVar ty ad).run P w = .ok v w := by simpa [Instr.loadAt, Instr.sureAddr] using hrun
        have hax : (asAddr (tm.getD t undef)).run P w = .ok ad w := by rw [had']; rfl
        simp only [resOne, Sem.run_bind, Sem.run_pure, Result.andThen_ok, hax, hlv, h1]
      · cases i with
        | zero =>
          simp only [List.getElem?_cons_zero, Option.some.injEq] at hx hu
          subst hx
          subst hu
          exact g1
        | succ i => exact h3 i x u (by simpa using hx) (by simpa using hu)

theorem GCall.intro (hT : TOK P T) {f : Nat} {fn : Func} {c : Code} {args : List AV} {ob ob1 : List (Nat × AObj)} {r : AV} (hf : P.funcs[f]? = some fn) (hb : fn.body = some c) (hnm : (fn.name == "runtime.NumGoroutine") = false) (hn : args.length ≤ fn.ntmps)
    (h : ∀ E : Env, AWp P E fn.ntmps c (AEndG T fn.results.toList r ob1) { fr := argsFr 0 args, ob := ob }) : GCall P f args ob r ob1 := by
  refine ⟨⟨fn, hf, by rw [hb]; rfl, hnm⟩, fun w F β vs hI hl hv => ?_⟩
  let E : Env := ⟨w, F, β, fun d b hd => (hI.rng d b hd).2.2, hI.fl, fun d b hd => (hI.rng d b hd).2.1⟩
  have hFF : ∀ b, F b → FF E β w b := fun b hb => ⟨hI.fl.lt b hb, .inl hb, fun d hd => (hI.rng d b hd).2.1 hb⟩
  have hs0 : SOK E fn.ntmps { fr := argsFr 0 args, ob := ob } { tmps := vs ++ Array.replicate (fn.ntmps - vs.size) undef, defers := [] } w := by
    refine ⟨by simp; omega, rfl, β, ⟨hI.inj, fun d b h => ⟨.inr h, (hI.rng d b h).1⟩, Keeps.refl _ _, fun d o h => ?_, fun t g x h _ => ?_, fun t x h => ?_, fun _ _ _ h => h, fun _ _ _ _ _ _ h => h⟩⟩
    · have := hI.ob d o h
      cases o with
      | row t k xs =>
        obtain ⟨hk, h⟩ := this
        refine ⟨hk, ?_⟩
        rcases h with h | ⟨b, arr, h1, h2, h3, h4⟩
        · exact .inl h
        · exact .inr ⟨b, arr, h1, h2, h3, fun i j cs u hc hu => by
            obtain ⟨x, hx, hr⟩ := h4 i j cs u hc hu
            exact ⟨x, hx, hr.mono hFF (fun _ _ => rfl)⟩⟩
      | var cs =>
        obtain ⟨b, arr, t, h1, h2, h3, h4⟩ := this
        exact ⟨b, arr, t, h1, h2, h3, fun j u hu => by
          obtain ⟨x, hx, hr, ho⟩ := h4 j u hu
          exact ⟨x, hx, hr.mono hFF (fun _ _ => rfl) (fun _ _ h => h) (fun _ _ _ _ _ h => h), ho⟩⟩
      | mapo es =>
        obtain ⟨b, arr, clk, h1, h2, h3, h4⟩ := this
        exact ⟨b, arr, clk, h1, h2, h3, fun i e m he hm => ⟨(h4 i e m he hm).1.mono hFF (fun _ _ => rfl), (h4 i e m he hm).2.mono hFF (fun _ _ => rfl)⟩⟩
    · obtain ⟨_, _, hx⟩ := lk_argsFr args 0 t g x h
      rw [Nat.sub_zero] at hx
      have hlt : t < vs.size := by rw [hl]; exact lt_of_get hx
      have hg : (vs ++ Array.replicate (fn.ntmps - vs.size) undef).getD t undef = vs[t] := by
        simp [Array.getElem?_append_left hlt, Array.getElem?_eq_getElem hlt]
      rw [hg]
      exact (hv t x vs[t] hx (Array.getElem?_eq_getElem hlt)).mono hFF (fun _ _ => rfl) (fun _ _ h => h) (fun _ _ _ _ _ h => h)
    · obtain ⟨h1, _⟩ := lk_argsFr args 0 t false x h
      cases h1
  have hend : ∀ (e : Exit) (a' : Act) (w' : World) (s' : AState), (e = .ret ∨ e = .normal) → AEndG T fn.results.toList r ob1 e s' → SOK E fn.ntmps s' a' w' →
      a'.defers = [] ∧ ∃ v, (results fn a'.tmps).run P w' = .ok v w' ∧ ∃ v' β', Ending.returned v = .returned v' ∧ GOut F β w β' w' ob1 ∧ AVR (GF F β β' w w') β' w' r v' := fun e a' w' s' he hE hS => by
    obtain ⟨_, hd, β', hs'⟩ := hS
    obtain ⟨p, r', h1, h2, h3, h4⟩ : ∃ p r', resG T s' fn.results.toList = some (p, r') ∧ p ∧ (oneOf r').up r ∧ obUp s'.ob ob1 := by rcases he with rfl | rfl <;> exact hE
    obtain ⟨us, g1, g2, g3⟩ := resG_ok hT hs' _ _ _ h1 h2
    refine ⟨hd, (if h : us.toArray.size = 1 then us.toArray[0] else .tuple us.toArray), ?_, _, β', rfl, ⟨hs'.old, hs'.inj, hs'.rng, hs'.fx, hs'.fs, obUp_ok h4 hs'.ob⟩, h3 _ _ _ _ ?_⟩
    · rw [results_eq, Sem.run_bind, Array.mapM_eq_mapM_toList, Sem.run_map, g1]
      rfl
    · show AVR (FF E β' w') β' w' _ _
      by_cases h1' : us.length = 1
      · obtain ⟨u, rfl⟩ := List.length_eq_one_iff.1 h1'
        obtain ⟨x, rfl⟩ := List.length_eq_one_iff.1 (g2.symm.trans h1')
        exact g3 0 x u rfl rfl
      · have hr1 : r'.length ≠ 1 := by omega
        have ho : oneOf r' = .tup r' := by
          unfold oneOf
          split
          · exact absurd rfl hr1
          · rfl
        rw [ho, dif_neg (by simpa using h1')]
        exact .tup (by simp [g2]) fun i x v hx hv' => g3 i x v hx (by simpa using hv')
  refine calls_of_wp hf hb (wp_mono (h E _ w hs0) fun e a' w' hl' => ?_)
  obtain ⟨s', hE, hS⟩ := hl'
  cases e with
  | normal => exact hend .normal a' w' s' (.inr rfl) hE hS
  | ret => exact hend .ret a' w' s' (.inl rfl) hE hS
  | _ => exact hE.elim
theorem go_fnG (hT : TOK P T) {f : Nat} {fn : Func} {c : Code} {args : List AV} {ob ob1 : List (Nat × AObj)} {r : AV} {rs : List ResultVar} {n : Nat} (hf : P.funcs[f]? = some fn) (hb : fn.body = some c) (hnm : (fn.name == "runtime.NumGoroutine") = false) (hrs : fn.results.toList = rs) (hn : fn.ntmps = n)
    (hle : Nat.ble args.length n = true) (h : ∀ E : Env, AWp P E n c (AEndG T rs r ob1) { fr := argsFr 0 args, ob := ob }) : GCall P f args ob r ob1 := by
  subst hrs
  subst hn
  exact GCall.intro hT hf hb hnm (Nat.le_of_ble_eq_true hle) h
theorem aendG_ret {rs : List ResultVar} {r : AV} {ob1 : List (Nat × AObj)} {p : Prop} {r' : List AV} (h : resG T s rs = some (p, r')) (hp : p) (hR : (oneOf r').up r) (ho : obUp s.ob ob1) : AEndG T rs r ob1 .ret s := ⟨p, r', h, hp, hR, ho⟩
theorem aendG_normal {rs : List ResultVar} {r : AV} {ob1 : List (Nat × AObj)} {p : Prop} {r' : List AV} (h : resG T s rs = some (p, r')) (hp : p) (hR : (oneOf r').up r) (ho : obUp s.ob ob1) : AEndG T rs r ob1 .normal s := ⟨p, r', h, hp, hR, ho⟩
end
end Go.Proofs.Ytopcfnlcapibgaa
end
section
namespace Go.Proofs.Ytopcfnlcapibgaa
open Go.RowKit

/-! A call that is handed objects, as the caller walks it. -/

def inv2 (l : List (Nat × Nat)) : List (Nat × Nat) := l.map fun p => (p.2, p.1)
theorem lk_inv2 {l : List (Nat × Nat)} {a b : Nat} (h : lk (inv2 l) a = some b) : (b, a) ∈ l := by
  have := lk_mem h
  simp only [inv2, List.mem_map, Prod.mk.injEq, Prod.exists] at this
  obtain ⟨x, y, h1, rfl, rfl⟩ := this
  exact h1
/-- without these keys -/
def rmL {α : Type} (K V : List Nat) : List (Nat × α) → List (Nat × α)
  | [] => []
  | (k, a) :: l => bif K.contains k || V.contains k then rmL K V l else (k, a) :: rmL K V l
theorem lk_rmL {α : Type} {K V : List Nat} {l : List (Nat × α)} {t : Nat} {a : α} (h : lk (rmL K V l) t = some a) : t ∉ K ∧ t ∉ V ∧ lk l t = some a := by
  induction l with
  | nil => cases h
  | cons p l ih =>
    obtain ⟨k, b⟩ := p
    unfold rmL at h
    cases hc : K.contains k || V.contains k with
    | true =>
      rw [hc] at h
      obtain ⟨h1, h2, h3⟩ := ih h
      refine ⟨h1, h2, ?_⟩
      have hk : k ≠ t := by
        rintro rfl
        simp only [Bool.or_eq_true, List.contains_eq_mem, decide_eq_true_eq] at hc
        rcases hc with hc | hc
        · exact h1 hc
        · exact h2 hc
      rw [lk_cons, bif_ne hk]; exact h3
    | false =>
      rw [hc, cond_false, lk_cons] at h
      simp only [Bool.or_eq_false_iff, List.contains_eq_mem, decide_eq_false_iff_not] at hc
      by_cases hk : k = t
      · subst hk
        rw [bif_eq rfl] at h
        rw [lk_cons, bif_eq rfl]
        exact ⟨hc.1, hc.2, h⟩
      · rw [bif_ne hk] at h
        rw [lk_cons, bif_ne hk]
        exact ih h
/-- what is handed (the caller's name, the callee's), what comes back (the callee's name behind the call, the caller's); V: variables that are handed; K: what else is handed or comes back -/
def handOK (hi bk : List (Nat × Nat)) (K V : List Nat) : Bool :=
  hi.all (fun p => (Nat.ble 10000 p.2 && Nat.blt p.2 20000) && (lk hi p.1 == some p.2) && (lk (inv2 hi) p.2 == some p.1) && (K.contains p.1 || V.contains p.1)) &&
  bk.all (fun p => (lk bk p.1 == some p.2) && (lk (inv2 bk) p.2 == some p.1) && (match lk (inv2 hi) p.1 with | some e => e == p.2 | none => true) && (K.contains p.2 || V.contains p.2)) &&
  V.all (fun e => match lk hi e with | some d => Nat.blt d 15000 && (lk bk d == some e) | none => false) &&
  K.all (fun e => decide (e < 10000) || decide (15000 ≤ e))
structure HandOK (hi bk : List (Nat × Nat)) (K V : List Nat) : Prop where
  hi1 : ∀ g d, lk hi g = some d → (10000 ≤ d ∧ d < 20000) ∧ lk (inv2 hi) d = some g ∧ (g ∈ K ∨ g ∈ V)
  hi2 : ∀ g d, lk (inv2 hi) d = some g → lk hi g = some d ∧ (10000 ≤ d ∧ d < 20000) ∧ (g ∈ K ∨ g ∈ V)
  bk1 : ∀ d e, lk bk d = some e → lk (inv2 bk) e = some d
  bk2 : ∀ d e, lk (inv2 bk) e = some d → lk bk d = some e ∧ (e ∈ K ∨ e ∈ V) ∧ ∀ g, lk (inv2 hi) d = some g → g = e
  him : ∀ g d, (g, d) ∈ hi → lk hi g = some d
  bkm : ∀ d e, (d, e) ∈ bk → lk bk d = some e
  v : ∀ e, e ∈ V → ∃ d, lk hi e = some d ∧ d < 15000 ∧ lk bk d = some e
  k : ∀ e, e ∈ K → ownN e
theorem handOK_ok {hi bk : List (Nat × Nat)} {K V : List Nat} (h : handOK hi bk K V = true) : HandOK hi bk K V := by
  simp only [handOK, Bool.and_eq_true, List.all_eq_true, beq_iff_eq, Bool.or_eq_true, List.contains_eq_mem, decide_eq_true_eq, Prod.forall] at h
  obtain ⟨⟨⟨h1, h2⟩, h3⟩, h4⟩ := h
  have H1 : ∀ g d, lk hi g = some d → (10000 ≤ d ∧ d < 20000) ∧ lk (inv2 hi) d = some g ∧ (g ∈ K ∨ g ∈ V) := fun g d h => by
    have := h1 g d (lk_mem h)
    exact ⟨⟨Nat.le_of_ble_eq_true this.1.1.1.1, Nat.le_of_ble_eq_true this.1.1.1.2⟩, this.1.2, this.2⟩
  have B1 : ∀ d e, lk bk d = some e → lk (inv2 bk) e = some d := fun d e h => (h2 d e (lk_mem h)).1.1.2
  refine ⟨H1, fun g d h => ?_, B1, fun d e h => ?_, fun g d h => (h1 g d h).1.1.2, fun d e h => (h2 d e h).1.1.1, fun e he => ?_, fun e he => h4 e he⟩
  · have := h1 g d (lk_inv2 h)
    exact ⟨this.1.1.2, ⟨Nat.le_of_ble_eq_true this.1.1.1.1, Nat.le_of_ble_eq_true this.1.1.1.2⟩, this.2⟩
  · have := h2 d e (lk_inv2 h)
    refine ⟨this.1.1.1, this.2, fun g hg => ?_⟩
    have h5 := this.1.2
    rw [hg] at h5
    simpa using h5
  · have := h3 e he
    split at this
    · rename_i d hd
      simp only [Bool.and_eq_true, beq_iff_eq] at this
      exact ⟨d, hd, Nat.le_of_ble_eq_true this.1, this.2⟩
    · cases this

/-- a value as it is handed over: slices that are not handed to be written as what they hold -/
def AV.hand (hi : List (Nat × Nat)) (s : AState) : AV → AV
  | .agg cs => .agg (handL hi s cs)
  | .tup cs => .tup (handL hi s cs)
  | .ref t k d off len => match lk hi d with
    | some e => .ref t k e off len
    | none => (AV.ref t k d off len).snap s
  | .rfx t k d off len ext => match lk hi d with
    | some e => .rfx t k e off len ext
    | none => (AV.ref t k d off len).snap s
  | .ptr k d i j => match lk hi d with
    | some e => .ptr k e i j
    | none => .dead
  | .map d => match lk hi d with
    | some e => .map e
    | none => .dead
  | .v x => .v x
  | .lst k xs => .lst k xs
  | .lsx k xs ys => .lsx k xs ys
  | .elt k xs i j => .elt k xs i j
  | .slen n => .slen n
  | .dead => .dead
where
  handL (hi : List (Nat × Nat)) (s : AState) : List AV → List AV
  | [] => []
  | c :: cs => c.hand hi s :: handL hi s cs
theorem AV.handL_eq (hi : List (Nat × Nat)) (s : AState) (cs : List AV) : AV.hand.handL hi s cs = cs.map (AV.hand hi s) := by
  induction cs with
  | nil => simp [AV.hand.handL]
  | cons c cs ih => simp [AV.hand.handL, ih]
def AV.handT (hi : List (Nat × Nat)) (s : AState) : AV → Prop
  | .agg cs => handTL hi s cs
  | .tup cs => handTL hi s cs
  | .ref t k d off len => match lk hi d with
    | some _ => True
    | none => (AV.ref t k d off len).snapOK s
  | .rfx t k d off len _ => match lk hi d with
    | some _ => True
    | none => (AV.ref t k d off len).snapOK s
  | _ => True
where
  handTL (hi : List (Nat × Nat)) (s : AState) : List AV → Prop
  | [] => True
  | c :: cs => c.handT hi s ∧ handTL hi s cs
theorem AV.handTL_mem {hi : List (Nat × Nat)} {s : AState} {cs : List AV} (h : AV.handT.handTL hi s cs) : ∀ c ∈ cs, c.handT hi s := by
  induction cs with
  | nil => intro c hc; cases hc
  | cons c cs ih =>
    simp only [AV.handT.handTL] at h
    intro x hx
    rcases List.mem_cons.1 hx with rfl | hx
    · exact h.1
    · exact ih h.2 x hx

/-- every slice is handed to be written -/
def AV.allIn (hi : List (Nat × Nat)) : AV → Bool
  | .agg cs => allInL hi cs
  | .tup cs => allInL hi cs
  | .ref _ _ d _ _ => (lk hi d).isSome
  | .rfx _ _ d _ _ _ => (lk hi d).isSome
  | _ => true
where
  allInL (hi : List (Nat × Nat)) : List AV → Bool
  | [] => true
  | c :: cs => c.allIn hi && allInL hi cs
theorem AV.allInL_mem {hi : List (Nat × Nat)} {cs : List AV} (h : AV.allIn.allInL hi cs = true) : ∀ c ∈ cs, c.allIn hi = true := by
  induction cs with
  | nil => intro c hc; cases hc
  | cons c cs ih =>
    simp only [AV.allIn.allInL, Bool.and_eq_true] at h
    intro x hx
    rcases List.mem_cons.1 hx with rfl | hx
    · exact h.1
    · exact ih h.2 x hx

/-- what hangs on no frozen memory -/
def AV.nm : AV → Bool
  | .agg cs => nmL cs
  | .tup cs => nmL cs
  | .lst .. => false
  | .lsx .. => false
  | .elt .. => false
  | _ => true
where
  nmL : List AV → Bool
  | [] => true
  | c :: cs => c.nm && nmL cs
theorem AV.nmL_mem {cs : List AV} (h : AV.nm.nmL cs = true) : ∀ c ∈ cs, c.nm = true := by
  induction cs with
  | nil => intro c hc; cases hc
  | cons c cs ih =>
    simp only [AV.nm.nmL, Bool.and_eq_true] at h
    intro x hx
    rcases List.mem_cons.1 hx with rfl | hx
    · exact h.1
    · exact ih h.2 x hx
def AObj.nm : AObj → Prop
  | .row _ _ xs => ∀ cs ∈ xs, ∀ u ∈ cs, ∃ x, u = .v x
  | .var cs => AV.nm.nmL cs = true
  | .mapo es => ∀ e ∈ es, (∃ x, e.1 = .v x) ∧ ∃ x, e.2 = .v x
def obNm : List (Nat × AObj) → Prop
  | [] => True
  | p :: l => p.2.nm ∧ obNm l
theorem obNm_lk {l : List (Nat × AObj)} (h : obNm l) {d : Nat} {o : AObj} (hl : lk l d = some o) : o.nm := by
  induction l with
  | nil => cases hl
  | cons p l ih =>
    obtain ⟨k, a⟩ := p
    rw [lk_cons] at hl
    by_cases hk : k = d
    · rw [bif_eq hk] at hl; injection hl with hl; subst hl; exact h.1
    · rw [bif_ne hk] at hl; exact ih h.2 hl
theorem svr_v {F F' : Nat → Prop} {w w' : World} {a : AV} {x : Value} (h : SVR F w a x) (ha : ∃ y, a = .v y) : SVR F' w' a x := by
  obtain ⟨y, rfl⟩ := ha
  cases h with
  | v h => exact .v h
theorem nm_ok {F F' : Nat → Prop} {β : Nat → Option Nat} {w : World} {x : AV} {v : Value} (h : AVR F β w x v) (hf : x.nm = true) : AVR F' β w x v := by
  induction h with
  | s h =>
    cases h with
    | v h => exact .s (.v h)
    | lst => cases hf
    | lsx => cases hf
  | agg h1 h2 _ ih => exact .agg h1 h2 fun i c u hc hu => ih i c u hc hu (AV.nmL_mem (by simpa only [AV.nm] using hf) c (List.mem_of_getElem? hc))
  | tup h1 _ ih => exact .tup h1 fun i c u hc hu => ih i c u hc hu (AV.nmL_mem (by simpa only [AV.nm] using hf) c (List.mem_of_getElem? hc))
  | nil => exact .nil
  | ref h1 h2 h3 h4 h5 => exact .ref h1 h2 h3 h4 h5
  | empty h1 => exact .empty h1
  | rfx h ih => exact .rfx (ih rfl)
  | ptr h1 => exact .ptr h1
  | elt => cases hf
  | map h1 => exact .map h1
  | slen => exact .slen
  | dead => exact .dead
theorem obj_nm {F F' : Nat → Prop} {β : Nat → Option Nat} {w : World} {d : Nat} {o : AObj} (h : ObjR F β w d o) (hn : o.nm) : ObjR F' β w d o := by
  cases o with
  | row t k xs =>
    obtain ⟨hk, h⟩ := h
    refine ⟨hk, ?_⟩
    rcases h with h | ⟨b, arr, h1, h2, h3, h4⟩
    · exact .inl h
    · exact .inr ⟨b, arr, h1, h2, h3, fun i j cs u hc hu => by
        obtain ⟨x, hx, hr⟩ := h4 i j cs u hc hu
        exact ⟨x, hx, svr_v hr (hn cs (List.mem_of_getElem? hc) u (List.mem_of_getElem? hu))⟩⟩
  | var cs =>
    obtain ⟨b, arr, t, h1, h2, h3, h4⟩ := h
    exact ⟨b, arr, t, h1, h2, h3, fun j u hu => by
      obtain ⟨x, hx, hr, ho⟩ := h4 j u hu
      exact ⟨x, hx, nm_ok hr (AV.nmL_mem hn u (List.mem_of_getElem? hu)), ho⟩⟩
  | mapo es =>
    obtain ⟨b, arr, clk, h1, h2, h3, h4⟩ := h
    exact ⟨b, arr, clk, h1, h2, h3, fun i e m he hm => ⟨svr_v (h4 i e m he hm).1 (hn e (List.mem_of_getElem? he)).1, svr_v (h4 i e m he hm).2 (hn e (List.mem_of_getElem? he)).2⟩⟩

theorem objF {F F' : Nat → Prop} {β : Nat → Option Nat} {w : World} {d : Nat} {o : AObj} (h : ObjR F β w d o) (hF : ∀ b, F b → F' b) : ObjR F' β w d o := by
  cases o with
  | row t k xs =>
    obtain ⟨hk, h⟩ := h
    refine ⟨hk, ?_⟩
    rcases h with h | ⟨b, arr, h1, h2, h3, h4⟩
    · exact .inl h
    · exact .inr ⟨b, arr, h1, h2, h3, fun i j cs u hc hu => by
        obtain ⟨x, hx, hr⟩ := h4 i j cs u hc hu
        exact ⟨x, hx, hr.mono hF (fun _ _ => rfl)⟩⟩
  | var cs =>
    obtain ⟨b, arr, t, h1, h2, h3, h4⟩ := h
    exact ⟨b, arr, t, h1, h2, h3, fun j u hu => by
      obtain ⟨x, hx, hr, ho⟩ := h4 j u hu
      exact ⟨x, hx, hr.mono hF (fun _ _ => rfl) (fun _ _ h => h) (fun _ _ _ _ _ h => h), ho⟩⟩
  | mapo es =>
    obtain ⟨b, arr, clk, h1, h2, h3, h4⟩ := h
    exact ⟨b, arr, clk, h1, h2, h3, fun i e m he hm => ⟨(h4 i e m he hm).1.mono hF (fun _ _ => rfl), (h4 i e m he hm).2.mono hF (fun _ _ => rfl)⟩⟩

/-- the objects that are handed, by the callee's names -/
def obIn (s : AState) (h0 : List (Nat × Nat)) : List (Nat × Nat) → List (Nat × AObj)
  | [] => []
  | (e, d) :: l => match lk s.ob e with
    | some o => (d, o.ren h0) :: obIn s h0 l
    | none => obIn s h0 l
theorem obIn_lk {s : AState} {h0 l : List (Nat × Nat)} {d : Nat} {o : AObj} (h : lk (obIn s h0 l) d = some o) : ∃ e o', (e, d) ∈ l ∧ lk s.ob e = some o' ∧ o = o'.ren h0 := by
  induction l with
  | nil => cases h
  | cons p l ih =>
    obtain ⟨e, d'⟩ := p
    unfold obIn at h
    split at h
    · rename_i o' ho
      rw [lk_cons] at h
      by_cases hk : d' = d
      · subst hk; rw [bif_eq rfl] at h; injection h with h; subst h; exact ⟨e, o', .head _, ho, rfl⟩
      · rw [bif_ne hk] at h
        obtain ⟨e', o'', h1, h2, h3⟩ := ih h
        exact ⟨e', o'', .tail _ h1, h2, h3⟩
    · obtain ⟨e', o'', h1, h2, h3⟩ := ih h
      exact ⟨e', o'', .tail _ h1, h2, h3⟩
/-- the objects that come back, by the caller's names -/
def obBack (ob1 : List (Nat × AObj)) (b0 : List (Nat × Nat)) : List (Nat × Nat) → List (Nat × AObj)
  | [] => []
  | (d, e) :: l => match lk ob1 d with
    | some o => (e, o.ren b0) :: obBack ob1 b0 l
    | none => obBack ob1 b0 l
theorem obBack_lk {ob1 : List (Nat × AObj)} {b0 l : List (Nat × Nat)} {e : Nat} {o : AObj} (h : lk (obBack ob1 b0 l) e = some o) : ∃ d o', (d, e) ∈ l ∧ lk ob1 d = some o' ∧ o = o'.ren b0 := by
  induction l with
  | nil => cases h
  | cons p l ih =>
    obtain ⟨d, e'⟩ := p
    unfold obBack at h
    split at h
    · rename_i o' ho
      rw [lk_cons] at h
      by_cases hk : e' = e
      · subst hk; rw [bif_eq rfl] at h; injection h with h; subst h; exact ⟨d, o', .head _, ho, rfl⟩
      · rw [bif_ne hk] at h
        obtain ⟨e', o'', h1, h2, h3⟩ := ih h
        exact ⟨e', o'', .tail _ h1, h2, h3⟩
    · obtain ⟨e', o'', h1, h2, h3⟩ := ih h
      exact ⟨e', o'', .tail _ h1, h2, h3⟩
/-- the state behind a call -/
def AState.back (s : AState) (K V : List Nat) (bk : List (Nat × Nat)) (ob1 : List (Nat × AObj)) : AState :=
  { fr := s.fr.map fun p => (p.1, p.2.1, p.2.2.cut K V), ob := obBack ob1 bk bk ++ (rmL K V s.ob).map fun p => (p.1, p.2.cut K V) }

section
variable {P : Program} {T : Nat → Option TyD} {E : Env} {s s' : AState} {a : Act} {tm : Array Value} {w w' : World} {β β' : Nat → Option Nat} {F F' : Nat → Prop} {n : Nat} {ops : Array Oper} {Q : Exit → AState → Prop} {D : Dr} {hi bk : List (Nat × Nat)} {K V : List Nat}

/-- the callee's blocks, ahead of the call -/
def bIn (hi : List (Nat × Nat)) (β : Nat → Option Nat) (d : Nat) : Option Nat := (lk (inv2 hi) d).bind β
/-- the caller's blocks, behind it -/
def bBack (bk : List (Nat × Nat)) (K V : List Nat) (β β' : Nat → Option Nat) (e : Nat) : Option Nat :=
  match lk (inv2 bk) e with
  | some d => β' d
  | none => bif K.contains e || V.contains e then none else β e
theorem bIn_some {d b : Nat} (h : bIn hi β d = some b) : ∃ g, lk (inv2 hi) d = some g ∧ β g = some b := by
  unfold bIn at h
  cases hl : lk (inv2 hi) d with
  | none => rw [hl] at h; cases h
  | some g => rw [hl] at h; exact ⟨g, rfl, h⟩
theorem bBack_some {e b : Nat} (h : bBack bk K V β β' e = some b) : (∃ d, lk (inv2 bk) e = some d ∧ β' d = some b) ∨ (lk (inv2 bk) e = none ∧ e ∉ K ∧ e ∉ V ∧ β e = some b) := by
  unfold bBack at h
  split at h
  · rename_i d hd; exact .inl ⟨d, hd, h⟩
  · rename_i hd
    cases hc : K.contains e || V.contains e with
    | true => rw [hc] at h; cases h
    | false =>
      rw [hc] at h
      simp only [Bool.or_eq_false_iff, List.contains_eq_mem, decide_eq_false_iff_not] at hc
      exact .inr ⟨hd, hc.1, hc.2, h⟩
theorem bBack_in {d e : Nat} (H : HandOK hi bk K V) (h : lk bk d = some e) : bBack bk K V β β' e = β' d := by
  unfold bBack; rw [H.bk1 d e h]
theorem bBack_out {e : Nat} (H : HandOK hi bk K V) (h1 : e ∉ K) (h2 : e ∉ V) : bBack bk K V β β' e = β e := by
  unfold bBack
  cases hl : lk (inv2 bk) e with
  | some d =>
    rcases (H.bk2 d e hl).2.1 with h | h
    · exact absurd h h1
    · exact absurd h h2
  | none =>
    have : (K.contains e || V.contains e) = false := by simp [h1, h2]
    rw [this]; rfl

/-- what a call leaves -/
theorem SRel.called (hs : SRel E s tm w β) (H : HandOK hi bk K V) (hkeep : Keeps (fun b => ∃ d, bIn hi β d = some b) w w') (hinj : ∀ d e b, β' d = some b → β' e = some b → d = e)
    (hrng : ∀ d b, β' d = some b → (w.heap.size ≤ b ∨ bIn hi β d = some b) ∧ b < w'.heap.size) (hfx : ∀ d b, d < 15000 → bIn hi β d = some b → β' d = some b) (hfs : ∀ d b t n, d < 15000 → bIn hi β d = some b → Shp w b t n → Shp w' b t n)
    {ob1 : List (Nat × AObj)} (hob : ∀ d o, lk ob1 d = some o → ObjR (FF E (bBack bk K V β β') w') β' w' d o) : SRel E (s.back K V bk ob1) tm w' (bBack bk K V β β') := by
  have hsz := hkeep.size
  have hout : ∀ e b, e ∉ K → e ∉ V → β e = some b → w'.heap[b]? = w.heap[b]? := fun e b h1 h2 hb => hkeep.block b (hs.rng e b hb).2 fun ⟨d, hd⟩ => by
    obtain ⟨g, hg, hgb⟩ := bIn_some hd
    have := hs.inj g e b hgb hb
    subst this
    rcases (H.hi2 g d hg).2.2 with h | h
    · exact h1 h
    · exact h2 h
  have hFF : ∀ b, FF E β w b → ¬ ∃ d, bIn hi β d = some b := fun b hb ⟨d, hd⟩ => by
    obtain ⟨g, _, hgb⟩ := bIn_some hd
    exact hb.2.2 g hgb
  have hFw : ∀ b, FF E β w b → w'.heap[b]? = w.heap[b]? := fun b hb => hkeep.block b hb.1 (hFF b hb)
  have hF : ∀ b, FF E β w b → FF E (bBack bk K V β β') w' b := fun b hb => ⟨Nat.lt_of_lt_of_le hb.1 hsz, hb.2.1, fun e he => by
    rcases bBack_some he with ⟨d, hd, hdb⟩ | ⟨_, _, _, heb⟩
    · rcases (hrng d b hdb).1 with h | h
      · have := hb.1; omega
      · exact hFF b hb ⟨d, h⟩
    · exact hb.2.2 e heb⟩
  have hvb : ∀ e b, e ∈ V → β e = some b → bBack bk K V β β' e = some b := fun e b he hb => by
    obtain ⟨d, h1, h2, h3⟩ := H.v e he
    rw [bBack_in H h3]
    refine hfx d b h2 ?_
    unfold bIn
    rw [(H.hi1 e d h1).2.1]; exact hb
  have hβ : ∀ e b, e ∉ K → β e = some b → bBack bk K V β β' e = some b := fun e b he hb => by
    by_cases hv : e ∈ V
    · exact hvb e b hv hb
    · rw [bBack_out H he hv]; exact hb
  have hsh : ∀ e b t n, e ∉ K → β e = some b → Shp w b t n → Shp w' b t n := fun e b t n he hb h => by
    by_cases hv : e ∈ V
    · obtain ⟨d, h1, h2, h3⟩ := H.v e hv
      exact hfs d b t n h2 (by unfold bIn; rw [(H.hi1 e d h1).2.1]; exact hb) h
    · exact h.of_heap (hout e b he hv hb)
  have hown : ∀ e d b, lk (inv2 bk) e = some d → bIn hi β d = some b → β e = some b := fun e d b hd hb => by
    obtain ⟨g, hg, hgb⟩ := bIn_some hb
    have := (H.bk2 d e hd).2.2 g hg
    subst this; exact hgb
  refine ⟨fun e f b h1 h2 => ?_, fun e b h => ?_, ?_, fun e o ho => ?_, fun t g x ht hg => ?_, fun t x ht => ?_, fun e b hlt he => ?_, fun e b t n hlt he hS => ?_⟩
  · rcases bBack_some h1 with ⟨d, hd, hdb⟩ | ⟨_, k1, v1, heb⟩ <;> rcases bBack_some h2 with ⟨d', hd', hdb'⟩ | ⟨_, k2, v2, hfb⟩
    · have := hinj d d' b hdb hdb'
      subst this
      have a1 := (H.bk2 d e hd).1
      have a2 := (H.bk2 d f hd').1
      rw [a1] at a2
      injection a2
    · rcases (hrng d b hdb).1 with h | h
      · have := (hs.rng f b hfb).2; omega
      · have h3 := hown e d b hd h
        have := hs.inj e f b h3 hfb
        subst this
        rcases (H.bk2 d e hd).2.1 with h | h
        · exact absurd h k2
        · exact absurd h v2
    · rcases (hrng d' b hdb').1 with h | h
      · have := (hs.rng e b heb).2; omega
      · have h3 := hown f d' b hd' h
        have := hs.inj f e b h3 heb
        subst this
        rcases (H.bk2 d' f hd').2.1 with h | h
        · exact absurd h k1
        · exact absurd h v1
    · exact hs.inj e f b heb hfb
  · rcases bBack_some h with ⟨d, hd, hdb⟩ | ⟨_, _, _, heb⟩
    · have h1 := hrng d b hdb
      refine ⟨?_, h1.2⟩
      rcases h1.1 with h | h
      · exact .inl (Nat.le_trans hs.old.size h)
      · exact (hs.rng e b (hown e d b hd h)).1
    · have := hs.rng e b heb
      exact ⟨this.1, by omega⟩
  · refine hs.old.trans hkeep fun m hm ⟨d, hd⟩ => ?_
    obtain ⟨g, _, hgb⟩ := bIn_some hd
    rcases (hs.rng g m hgb).1 with h | h
    · omega
    · exact ⟨g, h⟩
  · have ho' : lk (obBack ob1 bk bk ++ (rmL K V s.ob).map fun p => (p.1, p.2.cut K V)) e = some o := ho
    rw [lk_append] at ho'
    cases hl : lk (obBack ob1 bk bk) e with
    | some o1 =>
      rw [hl] at ho'
      injection ho' with ho'
      subst ho'
      obtain ⟨d, o2, hm, hd, rfl⟩ := obBack_lk hl
      exact (hob d o2 hd).ren (fun _ h => h) (fun d e b h hb => by rw [bBack_in H h]; exact hb) fun b hb => by rw [bBack_in H (H.bkm d e hm)]; exact hb
    | none =>
      rw [hl] at ho'
      dsimp only at ho'
      rw [lk_map (fun o : AObj => o.cut K V)] at ho'
      cases hr : lk (rmL K V s.ob) e with
      | none => rw [hr] at ho'; cases ho'
      | some o1 =>
        rw [hr] at ho'
        injection ho' with ho'
        subst ho'
        obtain ⟨k1, v1, h1⟩ := lk_rmL hr
        exact (hs.ob e o1 h1).cut hF hFw hβ hsh hout k1 v1
  · have ht' : lk (s.fr.map fun p => (p.1, p.2.1, p.2.2.cut K V)) t = some (g, x) := ht
    rw [lk_map (fun p : Bool × AV => (p.1, p.2.cut K V))] at ht'
    cases hl : lk s.fr t with
    | none => rw [hl] at ht'; cases ht'
    | some p =>
      obtain ⟨g', x'⟩ := p
      rw [hl] at ht'
      injection ht' with ht'
      injection ht' with h1 h2
      subst h1
      subst h2
      exact (hs.fr t g' x' hl hg).cut hF hFw hβ hsh
  · have ht' : lk (s.fr.map fun p => (p.1, p.2.1, p.2.2.cut K V)) t = some (false, x) := ht
    rw [lk_map (fun p : Bool × AV => (p.1, p.2.cut K V))] at ht'
    cases hl : lk s.fr t with
    | none => rw [hl] at ht'; cases ht'
    | some p =>
      obtain ⟨g', x'⟩ := p
      rw [hl] at ht'
      injection ht' with ht'
      injection ht' with h1 h2
      dsimp only at h1
      subst h1
      exact hs.un t x' hl
  · have h1 := hs.fx e b hlt he
    refine hβ e b (fun hk => ?_) h1
    have h2 := H.k e hk
    have h3 := E.hβ e b he
    rcases h2 with h | h <;> omega
  · refine hsh e b t n (fun hk => ?_) (hs.fx e b hlt he) (hs.fs e b t n hlt he hS)
    have h2 := H.k e hk
    have h3 := E.hβ e b he
    rcases h2 with h | h <;> omega

/-- a slice of an object that is not handed to be written -/
theorem snap_ref (hs : SRel E s tm w β) {t k d off len : Nat} {v : Value} (h : AVR (FF E β w) β w (.ref t k d off len) v) (hd : lk hi d = none) (hF : ∀ b, FF E β w b → F' b) (hβ : ∀ d b, lk hi d = none → β d = some b → F' b)
    (hok : (AV.ref t k d off len).snapOK s) {β1 : Nat → Option Nat} : AVR F' β1 w ((AV.ref t k d off len).snap s) v := by
  have nil0 : ∀ (k' : Nat) (xs : List (List AV)) (A : Option Addr), ∀ (w : World), SVR F' w (.lst k' ((xs.take (off + 0)).drop off)) (.slice A 0 0) := fun k' xs A w => by
    have hz : (xs.take (off + 0)).drop off = [] := List.eq_nil_of_length_eq_zero (by rw [List.length_drop, List.length_take]; omega)
    rw [hz]
    exact .lst (fun _ _ => .nilFunc) rfl (Nat.le_refl _) (by decide) (fun cs hcs => by cases hcs) (fun h => by omega) (fun i j hi => by omega) fun i j cs u hc => by simp at hc
  simp only [AV.snap]
  split
  case h_2 => exact .dead
  rename_i t' k' xs hob
  cases h with
  | s h => cases h
  | nil => exact .s (nil0 _ _ _ _)
  | empty h1 => exact .s (nil0 _ _ _ _)
  | @ref _ _ _ _ _ c b A h1 h2 h3 h4 h5 =>
    simp only [AV.snapOK, hob] at hok
    obtain ⟨rfl, rfl, hl⟩ := hok
    obtain ⟨hk, hrow⟩ := hs.ob d _ hob
    have hlen : ((xs.take (off + len)).drop off).length = len := by rw [List.length_drop, List.length_take]; omega
    have hkk : ∀ cs ∈ (xs.take (off + len)).drop off, cs.length = k' := fun cs hcs => hk cs (List.mem_of_mem_take (List.mem_of_mem_drop hcs))
    subst h4
    rcases hrow with rfl | ⟨b', arr, hb', harr, hsz, hc⟩
    · simp only [List.length_nil] at hl
      have hl0 : len = 0 := by omega
      subst hl0
      exact .s (.lst (fun _ _ => .nilFunc) hlen.symm h2 h3 (fun cs hcs => hkk cs hcs) (fun h => by omega) (fun i j hi => by omega) fun i j cs u hc => by simp at hc)
    · rw [h1] at hb'
      injection hb' with hb'
      subst hb'
      have get : ∀ i cs, ((xs.take (off + len)).drop off)[i]? = some cs → i < len ∧ xs[off + i]? = some cs := fun i cs hcs => by
        have hi : i < len := by rw [← hlen]; exact lt_of_get hcs
        rw [List.getElem?_drop, List.getElem?_take_of_lt (by omega)] at hcs
        exact ⟨hi, hcs⟩
      have hall : ∀ i j, i < len → j < k' → ∃ x, arr[(off + i) * k' + j]? = some x ∧ x.oneCell' = true := fun i j hi hj => by
        have hlt : off + i < xs.length := by omega
        have hlj : j < (xs[off + i]).length := by rw [hk _ (List.getElem_mem hlt)]; exact hj
        obtain ⟨x, hx, hr⟩ := hc (off + i) j xs[off + i] (xs[off + i])[j] (List.getElem?_eq_getElem hlt) (List.getElem?_eq_getElem hlj)
        exact ⟨x, hx, hr.one⟩
      refine .s (.lst (fun i j => (arr[(off + i) * k' + j]?).getD undef) hlen.symm h2 h3 hkk (fun _ => ⟨b, off * k', rfl, hβ d b hd h1, fun i j hi hj => ?_⟩) (fun i j hi hj => ?_) fun i j cs u hcs hu => ?_)
      · obtain ⟨x, hx, _⟩ := hall i j hi hj
        rw [cell_of_row w b _ arr t' (0, 0) harr, show off * k' + (i * k' + j) = (off + i) * k' + j by rw [Nat.add_mul]; omega, hx]
        rfl
      · obtain ⟨x, hx, ho⟩ := hall i j hi hj
        show ((arr[(off + i) * k' + j]?).getD undef).oneCell' = true
        rw [hx]; exact ho
      · obtain ⟨hi, hcs'⟩ := get i cs hcs
        obtain ⟨x, hx, hr⟩ := hc (off + i) j cs u hcs' hu
        show SVR F' w u ((arr[(off + i) * k' + j]?).getD undef)
        rw [hx]; exact hr.mono hF (fun _ _ => rfl)

/-- what is handed over -/
theorem hand_ok (hs : SRel E s tm w β) (H : HandOK hi bk K V) (hF : ∀ b, FF E β w b → F' b) {x : AV} {v : Value} (hβ : x.allIn hi = true ∨ ∀ d b, lk hi d = none → β d = some b → F' b) (h : AVR (FF E β w) β w x v) (hok : x.handT hi s) :
    AVR F' (bIn hi β) w (x.hand hi s) v := by
  have hin : ∀ d e b, lk hi d = some e → β d = some b → bIn hi β e = some b := fun d e b h1 h2 => by
    unfold bIn; rw [(H.hi1 d e h1).2.1]; exact h2
  induction h with
  | s h =>
    cases h with
    | v h => exact .s (.v h)
    | lst g h1 h2 h3 h4 h5 h6 h7 => exact .s ((SVR.lst g h1 h2 h3 h4 h5 h6 h7).mono hF (fun _ _ => rfl))
    | lsx h => exact .s ((SVR.lsx h).mono hF (fun _ _ => rfl))
  | @agg cs vs h1 h2 _ ih =>
    simp only [AV.hand, AV.handL_eq]
    refine .agg (by simpa using h1) h2 fun i c u hc hu => ?_
    rw [List.getElem?_map] at hc
    cases hci : cs[i]? with
    | none => rw [hci] at hc; cases hc
    | some c' => rw [hci] at hc; injection hc with hc; subst hc; exact ih i c' u hci hu (hβ.imp (fun h => AV.allInL_mem (by simpa only [AV.allIn] using h) c' (List.mem_of_getElem? hci)) id) (AV.handTL_mem (by simpa only [AV.handT] using hok) c' (List.mem_of_getElem? hci))
  | @tup cs vs h1 _ ih =>
    simp only [AV.hand, AV.handL_eq]
    refine .tup (by simpa using h1) fun i c u hc hu => ?_
    rw [List.getElem?_map] at hc
    cases hci : cs[i]? with
    | none => rw [hci] at hc; cases hc
    | some c' => rw [hci] at hc; injection hc with hc; subst hc; exact ih i c' u hci hu (hβ.imp (fun h => AV.allInL_mem (by simpa only [AV.allIn] using h) c' (List.mem_of_getElem? hci)) id) (AV.handTL_mem (by simpa only [AV.handT] using hok) c' (List.mem_of_getElem? hci))
  | @nil t k d off =>
    simp only [AV.hand]
    split
    · exact .nil
    · rename_i hd
      exact snap_ref hs (.nil) hd hF (hβ.resolve_left (by simp [AV.allIn, hd])) (by simpa only [AV.handT, hd] using hok)
  | @empty t k d off A h1 =>
    simp only [AV.hand]
    split
    · exact .empty h1
    · rename_i hd
      exact snap_ref hs (.empty h1) hd hF (hβ.resolve_left (by simp [AV.allIn, hd])) (by simpa only [AV.handT, hd] using hok)
  | @ref t k d off len c b A h1 h2 h3 h4 h5 =>
    simp only [AV.hand]
    split
    · rename_i e he; exact .ref (hin _ _ _ he h1) h2 h3 h4 h5
    · rename_i hd
      exact snap_ref hs (.ref h1 h2 h3 h4 h5) hd hF (hβ.resolve_left (by simp [AV.allIn, hd])) (by simpa only [AV.handT, hd] using hok)
  | @rfx t k d off len ext c A h ih =>
    simp only [AV.hand]
    split
    · rename_i e he
      have h' := ih (hβ.imp (fun h => by simpa only [AV.allIn] using h) id) (by simp only [AV.handT, he])
      simp only [AV.hand, he] at h'
      exact .rfx h'
    · rename_i hd
      exact snap_ref hs (AVR.rfx h).rfx_ref hd hF (hβ.resolve_left (by simp [AV.allIn, hd])) (by simpa only [AV.handT, hd] using hok)
  | @ptr k d i j b h1 =>
    simp only [AV.hand]
    split
    · rename_i e he; exact .ptr (hin _ _ _ he h1)
    · exact .dead
  | elt g h1 h2 h3 h4 h5 =>
    simp only [AV.hand]
    exact .elt g (hF _ h1) h2 h3 h4 (fun i j cs u hc hu => (h5 i j cs u hc hu).mono hF (fun _ _ => rfl))
  | @map d b h1 =>
    simp only [AV.hand]
    split
    · rename_i e he; exact .map (hin _ _ _ he h1)
    · exact .dead
  | slen => exact .slen
  | dead => exact .dead
end
end Go.Proofs.Ytopcfnlcapibgaa
end
section
namespace Go.Proofs.Ytopcfnlcapibgaa
open Go.RowKit

/-! The rule of a call that is handed objects, as a walk takes it; answers that the caller may write; such a function read as one that turns nothing. -/

/-- a call that is handed objects: which function, which arguments, on what terms -/
def callG (n : Nat) (ops : Array Oper) (s : AState) (o : Oper) (hi : List (Nat × Nat)) : Option (Nat × List AV × Prop) :=
  match guardAV ops s o.guard, o.op with
  | some G, .call ⟨.value x, args, _⟩ =>
    match s.ev x with
    | .v (.func (.func f) _ _) => some (f, args.toList.map (fun z => (s.ev z).hand hi s), G = true ∧ dstOK n o.dst ∧ s.gd x = true ∧ args.toList.all s.gd = true ∧ AV.handT.handTL hi s (args.toList.map s.ev))
    | _ => none
  | _, _ => none

section
variable {P : Program} {T : Nat → Option TyD} {E : Env} {s s' : AState} {a : Act} {tm : Array Value} {w w' : World} {β β' : Nat → Option Nat} {F F' : Nat → Prop} {n : Nat} {ops : Array Oper} {Q : Exit → AState → Prop} {D : Dr} {rest : List Oper} {o : Oper}

theorem callG_spec {f : Nat} {as' : List AV} {p : Prop} {hi : List (Nat × Nat)} (h : callG n ops s o hi = some (f, as', p)) (hp : p) :
    guardAV ops s o.guard = some true ∧ ∃ x args ats first cap, o.op = .call ⟨.value x, args, ats⟩ ∧ s.ev x = .v (.func (.func f) first cap) ∧ s.gd x = true ∧ dstOK n o.dst ∧ args.toList.map (fun z => (s.ev z).hand hi s) = as' ∧
      args.toList.all s.gd = true ∧ ∀ z ∈ args.toList, (s.ev z).handT hi s := by
  unfold callG at h
  split at h
  case h_2 => cases h
  rename_i G x args ats hg ho
  split at h
  case h_2 => cases h
  rename_i f' first cap hx
  simp only [Option.some.injEq, Prod.mk.injEq] at h
  obtain ⟨rfl, rfl, rfl⟩ := h
  obtain ⟨rfl, h1, h2, h3, h4⟩ := hp
  exact ⟨hg, x, args, ats, first, cap, ho, hx, h2, h1, rfl, h3, fun z hz => AV.handTL_mem h4 _ (List.mem_map_of_mem hz)⟩

theorem go_callG (hi bk : List (Nat × Nat)) (K V : List Nat) {f : Nat} {as' : List AV} {p : Prop} {ob ob1 : List (Nat × AObj)} {r : AV} (h : callG n ops s o hi = some (f, as', p)) (hp : p) (hk : handOK hi bk K V = true)
    (hD : hi.all (fun p => D.W p.1) = true) (hds : D.ds o = true ∨ hi = []) (hob : obIn s hi hi = ob) (hc : GCall P f as' ob r ob1) (hm : AV.allIn.allInL hi (o.op.operands.toList.map s.ev) = true ∨ (r.nm = true ∧ obNm ob1))
    (hr : AListD P E n ops D rest Q ((s.back K V bk ob1).put o.dst true (r.ren bk))) : AListR P E n ops D (o :: rest) Q s := by
  obtain ⟨hg, x, args, ats, first, cap, ho, hx, hgx, hdst, has, hall, hT⟩ := callG_spec h hp
  have H := handOK_ok hk
  intro a w β hn hd hs
  have hw := guard_ok (ops := ops) hs hg
  have hv := hs.ev x hgx (a := a) rfl
  rw [hx] at hv
  obtain ⟨rfl, rfl⟩ := func_plain hv
  generalize hux : a.eval x = ux at hv
  cases hv with | s hv => cases hv with | v hv =>
  obtain ⟨⟨fn, hf, hb, hnm⟩, hcall⟩ := hc
  have hopl : o.op.operands.toList = x :: args.toList := by rw [ho]; simp [Op.operands, Call.operands]
  refine step_list (by rw [ho]; rfl) hw (fun _ => ?_) (fun hGf => by cases hGf)
  unfold Oper.wp
  rw [exec_call (w := w) ho hux hf hb hnm]
  -- the blocks that the callee's arguments hang on
  have key : ∀ F : Nat → Prop, (∀ b, FF E β w b → F b) → FOK F w → (∀ b, F b → ¬ ∃ d, bIn hi β d = some b) →
      (∀ z ∈ args.toList, (s.ev z).allIn hi = true ∨ ∀ d b, lk hi d = none → β d = some b → F b) →
      (∀ (β' : Nat → Option Nat) (w' : World), Keeps (fun b => ∃ d, bIn hi β d = some b) w w' → (∀ d b, β' d = some b → (w.heap.size ≤ b ∨ bIn hi β d = some b) ∧ b < w'.heap.size) →
        (∀ d o, lk ob1 d = some o → ObjR (GF F (bIn hi β) β' w w') β' w' d o → ObjR (FF E (bBack bk K V β β') w') β' w' d o) ∧ ∀ v, AVR (GF F (bIn hi β) β' w w') β' w' r v → AVR (FF E (bBack bk K V β β') w') β' w' r v) →
      Calls P f (args.map a.eval) w (fun e w' => ∃ v, e = .returned v ∧ ∃ X', StepX (D.dst o) (XW D β) w X' w' ∧ wpListS P ops D (lift E n Q) (nrm E n D (Q .normal)) rest X' (a.put o.dst v) w') := fun F h1 h2 h3 h4 h5 => by
    refine (hcall w F (bIn hi β) (args.map a.eval) ⟨h2, fun d e b g1 g2 => ?_, fun d b hb => ?_, fun d ob' hd' => ?_⟩ (by rw [← has]; simp) fun i y v hy hv' => ?_).mono fun e w' ⟨v, β', he, hout, hres⟩ => ?_
    · obtain ⟨g, k1, k2⟩ := bIn_some g1
      obtain ⟨g', k3, k4⟩ := bIn_some g2
      have := hs.inj g g' b k2 k4
      subst this
      have z1 := (H.hi2 g d k1).1
      rw [(H.hi2 g e k3).1] at z1
      injection z1 with z1
      exact z1.symm
    · obtain ⟨g, k1, k2⟩ := bIn_some hb
      exact ⟨(hs.rng g b k2).2, fun hF => h3 b hF ⟨d, hb⟩, (H.hi2 g d k1).2.1⟩
    · rw [← hob] at hd'
      obtain ⟨e, o', hm', ho', rfl⟩ := obIn_lk hd'
      have hed := H.him e d hm'
      have hin : ∀ d e b, lk hi d = some e → β d = some b → bIn hi β e = some b := fun d e b h1 h2 => by
        unfold bIn; rw [(H.hi1 d e h1).2.1]; exact h2
      exact (hs.ob e o' ho').ren h1 hin fun b hb => hin e d b hed hb
    · rw [Array.getElem?_map] at hv'
      cases hz : args[i]? with
      | none => rw [hz] at hv'; cases hv'
      | some z =>
        rw [hz] at hv'
        injection hv' with hv'
        subst hv'
        have hz' : args.toList[i]? = some z := by simpa using hz
        rw [← has, List.getElem?_map, hz'] at hy
        injection hy with hy
        subst hy
        have hmem := List.mem_of_getElem? hz'
        exact hand_ok hs H h1 (h4 z hmem) (hs.ev z (List.all_eq_true.1 hall z hmem) rfl) (hT z hmem)
    · obtain ⟨t1, t2⟩ := h5 β' w' hout.keeps hout.rng
      have hs' := hs.called H hout.keeps hout.inj hout.rng hout.fx hout.fs (ob1 := ob1) fun d o hd' => t1 d o hd' (hout.ob d o hd')
      have hr' : AVR (FF E (bBack bk K V β β') w') (bBack bk K V β β') w' (r.ren bk) v := (t2 v hres).ren (fun _ h => h) fun d e b h hb => by rw [bBack_in H h]; exact hb
      obtain ⟨g1, g2, g3⟩ := putRel hn hd hs' hdst true (r.ren bk) (fun _ => hr') (fun h => by cases h)
      have hDW : ∀ g d, lk hi g = some d → D.W g = true := fun g d h => List.all_eq_true.1 hD (g, d) (lk_mem h)
      refine ⟨v, he, XW D (bBack bk K V β β'), ⟨fun hf => ?_, ⟨hout.keeps.size, fun b hb hx => hout.keeps.block b hb fun ⟨d, hd'⟩ => ?_⟩, fun b hb ⟨e, k1, k2⟩ => ?_⟩, hr _ _ _ g1 g2 g3⟩
      · rcases hds with hds | rfl
        · simp only [Dr.dst, ho, isCallV, hds, Bool.and_true, Bool.or_true] at hf; cases hf
        · exact ⟨hout.keeps.size, fun b hb _ => hout.keeps.block b hb fun ⟨d, hd'⟩ => by obtain ⟨g, k1, _⟩ := bIn_some hd'; cases k1⟩
      · obtain ⟨g, k1, k2⟩ := bIn_some hd'
        exact hx ⟨g, hDW g d (H.hi2 g d k1).1, k2⟩
      · rcases bBack_some k2 with ⟨d, hd', hdb⟩ | ⟨_, _, _, heb⟩
        · rcases (hout.rng d b hdb).1 with h | h
          · omega
          · obtain ⟨g, k3, k4⟩ := bIn_some h
            have := (H.bk2 d e hd').2.2 g k3
            subst this
            exact ⟨g, k1, k4⟩
        · exact ⟨e, k1, heb⟩
  have fin : Calls P f (args.map a.eval) w (fun e w' => ∃ v, e = .returned v ∧ ∃ X', StepX (D.dst o) (XW D β) w X' w' ∧ wpListS P ops D (lift E n Q) (nrm E n D (Q .normal)) rest X' (a.put o.dst v) w') := by
    rcases hm with hm | ⟨hm1, hm2⟩
    · refine key (FF E β w) (fun _ h => h) hs.glo (fun b hb ⟨d, hd'⟩ => ?_) (fun z hz => .inl (AV.allInL_mem hm _ (List.mem_map_of_mem (by rw [hopl]; exact .tail _ hz)))) (fun β' w' hkp hrg => ?_)
      · obtain ⟨g, _, k2⟩ := bIn_some hd'
        exact hb.2.2 g k2
      · have hgf : ∀ b, GF (FF E β w) (bIn hi β) β' w w' b → FF E (bBack bk K V β β') w' b := fun b hb => by
          refine ⟨hb.1, ?_, fun e he => ?_⟩
          · rcases hb.2.1 with h | h | ⟨d, h⟩
            · exact h.2.1
            · exact .inr (.inl (Nat.le_trans hs.old.size h))
            · obtain ⟨g, _, k2⟩ := bIn_some h
              exact .inr ((hs.rng g b k2).1.imp id fun h => ⟨g, h⟩)
          · rcases bBack_some he with ⟨d, hd', hdb⟩ | ⟨_, heK, heV, heb⟩
            · exact hb.2.2 d hdb
            · rcases hb.2.1 with h | h | ⟨d, h⟩
              · exact h.2.2 e heb
              · have := (hs.rng e b heb).2; omega
              · obtain ⟨g, k1, k2⟩ := bIn_some h
                have := hs.inj e g b heb k2
                subst this
                rcases (H.hi2 e d k1).2.2 with h' | h'
                · exact heK h'
                · exact heV h'
        exact ⟨fun d o _ h => objF h hgf, fun v h => h.mono hgf (fun _ _ => rfl) (fun _ _ h => h) (fun _ _ _ _ _ h => h)⟩
    · have hsub : ∀ b, FF E β w b → b < w.heap.size ∧ ∀ d, bIn hi β d ≠ some b := fun b hb => ⟨hb.1, fun d hd' => by
        obtain ⟨g, _, k2⟩ := bIn_some hd'
        exact hb.2.2 g k2⟩
      refine key (fun b => b < w.heap.size ∧ ∀ d, bIn hi β d ≠ some b) hsub ⟨fun _ h => h.1, fun g vs h => ⟨hsub g (hs.glo.gl g vs h).1, (hs.glo.gl g vs h).2⟩⟩ (fun b hb ⟨d, hd'⟩ => hb.2 d hd') (fun z hz => .inr fun d b hd' hb => ⟨(hs.rng d b hb).2, fun d' hd2 => ?_⟩) (fun β' w' hkp hrg => ⟨fun d o hd' h => obj_nm h (obNm_lk hm2 hd'), fun v h => nm_ok h hm1⟩)
      · obtain ⟨g, k1, k2⟩ := bIn_some hd2
        have := hs.inj g d b k2 hb
        subst this
        rw [(H.hi2 g d' k1).1] at hd'
        cases hd'
  exact fin.mono fun e w' ⟨v, he, h⟩ => by subst he; exact h

/-! ## a function's end -/
theorem obUp_nil {ob : List (Nat × AObj)} : obUp ob [] := fun d o h => by cases h
theorem obUp_cons {ob l : List (Nat × AObj)} {d : Nat} {o : AObj} (h : lk ob d = some o) (hl : obUp ob l) : obUp ob ((d, o) :: l) := fun e o' h' => by
  rw [lk_cons] at h'
  by_cases hk : d = e
  · subst hk; rw [bif_eq rfl] at h'; injection h' with h'; subst h'; exact .inl h
  · rw [bif_ne hk] at h'; exact hl e o' h'
theorem obUp_row0 {ob l : List (Nat × AObj)} {d t k : Nat} (hl : obUp ob l) : obUp ob ((d, .row t k []) :: l) := fun e o' h' => by
  rw [lk_cons] at h'
  by_cases hk : d = e
  · subst hk; rw [bif_eq rfl] at h'; injection h' with h'; subst h'; exact .inr (.inl ⟨t, k, rfl⟩)
  · rw [bif_ne hk] at h'; exact hl e o' h'
theorem obUp_take {ob l : List (Nat × AObj)} {d t k m : Nat} {xs : List (List AV)} (h : lk ob d = some (.row t k xs)) (hl : obUp ob l) : obUp ob ((d, .row t k (xs.take m)) :: l) := fun e o' h' => by
  rw [lk_cons] at h'
  by_cases hk : d = e
  · subst hk; rw [bif_eq rfl] at h'; injection h' with h'; subst h'; exact .inr (.inr ⟨t, k, xs, m, h, rfl⟩)
  · rw [bif_ne hk] at h'; exact hl e o' h'
theorem AV.up_nilref (t k d off : Nat) : (AV.v (.slice none 0 0)).up (.ref t k d off 0) := fun F β w x h => by
  cases h with
  | s h =>
  cases h with
  | v h => exact .nil
theorem AV.up_cons {a b : AV} {l m : List AV} (h : a.up b) (h' : AV.upL l m) : AV.upL (a :: l) (b :: m) := ⟨h, h'⟩
theorem AV.up_nilL : AV.upL [] [] := trivial

/-- a function that is handed nothing to write, read as one that turns nothing: what the caller may write as lists -/
theorem GCall.toP {f : Nat} {args : List AV} {r : AV} {ob1 : List (Nat × AObj)} (h : GCall P f args [] r ob1) (hok : r.snapOK { fr := [], ob := ob1 }) : PCall P f args (fun x => x = r.snap { fr := [], ob := ob1 }) := by
  refine ⟨h.1, fun w F vs hF hl ha => ?_⟩
  refine (h.2 w F (fun _ => none) vs ⟨hF, fun _ _ _ h => (by cases h), fun _ _ h => (by cases h), fun _ _ h => (by cases h)⟩ hl ha).mono fun e w' ⟨v, β', he, hout, hr⟩ => ?_
  let E : Env := ⟨w, F, fun _ => none, fun _ _ h => (by cases h), hF, fun _ _ h => (by cases h)⟩
  have hs : SRel E { fr := [], ob := ob1 } #[] w' β' := ⟨hout.inj, fun d b hb => ⟨(hout.rng d b hb).1, (hout.rng d b hb).2⟩, hout.keeps.trans (Keeps.refl _ _) (fun _ _ h => h), hout.ob, fun _ _ _ h => (by cases h), fun _ _ h => (by cases h), fun _ _ _ h => (by cases h), fun _ _ _ _ _ h => (by cases h)⟩
  refine ⟨v, _, he, rfl, hout.keeps.below (fun b ⟨_, h⟩ => by cases h), ?_⟩
  exact snap_ok hs (fun b hb => by
    rcases hb.2.1 with h | h | ⟨_, h⟩
    · exact .inl h
    · exact .inr ⟨h, hb.1⟩
    · cases h) (fun d b hb => by
    rcases (hout.rng d b hb).1 with h | h
    · exact .inr ⟨h, (hout.rng d b hb).2⟩
    · cases h) hr hok
end
end Go.Proofs.Ytopcfnlcapibgaa
end
section
namespace Go.Proofs.Ytopcfnlcapibgaa
open Go.RowKit

/-! What a computed step unfolds: laid into the walk's own set. -/
attribute [go_sem] ptrN runOps stepAV frzAV AV.frz AV.frz.frzL AObj.frz AState.frz AState.say glo guardAV pureAV pureCall pickAV extAV effAV effCall binA binV boolV eqA eqL eqV mmA nilA unV loadAV fieldAddrAV fieldAV indexAddrAV indexAV sliceAV bndAV lenAV convAV extractAV buildAV partsAV fillAV allT AV.cells1 putL storeAV setXs allS litAV litXs makeAV mapAV mput keyOf appendAV keepAV appendVarAV headVar litVarAV headAV elemsAV AV.width inAV AState.ev AState.gd AState.put AState.drop AState.var AState.row AState.keep AV.kill AV.kill.killL AObj.kill rm lk rd dstOK ownN Op.operands Call.operands argsFr flatV Sh.agg callAV AV.snap AV.snap.snapL AV.snapOK AV.snapOK.snapOKL resAV oneOf AV.flat AV.flat.flatL AV.clean AV.clean.cleanL callG AState.back AV.cut AV.cut.cutL AObj.cut rmL obBack obIn inv2 AV.ren AV.ren.renL AObj.ren AV.hand AV.hand.handL AV.handT AV.handT.handTL AV.nm AV.nm.nmL AObj.nm obNm AV.allIn AV.allIn.allInL resG List.contains_cons Bool.false_or Bool.or_false Bool.true_or Bool.or_true cond_true cond_false Option.map_some Option.map_none Option.bind_some Option.getD_some Option.getD_none Option.isSome_some List.map_cons List.map_nil List.getElem?_cons_zero List.getElem?_cons_succ List.getElem?_toArray List.getElem?_nil List.all_cons List.all_nil List.length_cons List.length_nil List.length_map List.drop_zero List.drop_succ_cons List.take_succ_cons List.take_zero List.set_cons_zero List.set_cons_succ List.replicate_succ List.replicate_zero List.nil_append List.cons_append List.append_nil List.filterMap_cons List.filterMap_nil List.contains_nil List.size_toArray List.append_toArray List.toList_toArray Bool.and_self Bool.and_true Bool.true_and Bool.false_and Bool.and_false Bool.not_false Bool.not_true beq_self_eq_true beq_true beq_false BEq.rfl Bool.cond_true_left Bool.cond_false_right Bool.cond_true_right Bool.cond_false_left Bool.cond_self Int.toNat_natCast Nat.zero_add Nat.add_zero Nat.zero_le Nat.lt_add_one true_and and_true true_or or_true and_self true_implies false_implies implies_true imp_self nt_imp opt_none opt_some forall_const if_true if_false ite_true ite_false decide_true decide_false ne_eq not_false_eq_true not_true_eq_false eq_self runOpsD drOK wrOK rdObj wrObj objOf drD drR drC List.mem_singleton List.not_mem_nil forall_eq
end Go.Proofs.Ytopcfnlcapibgaa
end
section
namespace Go.Proofs.Ytopcfnlcapibgaa
open Go.RowKit
/-! The rules of a walk, each as what holds of a computed value: so that one simplification serves them all. -/
section
variable {P : Program} {T : Nat → Option TyD} {E : Env} {s s' : AState} {n : Nat} {ops : Array Oper} {Q : Exit → AState → Prop} {K : AState → Prop} {rest : List Oper} {o : Oper} {D : Dr}
def RunK (P : Program) (E : Env) (n : Nat) (ops : Array Oper) (D : Dr) (Q : Exit → AState → Prop) (r : Prop × AState × List Oper) : Prop := r.1 ∧ AListR P E n ops D r.2.2 Q r.2.1
theorem go_runE (hT : TOK P T) (O : List Nat) {l : List Oper} (h : ∀ r, runOps T O n ops s l = r → RunK P E n ops seqD Q r) : AList P E n ops l Q s :=
  go_run hT O (p := (runOps T O n ops s l).1) (s' := (runOps T O n ops s l).2.1) (l' := (runOps T O n ops s l).2.2) rfl (h _ rfl).1 (h _ rfl).2
theorem go_runDE (hT : TOK P T) (O : List Nat) {l : List Oper} (h : ∀ r, runOpsD T O D n ops s l = r → RunK P E n ops D Q r) : AListD P E n ops D l Q s :=
  go_runD hT O (p := (runOpsD T O D n ops s l).1) (s' := (runOpsD T O D n ops s l).2.1) (l' := (runOpsD T O D n ops s l).2.2) rfl (h _ rfl).1 (h _ rfl).2
theorem runK {p : Prop} {l : List Oper} (hp : p) (h : AListR P E n ops D l Q s') : RunK P E n ops D Q (p, s', l) := ⟨hp, h⟩
def CondK (A B : Prop) (r : AV × Bool) : Prop := ∃ b, r = (.v (.bool b), true) ∧ (b = true → A) ∧ (b = false → B)
theorem aw_condE {c : Operand} {x y : Code} (h : ∀ r, (s.ev c, s.gd c) = r → CondK (AWp P E n x Q s) (AWp P E n y Q s) r) : AWp P E n (.cond c x y) Q s := by
  obtain ⟨b, h1, h2, h3⟩ := h _ rfl
  injection h1 with g1 g2
  exact aw_cond g1 g2 h2 h3
theorem condK {A B : Prop} {b : Bool} (h1 : b = true → A) (h2 : b = false → B) : CondK A B (.v (.bool b), true) := ⟨b, rfl, h1, h2⟩
def EndK (R : AV → Prop) (r : Option (Prop × List AV)) : Prop := ∃ p l, r = some (p, l) ∧ p ∧ R (oneOf l)
theorem aend_retE {rs : List ResultVar} {R : AV → Prop} (h : ∀ r, resAV T s rs = r → EndK R r) : AEnd T rs R .ret s := by
  obtain ⟨p, l, h1, h2, h3⟩ := h _ rfl
  exact aend_ret h1 h2 h3
theorem aend_normalE {rs : List ResultVar} {R : AV → Prop} (h : ∀ r, resAV T s rs = r → EndK R r) : AEnd T rs R .normal s := by
  obtain ⟨p, l, h1, h2, h3⟩ := h _ rfl
  exact aend_normal h1 h2 h3
theorem endK {R : AV → Prop} {p : Prop} {l : List AV} (hp : p) (h : R (oneOf l)) : EndK R (some (p, l)) := ⟨p, l, rfl, hp, h⟩
def EndGK (r : AV) (ob ob1 : List (Nat × AObj)) (q : Option (Prop × List AV)) : Prop := ∃ p l, q = some (p, l) ∧ p ∧ (oneOf l).up r ∧ obUp ob ob1
theorem aendG_retE {rs : List ResultVar} {r : AV} {ob1 : List (Nat × AObj)} (h : ∀ q, resG T s rs = q → EndGK r s.ob ob1 q) : AEndG T rs r ob1 .ret s := by
  obtain ⟨p, l, h1, h2, h3, h4⟩ := h _ rfl
  exact aendG_ret h1 h2 h3 h4
theorem aendG_normalE {rs : List ResultVar} {r : AV} {ob1 : List (Nat × AObj)} (h : ∀ q, resG T s rs = q → EndGK r s.ob ob1 q) : AEndG T rs r ob1 .normal s := by
  obtain ⟨p, l, h1, h2, h3, h4⟩ := h _ rfl
  exact aendG_normal h1 h2 h3 h4
theorem endGK {r : AV} {ob ob1 : List (Nat × AObj)} {p : Prop} {l : List AV} (hp : p) (h : (oneOf l).up r) (ho : obUp ob ob1) : EndGK r ob ob1 (some (p, l)) := ⟨p, l, rfl, hp, h, ho⟩
def CallK (P : Program) (E : Env) (n : Nat) (ops : Array Oper) (D : Dr) (rest : List Oper) (Q : Exit → AState → Prop) (s : AState) (o : Oper) (r : Option (Bool × Nat × List AV × Prop)) : Prop := callAV n ops s o = r → AListR P E n ops D (o :: rest) Q s
theorem go_callE (h : ∀ r, callAV n ops s o = r → CallK P E n ops D rest Q s o r) : AListR P E n ops D (o :: rest) Q s := h _ rfl rfl
theorem callK_flat {G : Bool} {f : Nat} {as' : List AV} {p : Prop} {ra : AV} (hc : G = true → PCall P f as' (fun r => r = ra)) (hflat : ra.flat = true) (hp : p) (hr : AListD P E n ops D rest Q (s.put o.dst G ra)) : CallK P E n ops D rest Q s o (some (G, f, as', p)) :=
  fun h => go_call h hp hc hflat hr
theorem callK_0 (f : Nat) (ra : AV) {as' : List AV} {p : Prop} (hp : p) (hr : AListD P E n ops D rest Q (s.put o.dst false ra)) : CallK P E n ops D rest Q s o (some (false, f, as', p)) := fun h => go_call0 f ra h hp hr
/-- a call that is handed objects: what is computed of it -/
def callGE (n : Nat) (ops : Array Oper) (s : AState) (o : Oper) (hi : List (Nat × Nat)) : Option (Nat × List AV × Prop) × List (Nat × AObj) × Bool := (callG n ops s o hi, obIn s hi hi, AV.allIn.allInL hi (o.op.operands.toList.map s.ev))
def CallGK (P : Program) (E : Env) (n : Nat) (ops : Array Oper) (D : Dr) (rest : List Oper) (Q : Exit → AState → Prop) (s : AState) (o : Oper) (hi bk : List (Nat × Nat)) (K V : List Nat) (r : Option (Nat × List AV × Prop) × List (Nat × AObj) × Bool) : Prop :=
  callGE n ops s o hi = r → AListR P E n ops D (o :: rest) Q s
theorem go_callGE (hi bk : List (Nat × Nat)) (K V : List Nat) (h : ∀ r, callGE n ops s o hi = r → CallGK P E n ops D rest Q s o hi bk K V r) : AListR P E n ops D (o :: rest) Q s := h _ rfl rfl
theorem callGK {hi bk : List (Nat × Nat)} {K V : List Nat} {f : Nat} {as' : List AV} {p : Prop} {ob ob1 : List (Nat × AObj)} {r : AV} {al : Bool} (hc : GCall P f as' ob r ob1) (hk : handOK hi bk K V = true) (hD : hi.all (fun p => D.W p.1) = true) (hds : D.ds o = true ∨ hi = [])
    (hp : p) (hm : al = true ∨ (r.nm = true ∧ obNm ob1)) (hr : AListD P E n ops D rest Q ((s.back K V bk ob1).put o.dst true (r.ren bk))) : CallGK P E n ops D rest Q s o hi bk K V (some (f, as', p), ob, al) := fun h => by
  unfold callGE at h
  injection h with h1 h2
  injection h2 with h2 h3
  exact go_callG hi bk K V h1 hp hk hD hds h2 hc (hm.imp (fun e => h3.trans e) id) hr
/-- a call of which the arguments hang on no object of the call's own: what is computed of it -/
def call1E (n : Nat) (ops : Array Oper) (s : AState) (o : Oper) : Option (Bool × Nat × List AV × Prop) × Bool × List AV × List AV := (callAV n ops s o, AV.clean.cleanL (o.op.operands.toList.map s.ev), o.op.operands.toList.map (fun z => (s.ev z).snap s), o.op.operands.toList.map s.ev)
def Call1K (P : Program) (E : Env) (n : Nat) (ops : Array Oper) (D : Dr) (rest : List Oper) (Q : Exit → AState → Prop) (s : AState) (o : Oper) (r : Option (Bool × Nat × List AV × Prop) × Bool × List AV × List AV) : Prop := call1E n ops s o = r → AListR P E n ops D (o :: rest) Q s
theorem go_call1E (h : ∀ r, call1E n ops s o = r → Call1K P E n ops D rest Q s o r) : AListR P E n ops D (o :: rest) Q s := h _ rfl rfl
theorem call1K {f : Nat} {as' : List AV} {p : Prop} {l : List AV} {r : AV} (hc : PCall P f as' (fun x => x = r)) (hgd : o.guard = none) (hp : p) (hr : AListD P E n ops D rest Q (s.put o.dst true r)) : Call1K P E n ops D rest Q s o (some (true, f, as', p), true, l, l) := fun h => by
  unfold call1E at h
  injection h with h1 h2
  injection h2 with h2 h3
  injection h3 with h3 h4
  exact go_call1 h1 hp hgd h2 (h3.trans h4.symm) hc hr
/-- a stretch up to the next call, and what is computed of the call -/
def headC (n : Nat) (ops : Array Oper) (s : AState) : List Oper → Option (Option (Bool × Nat × List AV × Prop) × Bool × List AV × List AV)
  | [] => none
  | o :: _ => some (call1E n ops s o)
abbrev RunT := Prop × AState × List Oper × Option (Option (Bool × Nat × List AV × Prop) × Bool × List AV × List AV)
def withC (n : Nat) (ops : Array Oper) : Prop × AState × List Oper → RunT
  | (p, s', l') => (p, s', l', headC n ops s' l')
def RunC (P : Program) (E : Env) (n : Nat) (ops : Array Oper) (D : Dr) (Q : Exit → AState → Prop) (r : RunT) : Prop := r.2.2.2 = headC n ops r.2.1 r.2.2.1 → r.1 ∧ AListR P E n ops D r.2.2.1 Q r.2.1
theorem awA {x y : Code} (h : AWp P E n x (ASeq (AWp P E n y Q) Q) s) : AWp P E n (.seq x y) Q s := aw_seq h
theorem awB {id : Nat} {c : Code} (h : AWp P E n c (ABlk id Q) s) : AWp P E n (.block id c) Q s := aw_block h
theorem awC (h : Q .normal s) : AWp P E n .skip Q s := aw_skip h
theorem awD (h : Q .ret s) : AWp P E n .ret Q s := aw_ret h
theorem awE {id : Nat} (h : Q (.exit id) s) : AWp P E n (.exit id) Q s := aw_exit h
theorem awF (h : K s) : ASeq K Q .normal s := h
theorem awG (h : Q .ret s) : ASeq K Q .ret s := h
theorem awH {i : Nat} (h : Q (.exit i) s) : ASeq K Q (.exit i) s := h
theorem awI {id : Nat} (h : Q .normal s) : ABlk id Q .normal s := h
theorem awJ {id : Nat} (h : Q .ret s) : ABlk id Q .ret s := h
theorem awK {id : Nat} (h : Q .normal s) : ABlk id Q (.exit id) s := ablk_hit h
theorem awL (h : Q .normal s) : AListR P E n ops D [] Q s := go_nil h
theorem awM {id i : Nat} (hne : i ≠ id) (h : Q (.exit i) s) : ABlk id Q (.exit i) s := ablk_miss hne h
theorem awN (hT : TOK P T) (O : List Nat) {id : Nat} (h : ∀ r, withC n ops (runOps T O n ops s ops.toList) = r → RunC P E n ops seqD Q r) : AWp P E n (.region id ops false) Q s :=
  aw_region (go_run hT O (l := ops.toList) rfl (h _ rfl rfl).1 (h _ rfl rfl).2)
theorem awO (hT : TOK P T) (O : List Nat) {l : List Oper} (h : ∀ r, withC n ops (runOps T O n ops s l) = r → RunC P E n ops seqD Q r) : AListD P E n ops seqD l Q s :=
  go_run hT O (l := l) rfl (h _ rfl rfl).1 (h _ rfl rfl).2
theorem awP (hT : TOK P T) (O : List Nat) {l : List Oper} (h : ∀ r, withC n ops (runOpsD T O D n ops s l) = r → RunC P E n ops D Q r) : AListD P E n ops D l Q s :=
  go_runD hT O (l := l) rfl (h _ rfl rfl).1 (h _ rfl rfl).2
theorem awQ {c : Operand} {x y : Code} (h : ∀ r, (s.ev c, s.gd c) = r → CondK (AWp P E n x Q s) (AWp P E n y Q s) r) : AWp P E n (.cond c x y) Q s := aw_condE h
theorem awR {rs : List ResultVar} {R : AV → Prop} (h : ∀ r, resAV T s rs = r → EndK R r) : AEnd T rs R .ret s := aend_retE h
theorem awS {rs : List ResultVar} {R : AV → Prop} (h : ∀ r, resAV T s rs = r → EndK R r) : AEnd T rs R .normal s := aend_normalE h
theorem awT {rs : List ResultVar} {r : AV} {ob1 : List (Nat × AObj)} (h : ∀ q, resG T s rs = q → EndGK r s.ob ob1 q) : AEndG T rs r ob1 .ret s := aendG_retE h
theorem awU {rs : List ResultVar} {r : AV} {ob1 : List (Nat × AObj)} (h : ∀ q, resG T s rs = q → EndGK r s.ob ob1 q) : AEndG T rs r ob1 .normal s := aendG_normalE h
theorem awV {p : Prop} {q : Option (Option (Bool × Nat × List AV × Prop) × Bool × List AV × List AV)} (hp : p) (h : Q .normal s') : RunC P E n ops D Q (p, s', [], q) := fun _ => ⟨hp, go_nil h⟩
theorem awW {p : Prop} {l : List Oper} {q : Option (Option (Bool × Nat × List AV × Prop) × Bool × List AV × List AV)} (hp : p) (h : AListR P E n ops D l Q s') : RunC P E n ops D Q (p, s', l, q) := fun _ => ⟨hp, h⟩
/-- calls: flat answer; skipped; known answer of clean arguments -/
theorem caA {G : Bool} {f : Nat} {as' : List AV} {p p' : Prop} {ra : AV} {q : Bool × List AV × List AV} (hc : G = true → PCall P f as' (fun r => r = ra)) (hflat : ra.flat = true) (hp : p) (hp' : p') (hr : AListD P E n ops D rest Q (s'.put o.dst G ra)) : RunC P E n ops D Q (p, s', o :: rest, some (some (G, f, as', p'), q)) := fun h => by
  injection h with h
  injection h with h _
  exact ⟨hp, go_call h.symm hp' hc hflat hr⟩
theorem caB (f : Nat) (ra : AV) {as' : List AV} {p p' : Prop} {q : Bool × List AV × List AV} (hp : p) (hp' : p') (hr : AListD P E n ops D rest Q (s'.put o.dst false ra)) : RunC P E n ops D Q (p, s', o :: rest, some (some (false, f, as', p'), q)) := fun h => by
  injection h with h
  injection h with h _
  exact ⟨hp, go_call0 f ra h.symm hp' hr⟩
theorem caC {f : Nat} {as' : List AV} {p p' : Prop} {l : List AV} {r : AV} (hc : PCall P f as' (fun x => x = r)) (hgd : o.guard = none) (hp : p) (hp' : p') (hr : AListD P E n ops D rest Q (s'.put o.dst true r)) : RunC P E n ops D Q (p, s', o :: rest, some (some (true, f, as', p'), true, l, l)) := fun h => by
  injection h with h
  injection h with h1 h2
  injection h2 with h2 h3
  injection h3 with h3 h4
  exact ⟨hp, go_call1 h1.symm hp' hgd h2.symm (h3.symm.trans h4) hc hr⟩
/-- an answer of which something is known -/
theorem caD {f : Nat} {as' : List AV} {p p' : Prop} {l : List AV} {R : AV → Prop} (hc : PCall P f as' R) (hgd : o.guard = none) (hp : p) (hp' : p') (hr : ∀ r, R r → AListD P E n ops D rest Q (s'.put o.dst true r)) : RunC P E n ops D Q (p, s', o :: rest, some (some (true, f, as', p'), true, l, l)) := fun h => by
  injection h with h
  injection h with h1 h2
  injection h2 with h2 h3
  injection h3 with h3 h4
  exact ⟨hp, go_callR h1.symm hp' hgd h2.symm (h3.symm.trans h4) hc hr⟩
attribute [go_sem] callGE call1E headC withC decide_eq_true_eq decide_eq_false_iff_not Bool.not_eq_true' Bool.not_eq_false' Bool.or_eq_true Bool.or_eq_false_iff Bool.and_eq_true Bool.and_eq_false_iff Decidable.not_not
end
end Go.Proofs.Ytopcfnlcapibgaa
end
section
namespace Go.Proofs.Ytopcfnlcapibgaa
theorem mixed : Try.prog.follows .mixedOrders = true := by kernel_rfl
theorem t1 : tyOf Try.prog 1 = some ⟨1, 8, [.nilFunc], .fn⟩ := by kernel_rfl -- func()
theorem t2 : tyOf Try.prog 2 = some ⟨1, 8, [.int .i64 0], .int .i64⟩ := by kernel_rfl -- int64
theorem t3 : tyOf Try.prog 3 = some ⟨1, 8, [.int .i64 0], .int .i64⟩ := by kernel_rfl -- int
theorem t4 : tyOf Try.prog 4 = some ⟨1, 1, [.bool false], .bool⟩ := by kernel_rfl -- bool
theorem t5 : tyOf Try.prog 5 = some ⟨1, 1, [.int .u8 0], .int .u8⟩ := by kernel_rfl -- uint8
theorem t6 : tyOf Try.prog 6 = some ⟨1, 1, [.int .u8 0], .int .u8⟩ := by kernel_rfl -- abi.BoundsErrorCode
theorem t7 : tyOf Try.prog 7 = some ⟨4, 24, [.int .i64 0, .int .i64 0, .bool false, .int .u8 0], .strct [(0, 2), (1, 3), (2, 4), (3, 6)] true⟩ := by kernel_rfl -- struct%20{%20x%20int64;%20y%20int;%20signed%20bool;%20code%2
theorem t8 : tyOf Try.prog 8 = some ⟨4, 24, [.int .i64 0, .int .i64 0, .bool false, .int .u8 0], .strct [(0, 2), (1, 3), (2, 4), (3, 6)] true⟩ := by kernel_rfl -- runtime.boundsError
theorem t9 : tyOf Try.prog 9 = some ⟨1, 16, [.string ByteArray.empty], .str⟩ := by kernel_rfl -- string
theorem t10 : tyOf Try.prog 10 = some ⟨1, 16, [.string ByteArray.empty], .str⟩ := by kernel_rfl -- runtime.errorString
theorem t11 : tyOf Try.prog 11 = some ⟨1, 16, [.string ByteArray.empty], .str⟩ := by kernel_rfl -- runtime.plainError
theorem t12 : tyOf Try.prog 12 = some ⟨1, 8, [.int .u64 0], .int .u64⟩ := by kernel_rfl -- uintptr
theorem t15 : tyOf Try.prog 15 = some ⟨1, 8, [.pointer none], .ptr 94⟩ := by kernel_rfl -- *runtime.TypeAssertionError
theorem t16 : tyOf Try.prog 16 = some ⟨1, 8, [.pointer none], .ptr 97⟩ := by kernel_rfl -- *runtime.PanicNilError
theorem t17 : tyOf Try.prog 17 = some ⟨1, 8, [.pointer none], .ptr 106⟩ := by kernel_rfl -- *abi.Type
theorem t20 : tyOf Try.prog 20 = some ⟨1, 16, [.nilIface], .iface⟩ := by kernel_rfl -- interface%20{}
theorem t21 : tyOf Try.prog 21 = some ⟨1, 4, [.int .i32 0], .int .i32⟩ := by kernel_rfl -- int32
theorem t22 : tyOf Try.prog 22 = some ⟨1, 24, [.slice none 0 0], .slice 30⟩ := by kernel_rfl -- []mortiselaw03.Op
theorem t23 : tyOf Try.prog 23 = some ⟨1, 8, [.nilFunc], .fn⟩ := by kernel_rfl -- func()%20bool
theorem t24 : tyOf Try.prog 24 = some ⟨1, 8, [.pointer none], .ptr 44⟩ := by kernel_rfl -- *mortiselaw03.Table
theorem t26 : tyOf Try.prog 26 = some ⟨1, 8, [.nilFunc], .fn⟩ := by kernel_rfl -- func()%20(*mortiselaw03.Table,%20bool)
theorem t27 : tyOf Try.prog 27 = some ⟨1, 8, [.int .u64 0], .int .u64⟩ := by kernel_rfl -- uint64
theorem t28 : tyOf Try.prog 28 = some ⟨1, 24, [.slice none 0 0], .slice 5⟩ := by kernel_rfl -- []uint8
theorem t29 : tyOf Try.prog 29 = some ⟨6, 64, [.int .i64 0, .bool false, .int .i64 0, .int .i64 0, .int .u64 0, .slice none 0 0], .strct [(0, 3), (1, 4), (2, 3), (3, 3), (4, 27), (5, 28)] true⟩ := by kernel_rfl -- struct%20{%20Kind%20int;%20Which%20bool;%20N%20int;%20Width%
theorem t30 : tyOf Try.prog 30 = some ⟨6, 64, [.int .i64 0, .bool false, .int .i64 0, .int .i64 0, .int .u64 0, .slice none 0 0], .strct [(0, 3), (1, 4), (2, 3), (3, 3), (4, 27), (5, 28)] true⟩ := by kernel_rfl -- mortiselaw03.Op
theorem t31 : tyOf Try.prog 31 = some ⟨1, 8, [.nilFunc], .fn⟩ := by kernel_rfl -- func(int,%20mortiselaw03.Op)%20bool
theorem t32 : tyOf Try.prog 32 = some ⟨1, 8, [.pointer none], .ptr 78⟩ := by kernel_rfl -- *cursor.Input
theorem t33 : tyOf Try.prog 33 = some ⟨2, 16, [.pointer none, .pointer none], .arr 2 32⟩ := by kernel_rfl -- [2]*cursor.Input
theorem t34 : tyOf Try.prog 34 = some ⟨1, 8, [.pointer none], .ptr 84⟩ := by kernel_rfl -- *mortiseref03.Input
theorem t35 : tyOf Try.prog 35 = some ⟨2, 16, [.pointer none, .pointer none], .arr 2 34⟩ := by kernel_rfl -- [2]*mortiseref03.Input
theorem t36 : tyOf Try.prog 36 = some ⟨1, 8, [.pointer none], .ptr 80⟩ := by kernel_rfl -- *cursor.Output
theorem t37 : tyOf Try.prog 37 = some ⟨2, 16, [.pointer none, .pointer none], .arr 2 36⟩ := by kernel_rfl -- [2]*cursor.Output
theorem t38 : tyOf Try.prog 38 = some ⟨1, 8, [.pointer none], .ptr 74⟩ := by kernel_rfl -- *mortiseref03.Output
theorem t39 : tyOf Try.prog 39 = some ⟨2, 16, [.pointer none, .pointer none], .arr 2 38⟩ := by kernel_rfl -- [2]*mortiseref03.Output
theorem t40 : tyOf Try.prog 40 = some ⟨1, 24, [.slice none 0 0], .slice 28⟩ := by kernel_rfl -- [][]uint8
theorem t41 : tyOf Try.prog 41 = some ⟨2, 48, [.slice none 0 0, .slice none 0 0], .strct [(0, 40), (1, 40)] true⟩ := by kernel_rfl -- struct%20{%20L%20[][]uint8;%20More%20[][]uint8%20}
theorem t42 : tyOf Try.prog 42 = some ⟨2, 48, [.slice none 0 0, .slice none 0 0], .strct [(0, 40), (1, 40)] true⟩ := by kernel_rfl -- mortiselaw03.Book
theorem t43 : tyOf Try.prog 43 = some ⟨10, 112, [.pointer none, .pointer none, .pointer none, .pointer none, .pointer none, .pointer none, .pointer none, .pointer none, .slice none 0 0, .slice none 0 0], .strct [(0, 33), (2, 35), (4, 37), (6, 39), (8, 42)] true⟩ := by kernel_rfl -- struct%20{%20I%20[2]*cursor.Input;%20R%20[2]*mortiseref03.In
theorem t44 : tyOf Try.prog 44 = some ⟨10, 112, [.pointer none, .pointer none, .pointer none, .pointer none, .pointer none, .pointer none, .pointer none, .pointer none, .slice none 0 0, .slice none 0 0], .strct [(0, 33), (2, 35), (4, 37), (6, 39), (8, 42)] true⟩ := by kernel_rfl -- mortiselaw03.Table
theorem t45 : tyOf Try.prog 45 = some ⟨1, 8, [.nilFunc], .fn⟩ := by kernel_rfl -- func([]mortiselaw03.Op)%20bool
theorem t46 : tyOf Try.prog 46 = some ⟨1, 8, [.int .i64 0], .int .i64⟩ := by kernel_rfl -- api.Errno
theorem t48 : tyOf Try.prog 48 = some ⟨1, 8, [.nilFunc], .fn⟩ := by kernel_rfl -- func(int)%20(*cursor.Input,%20api.Errno)
theorem t50 : tyOf Try.prog 50 = some ⟨1, 8, [.nilFunc], .fn⟩ := by kernel_rfl -- func(int)%20(*cursor.Output,%20api.Errno)
theorem t51 : tyOf Try.prog 51 = some ⟨1, 8, [.nilFunc], .fn⟩ := by kernel_rfl -- func(api.Errno)%20int
theorem t52 : tyOf Try.prog 52 = some ⟨1, 8, [.nilFunc], .fn⟩ := by kernel_rfl -- func([]uint8)%20api.Errno
theorem t54 : tyOf Try.prog 54 = some ⟨1, 8, [.nilFunc], .fn⟩ := by kernel_rfl -- func()%20(uint8,%20bool)
theorem t56 : tyOf Try.prog 56 = some ⟨1, 8, [.nilFunc], .fn⟩ := by kernel_rfl -- func(int)%20([]uint8,%20bool)
theorem t57 : tyOf Try.prog 57 = some ⟨1, 8, [.nilFunc], .fn⟩ := by kernel_rfl -- func(int)%20api.Errno
theorem t58 : tyOf Try.prog 58 = some ⟨1, 8, [.nilFunc], .fn⟩ := by kernel_rfl -- func()%20int
theorem t59 : tyOf Try.prog 59 = some ⟨1, 8, [.nilFunc], .fn⟩ := by kernel_rfl -- func()%20api.Errno
theorem t60 : tyOf Try.prog 60 = some ⟨1, 8, [.nilFunc], .fn⟩ := by kernel_rfl -- func(int,%20int,%20uint64)%20api.Errno
theorem t61 : tyOf Try.prog 61 = some ⟨1, 8, [.nilFunc], .fn⟩ := by kernel_rfl -- func()%20[]uint8
theorem t63 : tyOf Try.prog 63 = some ⟨1, 8, [.nilFunc], .fn⟩ := by kernel_rfl -- func(int)%20(*mortiseref03.Input,%20int)
theorem t64 : tyOf Try.prog 64 = some ⟨1, 8, [.nilFunc], .fn⟩ := by kernel_rfl -- func([]uint8)%20[]uint8
theorem t65 : tyOf Try.prog 65 = some ⟨1, 8, [.nilFunc], .fn⟩ := by kernel_rfl -- func([]uint8)%20int
theorem t66 : tyOf Try.prog 66 = some ⟨1, 8, [.nilFunc], .fn⟩ := by kernel_rfl -- func([]uint8,%20[]uint8)%20bool
theorem t67 : tyOf Try.prog 67 = some ⟨1, 8, [.nilFunc], .fn⟩ := by kernel_rfl -- func(int)%20bool
theorem t68 : tyOf Try.prog 68 = some ⟨1, 8, [.nilFunc], .fn⟩ := by kernel_rfl -- func([]uint8)
theorem t69 : tyOf Try.prog 69 = some ⟨1, 8, [.nilFunc], .fn⟩ := by kernel_rfl -- func(int)%20int
theorem t71 : tyOf Try.prog 71 = some ⟨1, 8, [.nilFunc], .fn⟩ := by kernel_rfl -- func(int)%20(*mortiseref03.Output,%20int)
theorem t72 : tyOf Try.prog 72 = some ⟨1, 8, [.nilFunc], .fn⟩ := by kernel_rfl -- func(int,%20int,%20uint64)%20int
theorem t73 : tyOf Try.prog 73 = some ⟨2, 32, [.slice none 0 0, .int .i64 0], .strct [(0, 28), (1, 3)] true⟩ := by kernel_rfl -- struct%20{%20B%20[]uint8;%20Most%20int%20}
theorem t74 : tyOf Try.prog 74 = some ⟨2, 32, [.slice none 0 0, .int .i64 0], .strct [(0, 28), (1, 3)] true⟩ := by kernel_rfl -- mortiseref03.Output
theorem t75 : tyOf Try.prog 75 = some ⟨1, 8, [.pointer none], .ptr 42⟩ := by kernel_rfl -- *mortiselaw03.Book
theorem t76 : tyOf Try.prog 76 = some ⟨1, 8, [.nilFunc], .fn⟩ := by kernel_rfl -- func(int)%20uint8
theorem t77 : tyOf Try.prog 77 = some ⟨3, 40, [.slice none 0 0, .int .i64 0, .bool false], .strct [(0, 28), (1, 3), (2, 4)] true⟩ := by kernel_rfl -- struct%20{%20held%20[]uint8;%20at%20int;%20ended%20bool%20}
theorem t78 : tyOf Try.prog 78 = some ⟨3, 40, [.slice none 0 0, .int .i64 0, .bool false], .strct [(0, 28), (1, 3), (2, 4)] true⟩ := by kernel_rfl -- cursor.Input
theorem t79 : tyOf Try.prog 79 = some ⟨2, 32, [.int .i64 0, .slice none 0 0], .strct [(0, 3), (1, 28)] true⟩ := by kernel_rfl -- struct%20{%20most%20int;%20b%20[]uint8%20}
theorem t80 : tyOf Try.prog 80 = some ⟨2, 32, [.int .i64 0, .slice none 0 0], .strct [(0, 3), (1, 28)] true⟩ := by kernel_rfl -- cursor.Output
theorem t81 : tyOf Try.prog 81 = some ⟨1, 8, [.nilFunc], .fn⟩ := by kernel_rfl -- func(int)
theorem t82 : tyOf Try.prog 82 = some ⟨1, 8, [.nilFunc], .fn⟩ := by kernel_rfl -- func([]uint8,%20int,%20int,%20uint64)%20api.Errno
theorem t83 : tyOf Try.prog 83 = some ⟨4, 48, [.slice none 0 0, .int .i64 0, .int .i64 0, .bool false], .strct [(0, 28), (1, 3), (2, 3), (3, 4)] true⟩ := by kernel_rfl -- struct%20{%20All%20[]uint8;%20Taken%20int;%20From%20int;%20O
theorem t84 : tyOf Try.prog 84 = some ⟨4, 48, [.slice none 0 0, .int .i64 0, .int .i64 0, .bool false], .strct [(0, 28), (1, 3), (2, 3), (3, 4)] true⟩ := by kernel_rfl -- mortiseref03.Input
theorem t85 : tyOf Try.prog 85 = some ⟨1, 8, [.nilFunc], .fn⟩ := by kernel_rfl -- func([]uint8,%20int,%20int,%20uint64)%20int
theorem t87 : tyOf Try.prog 87 = some ⟨1, 8, [.nilFunc], .fn⟩ := by kernel_rfl -- func([]uint8,%20int,%20int)%20([]uint8,%20api.Errno)
theorem t88 : tyOf Try.prog 88 = some ⟨1, 8, [.nilFunc], .fn⟩ := by kernel_rfl -- func(uint64,%20int)%20bool
theorem t89 : tyOf Try.prog 89 = some ⟨1, 8, [.nilFunc], .fn⟩ := by kernel_rfl -- func(int,%20int,%20int)%20bool
theorem t90 : tyOf Try.prog 90 = some ⟨1, 8, [.nilFunc], .fn⟩ := by kernel_rfl -- func(uint64)%20int
theorem t91 : tyOf Try.prog 91 = some ⟨1, 8, [.int .u64 0], .int .u64⟩ := by kernel_rfl -- uint
theorem t92 : tyOf Try.prog 92 = some ⟨1, 8, [.nilFunc], .fn⟩ := by kernel_rfl -- func()%20string
theorem t95 : tyOf Try.prog 95 = some ⟨0, 0, [], .arr 0 16⟩ := by kernel_rfl -- [0]*runtime.PanicNilError
theorem t96 : tyOf Try.prog 96 = some ⟨0, 0, [], .strct [(0, 95)] false⟩ := by kernel_rfl -- struct%20{%20_%20[0]*runtime.PanicNilError%20}
theorem t97 : tyOf Try.prog 97 = some ⟨0, 0, [], .strct [(0, 95)] false⟩ := by kernel_rfl -- runtime.PanicNilError
theorem t98 : tyOf Try.prog 98 = some ⟨1, 4, [.int .u32 0], .int .u32⟩ := by kernel_rfl -- uint32
theorem t99 : tyOf Try.prog 99 = some ⟨1, 1, [.int .u8 0], .int .u8⟩ := by kernel_rfl -- abi.TFlag
theorem t100 : tyOf Try.prog 100 = some ⟨1, 1, [.int .u8 0], .int .u8⟩ := by kernel_rfl -- abi.Kind
theorem t101 : tyOf Try.prog 101 = some ⟨1, 8, [.nilFunc], .fn⟩ := by kernel_rfl -- func(unsafe.Pointer,%20unsafe.Pointer)%20bool
theorem t102 : tyOf Try.prog 102 = some ⟨1, 8, [.pointer none], .ptr 5⟩ := by kernel_rfl -- *uint8
theorem t103 : tyOf Try.prog 103 = some ⟨1, 4, [.int .i32 0], .int .i32⟩ := by kernel_rfl -- abi.NameOff
theorem t104 : tyOf Try.prog 104 = some ⟨1, 4, [.int .i32 0], .int .i32⟩ := by kernel_rfl -- abi.TypeOff
attribute [go_sem] t1 t2 t3 t4 t5 t6 t7 t8 t9 t10 t11 t12 t15 t16 t17 t20 t21 t22 t23 t24 t26 t27 t28 t29 t30 t31 t32 t33 t34 t35 t36 t37 t38 t39 t40 t41 t42 t43 t44 t45 t46 t48 t50 t51 t52 t54 t56 t57 t58 t59 t60 t61 t63 t64 t65 t66 t67 t68 t69 t71 t72 t73 t74 t75 t76 t77 t78 t79 t80 t81 t82 t83 t84 t85 t87 t88 t89 t90 t91 t92 t95 t96 t97 t98 t99 t100 t101 t102 t103 t104
end Go.Proofs.Ytopcfnlcapibgaa
end
section
namespace Go.Proofs.Ytopcfnlcapibgaa
open Go.RowKit
/-! Lists of numbers as abstract values. -/
def v8 (zs : List Int) : List (List AV) := zs.map fun z => [.v (.int .i64 z)]
theorem v8_nil : v8 [] = [] := rfl
theorem v8_len (zs : List Int) : (v8 zs).length = zs.length := by simp [v8]
theorem v8_get {zs : List Int} {k : Nat} (h : k < zs.length) : (v8 zs)[k]? = some [.v (.int .i64 zs[k])] := by simp [v8, h]
theorem v8_app (zs : List Int) (z : Int) : v8 zs ++ [[.v (.int .i64 z)]] = v8 (zs ++ [z]) := by simp [v8]
theorem v8_take (zs : List Int) (n : Nat) : (v8 zs).take n = v8 (zs.take n) := by simp [v8]
theorem wrap_i64 {n : Int} (h : -9223372036854775808 ≤ n ∧ n ≤ 9223372036854775807) : IntKind.i64.wrap n = n := IntWalk.i64_in _ (by omega)
theorem take_len {α : Type} {l : List α} {k : Nat} (h : l.length ≤ k) : l.take k = l := List.take_of_length_le h
end Go.Proofs.Ytopcfnlcapibgaa
end

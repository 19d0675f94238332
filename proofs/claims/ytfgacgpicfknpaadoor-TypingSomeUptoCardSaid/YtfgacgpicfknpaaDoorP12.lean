import Derived.Deep.DeepHandedRow
import Derived.Lib.LaidTab
import Derived.OpenShut
import Derived.Test.YtfgacgpicfknpaaDoorP11
set_option linter.all false
section
namespace Go.Proofs.YtfgacgpicfknpaaDoor
open Go.ChangeShapes Go.WideShapes Go.ChangeAt Go.RowKit
/-! What came in, as lists of plain Lean. -/
set_option maxRecDepth 100000
section
variable {P : Program} {B n : Nat} {t e : TypeId} {us : List AV}
theorem td_int {k : IntKind} (ht : P.underlying t = some (.int k)) (h : Typed P B (n + 1) t us) : ∃ z, us = [.v (.int k z)] ∧ (Lit.int k z).wf = true := by
  unfold Typed at h; rw [ht] at h; exact h
theorem td_bool (ht : P.underlying t = some .bool) (h : Typed P B (n + 1) t us) : ∃ b, us = [.v (.bool b)] := by
  unfold Typed at h; rw [ht] at h; exact h
theorem td_str (ht : P.underlying t = some .string) (h : Typed P B (n + 1) t us) : ∃ s : ByteArray, us = [.v (.string s)] ∧ s.size ≤ B := by
  unfold Typed at h; rw [ht] at h; exact h
theorem tl_cons {ts : List TypeId} {as' : List AV} (h : TypedL P B n (t :: ts) as') : ∃ x xs, as' = x :: xs ∧ TypedA P B n t x ∧ TypedL P B n ts xs := by
  cases as' with
  | nil => exact h.elim
  | cons x xs => exact ⟨x, xs, rfl, h.1, h.2⟩
theorem tl_nil {as' : List AV} (h : TypedL P B n [] as') : as' = [] := by
  cases as' with
  | nil => rfl
  | cons x xs => exact h.elim
theorem td_struct {fs : Array Field} {k : Nat} (ht : P.underlying t = some (.struct fs)) (hk : P.cellsOf t = k) (h : Typed P B (n + 1) t us) : us.length = k ∧ ∀ (i : Nat) (f : Field), fs[i]? = some f → Typed P B n f.type ((us.drop f.offset).take (P.cellsOf f.type)) := by
  unfold Typed at h; rw [ht, hk] at h; exact h
theorem td_argS {fs : Array Field} {x : AV} (ht : P.underlying t = some (.struct fs)) (h : TypedA P B n t x) : ∃ us, x = .agg us ∧ Typed P B n t us := by
  unfold TypedA at h; rw [ht] at h; exact h
theorem td_list {α : Type} {xs : List (List AV)} {enc : α → List AV} {p : α → Prop} (h : ∀ cs ∈ xs, ∃ a, cs = enc a ∧ p a) : ∃ l : List α, xs = l.map enc ∧ ∀ a ∈ l, p a := by
  induction xs with
  | nil => exact ⟨[], rfl, fun a h => by cases h⟩
  | cons x xs ih =>
    obtain ⟨a, rfl, ha⟩ := h x (.head _)
    obtain ⟨l, rfl, hl⟩ := ih fun cs hcs => h cs (.tail _ hcs)
    exact ⟨a :: l, rfl, fun b hb => by rcases List.mem_cons.1 hb with rfl | hb; (· exact ha); exact hl b hb⟩
theorem td_slice {α : Type} {enc : α → List AV} {p : α → Prop} {k : Nat} (ht : P.underlying t = some (.slice e)) (hk : P.cellsOf e = k) (h : Typed P B (n + 1) t us) (he : ∀ cs, Typed P B n e cs → ∃ a, cs = enc a ∧ p a) :
    ∃ l : List α, us = [.lst k (l.map enc)] ∧ l.length ≤ B ∧ ∀ a ∈ l, p a := by
  unfold Typed at h
  rw [ht] at h
  obtain ⟨xs, rfl, h1, h2⟩ := h
  obtain ⟨l, rfl, h3⟩ := td_list (enc := enc) (p := p) fun cs hcs => he cs (h2 cs hcs).2
  exact ⟨l, by rw [hk], by simpa using h1, h3⟩
theorem td_ints {k : IntKind} (ht : P.underlying t = some (.slice e)) (he : P.underlying e = some (.int k)) (hk : P.cellsOf e = 1) (h : Typed P B (n + 2) t us) :
    ∃ l : List Int, us = [.lst 1 (l.map fun z => [.v (.int k z)])] ∧ l.length ≤ B ∧ ∀ z ∈ l, (Lit.int k z).wf = true :=
  td_slice ht hk h fun cs hcs => by obtain ⟨z, h1, h2⟩ := td_int he hcs; exact ⟨z, h1, h2⟩
end
def PartOK (B : Nat) (p : PartM) : Prop := p.label.size ≤ B ∧ I64 p.tag ∧ I64 p.ty
def TypeOK (B : Nat) (t : TypeM) : Prop := I64 t.kind ∧ I64 t.n ∧ I64 t.elem ∧ t.parts.length ≤ B ∧ ∀ p ∈ t.parts, PartOK B p
def RootOK (B : Nat) (r : RootM) : Prop := r.name.size ≤ B ∧ I64 r.ty
theorem c_int : (Tryd.prog).cellsOf 3 = 1 := by kernel_rfl
theorem c_str : (Tryd.prog).cellsOf 9 = 1 := by kernel_rfl
theorem c_parts : (Tryd.prog).cellsOf 64 = 1 := by kernel_rfl
theorem c_part : (Tryd.prog).cellsOf 68 = 3 := by kernel_rfl
theorem c_type : (Tryd.prog).cellsOf 66 = 4 := by kernel_rfl
theorem c_root : (Tryd.prog).cellsOf 70 = 2 := by kernel_rfl
theorem c_types : (Tryd.prog).cellsOf 22 = 1 := by kernel_rfl
theorem c_roots : (Tryd.prog).cellsOf 23 = 1 := by kernel_rfl
theorem c_schema : (Tryd.prog).cellsOf 25 = 2 := by kernel_rfl
theorem td_part {B n : Nat} {us : List AV} (h : Typed Tryd.prog B (n + 2) 68 us) : ∃ p, us = encP p ∧ PartOK B p := by
  obtain ⟨hl, hf⟩ := td_struct Tryd.underlying68 c_part h
  have h0 : Typed Tryd.prog B _ 9 ((us.drop 0).take ((Tryd.prog).cellsOf 9)) := hf 0 _ rfl
  have h1 : Typed Tryd.prog B _ 3 ((us.drop 1).take ((Tryd.prog).cellsOf 3)) := hf 1 _ rfl
  have h2 : Typed Tryd.prog B _ 3 ((us.drop 2).take ((Tryd.prog).cellsOf 3)) := hf 2 _ rfl
  match us, hl, h0, h1, h2 with
  | [u0, u1, u2], _, h0, h1, h2 =>
  simp only [c_str, c_int, List.drop_zero, List.drop_succ_cons, List.take_succ_cons, List.take_zero] at h0 h1 h2
  obtain ⟨s, g1, g2⟩ := td_str Tryd.underlying9 h0
  obtain ⟨a, g3, g4⟩ := td_int Tryd.underlying3 h1
  obtain ⟨b, g5, g6⟩ := td_int Tryd.underlying3 h2
  injection g1 with g1; injection g3 with g3; injection g5 with g5
  subst g1; subst g3; subst g5
  exact ⟨⟨s, a, b⟩, rfl, g2, I64.of_wf g4, I64.of_wf g6⟩
theorem td_root {B n : Nat} {us : List AV} (h : Typed Tryd.prog B (n + 2) 70 us) : ∃ r, us = encR r ∧ RootOK B r := by
  obtain ⟨hl, hf⟩ := td_struct Tryd.underlying70 c_root h
  have h0 : Typed Tryd.prog B _ 9 ((us.drop 0).take ((Tryd.prog).cellsOf 9)) := hf 0 _ rfl
  have h1 : Typed Tryd.prog B _ 3 ((us.drop 1).take ((Tryd.prog).cellsOf 3)) := hf 1 _ rfl
  match us, hl, h0, h1 with
  | [u0, u1], _, h0, h1 =>
  simp only [c_str, c_int, List.drop_zero, List.drop_succ_cons, List.take_succ_cons, List.take_zero] at h0 h1
  obtain ⟨s, g1, g2⟩ := td_str Tryd.underlying9 h0
  obtain ⟨a, g3, g4⟩ := td_int Tryd.underlying3 h1
  injection g1 with g1; injection g3 with g3
  subst g1; subst g3
  exact ⟨⟨s, a⟩, rfl, g2, I64.of_wf g4⟩
theorem td_type {B n : Nat} {us : List AV} (h : Typed Tryd.prog B (n + 4) 66 us) : ∃ t, us = encT t ∧ TypeOK B t := by
  obtain ⟨hl, hf⟩ := td_struct Tryd.underlying66 c_type h
  have h0 : Typed Tryd.prog B _ 3 ((us.drop 0).take ((Tryd.prog).cellsOf 3)) := hf 0 _ rfl
  have h1 : Typed Tryd.prog B _ 3 ((us.drop 1).take ((Tryd.prog).cellsOf 3)) := hf 1 _ rfl
  have h2 : Typed Tryd.prog B _ 3 ((us.drop 2).take ((Tryd.prog).cellsOf 3)) := hf 2 _ rfl
  have h3 : Typed Tryd.prog B _ 64 ((us.drop 3).take ((Tryd.prog).cellsOf 64)) := hf 3 _ rfl
  match us, hl, h0, h1, h2, h3 with
  | [u0, u1, u2, u3], _, h0, h1, h2, h3 =>
  simp only [c_parts, c_int, List.drop_zero, List.drop_succ_cons, List.take_succ_cons, List.take_zero] at h0 h1 h2 h3
  obtain ⟨a, g1, g2⟩ := td_int Tryd.underlying3 h0
  obtain ⟨b, g3, g4⟩ := td_int Tryd.underlying3 h1
  obtain ⟨c, g5, g6⟩ := td_int Tryd.underlying3 h2
  obtain ⟨l, g7, g8, g9⟩ := td_slice Tryd.underlying64 c_part h3 (fun cs => td_part)
  injection g1 with g1; injection g3 with g3; injection g5 with g5; injection g7 with g7
  subst g1; subst g3; subst g5; subst g7
  exact ⟨⟨a, b, c, l⟩, rfl, I64.of_wf g2, I64.of_wf g4, I64.of_wf g6, g8, g9⟩
theorem td_schema {B n : Nat} {x : AV} (h : TypedA Tryd.prog B (n + 6) 25 x) : ∃ ts rs, x = vSch ts rs ∧ ts.length ≤ B ∧ rs.length ≤ B ∧ (∀ t ∈ ts, TypeOK B t) ∧ ∀ r ∈ rs, RootOK B r := by
  obtain ⟨us, rfl, h'⟩ := td_argS Tryd.underlying25 h
  obtain ⟨hl, hf⟩ := td_struct Tryd.underlying25 c_schema h'
  have h0 : Typed Tryd.prog B _ 22 ((us.drop 0).take ((Tryd.prog).cellsOf 22)) := hf 0 _ rfl
  have h1 : Typed Tryd.prog B _ 23 ((us.drop 1).take ((Tryd.prog).cellsOf 23)) := hf 1 _ rfl
  match us, hl, h0, h1 with
  | [u0, u1], _, h0, h1 =>
  simp only [c_types, c_roots, List.drop_zero, List.drop_succ_cons, List.take_succ_cons, List.take_zero] at h0 h1
  obtain ⟨ts, g1, g2, g3⟩ := td_slice Tryd.underlying22 c_type h0 (fun cs => td_type)
  obtain ⟨rs, g4, g5, g6⟩ := td_slice Tryd.underlying23 c_root h1 (fun cs => td_root)
  injection g1 with g1; injection g4 with g4
  subst g1; subst g4
  exact ⟨ts, rs, rfl, g2, g5, g3, g6⟩
/-- a list of integers as a parameter -/
theorem td_arg_ints {P : Program} {B n : Nat} {t e : TypeId} {x : AV} {k : IntKind} (ht : P.underlying t = some (.slice e)) (he : P.underlying e = some (.int k)) (hk : P.cellsOf e = 1) (h : TypedA P B (n + 2) t x) :
    ∃ l : List Int, x = .lst 1 (l.map fun z => [.v (.int k z)]) ∧ l.length ≤ B ∧ ∀ z ∈ l, (Lit.int k z).wf = true := by
  unfold TypedA at h
  rw [ht] at h
  obtain ⟨l, h1, h2, h3⟩ := td_ints ht he hk h
  injection h1 with h1
  exact ⟨l, h1, h2, h3⟩
theorem td_arg_int {P : Program} {B n : Nat} {t : TypeId} {x : AV} {k : IntKind} (ht : P.underlying t = some (.int k)) (h : TypedA P B (n + 1) t x) : ∃ z, x = .v (.int k z) ∧ (Lit.int k z).wf = true := by
  unfold TypedA at h
  rw [ht] at h
  obtain ⟨z, h1, h2⟩ := td_int ht h
  injection h1 with h1
  exact ⟨z, h1, h2⟩
end Go.Proofs.YtfgacgpicfknpaaDoor
end
section
namespace Go.Proofs.YtfgacgpicfknpaaDoor
open Go.ChangeShapes Go.WideShapes Go.ChangeAt Go.RowKit
/-! Nodes that came in. -/
set_option maxRecDepth 100000
theorem c_u64 : (Tryd.prog).cellsOf 41 = 1 := by kernel_rfl
theorem c_node : (Tryd.prog).cellsOf 43 = 3 := by kernel_rfl
theorem td_node {B n : Nat} {us : List AV} (h : Typed Tryd.prog B (n + 2) 43 us) : ∃ x, us = encN x ∧ nodeOK x := by
  obtain ⟨hl, hf⟩ := td_struct Tryd.underlying43 c_node h
  have h0 : Typed Tryd.prog B _ 3 ((us.drop 0).take ((Tryd.prog).cellsOf 3)) := hf 0 _ rfl
  have h1 : Typed Tryd.prog B _ 41 ((us.drop 1).take ((Tryd.prog).cellsOf 41)) := hf 1 _ rfl
  have h2 : Typed Tryd.prog B _ 3 ((us.drop 2).take ((Tryd.prog).cellsOf 3)) := hf 2 _ rfl
  match us, hl, h0, h1, h2 with
  | [u0, u1, u2], _, h0, h1, h2 =>
  simp only [c_u64, c_int, List.drop_zero, List.drop_succ_cons, List.take_succ_cons, List.take_zero] at h0 h1 h2
  obtain ⟨a, g1, g2⟩ := td_int Tryd.underlying3 h0
  obtain ⟨b, g3, g4⟩ := td_int Tryd.underlying41 h1
  obtain ⟨c, g5, g6⟩ := td_int Tryd.underlying3 h2
  injection g1 with g1; injection g3 with g3; injection g5 with g5
  subst g1; subst g3; subst g5
  have hb := U64.of_wf g4
  exact ⟨⟨a, b, c⟩, rfl, I64.of_wf g2, I64.of_wf g6, hb.1, by have := hb.2; simp only; omega⟩
theorem td_nodes {B n : Nat} {x : AV} (h : TypedA Tryd.prog B (n + 3) 26 x) : ∃ l : List NodeM, x = .lst 3 (encNs l) ∧ l.length ≤ B ∧ ∀ y ∈ l, nodeOK y := by
  unfold TypedA at h
  rw [Tryd.underlying26] at h
  obtain ⟨l, h1, h2, h3⟩ := td_slice (enc := encN) Tryd.underlying26 c_node h (fun cs hcs => td_node hcs)
  injection h1 with h1
  exact ⟨l, h1, h2, h3⟩
theorem td_arg_node {B n : Nat} {x : AV} (h : TypedA Tryd.prog B (n + 2) 43 x) : ∃ y : NodeM, x = .agg [vI y.kind, .v (.int .u64 y.n), vI y.kids] ∧ nodeOK y := by
  obtain ⟨us, rfl, h'⟩ := td_argS Tryd.underlying43 h
  obtain ⟨y, rfl, hy⟩ := td_node h'
  exact ⟨y, rfl, hy⟩
end Go.Proofs.YtfgacgpicfknpaaDoor
end
section
namespace Go.Proofs.YtfgacgpicfknpaaDoor
open Go.RowKit
set_option maxRecDepth 100000
set_option maxHeartbeats 8000000
/-! TypingFirst. -/
theorem encNs_set (l : List NodeM) (k : Nat) (x : NodeM) : (encNs l).set k (encN x) = encNs (l.set k x) := by simp [encNs, List.map_set]
theorem encNs_nm (l : List NodeM) : ∀ cs ∈ encNs l, ∀ u ∈ cs, ∃ x, u = .v x := by
  intro cs hcs u hu
  obtain ⟨z, _, rfl⟩ := List.mem_map.1 hcs
  simp only [encN, vU, List.mem_cons, List.not_mem_nil, or_false] at hu
  rcases hu with rfl | rfl | rfl <;> exact ⟨_, rfl⟩
theorem set_ok {l : List NodeM} (h : ∀ x ∈ l, nodeOK x) {k : Nat} {y : NodeM} (hy : nodeOK y) : ∀ x ∈ l.set k y, nodeOK x := fun x hx => by
  rcases List.mem_or_eq_of_mem_set hx with h1 | rfl
  · exact h x h1
  · exact hy
theorem ok_right : ∀ (n : Nat) (c : Tr), c.flat.length ≤ n → c.ok → ∀ x ∈ c.flat, rightN x = true
  | 0, c, h => absurd (flat_pos c) (by omega)
  | n + 1, .node y ks, h => fun ⟨h1, _, h3⟩ x hx => by
    simp only [Tr.flat, List.length_cons] at h
    have hL : ∀ (l : List Tr), (∀ c ∈ l, c.flat.length ≤ n) → Tr.ok.okL l → ∀ x ∈ Tr.flat.flatL l, rightN x = true := by
      intro l
      induction l with
      | nil => intro _ _ x hx; cases hx
      | cons c cs ih =>
        intro hc ho x hx
        simp only [Tr.flat.flatL, List.mem_append] at hx
        rcases hx with hx | hx
        · exact ok_right n c (hc c (.head _)) ho.1 x hx
        · exact ih (fun d hd => hc d (.tail _ hd)) ho.2 x hx
    simp only [Tr.flat, List.mem_cons] at hx
    rcases hx with rfl | hx
    · exact h1
    · exact hL ks (fun c hc => by have := flatL_mem hc; omega) h3 x hx
/-- another number in a node behind the fault -/
theorem first_up {ts : List TypeM} {j : Nat} {F1 F2 : Int} {L : Nat} {d : Tr} (hdo : d.ok) (hno : ∀ x ∈ d.flat, nodeOK x) (hdl : d.flat.length = L) (hF : (d.walk ts j 0 []).2.2 = (F1, F2)) (hF0 : F1 ≠ 0) {k : Nat} (hk : k < d.flat.length) (hkF : F2 < k)
    {y : NodeM} (hy : d.flat[k] = y) {W : Int} (hW : 0 ≤ W ∧ W < 18446744073709551616) (hr : rightN ⟨y.kind, W, y.kids⟩ = true) :
    ∃ e : Tr, (encNs d.flat).set k [vI y.kind, .v (.int .u64 W), vI y.kids] = encNs e.flat ∧ e.ok ∧ (∀ x ∈ e.flat, nodeOK x) ∧ e.flat.length = L ∧ (e.walk ts j 0 []).2.2 = (F1, F2) := by
  have hyo := hno _ (List.getElem_mem hk)
  rw [hy] at hyo
  have hpf := put_flat _ d (Nat.le_refl _) k ⟨y.kind, W, y.kids⟩
  refine ⟨d.put k ⟨y.kind, W, y.kids⟩, ?_, put_ok _ d (Nat.le_refl _) hdo k _ hr ?_, ?_, by rw [put_len]; exact hdl, ?_⟩
  · rw [hpf, ← encNs_set]; rfl
  · intro z hz
    rw [List.getElem?_eq_getElem hk, hy] at hz
    injection hz with hz
    rw [hz]
  · rw [hpf]; exact set_ok hno ⟨hyo.1, hyo.2.1, hW⟩
  · rw [walk_put _ d (Nat.le_refl _) j k _ 0 [] (by rw [hF]; exact hF0) (by rw [hF]; simp only; omega), hF]
theorem first_any (ts0 : List TypeM) (rs0 : List RootM) (hts : ts0.length ≤ 1048576) (hrs : rs0.length ≤ 1048576) (hp : ∀ t ∈ ts0, t.parts.length ≤ 1000000000) (a : Int) (ha : I64 a) (ps : List Int) (hps : ps.length ≤ 1048576)
    (b : Int) (hb : I64 b) (x : NodeM) (hx : nodeOK x) (more : List Int) (hmore : more.length ≤ 1048576) (hmo : ∀ z ∈ more, I64 z) :
    PCall Tryd.prog 7 [vSch ts0 rs0, vI a, .lst 1 (v8 ps), vI b, .agg [vI x.kind, .v (.int .u64 x.n), vI x.kids], .lst 1 (v8 more)] (fun r => r = vB true) := by
  refine go_fn (tyOf_ok _) Tryd.func7 rfl rfl (by rw [Tryd.results7]) Tryd.ntmps7 rfl fun E => ?_
  have hM := made_any ts0 rs0 hts hrs hp a ha ps hps
  have hl0 := cutT_len ts0
  have hrl0 : (rs0.take 260).length ≤ 260 := by simp; omega
  have hpp := cutT_parts (ts := ts0)
  generalize cutT ts0 = ts at *
  generalize rs0.take 260 = rs at *
  have hpp' : ∀ t ∈ ts, t.parts.length ≤ 1000000000 := fun t ht => by have := hpp t ht; omega
  have haw := awake11
  unfold vSch at hM
  (repeat' (first
    | exact trivial
    | (with_reducible first | refine awA ?_ | refine awB ?_ | refine awC ?_ | refine awD ?_ | refine awE ?_ | refine awF ?_ | refine awG ?_ | refine awH ?_ | refine awI ?_ | refine awJ ?_ | refine awK ?_ | refine awL ?_ | refine awM (by decide) ?_)
    | (refine aw_draw (id := 22) (t := (.node [0, 1, 2, 3, 4, 5, 6, 7, 8, 9, 10, 11, 12, 13, 14, 15] [])) (drR [] [114, 118] []) mixed (by kernel_rfl) (by kernel_rfl) (fun _ _ h => h) ?_)
    | (refine aw_draw (id := 27) (t := (.node [0, 1, 2, 4, 3, 5] [])) (drR [13, 19] [] []) mixed (by kernel_rfl) (by kernel_rfl) (fun _ _ h => h) ?_)
    | (refine at_done (by simp only [List.filterMap_cons, List.filterMap_nil, List.getElem?_toArray, List.getElem?_cons_zero, List.getElem?_cons_succ]; exact rfl) ?_) | (refine at_alt (by simp only [List.filterMap_cons, List.filterMap_nil, List.getElem?_toArray, List.getElem?_cons_zero, List.getElem?_cons_succ]; exact rfl) ?_) | refine qalt_normal ?_ | refine ats_cons ?_ ?_ | exact ats_nil
    | ((with_reducible first | refine awN (tyOf_ok _) [] ?_ | refine awO (tyOf_ok _) [] ?_ | refine awP (tyOf_ok _) [] ?_ | refine awQ ?_ | refine awR ?_ | refine awS ?_); intro r hr; simp only [go_sem, Nat.reduceBEq, Nat.reduceBneDiff, Nat.reduceLT, Nat.reduceLeDiff, Nat.reduceAdd, Nat.reduceMul, Nat.reduceSub, Nat.reduceEqDiff, reduceCtorEq, vSch] at hr; subst hr; (first | refine caA (fun _ => haw) rfl ?_ ?_ ?_ | refine caD (hM) rfl ?_ ?_ (fun r hr => hold ?_) | refine awV ?_ ?_ | refine awW ?_ ?_ | refine endK ?_ ?_ | (refine condK (fun h => ?_) (fun h => ?_) <;> (try simp only [go_sem, reduceCtorEq] at h) <;> (try (exfalso; omega))))) | fail)) <;> (try omega)
  refine ⟨?_⟩
  rcases hr with rfl | ⟨rfl, h0, hn⟩
  · (repeat' (first
    | exact trivial
    | (with_reducible first | refine awA ?_ | refine awB ?_ | refine awC ?_ | refine awD ?_ | refine awE ?_ | refine awF ?_ | refine awG ?_ | refine awH ?_ | refine awI ?_ | refine awJ ?_ | refine awK ?_ | refine awL ?_ | refine awM (by decide) ?_)
    | (refine aw_draw (id := 22) (t := (.node [0, 1, 2, 3, 4, 5, 6, 7, 8, 9, 10, 11, 12, 13, 14, 15] [])) (drR [] [114, 118] []) mixed (by kernel_rfl) (by kernel_rfl) (fun _ _ h => h) ?_)
    | (refine aw_draw (id := 27) (t := (.node [0, 1, 2, 4, 3, 5] [])) (drR [13, 19] [] []) mixed (by kernel_rfl) (by kernel_rfl) (fun _ _ h => h) ?_)
    | (refine at_done (by simp only [List.filterMap_cons, List.filterMap_nil, List.getElem?_toArray, List.getElem?_cons_zero, List.getElem?_cons_succ]; exact rfl) ?_) | (refine at_alt (by simp only [List.filterMap_cons, List.filterMap_nil, List.getElem?_toArray, List.getElem?_cons_zero, List.getElem?_cons_succ]; exact rfl) ?_) | refine qalt_normal ?_ | refine ats_cons ?_ ?_ | exact ats_nil
    | ((with_reducible first | refine awN (tyOf_ok _) [] ?_ | refine awO (tyOf_ok _) [] ?_ | refine awP (tyOf_ok _) [] ?_ | refine awQ ?_ | refine awR ?_ | refine awS ?_); intro r hr; simp only [go_sem, Nat.reduceBEq, Nat.reduceBneDiff, Nat.reduceLT, Nat.reduceLeDiff, Nat.reduceAdd, Nat.reduceMul, Nat.reduceSub, Nat.reduceEqDiff, reduceCtorEq, vSch] at hr; subst hr; (first | refine awV ?_ ?_ | refine awW ?_ ?_ | refine endK ?_ ?_ | (refine condK (fun h => ?_) (fun h => ?_) <;> (try simp only [go_sem, reduceCtorEq] at h) <;> (try (exfalso; omega))))) | fail)) <;> (try omega)
    all_goals exact rfl
  obtain ⟨j, hj⟩ : ∃ j : Nat, a % (ts.length : Int) = j := ⟨(a % (ts.length : Int)).toNat, by
    have := Int.emod_nonneg a (show (ts.length : Int) ≠ 0 by omega)
    omega⟩
  have hjl : j < ts.length := by
    have := Int.emod_lt_of_pos a (show 0 < (ts.length : Int) by omega)
    omega
  rw [hj]
  have hqs := tameF_len ts (ps.take 300)
  simp only [List.length_take] at hqs
  generalize tameF ts (ps.take 300) = qs at *
  have hS := tSome_G ts rs (by omega) (by omega) hpp' j qs (by omega)
  unfold vSch at hS
  rcases some_cases (rs := rs) h0 hjl qs with h5 | ⟨h5, c, _, hc1, hty, hnd, hcl⟩
  · rw [h5] at hS
    generalize (someF ts rs j qs).1 = F at *
    (repeat' (first
    | exact trivial
    | (with_reducible first | refine awA ?_ | refine awB ?_ | refine awC ?_ | refine awD ?_ | refine awE ?_ | refine awF ?_ | refine awG ?_ | refine awH ?_ | refine awI ?_ | refine awJ ?_ | refine awK ?_ | refine awL ?_ | refine awM (by decide) ?_)
    | (refine aw_draw (id := 22) (t := (.node [0, 1, 2, 3, 4, 5, 6, 7, 8, 9, 10, 11, 12, 13, 14, 15] [])) (drR [] [114, 118] []) mixed (by kernel_rfl) (by kernel_rfl) (fun _ _ h => h) ?_)
    | (refine aw_draw (id := 27) (t := (.node [0, 1, 2, 4, 3, 5] [])) (drR [13, 19] [] []) mixed (by kernel_rfl) (by kernel_rfl) (fun _ _ h => h) ?_)
    | (refine at_done (by simp only [List.filterMap_cons, List.filterMap_nil, List.getElem?_toArray, List.getElem?_cons_zero, List.getElem?_cons_succ]; exact rfl) ?_) | (refine at_alt (by simp only [List.filterMap_cons, List.filterMap_nil, List.getElem?_toArray, List.getElem?_cons_zero, List.getElem?_cons_succ]; exact rfl) ?_) | refine qalt_normal ?_ | refine ats_cons ?_ ?_ | exact ats_nil
    | ((with_reducible first | refine awN (tyOf_ok _) [] ?_ | refine awO (tyOf_ok _) [] ?_ | refine awP (tyOf_ok _) [] ?_ | refine awQ ?_ | refine awR ?_ | refine awS ?_); intro r hr; simp only [go_sem, Nat.reduceBEq, Nat.reduceBneDiff, Nat.reduceLT, Nat.reduceLeDiff, Nat.reduceAdd, Nat.reduceMul, Nat.reduceSub, Nat.reduceEqDiff, reduceCtorEq, vSch] at hr; subst hr; (first | refine caA (fun _ => num11_any _) rfl ?_ ?_ ?_ | refine awV ?_ ?_ | refine awW ?_ ?_ | refine endK ?_ ?_ | (refine condK (fun h => ?_) (fun h => ?_) <;> (try simp only [go_sem, reduceCtorEq] at h) <;> (try (exfalso; omega)))))
    | (refine go_callGd 39 rfl [] [(8000, 39)] [39] [] (by simp only [go_sem, Nat.reduceBEq, Nat.reduceBneDiff, Nat.reduceLT, Nat.reduceLeDiff, Nat.reduceAdd, Nat.reduceMul, Nat.reduceSub, Nat.reduceEqDiff, reduceCtorEq, vSch]; exact rfl) ?_ rfl rfl (by first | exact .inl rfl | exact .inr rfl) (by simp only [go_sem, Nat.reduceBEq, Nat.reduceBneDiff, Nat.reduceLT, Nat.reduceLeDiff, Nat.reduceAdd, Nat.reduceMul, Nat.reduceSub, Nat.reduceEqDiff, reduceCtorEq, vSch] <;> exact rfl) (hS) (.inr ⟨rfl, ?_⟩) ?_) | fail)) <;> (try omega)
    all_goals first | exact rfl | exact ⟨encNs_nm _, trivial⟩
  rw [h5, ← hc1] at hS
  have hok := typed_ok _ c (Nat.le_refl _) j hty
  have hpos := flat_pos c
  have hL0 : ((c.flat.length : Int) = 0) = False := eq_false (by omega)
  have hre := rest11_any b c.flat.length hb (by omega)
  obtain ⟨k, hk⟩ : ∃ k : Nat, b % (c.flat.length : Int) = k := ⟨(b % (c.flat.length : Int)).toNat, by
    have := Int.emod_nonneg b (show (c.flat.length : Int) ≠ 0 by omega)
    omega⟩
  have hkl : k < c.flat.length := by
    have := Int.emod_lt_of_pos b (show 0 < (c.flat.length : Int) by omega)
    omega
  rw [hk] at hre
  have g1 := encNs_get hkl
  have zk : ((k : Int)).toNat = k := by omega
  obtain ⟨y, hy⟩ : ∃ y : NodeM, y = ⟨x.kind, x.n, c.flat[k].kids⟩ := ⟨_, rfl⟩
  have hset := encNs_set c.flat k y
  rw [hy] at hset
  simp only [encN, vU] at hset
  rw [← hy] at hset
  have hyo : nodeOK y := by
    subst hy
    have := hnd _ (List.getElem_mem hkl)
    exact ⟨hx.1, this.2.1, hx.2.2⟩
  have hyk : ∀ z, c.flat[k]? = some z → y.kids = z.kids := fun z hz => by
    rw [List.getElem?_eq_getElem hkl] at hz
    injection hz with hz
    rw [hy, ← hz]
  have hUl : (c.flat.set k y).length = c.flat.length := List.length_set ..
  have hUo := set_ok hnd (k := k) hyo
  have hch := chkL_set c.flat k y 1 0 (chk_flat11 hok) hyk hkl
  have hpf := put_flat _ c (Nat.le_refl _) k y
  cases hry : rightN y with
  | false =>
    rw [hry, if_neg (by simp), Int.zero_add] at hch
    change chkN (c.flat.set k y) = (40, (k : Int)) at hch
    have hC := tCheck_any ts rs (by omega) (by omega) hpp' j (c.flat.set k y) (by omega) hUo c (fun h => by rw [hch] at h; cases h)
    have hT : typesF ts rs j (c.flat.set k y) c = ([], 40, (k : Int)) := by
      unfold typesF
      rw [if_neg (by omega), if_neg (by omega), if_pos (by rw [hch]; simp), hch]
    rw [hT] at hC
    unfold vSch at hC
    have htk : (encNs (c.flat.set k y)).take c.flat.length = encNs (c.flat.set k y) := take_len (by rw [encNs_len, hUl]; exact Nat.le_refl _)
    clear hpf hch hUo hT
    generalize c.flat.set k y = U at *
    (repeat' (first
    | exact trivial
    | (with_reducible first | refine awA ?_ | refine awB ?_ | refine awC ?_ | refine awD ?_ | refine awE ?_ | refine awF ?_ | refine awG ?_ | refine awH ?_ | refine awI ?_ | refine awJ ?_ | refine awK ?_ | refine awL ?_ | refine awM (by decide) ?_)
    | (refine aw_draw (id := 22) (t := (.node [0, 1, 2, 3, 4, 5, 6, 7, 8, 9, 10, 11, 12, 13, 14, 15] [])) (drR [] [114, 118] []) mixed (by kernel_rfl) (by kernel_rfl) (fun _ _ h => h) ?_)
    | (refine aw_draw (id := 27) (t := (.node [0, 1, 2, 4, 3, 5] [])) (drR [13, 19] [] []) mixed (by kernel_rfl) (by kernel_rfl) (fun _ _ h => h) ?_)
    | (refine at_done (by simp only [List.filterMap_cons, List.filterMap_nil, List.getElem?_toArray, List.getElem?_cons_zero, List.getElem?_cons_succ]; exact rfl) ?_) | (refine at_alt (by simp only [List.filterMap_cons, List.filterMap_nil, List.getElem?_toArray, List.getElem?_cons_zero, List.getElem?_cons_succ]; exact rfl) ?_) | refine qalt_normal ?_ | refine ats_cons ?_ ?_ | exact ats_nil
    | ((with_reducible first | refine awN (tyOf_ok _) [] ?_ | refine awO (tyOf_ok _) [] ?_ | refine awP (tyOf_ok _) [] ?_ | refine awQ ?_ | refine awR ?_ | refine awS ?_); intro r hr; simp only [go_sem, Nat.reduceBEq, Nat.reduceBneDiff, Nat.reduceLT, Nat.reduceLeDiff, Nat.reduceAdd, Nat.reduceMul, Nat.reduceSub, Nat.reduceEqDiff, reduceCtorEq, vSch, hL0, g1, zk, hset, hUl, htk, List.drop_zero, Int.cast_ofNat_Int, Int.reduceToNat, Int.reduceEq, Int.reduceLT, Int.reduceLE, Int.reduceNe] at hr; subst hr; (first | refine caA (fun _ => num11_any _) rfl ?_ ?_ ?_ | refine caA (fun _ => hre) rfl ?_ ?_ ?_ | refine caA (fun _ => hC) rfl ?_ ?_ ?_ | refine awV ?_ ?_ | refine awW ?_ ?_ | refine endK ?_ ?_ | (refine condK (fun h => ?_) (fun h => ?_) <;> (try simp only [go_sem, reduceCtorEq] at h) <;> (try (exfalso; omega)))))
    | (refine go_callGd 39 rfl [] [(8000, 39)] [39] [] (by simp only [go_sem, Nat.reduceBEq, Nat.reduceBneDiff, Nat.reduceLT, Nat.reduceLeDiff, Nat.reduceAdd, Nat.reduceMul, Nat.reduceSub, Nat.reduceEqDiff, reduceCtorEq, vSch, hL0, g1, zk, hset, hUl, htk, List.drop_zero, Int.cast_ofNat_Int, Int.reduceToNat, Int.reduceEq, Int.reduceLT, Int.reduceLE, Int.reduceNe]; exact rfl) ?_ rfl rfl (by first | exact .inl rfl | exact .inr rfl) (by simp only [go_sem, Nat.reduceBEq, Nat.reduceBneDiff, Nat.reduceLT, Nat.reduceLeDiff, Nat.reduceAdd, Nat.reduceMul, Nat.reduceSub, Nat.reduceEqDiff, reduceCtorEq, vSch, hL0, g1, zk, hset, hUl, htk, List.drop_zero, Int.cast_ofNat_Int, Int.reduceToNat, Int.reduceEq, Int.reduceLT, Int.reduceLE, Int.reduceNe] <;> exact rfl) (hS) (.inr ⟨rfl, ?_⟩) ?_) | fail)) <;> (try omega)
    all_goals first | exact rfl | exact ⟨encNs_nm _, trivial⟩
  | true =>
  have hdo := put_ok _ c (Nat.le_refl _) hok k y hry hyk
  have hC := tCheck_any ts rs (by omega) (by omega) hpp' j (c.put k y).flat (by rw [hpf, hUl]; omega) (by rw [hpf]; exact hUo) (c.put k y) (fun _ => ⟨rfl, hdo⟩)
  have hT : ∀ d : Tr, d.ok → (typesF ts rs j d.flat d).2 = (d.walk ts j 0 []).2.2 := fun d hd => by
    unfold typesF
    rw [if_neg (by omega), if_neg (by omega), if_neg (by have := chk_flat11 hd; omega), Int.toNat_natCast]
  rw [hT _ hdo] at hC
  have hCk : ∀ d : Tr, d.ok → (∀ x ∈ d.flat, nodeOK x) → d.flat.length ≤ 1048576 → PCall Tryd.prog 11 [.agg [.lst 4 (encTs ts), .lst 2 (encRs rs)], vI j, .lst 3 (encNs d.flat)] (fun r => r = .agg [vI (d.walk ts j 0 []).2.2.1, vI (d.walk ts j 0 []).2.2.2]) := fun d h1 h2 h3 => by
    have h := tCheck_any ts rs (by omega) (by omega) hpp' j d.flat (by omega) h2 d (fun _ => ⟨rfl, h1⟩)
    rw [hT d h1] at h
    exact h
  have hpl := put_len c k y
  have hno : ∀ x ∈ (c.put k y).flat, nodeOK x := by rw [hpf]; exact hUo
  clear hch hUo hT hC
  rw [← hpf] at hset hUl
  clear hpf
  have hC := hCk (c.put k y) hdo hno (by omega)
  generalize c.put k y = d at *
  have htk : (encNs d.flat).take c.flat.length = encNs d.flat := take_len (by rw [encNs_len, hUl]; exact Nat.le_refl _)
  generalize c.flat[k] = z0 at *
  generalize hL : c.flat.length = L at *
  obtain ⟨F1, hF1⟩ : ∃ z, (d.walk ts j 0 []).2.2.1 = z := ⟨_, rfl⟩
  obtain ⟨F2, hF2⟩ : ∃ z, (d.walk ts j 0 []).2.2.2 = z := ⟨_, rfl⟩
  rw [hF1, hF2] at hC
  by_cases h40 : F1 = 40 ∨ F1 = 0
  · rcases h40 with rfl | rfl
    · (repeat' (first
    | exact trivial
    | (with_reducible first | refine awA ?_ | refine awB ?_ | refine awC ?_ | refine awD ?_ | refine awE ?_ | refine awF ?_ | refine awG ?_ | refine awH ?_ | refine awI ?_ | refine awJ ?_ | refine awK ?_ | refine awL ?_ | refine awM (by decide) ?_)
    | (refine aw_draw (id := 22) (t := (.node [0, 1, 2, 3, 4, 5, 6, 7, 8, 9, 10, 11, 12, 13, 14, 15] [])) (drR [] [114, 118] []) mixed (by kernel_rfl) (by kernel_rfl) (fun _ _ h => h) ?_)
    | (refine aw_draw (id := 27) (t := (.node [0, 1, 2, 4, 3, 5] [])) (drR [13, 19] [] []) mixed (by kernel_rfl) (by kernel_rfl) (fun _ _ h => h) ?_)
    | (refine at_done (by simp only [List.filterMap_cons, List.filterMap_nil, List.getElem?_toArray, List.getElem?_cons_zero, List.getElem?_cons_succ]; exact rfl) ?_) | (refine at_alt (by simp only [List.filterMap_cons, List.filterMap_nil, List.getElem?_toArray, List.getElem?_cons_zero, List.getElem?_cons_succ]; exact rfl) ?_) | refine qalt_normal ?_ | refine ats_cons ?_ ?_ | exact ats_nil
    | ((with_reducible first | refine awN (tyOf_ok _) [] ?_ | refine awO (tyOf_ok _) [] ?_ | refine awP (tyOf_ok _) [] ?_ | refine awQ ?_ | refine awR ?_ | refine awS ?_); intro r hr; simp only [go_sem, Nat.reduceBEq, Nat.reduceBneDiff, Nat.reduceLT, Nat.reduceLeDiff, Nat.reduceAdd, Nat.reduceMul, Nat.reduceSub, Nat.reduceEqDiff, reduceCtorEq, vSch, hL0, g1, zk, hset, hUl, htk, List.drop_zero, Int.cast_ofNat_Int, Int.reduceToNat, Int.reduceEq, Int.reduceLT, Int.reduceLE, Int.reduceNe] at hr; subst hr; (first | refine caA (fun _ => num11_any _) rfl ?_ ?_ ?_ | refine caA (fun _ => hre) rfl ?_ ?_ ?_ | refine caA (fun _ => hC) rfl ?_ ?_ ?_ | refine awV ?_ ?_ | refine awW ?_ ?_ | refine endK ?_ ?_ | (refine condK (fun h => ?_) (fun h => ?_) <;> (try simp only [go_sem, reduceCtorEq] at h) <;> (try (exfalso; omega)))))
    | (refine go_callGd 39 rfl [] [(8000, 39)] [39] [] (by simp only [go_sem, Nat.reduceBEq, Nat.reduceBneDiff, Nat.reduceLT, Nat.reduceLeDiff, Nat.reduceAdd, Nat.reduceMul, Nat.reduceSub, Nat.reduceEqDiff, reduceCtorEq, vSch, hL0, g1, zk, hset, hUl, htk, List.drop_zero, Int.cast_ofNat_Int, Int.reduceToNat, Int.reduceEq, Int.reduceLT, Int.reduceLE, Int.reduceNe]; exact rfl) ?_ rfl rfl (by first | exact .inl rfl | exact .inr rfl) (by simp only [go_sem, Nat.reduceBEq, Nat.reduceBneDiff, Nat.reduceLT, Nat.reduceLeDiff, Nat.reduceAdd, Nat.reduceMul, Nat.reduceSub, Nat.reduceEqDiff, reduceCtorEq, vSch, hL0, g1, zk, hset, hUl, htk, List.drop_zero, Int.cast_ofNat_Int, Int.reduceToNat, Int.reduceEq, Int.reduceLT, Int.reduceLE, Int.reduceNe] <;> exact rfl) (hS) (.inr ⟨rfl, ?_⟩) ?_) | fail)) <;> (try omega)
      all_goals first | exact rfl | exact ⟨encNs_nm _, trivial⟩
    · (repeat' (first
    | exact trivial
    | (with_reducible first | refine awA ?_ | refine awB ?_ | refine awC ?_ | refine awD ?_ | refine awE ?_ | refine awF ?_ | refine awG ?_ | refine awH ?_ | refine awI ?_ | refine awJ ?_ | refine awK ?_ | refine awL ?_ | refine awM (by decide) ?_)
    | (refine aw_draw (id := 22) (t := (.node [0, 1, 2, 3, 4, 5, 6, 7, 8, 9, 10, 11, 12, 13, 14, 15] [])) (drR [] [114, 118] []) mixed (by kernel_rfl) (by kernel_rfl) (fun _ _ h => h) ?_)
    | (refine aw_draw (id := 27) (t := (.node [0, 1, 2, 4, 3, 5] [])) (drR [13, 19] [] []) mixed (by kernel_rfl) (by kernel_rfl) (fun _ _ h => h) ?_)
    | (refine at_done (by simp only [List.filterMap_cons, List.filterMap_nil, List.getElem?_toArray, List.getElem?_cons_zero, List.getElem?_cons_succ]; exact rfl) ?_) | (refine at_alt (by simp only [List.filterMap_cons, List.filterMap_nil, List.getElem?_toArray, List.getElem?_cons_zero, List.getElem?_cons_succ]; exact rfl) ?_) | refine qalt_normal ?_ | refine ats_cons ?_ ?_ | exact ats_nil
    | ((with_reducible first | refine awN (tyOf_ok _) [] ?_ | refine awO (tyOf_ok _) [] ?_ | refine awP (tyOf_ok _) [] ?_ | refine awQ ?_ | refine awR ?_ | refine awS ?_); intro r hr; simp only [go_sem, Nat.reduceBEq, Nat.reduceBneDiff, Nat.reduceLT, Nat.reduceLeDiff, Nat.reduceAdd, Nat.reduceMul, Nat.reduceSub, Nat.reduceEqDiff, reduceCtorEq, vSch, hL0, g1, zk, hset, hUl, htk, List.drop_zero, Int.cast_ofNat_Int, Int.reduceToNat, Int.reduceEq, Int.reduceLT, Int.reduceLE, Int.reduceNe] at hr; subst hr; (first | refine caA (fun _ => num11_any _) rfl ?_ ?_ ?_ | refine caA (fun _ => hre) rfl ?_ ?_ ?_ | refine caA (fun _ => hC) rfl ?_ ?_ ?_ | refine awV ?_ ?_ | refine awW ?_ ?_ | refine endK ?_ ?_ | (refine condK (fun h => ?_) (fun h => ?_) <;> (try simp only [go_sem, reduceCtorEq] at h) <;> (try (exfalso; omega)))))
    | (refine go_callGd 39 rfl [] [(8000, 39)] [39] [] (by simp only [go_sem, Nat.reduceBEq, Nat.reduceBneDiff, Nat.reduceLT, Nat.reduceLeDiff, Nat.reduceAdd, Nat.reduceMul, Nat.reduceSub, Nat.reduceEqDiff, reduceCtorEq, vSch, hL0, g1, zk, hset, hUl, htk, List.drop_zero, Int.cast_ofNat_Int, Int.reduceToNat, Int.reduceEq, Int.reduceLT, Int.reduceLE, Int.reduceNe]; exact rfl) ?_ rfl rfl (by first | exact .inl rfl | exact .inr rfl) (by simp only [go_sem, Nat.reduceBEq, Nat.reduceBneDiff, Nat.reduceLT, Nat.reduceLeDiff, Nat.reduceAdd, Nat.reduceMul, Nat.reduceSub, Nat.reduceEqDiff, reduceCtorEq, vSch, hL0, g1, zk, hset, hUl, htk, List.drop_zero, Int.cast_ofNat_Int, Int.reduceToNat, Int.reduceEq, Int.reduceLT, Int.reduceLE, Int.reduceNe] <;> exact rfl) (hS) (.inr ⟨rfl, ?_⟩) ?_) | fail)) <;> (try omega)
      all_goals first | exact rfl | exact ⟨encNs_nm _, trivial⟩
  have e40 : (F1 = 40) = False := eq_false (by omega)
  have e00 : (F1 = 0) = False := eq_false (by omega)
  (repeat' (first
    | exact trivial
    | (with_reducible first | refine awA ?_ | refine awB ?_ | refine awC ?_ | refine awD ?_ | refine awE ?_ | refine awF ?_ | refine awG ?_ | refine awH ?_ | refine awI ?_ | refine awJ ?_ | refine awK ?_ | refine awL ?_ | refine awM (by decide) ?_)
    | (refine aw_draw (id := 22) (t := (.node [0, 1, 2, 3, 4, 5, 6, 7, 8, 9, 10, 11, 12, 13, 14, 15] [])) (drR [] [114, 118] []) mixed (by kernel_rfl) (by kernel_rfl) (fun _ _ h => h) ?_)
    | (refine aw_draw (id := 27) (t := (.node [0, 1, 2, 4, 3, 5] [])) (drR [13, 19] [] []) mixed (by kernel_rfl) (by kernel_rfl) (fun _ _ h => h) ?_)
    | (refine at_done (by simp only [List.filterMap_cons, List.filterMap_nil, List.getElem?_toArray, List.getElem?_cons_zero, List.getElem?_cons_succ]; exact rfl) ?_) | (refine at_alt (by simp only [List.filterMap_cons, List.filterMap_nil, List.getElem?_toArray, List.getElem?_cons_zero, List.getElem?_cons_succ]; exact rfl) ?_) | refine qalt_normal ?_ | refine ats_cons ?_ ?_ | exact ats_nil
    | ((with_reducible first | refine awN (tyOf_ok _) [] ?_ | refine awO (tyOf_ok _) [] ?_ | refine awP (tyOf_ok _) [] ?_ | refine awQ ?_ | refine awR ?_ | refine awS ?_); intro r hr; simp only [go_sem, Nat.reduceBEq, Nat.reduceBneDiff, Nat.reduceLT, Nat.reduceLeDiff, Nat.reduceAdd, Nat.reduceMul, Nat.reduceSub, Nat.reduceEqDiff, reduceCtorEq, vSch, hL0, g1, zk, hset, hUl, htk, List.drop_zero, e40, e00] at hr; subst hr; (first | refine caA (fun _ => num11_any _) rfl ?_ ?_ ?_ | refine caA (fun _ => hre) rfl ?_ ?_ ?_ | refine caA (fun _ => hC) rfl ?_ ?_ ?_ | refine awV ?_ ?_ | refine awW ?_ ?_ | refine endK ?_ ?_ | (refine condK (fun h => ?_) (fun h => ?_) <;> (try simp only [go_sem, reduceCtorEq] at h) <;> (try (exfalso; omega)))))
    | (refine go_callGd 39 rfl [] [(8000, 39)] [39] [] (by simp only [go_sem, Nat.reduceBEq, Nat.reduceBneDiff, Nat.reduceLT, Nat.reduceLeDiff, Nat.reduceAdd, Nat.reduceMul, Nat.reduceSub, Nat.reduceEqDiff, reduceCtorEq, vSch, hL0, g1, zk, hset, hUl, htk, List.drop_zero, e40, e00]; exact rfl) ?_ rfl rfl (by first | exact .inl rfl | exact .inr rfl) (by simp only [go_sem, Nat.reduceBEq, Nat.reduceBneDiff, Nat.reduceLT, Nat.reduceLeDiff, Nat.reduceAdd, Nat.reduceMul, Nat.reduceSub, Nat.reduceEqDiff, reduceCtorEq, vSch, hL0, g1, zk, hset, hUl, htk, List.drop_zero, e40, e00] <;> exact rfl) (hS) (.inr ⟨rfl, ?_⟩) ?_) | fail)) <;> (try omega)
  · exact ⟨encNs_nm _, trivial⟩
  clear hC hset g1 htk
  refine go_loop [1, 5, 13, 16, 19, 20] [13, 19, 39] (fun q : Nat × Tr => ⟨[(1, true, vI j), (5, true, .lst 1 (v8 more)), (13, true, .ptr 1 13 0 0), (16, true, .ref 43 3 39 0 L), (19, true, .ptr 1 19 0 0), (20, true, vI q.1)],
      [(13, .var [.lst 4 (encTs ts), .lst 2 (encRs rs)]), (19, .var [vI F1, vI F2]), (39, .row 43 3 (encNs q.2.flat))]⟩)
    (fun q => q.1 ≤ more.length ∧ q.2.ok ∧ (∀ x ∈ q.2.flat, nodeOK x) ∧ q.2.flat.length = L ∧ (q.2.walk ts j 0 []).2.2 = (F1, F2)) (fun q => more.length - q.1) (0, d) (by simp only [go_sem, Nat.reduceBEq, Nat.reduceBneDiff, Nat.reduceLT, Nat.reduceLeDiff, Nat.reduceAdd, Nat.reduceMul, Nat.reduceSub, Nat.reduceEqDiff, reduceCtorEq] <;> exact rfl)
    ⟨Nat.zero_le _, hdo, hno, hUl, Prod.ext hF1 hF2⟩ ?_
  clear hF1 hF2 hno hdo
  intro ⟨i, d⟩ ⟨hi, hdo, hno, hdl, hF⟩
  simp only at hi hdo hno hdl hF
  have hwi := wrap_i64 (n := (i : Int) + 1) (by omega)
  by_cases hlt : i < more.length
  case neg =>
    have f1 : ((i : Int) < more.length) = False := eq_false (by omega)
    (repeat' (first
    | exact trivial
    | (with_reducible first | refine awA ?_ | refine awB ?_ | refine awC ?_ | refine awD ?_ | refine awE ?_ | refine awF ?_ | refine awG ?_ | refine awH ?_ | refine awI ?_ | refine awJ ?_ | refine awK ?_ | refine awL ?_ | refine awM (by decide) ?_)
    | (refine aw_draw (id := 22) (t := (.node [0, 1, 2, 3, 4, 5, 6, 7, 8, 9, 10, 11, 12, 13, 14, 15] [])) (drR [] [114, 118] []) mixed (by kernel_rfl) (by kernel_rfl) (fun _ _ h => h) ?_)
    | (refine aw_draw (id := 27) (t := (.node [0, 1, 2, 4, 3, 5] [])) (drR [13, 19] [] []) mixed (by kernel_rfl) (by kernel_rfl) (fun _ _ h => h) ?_)
    | (refine at_done (by simp only [List.filterMap_cons, List.filterMap_nil, List.getElem?_toArray, List.getElem?_cons_zero, List.getElem?_cons_succ]; exact rfl) ?_) | (refine at_alt (by simp only [List.filterMap_cons, List.filterMap_nil, List.getElem?_toArray, List.getElem?_cons_zero, List.getElem?_cons_succ]; exact rfl) ?_) | refine qalt_normal ?_ | refine ats_cons ?_ ?_ | exact ats_nil
    | ((with_reducible first | refine awN (tyOf_ok _) [] ?_ | refine awO (tyOf_ok _) [] ?_ | refine awP (tyOf_ok _) [] ?_ | refine awQ ?_ | refine awR ?_ | refine awS ?_); intro r hr; simp only [go_sem, Nat.reduceBEq, Nat.reduceBneDiff, Nat.reduceLT, Nat.reduceLeDiff, Nat.reduceAdd, Nat.reduceMul, Nat.reduceSub, Nat.reduceEqDiff, reduceCtorEq, f1] at hr; subst hr; (first | refine awV ?_ ?_ | refine awW ?_ ?_ | refine endK ?_ ?_ | (refine condK (fun h => ?_) (fun h => ?_) <;> (try simp only [go_sem, reduceCtorEq] at h) <;> (try (exfalso; omega))))) | fail)) <;> (try omega)
    all_goals exact rfl
  have f1 : ((i : Int) < more.length) = True := eq_true (by omega)
  by_cases h60 : i < 60
  case neg =>
    have f2 : ((i : Int) < 60) = False := eq_false (by omega)
    (repeat' (first
    | exact trivial
    | (with_reducible first | refine awA ?_ | refine awB ?_ | refine awC ?_ | refine awD ?_ | refine awE ?_ | refine awF ?_ | refine awG ?_ | refine awH ?_ | refine awI ?_ | refine awJ ?_ | refine awK ?_ | refine awL ?_ | refine awM (by decide) ?_)
    | (refine aw_draw (id := 22) (t := (.node [0, 1, 2, 3, 4, 5, 6, 7, 8, 9, 10, 11, 12, 13, 14, 15] [])) (drR [] [114, 118] []) mixed (by kernel_rfl) (by kernel_rfl) (fun _ _ h => h) ?_)
    | (refine aw_draw (id := 27) (t := (.node [0, 1, 2, 4, 3, 5] [])) (drR [13, 19] [] []) mixed (by kernel_rfl) (by kernel_rfl) (fun _ _ h => h) ?_)
    | (refine at_done (by simp only [List.filterMap_cons, List.filterMap_nil, List.getElem?_toArray, List.getElem?_cons_zero, List.getElem?_cons_succ]; exact rfl) ?_) | (refine at_alt (by simp only [List.filterMap_cons, List.filterMap_nil, List.getElem?_toArray, List.getElem?_cons_zero, List.getElem?_cons_succ]; exact rfl) ?_) | refine qalt_normal ?_ | refine ats_cons ?_ ?_ | exact ats_nil
    | ((with_reducible first | refine awN (tyOf_ok _) [] ?_ | refine awO (tyOf_ok _) [] ?_ | refine awP (tyOf_ok _) [] ?_ | refine awQ ?_ | refine awR ?_ | refine awS ?_); intro r hr; simp only [go_sem, Nat.reduceBEq, Nat.reduceBneDiff, Nat.reduceLT, Nat.reduceLeDiff, Nat.reduceAdd, Nat.reduceMul, Nat.reduceSub, Nat.reduceEqDiff, reduceCtorEq, f1, f2] at hr; subst hr; (first | refine awV ?_ ?_ | refine awW ?_ ?_ | refine endK ?_ ?_ | (refine condK (fun h => ?_) (fun h => ?_) <;> (try simp only [go_sem, reduceCtorEq] at h) <;> (try (exfalso; omega))))) | fail)) <;> (try omega)
    all_goals exact rfl
  have f2 : ((i : Int) < 60) = True := eq_true (by omega)
  have g2 := v8_get hlt
  have hmi := hmo _ (List.getElem_mem hlt)
  generalize more[i] = z at *
  have hre2 := rest11_any z L hmi (by omega)
  obtain ⟨k2, hk2⟩ : ∃ k : Nat, z % (L : Int) = k := ⟨(z % (L : Int)).toNat, by
    have := Int.emod_nonneg z (show (L : Int) ≠ 0 by omega)
    omega⟩
  have hkl2 : k2 < L := by
    have := Int.emod_lt_of_pos z (show 0 < (L : Int) by omega)
    omega
  rw [hk2] at hre2
  have zk2 : ((k2 : Int)).toNat = k2 := by omega
  have zi : ((i : Int)).toNat = i := by omega
  by_cases hle : (k2 : Int) ≤ F2
  · have f3 : ((k2 : Int) ≤ F2) = True := eq_true hle
    (repeat' (first
    | exact trivial
    | (with_reducible first | refine awA ?_ | refine awB ?_ | refine awC ?_ | refine awD ?_ | refine awE ?_ | refine awF ?_ | refine awG ?_ | refine awH ?_ | refine awI ?_ | refine awJ ?_ | refine awK ?_ | refine awL ?_ | refine awM (by decide) ?_)
    | (refine aw_draw (id := 22) (t := (.node [0, 1, 2, 3, 4, 5, 6, 7, 8, 9, 10, 11, 12, 13, 14, 15] [])) (drR [] [114, 118] []) mixed (by kernel_rfl) (by kernel_rfl) (fun _ _ h => h) ?_)
    | (refine aw_draw (id := 27) (t := (.node [0, 1, 2, 4, 3, 5] [])) (drR [13, 19] [] []) mixed (by kernel_rfl) (by kernel_rfl) (fun _ _ h => h) ?_)
    | (refine at_done (by simp only [List.filterMap_cons, List.filterMap_nil, List.getElem?_toArray, List.getElem?_cons_zero, List.getElem?_cons_succ]; exact rfl) ?_) | (refine at_alt (by simp only [List.filterMap_cons, List.filterMap_nil, List.getElem?_toArray, List.getElem?_cons_zero, List.getElem?_cons_succ]; exact rfl) ?_) | refine qalt_normal ?_ | refine ats_cons ?_ ?_ | exact ats_nil
    | ((with_reducible first | refine awN (tyOf_ok _) [] ?_ | refine awO (tyOf_ok _) [] ?_ | refine awP (tyOf_ok _) [] ?_ | refine awQ ?_ | refine awR ?_ | refine awS ?_); intro r hr; simp only [go_sem, Nat.reduceBEq, Nat.reduceBneDiff, Nat.reduceLT, Nat.reduceLeDiff, Nat.reduceAdd, Nat.reduceMul, Nat.reduceSub, Nat.reduceEqDiff, reduceCtorEq, f1, f2, f3, g2, zi, hwi] at hr; subst hr; (first | refine caA (fun _ => hre2) rfl ?_ ?_ ?_ | refine awV ?_ ?_ | refine awW ?_ ?_ | refine endK ?_ ?_ | (refine condK (fun h => ?_) (fun h => ?_) <;> (try simp only [go_sem, reduceCtorEq] at h) <;> (try (exfalso; omega))))) | fail)) <;> (try omega)
    all_goals exact ⟨(i + 1, d), by simp only [go_sem, Nat.reduceBEq, Nat.reduceBneDiff, Nat.reduceLT, Nat.reduceLeDiff, Nat.reduceAdd, Nat.reduceMul, Nat.reduceSub, Nat.reduceEqDiff, reduceCtorEq] <;> exact rfl, ⟨hlt, hdo, hno, hdl, hF⟩, by simp only; omega⟩
  have f3 : ((k2 : Int) ≤ F2) = False := eq_false hle
  have hk2d : k2 < d.flat.length := by omega
  have g3 := encNs_get hk2d
  have hx2 := hno _ (List.getElem_mem hk2d)
  have hr2 := ok_right _ d (Nat.le_refl _) hdo _ (List.getElem_mem hk2d)
  have hup := fun {y : NodeM} => first_up hdo hno hdl hF (by omega) hk2d (by omega) (y := y)
  obtain ⟨y0, hy0⟩ : ∃ y, d.flat[k2] = y := ⟨_, rfl⟩
  rw [hy0] at g3 hx2 hr2
  have hup := fun {W : Int} => hup hy0 (W := W)
  (repeat' (first
    | exact trivial
    | (refine go_cutK 2 [1, 5, 13, 16, 19, 20] [13, 19, 39] (fun d : Tr => ⟨[(1, true, vI j), (5, true, .lst 1 (v8 more)), (13, true, .ptr 1 13 0 0), (16, true, .ref 43 3 39 0 L), (19, true, .ptr 1 19 0 0), (20, true, vI i)],
      [(13, .var [.lst 4 (encTs ts), .lst 2 (encRs rs)]), (19, .var [vI F1, vI F2]), (39, .row 43 3 (encNs d.flat))]⟩) (fun d => d.ok ∧ (∀ x ∈ d.flat, nodeOK x) ∧ d.flat.length = L ∧ (d.walk ts j 0 []).2.2 = (F1, F2)) (hold ?_) ?_)
    | (with_reducible first | refine awA ?_ | refine awB ?_ | refine awC ?_ | refine awD ?_ | refine awE ?_ | refine awF ?_ | refine awG ?_ | refine awH ?_ | refine awI ?_ | refine awJ ?_ | refine awK ?_ | refine awL ?_ | refine awM (by decide) ?_)
    | (refine aw_draw (id := 22) (t := (.node [0, 1, 2, 3, 4, 5, 6, 7, 8, 9, 10, 11, 12, 13, 14, 15] [])) (drR [] [114, 118] []) mixed (by kernel_rfl) (by kernel_rfl) (fun _ _ h => h) ?_)
    | (refine aw_draw (id := 27) (t := (.node [0, 1, 2, 4, 3, 5] [])) (drR [13, 19] [] []) mixed (by kernel_rfl) (by kernel_rfl) (fun _ _ h => h) ?_)
    | (refine at_done (by simp only [List.filterMap_cons, List.filterMap_nil, List.getElem?_toArray, List.getElem?_cons_zero, List.getElem?_cons_succ]; exact rfl) ?_) | (refine at_alt (by simp only [List.filterMap_cons, List.filterMap_nil, List.getElem?_toArray, List.getElem?_cons_zero, List.getElem?_cons_succ]; exact rfl) ?_) | refine qalt_normal ?_ | refine ats_cons ?_ ?_ | exact ats_nil
    | ((with_reducible first | refine awN (tyOf_ok _) [] ?_ | refine awO (tyOf_ok _) [] ?_ | refine awP (tyOf_ok _) [] ?_ | refine awQ ?_ | refine awR ?_ | refine awS ?_); intro r hr; simp only [go_sem, Nat.reduceBEq, Nat.reduceBneDiff, Nat.reduceLT, Nat.reduceLeDiff, Nat.reduceAdd, Nat.reduceMul, Nat.reduceSub, Nat.reduceEqDiff, reduceCtorEq, f1, f2, f3, g2, g3, zi, zk2, hwi] at hr; subst hr; (first | refine caA (fun _ => hre2) rfl ?_ ?_ ?_ | refine awV ?_ ?_ | refine awW ?_ ?_ | refine endK ?_ ?_ | (refine condK (fun h => ?_) (fun h => ?_) <;> (try simp only [go_sem, reduceCtorEq] at h) <;> (try (exfalso; omega))))) | fail)) <;> (try omega)
  · refine ⟨?_⟩
    by_cases k1 : y0.kind = 1
    · have e1 : (y0.kind = 1) = True := eq_true k1
      have hw := IntKind.wrap_u64 (y0.n + IntKind.u64.wrap z)
      obtain ⟨W, hW⟩ : ∃ W, IntKind.u64.wrap (y0.n + IntKind.u64.wrap z) = W := ⟨_, rfl⟩
      rw [hW] at hw
      have hu := hup (W := W) (by omega) (by
        rw [rightN, Bool.and_eq_true] at hr2 ⊢
        exact ⟨by rw [numberN, if_pos k1], hr2.2⟩)
      obtain ⟨e, h1, h2⟩ := hu
      (repeat' (first
    | exact trivial
    | (with_reducible first | refine awA ?_ | refine awB ?_ | refine awC ?_ | refine awD ?_ | refine awE ?_ | refine awF ?_ | refine awG ?_ | refine awH ?_ | refine awI ?_ | refine awJ ?_ | refine awK ?_ | refine awL ?_ | refine awM (by decide) ?_)
    | (refine aw_draw (id := 22) (t := (.node [0, 1, 2, 3, 4, 5, 6, 7, 8, 9, 10, 11, 12, 13, 14, 15] [])) (drR [] [114, 118] []) mixed (by kernel_rfl) (by kernel_rfl) (fun _ _ h => h) ?_)
    | (refine aw_draw (id := 27) (t := (.node [0, 1, 2, 4, 3, 5] [])) (drR [13, 19] [] []) mixed (by kernel_rfl) (by kernel_rfl) (fun _ _ h => h) ?_)
    | (refine at_done (by simp only [List.filterMap_cons, List.filterMap_nil, List.getElem?_toArray, List.getElem?_cons_zero, List.getElem?_cons_succ]; exact rfl) ?_) | (refine at_alt (by simp only [List.filterMap_cons, List.filterMap_nil, List.getElem?_toArray, List.getElem?_cons_zero, List.getElem?_cons_succ]; exact rfl) ?_) | refine qalt_normal ?_ | refine ats_cons ?_ ?_ | exact ats_nil
    | ((with_reducible first | refine awN (tyOf_ok _) [] ?_ | refine awO (tyOf_ok _) [] ?_ | refine awP (tyOf_ok _) [] ?_ | refine awQ ?_ | refine awR ?_ | refine awS ?_); intro r hr; simp only [go_sem, Nat.reduceBEq, Nat.reduceBneDiff, Nat.reduceLT, Nat.reduceLeDiff, Nat.reduceAdd, Nat.reduceMul, Nat.reduceSub, Nat.reduceEqDiff, reduceCtorEq, g2, g3, zi, zk2, e1, hW] at hr; subst hr; (first | refine awV ?_ ?_ | refine awW ?_ ?_ | refine endK ?_ ?_ | (refine condK (fun h => ?_) (fun h => ?_) <;> (try simp only [go_sem, reduceCtorEq] at h) <;> (try (exfalso; omega))))) | fail)) <;> (try omega)
      all_goals first | exact ⟨e, by simp only [go_sem, Nat.reduceBEq, Nat.reduceBneDiff, Nat.reduceLT, Nat.reduceLeDiff, Nat.reduceAdd, Nat.reduceMul, Nat.reduceSub, Nat.reduceEqDiff, reduceCtorEq, h1] <;> exact rfl, h2⟩ | omega
    have e1 : (y0.kind = 1) = False := eq_false k1
    by_cases k2' : y0.kind = 2
    · have e2 : (y0.kind = 2) = True := eq_true k2'
      have hn1 : y0.n ≤ 1 := (right_zero hr2 (.inr k2')).2 k2'
      have hw := IntKind.wrap_u64 (1 - y0.n)
      obtain ⟨W, hW⟩ : ∃ W, IntKind.u64.wrap (1 - y0.n) = W := ⟨_, rfl⟩
      rw [hW] at hw
      have hn0 := hx2.2.2.1
      have hu := hup (W := W) (by omega) (by
        rw [rightN, Bool.and_eq_true] at hr2 ⊢
        exact ⟨by rw [numberN, if_neg k1, if_pos k2', decide_eq_true_eq]; simp only; omega, hr2.2⟩)
      obtain ⟨e, h1, h2⟩ := hu
      (repeat' (first
    | exact trivial
    | (with_reducible first | refine awA ?_ | refine awB ?_ | refine awC ?_ | refine awD ?_ | refine awE ?_ | refine awF ?_ | refine awG ?_ | refine awH ?_ | refine awI ?_ | refine awJ ?_ | refine awK ?_ | refine awL ?_ | refine awM (by decide) ?_)
    | (refine aw_draw (id := 22) (t := (.node [0, 1, 2, 3, 4, 5, 6, 7, 8, 9, 10, 11, 12, 13, 14, 15] [])) (drR [] [114, 118] []) mixed (by kernel_rfl) (by kernel_rfl) (fun _ _ h => h) ?_)
    | (refine aw_draw (id := 27) (t := (.node [0, 1, 2, 4, 3, 5] [])) (drR [13, 19] [] []) mixed (by kernel_rfl) (by kernel_rfl) (fun _ _ h => h) ?_)
    | (refine at_done (by simp only [List.filterMap_cons, List.filterMap_nil, List.getElem?_toArray, List.getElem?_cons_zero, List.getElem?_cons_succ]; exact rfl) ?_) | (refine at_alt (by simp only [List.filterMap_cons, List.filterMap_nil, List.getElem?_toArray, List.getElem?_cons_zero, List.getElem?_cons_succ]; exact rfl) ?_) | refine qalt_normal ?_ | refine ats_cons ?_ ?_ | exact ats_nil
    | ((with_reducible first | refine awN (tyOf_ok _) [] ?_ | refine awO (tyOf_ok _) [] ?_ | refine awP (tyOf_ok _) [] ?_ | refine awQ ?_ | refine awR ?_ | refine awS ?_); intro r hr; simp only [go_sem, Nat.reduceBEq, Nat.reduceBneDiff, Nat.reduceLT, Nat.reduceLeDiff, Nat.reduceAdd, Nat.reduceMul, Nat.reduceSub, Nat.reduceEqDiff, reduceCtorEq, g3, zi, zk2, e1, e2, hW] at hr; subst hr; (first | refine awV ?_ ?_ | refine awW ?_ ?_ | refine endK ?_ ?_ | (refine condK (fun h => ?_) (fun h => ?_) <;> (try simp only [go_sem, reduceCtorEq] at h) <;> (try (exfalso; omega))))) | fail)) <;> (try omega)
      all_goals first | exact ⟨e, by simp only [go_sem, Nat.reduceBEq, Nat.reduceBneDiff, Nat.reduceLT, Nat.reduceLeDiff, Nat.reduceAdd, Nat.reduceMul, Nat.reduceSub, Nat.reduceEqDiff, reduceCtorEq, h1] <;> exact rfl, h2⟩ | omega
    have e2 : (y0.kind = 2) = False := eq_false k2'
    by_cases k6 : y0.kind = 6
    · have e6 : (y0.kind = 6) = True := eq_true k6
      have hw := IntKind.wrap_u64 (y0.n + 1)
      obtain ⟨V, hV⟩ : ∃ V, IntKind.u64.wrap (y0.n + 1) = V := ⟨_, rfl⟩
      rw [hV] at hw
      have htm : V.tmod 256 = V % 256 := Int.tmod_eq_emod_of_nonneg (by omega)
      have hu := hup (W := V % 256) (by omega) (by
        rw [rightN, Bool.and_eq_true] at hr2 ⊢
        exact ⟨by rw [numberN, if_neg k1, if_neg k2', if_pos k6, decide_eq_true_eq]; simp only; omega, hr2.2⟩)
      obtain ⟨e, h1, h2⟩ := hu
      (repeat' (first
    | exact trivial
    | (with_reducible first | refine awA ?_ | refine awB ?_ | refine awC ?_ | refine awD ?_ | refine awE ?_ | refine awF ?_ | refine awG ?_ | refine awH ?_ | refine awI ?_ | refine awJ ?_ | refine awK ?_ | refine awL ?_ | refine awM (by decide) ?_)
    | (refine aw_draw (id := 22) (t := (.node [0, 1, 2, 3, 4, 5, 6, 7, 8, 9, 10, 11, 12, 13, 14, 15] [])) (drR [] [114, 118] []) mixed (by kernel_rfl) (by kernel_rfl) (fun _ _ h => h) ?_)
    | (refine aw_draw (id := 27) (t := (.node [0, 1, 2, 4, 3, 5] [])) (drR [13, 19] [] []) mixed (by kernel_rfl) (by kernel_rfl) (fun _ _ h => h) ?_)
    | (refine at_done (by simp only [List.filterMap_cons, List.filterMap_nil, List.getElem?_toArray, List.getElem?_cons_zero, List.getElem?_cons_succ]; exact rfl) ?_) | (refine at_alt (by simp only [List.filterMap_cons, List.filterMap_nil, List.getElem?_toArray, List.getElem?_cons_zero, List.getElem?_cons_succ]; exact rfl) ?_) | refine qalt_normal ?_ | refine ats_cons ?_ ?_ | exact ats_nil
    | ((with_reducible first | refine awN (tyOf_ok _) [] ?_ | refine awO (tyOf_ok _) [] ?_ | refine awP (tyOf_ok _) [] ?_ | refine awQ ?_ | refine awR ?_ | refine awS ?_); intro r hr; simp only [go_sem, Nat.reduceBEq, Nat.reduceBneDiff, Nat.reduceLT, Nat.reduceLeDiff, Nat.reduceAdd, Nat.reduceMul, Nat.reduceSub, Nat.reduceEqDiff, reduceCtorEq, g3, zi, zk2, e1, e2, e6, hV, htm] at hr; subst hr; (first | refine awV ?_ ?_ | refine awW ?_ ?_ | refine endK ?_ ?_ | (refine condK (fun h => ?_) (fun h => ?_) <;> (try simp only [go_sem, reduceCtorEq] at h) <;> (try (exfalso; omega))))) | fail)) <;> (try omega)
      all_goals first | exact ⟨e, by simp only [go_sem, Nat.reduceBEq, Nat.reduceBneDiff, Nat.reduceLT, Nat.reduceLeDiff, Nat.reduceAdd, Nat.reduceMul, Nat.reduceSub, Nat.reduceEqDiff, reduceCtorEq, h1] <;> exact rfl, h2⟩ | omega
    have e6 : (y0.kind = 6) = False := eq_false k6
    (repeat' (first
    | exact trivial
    | (with_reducible first | refine awA ?_ | refine awB ?_ | refine awC ?_ | refine awD ?_ | refine awE ?_ | refine awF ?_ | refine awG ?_ | refine awH ?_ | refine awI ?_ | refine awJ ?_ | refine awK ?_ | refine awL ?_ | refine awM (by decide) ?_)
    | (refine aw_draw (id := 22) (t := (.node [0, 1, 2, 3, 4, 5, 6, 7, 8, 9, 10, 11, 12, 13, 14, 15] [])) (drR [] [114, 118] []) mixed (by kernel_rfl) (by kernel_rfl) (fun _ _ h => h) ?_)
    | (refine aw_draw (id := 27) (t := (.node [0, 1, 2, 4, 3, 5] [])) (drR [13, 19] [] []) mixed (by kernel_rfl) (by kernel_rfl) (fun _ _ h => h) ?_)
    | (refine at_done (by simp only [List.filterMap_cons, List.filterMap_nil, List.getElem?_toArray, List.getElem?_cons_zero, List.getElem?_cons_succ]; exact rfl) ?_) | (refine at_alt (by simp only [List.filterMap_cons, List.filterMap_nil, List.getElem?_toArray, List.getElem?_cons_zero, List.getElem?_cons_succ]; exact rfl) ?_) | refine qalt_normal ?_ | refine ats_cons ?_ ?_ | exact ats_nil
    | ((with_reducible first | refine awN (tyOf_ok _) [] ?_ | refine awO (tyOf_ok _) [] ?_ | refine awP (tyOf_ok _) [] ?_ | refine awQ ?_ | refine awR ?_ | refine awS ?_); intro r hr; simp only [go_sem, Nat.reduceBEq, Nat.reduceBneDiff, Nat.reduceLT, Nat.reduceLeDiff, Nat.reduceAdd, Nat.reduceMul, Nat.reduceSub, Nat.reduceEqDiff, reduceCtorEq, g3, zi, zk2, e1, e2, e6] at hr; subst hr; (first | refine awV ?_ ?_ | refine awW ?_ ?_ | refine endK ?_ ?_ | (refine condK (fun h => ?_) (fun h => ?_) <;> (try simp only [go_sem, reduceCtorEq] at h) <;> (try (exfalso; omega))))) | fail)) <;> (try omega)
    all_goals first | exact ⟨d, by simp only [go_sem, Nat.reduceBEq, Nat.reduceBneDiff, Nat.reduceLT, Nat.reduceLeDiff, Nat.reduceAdd, Nat.reduceMul, Nat.reduceSub, Nat.reduceEqDiff, reduceCtorEq] <;> exact rfl, hdo, hno, hdl, hF⟩ | omega
  · intro d ⟨hdo, hno, hdl, hF⟩
    have hC := hCk d hdo hno (by omega)
    rw [hF] at hC
    have htk : (encNs d.flat).take L = encNs d.flat := take_len (by rw [encNs_len, hdl]; exact Nat.le_refl _)
    (repeat' (first
    | exact trivial
    | (with_reducible first | refine awA ?_ | refine awB ?_ | refine awC ?_ | refine awD ?_ | refine awE ?_ | refine awF ?_ | refine awG ?_ | refine awH ?_ | refine awI ?_ | refine awJ ?_ | refine awK ?_ | refine awL ?_ | refine awM (by decide) ?_)
    | (refine aw_draw (id := 22) (t := (.node [0, 1, 2, 3, 4, 5, 6, 7, 8, 9, 10, 11, 12, 13, 14, 15] [])) (drR [] [114, 118] []) mixed (by kernel_rfl) (by kernel_rfl) (fun _ _ h => h) ?_)
    | (refine aw_draw (id := 27) (t := (.node [0, 1, 2, 4, 3, 5] [])) (drR [13, 19] [] []) mixed (by kernel_rfl) (by kernel_rfl) (fun _ _ h => h) ?_)
    | (refine at_done (by simp only [List.filterMap_cons, List.filterMap_nil, List.getElem?_toArray, List.getElem?_cons_zero, List.getElem?_cons_succ]; exact rfl) ?_) | (refine at_alt (by simp only [List.filterMap_cons, List.filterMap_nil, List.getElem?_toArray, List.getElem?_cons_zero, List.getElem?_cons_succ]; exact rfl) ?_) | refine qalt_normal ?_ | refine ats_cons ?_ ?_ | exact ats_nil
    | ((with_reducible first | refine awN (tyOf_ok _) [] ?_ | refine awO (tyOf_ok _) [] ?_ | refine awP (tyOf_ok _) [] ?_ | refine awQ ?_ | refine awR ?_ | refine awS ?_); intro r hr; simp only [go_sem, Nat.reduceBEq, Nat.reduceBneDiff, Nat.reduceLT, Nat.reduceLeDiff, Nat.reduceAdd, Nat.reduceMul, Nat.reduceSub, Nat.reduceEqDiff, reduceCtorEq, htk, List.drop_zero, hwi] at hr; subst hr; (first | refine caA (fun _ => hC) rfl ?_ ?_ ?_ | refine awV ?_ ?_ | refine awW ?_ ?_ | refine endK ?_ ?_ | (refine condK (fun h => ?_) (fun h => ?_) <;> (try simp only [go_sem, reduceCtorEq] at h) <;> (try (exfalso; omega))))) | fail)) <;> (try omega)
    all_goals exact ⟨(i + 1, d), by simp only [go_sem, Nat.reduceBEq, Nat.reduceBneDiff, Nat.reduceLT, Nat.reduceLeDiff, Nat.reduceAdd, Nat.reduceMul, Nat.reduceSub, Nat.reduceEqDiff, reduceCtorEq] <;> exact rfl, ⟨hlt, hdo, hno, hdl, hF⟩, by simp only; omega⟩
end Go.Proofs.YtfgacgpicfknpaaDoor
end
section
namespace Go.Proofs.YtfgacgpicfknpaaDoor
open Go.ChangeShapes Go.WideShapes Go.ChangeAt Go.RowKit
set_option maxRecDepth 100000
/-! The package-level variable that the statements lay. -/
theorem gTab : Tryd.prog.globalNamed "mortise/typing.kinds" = some 0 := by kernel_rfl
theorem gTabType : (Tryd.prog.globals[0]?).map (·.type) = some 84 := by kernel_rfl
theorem cells9 : Tryd.prog.cellsOf 84 = 9 := by kernel_rfl
theorem cells1 : Tryd.prog.cellsOf 3 = 1 := by kernel_rfl
theorem fok_laid {rest : List (String × DataW Unit)} {W : World} (h : laidMet Tryd.prog (("mortise/typing.kinds", Rows.laid_mortise_typing_kinds) :: rest) W) : FOK (fun b => b < W.heap.size) W := by
  have ht : Lib.TabIs Tryd.prog W "mortise/typing.kinds" .i64 [0, 1, 2, 1, 3, 3, 5, 6, 4] :=
    Lib.tabIs_of_head (rest := rest) gTab gTabType Tryd.underlying84 Tryd.underlying3 cells1 cells9 h
  have hc := fun i hi => ht.cell gTab i hi
  refine ⟨fun b hb => hb, fun g vs hg => ?_⟩
  match g, hg with
  | 0, hg =>
    injection hg with hg
    subst hg
    refine ⟨World.block_lt_of_cell? W _ (hc 0 (by decide)), fun j x hx => ?_⟩
    match j, hx with
    | 0, hx => injection hx with hx; subst hx; exact ⟨rfl, hc 0 (by decide)⟩
    | 1, hx => injection hx with hx; subst hx; exact ⟨rfl, hc 1 (by decide)⟩
    | 2, hx => injection hx with hx; subst hx; exact ⟨rfl, hc 2 (by decide)⟩
    | 3, hx => injection hx with hx; subst hx; exact ⟨rfl, hc 3 (by decide)⟩
    | 4, hx => injection hx with hx; subst hx; exact ⟨rfl, hc 4 (by decide)⟩
    | 5, hx => injection hx with hx; subst hx; exact ⟨rfl, hc 5 (by decide)⟩
    | 6, hx => injection hx with hx; subst hx; exact ⟨rfl, hc 6 (by decide)⟩
    | 7, hx => injection hx with hx; subst hx; exact ⟨rfl, hc 7 (by decide)⟩
    | 8, hx => injection hx with hx; subst hx; exact ⟨rfl, hc 8 (by decide)⟩
    | j + 9, hx => cases hx
  | g + 1, hg => cases hg
/-- A world for the witness: the settled one, the table (block 0) holding what its initialiser lays. -/
noncomputable def laidWorld (os : Os) : World :=
  { World.holding Tryd.prog os ⟨#[], #[], []⟩ with heap := (World.holding Tryd.prog os ⟨#[], #[], []⟩).heap.modify 0 fun
      | .cells _ t frozen => .cells #[.int .i64 0, .int .i64 1, .int .i64 2, .int .i64 1, .int .i64 3, .int .i64 3, .int .i64 5, .int .i64 6, .int .i64 4] t frozen
      | o => o }
end Go.Proofs.YtfgacgpicfknpaaDoor
end
section
namespace Go.Proofs.YtfgacgpicfknpaaDoor
open Go.RowKit
/-! A call of which something is known: its answer hangs on no memory. -/
section
variable {P : Program} {E : Env} {s s' : AState} {n : Nat} {ops : Array Oper} {Q : Exit → AState → Prop} {D : Dr} {rest : List Oper} {o : Oper}
theorem al_callX {x : Operand} {args : Array Operand} {ats : Array TypeId} {f : Nat} (hG : guardAV ops s o.guard = some true) (ho : o.op = .call ⟨.value x, args, ats⟩)
    (hdst : dstOK n o.dst) (hx : s.ev x = .v (.func (.func f) #[] #[])) (hgx : s.gd x = true) {as' : List AV} (has : args.toList.map (fun z => (s.ev z).snap s) = as')
    (hok : args.toList.all s.gd = true ∧ ∀ z ∈ args.toList, (s.ev z).snapOK s) {R : AV → Prop} (hflat : ∀ r, R r → r.flat = true) (hc : PCall P f as' R) (hr : ∀ r, R r → AListD P E n ops D rest Q (s.put o.dst true r)) : AListD P E n ops D (o :: rest) Q s := by
  refine al_call_any hG ho hdst hx hgx (ra := .dead) (as' := as') (by rw [← has]; simp) R (fun _ => hc) (fun β a w _ hs => ⟨fun b => b < w.heap.size, ⟨fun _ h => h, fun g vs h => ⟨(hs.glo.gl g vs h).1.1, (hs.glo.gl g vs h).2⟩⟩, fun i y z hy hz => ?_, fun w' r v hR _ hr' => ⟨r, flat_ok hr' (hflat r hR), hr r hR⟩⟩) (fun h => by cases h)
  subst has
  rw [List.getElem?_map] at hy
  have hz' : args.toList[i]? = some z := by simpa using hz
  rw [hz'] at hy
  injection hy with hy
  subst hy
  obtain ⟨hg, hsn⟩ := hok
  have hmem := List.mem_of_getElem? hz'
  exact snap_ok hs (fun b hb => hb.1) (fun d b hb => (hs.rng d b hb).2) (hs.ev z (List.all_eq_true.1 hg z hmem) rfl) (hsn z hmem)
theorem go_callX {f : Nat} {as' : List AV} {p : Prop} (h : callAV n ops s o = some (true, f, as', p)) (hp : p) {R : AV → Prop} (hc : PCall P f as' R) (hflat : ∀ r, R r → r.flat = true)
    (hr : ∀ r, R r → AListD P E n ops D rest Q (s.put o.dst true r)) : AListR P E n ops D (o :: rest) Q s := by
  obtain ⟨hg, x, args, ats, first, cap, ho, hx, hgx, hdst, has, hok⟩ := callAV_spec h hp
  intro a w β hn hd hs'
  have hv := hs'.ev x (hgx rfl) (a := a) rfl
  rw [hx] at hv
  obtain ⟨rfl, rfl⟩ := func_plain hv
  exact al_callX hg ho hdst hx (hgx rfl) has (hok rfl) hflat hc hr a w β hn hd hs'
theorem caX {f : Nat} {as' : List AV} {p p' : Prop} {R : AV → Prop} {q : Bool × List AV × List AV} (hc : PCall P f as' R) (hflat : ∀ r, R r → r.flat = true) (hp : p) (hp' : p') (hr : ∀ r, R r → AListD P E n ops D rest Q (s'.put o.dst true r)) : RunC P E n ops D Q (p, s', o :: rest, some (some (true, f, as', p'), q)) := fun h => by
  injection h with h
  injection h with h _
  exact ⟨hp, go_callX h.symm hp' hc hflat hr⟩
end
end Go.Proofs.YtfgacgpicfknpaaDoor
end
section
namespace Go.Proofs.YtfgacgpicfknpaaDoor
open Go.RowKit
set_option maxRecDepth 100000
set_option maxHeartbeats 16000000
/-! TypingSome. -/
theorem up_nS8 (e : Int) : (AV.tup [.v (.slice none 0 0), vI e]).up (.tup [.ref 43 3 8000 0 0, vI e]) := AV.up_tup (AV.up_cons (AV.up_nilref _ _ _ _) (AV.up_cons (AV.up_rfl _) AV.up_nilL))
theorem Some10_G (ts : List TypeM) (rs : List RootM) (hts : ts.length ≤ 1000000000) (hrs : rs.length ≤ 1000000000) (hp : ∀ t ∈ ts, t.parts.length ≤ 1000000000) (hg : ∀ t ∈ ts, ∀ p ∈ t.parts, I64 p.tag) (t : Int) (ht : I64 t) (ps : List Int) (hps : ps.length ≤ 1000000000) :
    GCall Tryd.prog 40 [vSch ts rs, vI t, .lst 1 (v8 ps)] [] (.tup [.ref 43 3 8000 0 (someF ts rs t ps).1.length, vI (someF ts rs t ps).2]) [(8000, .row 43 3 (encNs (someF ts rs t ps).1))] := by
  refine go_fnG (tyOf_ok _) Tryd.func40 rfl rfl (by rw [Tryd.results40]) Tryd.ntmps40 rfl fun E => ?_
  have hck := rcheck_any ts rs hts hrs hp
  unfold vF at hck
  by_cases h0 : (checkF ts rs).1 = 0
  case neg =>
    rw [someF, if_pos h0]
    have e1 : ((checkF ts rs).1 = 0) = False := eq_false h0
    generalize checkF ts rs = C at *
    (repeat' (first
    | exact trivial
    | (with_reducible first | refine awA ?_ | refine awB ?_ | refine awC ?_ | refine awD ?_ | refine awE ?_ | refine awF ?_ | refine awG ?_ | refine awH ?_ | refine awI ?_ | refine awJ ?_ | refine awK ?_ | refine awL ?_ | refine awM (by decide) ?_)
    | (refine aw_draw (id := 3) (t := (.node [0, 1, 2, 3] [])) (drR [8] [] []) mixed (by kernel_rfl) (by kernel_rfl) (fun _ _ h => h) ?_)
    | (refine at_done (by simp only [List.filterMap_cons, List.filterMap_nil, List.getElem?_toArray, List.getElem?_cons_zero, List.getElem?_cons_succ]; exact rfl) ?_) | (refine at_alt (by simp only [List.filterMap_cons, List.filterMap_nil, List.getElem?_toArray, List.getElem?_cons_zero, List.getElem?_cons_succ]; exact rfl) ?_) | refine qalt_normal ?_ | refine ats_cons ?_ ?_ | exact ats_nil
    | ((with_reducible first | refine awN (tyOf_ok _) [] ?_ | refine awO (tyOf_ok _) [] ?_ | refine awP (tyOf_ok _) [] ?_ | refine awQ ?_ | refine awR ?_ | refine awS ?_ | refine awT ?_ | refine awU ?_); intro r hr; simp only [go_sem, Nat.reduceBEq, Nat.reduceBneDiff, Nat.reduceLT, Nat.reduceLeDiff, Nat.reduceAdd, Nat.reduceMul, Nat.reduceSub, Nat.reduceEqDiff, reduceCtorEq, vSch, e1] at hr; subst hr; (first | refine caA (fun _ => hck) rfl ?_ ?_ ?_ | refine awV ?_ ?_ | refine awW ?_ ?_ | refine endK ?_ ?_ | refine endGK ?_ ?_ ?_ | (refine condK (fun h => ?_) (fun h => ?_) <;> (try simp only [go_sem, reduceCtorEq] at h) <;> (try (exfalso; omega))))) | fail)) <;> (try omega)
    all_goals first | exact up_nS8 _ | exact obUp_row0 obUp_nil
  have W : MOK ts ps := ⟨hts, hps, check_right h0, hp, hg⟩
  rw [h0] at hck
  rw [someF, if_neg (by omega)]
  generalize (checkF ts rs).2 = C2 at *
  by_cases h1 : t < 0
  · have e1 : (t < 0) = True := eq_true h1
    rw [if_pos (.inl h1)]
    (repeat' (first
    | exact trivial
    | (with_reducible first | refine awA ?_ | refine awB ?_ | refine awC ?_ | refine awD ?_ | refine awE ?_ | refine awF ?_ | refine awG ?_ | refine awH ?_ | refine awI ?_ | refine awJ ?_ | refine awK ?_ | refine awL ?_ | refine awM (by decide) ?_)
    | (refine aw_draw (id := 3) (t := (.node [0, 1, 2, 3] [])) (drR [8] [] []) mixed (by kernel_rfl) (by kernel_rfl) (fun _ _ h => h) ?_)
    | (refine at_done (by simp only [List.filterMap_cons, List.filterMap_nil, List.getElem?_toArray, List.getElem?_cons_zero, List.getElem?_cons_succ]; exact rfl) ?_) | (refine at_alt (by simp only [List.filterMap_cons, List.filterMap_nil, List.getElem?_toArray, List.getElem?_cons_zero, List.getElem?_cons_succ]; exact rfl) ?_) | refine qalt_normal ?_ | refine ats_cons ?_ ?_ | exact ats_nil
    | ((with_reducible first | refine awN (tyOf_ok _) [] ?_ | refine awO (tyOf_ok _) [] ?_ | refine awP (tyOf_ok _) [] ?_ | refine awQ ?_ | refine awR ?_ | refine awS ?_ | refine awT ?_ | refine awU ?_); intro r hr; simp only [go_sem, Nat.reduceBEq, Nat.reduceBneDiff, Nat.reduceLT, Nat.reduceLeDiff, Nat.reduceAdd, Nat.reduceMul, Nat.reduceSub, Nat.reduceEqDiff, reduceCtorEq, vSch, encTs_len, e1] at hr; subst hr; (first | refine caA (fun _ => hck) rfl ?_ ?_ ?_ | refine awV ?_ ?_ | refine awW ?_ ?_ | refine endK ?_ ?_ | refine endGK ?_ ?_ ?_ | (refine condK (fun h => ?_) (fun h => ?_) <;> (try simp only [go_sem, reduceCtorEq] at h) <;> (try (exfalso; omega))))) | fail)) <;> (try omega)
    all_goals first | exact up_nS8 _ | exact obUp_row0 obUp_nil
  have e1 : (t < 0) = False := eq_false h1
  by_cases h2 : (ts.length : Int) ≤ t
  · have e2 : ((ts.length : Int) ≤ t) = True := eq_true h2
    rw [if_pos (.inr h2)]
    (repeat' (first
    | exact trivial
    | (with_reducible first | refine awA ?_ | refine awB ?_ | refine awC ?_ | refine awD ?_ | refine awE ?_ | refine awF ?_ | refine awG ?_ | refine awH ?_ | refine awI ?_ | refine awJ ?_ | refine awK ?_ | refine awL ?_ | refine awM (by decide) ?_)
    | (refine aw_draw (id := 3) (t := (.node [0, 1, 2, 3] [])) (drR [8] [] []) mixed (by kernel_rfl) (by kernel_rfl) (fun _ _ h => h) ?_)
    | (refine at_done (by simp only [List.filterMap_cons, List.filterMap_nil, List.getElem?_toArray, List.getElem?_cons_zero, List.getElem?_cons_succ]; exact rfl) ?_) | (refine at_alt (by simp only [List.filterMap_cons, List.filterMap_nil, List.getElem?_toArray, List.getElem?_cons_zero, List.getElem?_cons_succ]; exact rfl) ?_) | refine qalt_normal ?_ | refine ats_cons ?_ ?_ | exact ats_nil
    | ((with_reducible first | refine awN (tyOf_ok _) [] ?_ | refine awO (tyOf_ok _) [] ?_ | refine awP (tyOf_ok _) [] ?_ | refine awQ ?_ | refine awR ?_ | refine awS ?_ | refine awT ?_ | refine awU ?_); intro r hr; simp only [go_sem, Nat.reduceBEq, Nat.reduceBneDiff, Nat.reduceLT, Nat.reduceLeDiff, Nat.reduceAdd, Nat.reduceMul, Nat.reduceSub, Nat.reduceEqDiff, reduceCtorEq, vSch, encTs_len, e1, e2] at hr; subst hr; (first | refine caA (fun _ => hck) rfl ?_ ?_ ?_ | refine awV ?_ ?_ | refine awW ?_ ?_ | refine endK ?_ ?_ | refine endGK ?_ ?_ ?_ | (refine condK (fun h => ?_) (fun h => ?_) <;> (try simp only [go_sem, reduceCtorEq] at h) <;> (try (exfalso; omega))))) | fail)) <;> (try omega)
    all_goals first | exact up_nS8 _ | exact obUp_row0 obUp_nil
  have e2 : ((ts.length : Int) ≤ t) = False := eq_false h2
  rw [if_neg (by omega)]
  have hw := some_any (rs := rs) W ts.length t.toNat (by omega) (by omega) [] (Nat.zero_le _)
  rw [Int.toNat_of_nonneg (by omega)] at hw
  simp only [List.nil_append, List.length_nil, Nat.zero_add] at hw
  change GCall _ _ _ _ _ (obM ts rs ps ((madeT ts ps t).flat.take 1048576) (decide (1048576 < (madeT ts ps t).flat.length))) at hw
  generalize (madeT ts ps t).flat = F at *
  have hnn : encNs [] = [] := rfl
  by_cases hb : 1048576 < F.length
  · have hd : decide (1048576 < F.length) = true := by simpa using hb
    rw [if_pos hb]
    rw [hd] at hw
    (repeat' (first
    | exact trivial
    | (refine aw_nilvar 29 3 43 3 8000 (cs := [_, _, _, .v (.slice none 0 0), _]) (.inl (by decide)) (by decide) rfl rfl ?_)
    | (with_reducible first | refine awA ?_ | refine awB ?_ | refine awC ?_ | refine awD ?_ | refine awE ?_ | refine awF ?_ | refine awG ?_ | refine awH ?_ | refine awI ?_ | refine awJ ?_ | refine awK ?_ | refine awL ?_ | refine awM (by decide) ?_)
    | (refine aw_draw (id := 3) (t := (.node [0, 1, 2, 3] [])) (drR [8] [] []) mixed (by kernel_rfl) (by kernel_rfl) (fun _ _ h => h) ?_)
    | (refine at_done (by simp only [List.filterMap_cons, List.filterMap_nil, List.getElem?_toArray, List.getElem?_cons_zero, List.getElem?_cons_succ]; exact rfl) ?_) | (refine at_alt (by simp only [List.filterMap_cons, List.filterMap_nil, List.getElem?_toArray, List.getElem?_cons_zero, List.getElem?_cons_succ]; exact rfl) ?_) | refine qalt_normal ?_ | refine ats_cons ?_ ?_ | exact ats_nil
    | ((with_reducible first | refine awN (tyOf_ok _) [] ?_ | refine awO (tyOf_ok _) [] ?_ | refine awP (tyOf_ok _) [] ?_ | refine awQ ?_ | refine awR ?_ | refine awS ?_ | refine awT ?_ | refine awU ?_); intro r hr; simp only [go_sem, Nat.reduceBEq, Nat.reduceBneDiff, Nat.reduceLT, Nat.reduceLeDiff, Nat.reduceAdd, Nat.reduceMul, Nat.reduceSub, Nat.reduceEqDiff, reduceCtorEq, AState.nilvar, List.set_cons_succ, List.set_cons_zero, vSch, encTs_len, e1, e2, hnn] at hr; subst hr; (first | refine caA (fun _ => hck) rfl ?_ ?_ ?_ | refine awV ?_ ?_ | refine awW ?_ ?_ | refine endK ?_ ?_ | refine endGK ?_ ?_ ?_ | (refine condK (fun h => ?_) (fun h => ?_) <;> (try simp only [go_sem, reduceCtorEq] at h) <;> (try (exfalso; omega)))))
    | (refine go_callGE [(29, 10000), (8000, 15000)] [(10000, 29), (15000, 8000)] [8000] [29] ?_; intro r hr; simp only [go_sem, Nat.reduceBEq, Nat.reduceBneDiff, Nat.reduceLT, Nat.reduceLeDiff, Nat.reduceAdd, Nat.reduceMul, Nat.reduceSub, Nat.reduceEqDiff, reduceCtorEq, AState.nilvar, List.set_cons_succ, List.set_cons_zero, vSch, encTs_len, e1, e2, hnn] at hr; subst hr; refine callGK (hw) rfl rfl (by first | exact .inl rfl | exact .inr rfl) ?_ (.inl rfl) ?_) | fail)) <;> (try omega)
    all_goals first | exact up_nS8 _ | exact obUp_row0 obUp_nil
  · have hd : decide (1048576 < F.length) = false := by simpa using hb
    have htk : F.take 1048576 = F := List.take_of_length_le (by omega)
    rw [if_neg hb]
    rw [hd, htk] at hw
    (repeat' (first
    | exact trivial
    | (refine aw_nilvar 29 3 43 3 8000 (cs := [_, _, _, .v (.slice none 0 0), _]) (.inl (by decide)) (by decide) rfl rfl ?_)
    | (with_reducible first | refine awA ?_ | refine awB ?_ | refine awC ?_ | refine awD ?_ | refine awE ?_ | refine awF ?_ | refine awG ?_ | refine awH ?_ | refine awI ?_ | refine awJ ?_ | refine awK ?_ | refine awL ?_ | refine awM (by decide) ?_)
    | (refine aw_draw (id := 3) (t := (.node [0, 1, 2, 3] [])) (drR [8] [] []) mixed (by kernel_rfl) (by kernel_rfl) (fun _ _ h => h) ?_)
    | (refine at_done (by simp only [List.filterMap_cons, List.filterMap_nil, List.getElem?_toArray, List.getElem?_cons_zero, List.getElem?_cons_succ]; exact rfl) ?_) | (refine at_alt (by simp only [List.filterMap_cons, List.filterMap_nil, List.getElem?_toArray, List.getElem?_cons_zero, List.getElem?_cons_succ]; exact rfl) ?_) | refine qalt_normal ?_ | refine ats_cons ?_ ?_ | exact ats_nil
    | ((with_reducible first | refine awN (tyOf_ok _) [] ?_ | refine awO (tyOf_ok _) [] ?_ | refine awP (tyOf_ok _) [] ?_ | refine awQ ?_ | refine awR ?_ | refine awS ?_ | refine awT ?_ | refine awU ?_); intro r hr; simp only [go_sem, Nat.reduceBEq, Nat.reduceBneDiff, Nat.reduceLT, Nat.reduceLeDiff, Nat.reduceAdd, Nat.reduceMul, Nat.reduceSub, Nat.reduceEqDiff, reduceCtorEq, AState.nilvar, List.set_cons_succ, List.set_cons_zero, vSch, encTs_len, e1, e2, hnn] at hr; subst hr; (first | refine caA (fun _ => hck) rfl ?_ ?_ ?_ | refine awV ?_ ?_ | refine awW ?_ ?_ | refine endK ?_ ?_ | refine endGK ?_ ?_ ?_ | (refine condK (fun h => ?_) (fun h => ?_) <;> (try simp only [go_sem, reduceCtorEq] at h) <;> (try (exfalso; omega)))))
    | (refine go_callGE [(29, 10000), (8000, 15000)] [(10000, 29), (15000, 8000)] [8000] [29] ?_; intro r hr; simp only [go_sem, Nat.reduceBEq, Nat.reduceBneDiff, Nat.reduceLT, Nat.reduceLeDiff, Nat.reduceAdd, Nat.reduceMul, Nat.reduceSub, Nat.reduceEqDiff, reduceCtorEq, AState.nilvar, List.set_cons_succ, List.set_cons_zero, vSch, encTs_len, e1, e2, hnn] at hr; subst hr; refine callGK (hw) rfl rfl (by first | exact .inl rfl | exact .inr rfl) ?_ (.inl rfl) ?_) | fail)) <;> (try omega)
    all_goals (first | exact AV.up_rfl _ | (repeat first | exact obUp_nil | refine obUp_cons rfl ?_))
theorem rSome11_G (ts : List TypeM) (rs : List RootM) (hts : ts.length ≤ 1000000000) (hrs : rs.length ≤ 1000000000) (hp : ∀ t ∈ ts, t.parts.length ≤ 1000000000) (hg : ∀ t ∈ ts, ∀ p ∈ t.parts, I64 p.tag) (t : Int) (ht : I64 t) (ps : List Int) (hps : ps.length ≤ 1000000000) :
    GCall Tryd.prog 20 [vSch ts rs, vI t, .lst 1 (v8 ps)] [] (.tup [.ref 43 3 8000 0 (someF ts rs t ps).1.length, vI (someF ts rs t ps).2]) [(8000, .row 43 3 (encNs (someF ts rs t ps).1))] := by
  refine go_fnG (tyOf_ok _) Tryd.func20 rfl rfl (by rw [Tryd.results20]) Tryd.ntmps20 rfl fun E => ?_
  have h := Some10_G ts rs hts hrs hp hg t ht ps hps
  generalize someF ts rs t ps = q at *
  unfold vSch at h
  (repeat' (first
    | exact trivial
    | (with_reducible first | refine awA ?_ | refine awB ?_ | refine awC ?_ | refine awD ?_ | refine awE ?_ | refine awF ?_ | refine awG ?_ | refine awH ?_ | refine awI ?_ | refine awJ ?_ | refine awK ?_ | refine awL ?_ | refine awM (by decide) ?_)
    | ((with_reducible first | refine awN (tyOf_ok _) [] ?_ | refine awO (tyOf_ok _) [] ?_ | refine awP (tyOf_ok _) [] ?_ | refine awQ ?_ | refine awR ?_ | refine awS ?_ | refine awT ?_ | refine awU ?_); intro r hr; simp only [go_sem, Nat.reduceBEq, Nat.reduceBneDiff, Nat.reduceLT, Nat.reduceLeDiff, Nat.reduceAdd, Nat.reduceMul, Nat.reduceSub, Nat.reduceEqDiff, reduceCtorEq, vSch] at hr; subst hr; (first | refine awV ?_ ?_ | refine awW ?_ ?_ | refine endK ?_ ?_ | refine endGK ?_ ?_ ?_ | (refine condK (fun h => ?_) (fun h => ?_) <;> (try simp only [go_sem, reduceCtorEq] at h) <;> (try (exfalso; omega)))))
    | (refine go_callGE [] [(8000, 8000)] [8000] [] ?_; intro r hr; simp only [go_sem, Nat.reduceBEq, Nat.reduceBneDiff, Nat.reduceLT, Nat.reduceLeDiff, Nat.reduceAdd, Nat.reduceMul, Nat.reduceSub, Nat.reduceEqDiff, reduceCtorEq, vSch] at hr; subst hr; refine callGK (h) rfl rfl (by first | exact .inl rfl | exact .inr rfl) ?_ (.inl rfl) ?_) | fail)) <;> (try omega)
  all_goals (first | exact AV.up_rfl _ | (repeat first | exact obUp_nil | refine obUp_cons rfl ?_))
theorem someF_len (ts : List TypeM) (rs : List RootM) (t : Int) (ps : List Int) : (someF ts rs t ps).1.length ≤ 1048576 := by
  unfold someF
  split
  · exact Nat.zero_le _
  · split
    · exact Nat.zero_le _
    · split
      · exact Nat.zero_le _
      · simp only; omega
theorem v8_setm (l : List Int) (k : Nat) (hk : k < l.length) (z : Int) : (v8 l ++ [mI]).set k [vI z] = v8 (l.set k z) ++ [mI] := by
  rw [List.set_append_left _ _ (by rw [v8_len]; exact hk), v8_set]
theorem some11_any (ts : List TypeM) (rs : List RootM) (hts : ts.length ≤ 1048576) (hrs : rs.length ≤ 1048576) (hp : ∀ t ∈ ts, t.parts.length ≤ 1000000000) (hg : ∀ t ∈ ts, ∀ p ∈ t.parts, I64 p.tag) (t : Int) (ht : I64 t) (ps : List Int) (hps : ps.length ≤ 1048576) :
    PCall Tryd.prog 4 [vSch ts rs, vI t, .lst 1 (v8 ps)] (fun r => r = vB true) := by
  refine go_fn (tyOf_ok _) Tryd.func4 rfl rfl (by rw [Tryd.results4]) Tryd.ntmps4 rfl fun E => ?_
  have hcut := cut11_G ts rs (by omega) (by omega) hp
  unfold cutV cutO at hcut
  have hcl := cutT_len ts
  have hcp := cutT_parts (ts := ts)
  have hcg : ∀ t ∈ cutT ts, ∀ p ∈ t.parts, I64 p.tag := fun u hu p hpp => by
    obtain ⟨v, hv, rfl⟩ := cutT_mem hu
    exact hg v hv p (List.mem_of_mem_take hpp)
  have hrl : (rs.take 260).length ≤ 260 := by rw [List.length_take]; omega
  generalize cutT ts = S at *
  generalize rs.take 260 = R at *
  have hpS : ∀ t ∈ S, t.parts.length ≤ 1000000000 := fun t ht => by have := hcp t ht; omega
  have hLi := light_any S R (by omega) (by omega) hpS t
  have hmin : ((min (ps.length : Int) 300)).toNat = min ps.length 300 := by omega
  have htk : (v8 ps).take (min ps.length 300) = v8 (ps.take 300) := by
    have : ps.take (min ps.length 300) = ps.take 300 := by rw [List.take_eq_take_iff]; omega
    rw [← this, v8_take]
  have hl1 : (ps.take 300).length ≤ 300 := by rw [List.length_take]; omega
  have hmle : min (ps.length : Int) 300 ≤ ps.length := by omega
  have hm0 : 0 ≤ min (ps.length : Int) 300 := by omega
  have hT := tame_G S R (by omega) (ps.take 300) (by omega)
  have htl := tameF_len S (ps.take 300)
  generalize ps.take 300 = P0 at *
  generalize tameF S P0 = P1 at *
  obtain ⟨n, hn⟩ : ∃ n, n = P0.length := ⟨_, rfl⟩
  obtain ⟨V, hV⟩ : ∃ V : List NodeM, V = [] := ⟨_, rfl⟩
  have hlent := lentP_G S R (by omega) (by omega) hpS V hV P1 (by omega)
  have hV0 : V.length = 0 := by rw [hV]; rfl
  unfold sV lentV11 lentO11 sO11 at hlent
  unfold vSch
  unfold vSch at hT hLi
  rw [← hn] at hT htl
  rw [htl, hV0] at hlent
  have hen : (v8 P0).length = n := by rw [v8_len, hn]
  have htn : (v8 P0).take n = v8 P0 := take_len (by rw [hen]; exact Nat.le_refl _)
  have htn1 : (v8 P1).take n = v8 P1 := take_len (by rw [v8_len, htl]; exact Nat.le_refl _)
  have htkT : (encTs S).take S.length = encTs S := take_len (by rw [encTs_len]; exact Nat.le_refl _)
  have htkR : (encRs R).take R.length = encRs R := take_len (by rw [encRs_len]; exact Nat.le_refl _)
  have haw := awake11
  (repeat' (first
    | exact trivial
    | (obtain ⟨b, rfl⟩ := hr)
    | (with_reducible first | refine awA ?_ | refine awB ?_ | refine awC ?_ | refine awD ?_ | refine awE ?_ | refine awF ?_ | refine awG ?_ | refine awH ?_ | refine awI ?_ | refine awJ ?_ | refine awK ?_ | refine awL ?_ | refine awM (by decide) ?_)
    | (refine aw_draw (id := 19) (t := (.node [0, 1, 2, 3, 4, 5, 6] [])) (drR [9] [112] []) mixed (by kernel_rfl) (by kernel_rfl) (fun _ _ h => h) ?_)
    | (refine at_done (by simp only [List.filterMap_cons, List.filterMap_nil, List.getElem?_toArray, List.getElem?_cons_zero, List.getElem?_cons_succ]; exact rfl) ?_) | (refine at_alt (by simp only [List.filterMap_cons, List.filterMap_nil, List.getElem?_toArray, List.getElem?_cons_zero, List.getElem?_cons_succ]; exact rfl) ?_) | refine qalt_normal ?_ | refine ats_cons ?_ ?_ | exact ats_nil
    | ((with_reducible first | refine awN (tyOf_ok _) [] ?_ | refine awO (tyOf_ok _) [] ?_ | refine awP (tyOf_ok _) [] ?_ | refine awQ ?_ | refine awR ?_ | refine awS ?_); intro r hr; simp only [go_sem, Nat.reduceBEq, Nat.reduceBneDiff, Nat.reduceLT, Nat.reduceLeDiff, Nat.reduceAdd, Nat.reduceMul, Nat.reduceSub, Nat.reduceEqDiff, reduceCtorEq, v8_len, encTs_len, encRs_len, hmin, htk, hen, htn, htkT, htkR, List.cons_append, List.nil_append, Bool.not_true, Int.toNat_zero, List.drop_zero, Nat.zero_add] at hr; subst hr; (first | refine caA (fun _ => haw) rfl ?_ ?_ ?_ | refine caX (hLi) (fun r hr => by obtain ⟨_, rfl⟩ := hr; rfl) ?_ ?_ (fun r hr => ?_) | refine awV ?_ ?_ | refine awW ?_ ?_ | refine endK ?_ ?_ | (refine condK (fun h => ?_) (fun h => ?_) <;> (try simp only [go_sem, reduceCtorEq] at h) <;> (try (exfalso; omega)))))
    | (refine go_callGd 20 rfl [] [(8000, 8013), (8001, 8014)] [8013, 8014] [] (by simp only [go_sem, Nat.reduceBEq, Nat.reduceBneDiff, Nat.reduceLT, Nat.reduceLeDiff, Nat.reduceAdd, Nat.reduceMul, Nat.reduceSub, Nat.reduceEqDiff, reduceCtorEq, v8_len, encTs_len, encRs_len, hmin, htk, hen, htn, htkT, htkR, List.cons_append, List.nil_append, Bool.not_true, Int.toNat_zero, List.drop_zero, Nat.zero_add]; exact rfl) ?_ rfl rfl (by first | exact .inl rfl | exact .inr rfl) (by simp only [go_sem, Nat.reduceBEq, Nat.reduceBneDiff, Nat.reduceLT, Nat.reduceLeDiff, Nat.reduceAdd, Nat.reduceMul, Nat.reduceSub, Nat.reduceEqDiff, reduceCtorEq, v8_len, encTs_len, encRs_len, hmin, htk, hen, htn, htkT, htkR, List.cons_append, List.nil_append, Bool.not_true, Int.toNat_zero, List.drop_zero, Nat.zero_add] <;> exact rfl) (hcut) (.inl rfl) ?_)
    | (refine go_callGd 33 rfl [(30, 10000)] [(10000, 30)] [] [30] (by simp only [go_sem, Nat.reduceBEq, Nat.reduceBneDiff, Nat.reduceLT, Nat.reduceLeDiff, Nat.reduceAdd, Nat.reduceMul, Nat.reduceSub, Nat.reduceEqDiff, reduceCtorEq, v8_len, encTs_len, encRs_len, hmin, htk, hen, htn, htkT, htkR, List.cons_append, List.nil_append, Bool.not_true, Int.toNat_zero, List.drop_zero, Nat.zero_add]; exact rfl) ?_ rfl rfl (by first | exact .inl rfl | exact .inr rfl) (by simp only [go_sem, Nat.reduceBEq, Nat.reduceBneDiff, Nat.reduceLT, Nat.reduceLeDiff, Nat.reduceAdd, Nat.reduceMul, Nat.reduceSub, Nat.reduceEqDiff, reduceCtorEq, v8_len, encTs_len, encRs_len, hmin, htk, hen, htn, htkT, htkR, List.cons_append, List.nil_append, Bool.not_true, Int.toNat_zero, List.drop_zero, Nat.zero_add] <;> exact rfl) (hT) (.inr ⟨rfl, ?_⟩) ?_)
    | (refine go_callGd 36 rfl [(8013, 10000), (8014, 10001), (30, 10003)] [(8000, 8021), (51, 8022), (62, 8023), (70, 8024), (10000, 8013), (10001, 8014), (10002, 8025), (10003, 30)] [8021, 8022, 8023, 8024, 8025] [8013, 8014, 30] (by simp only [go_sem, Nat.reduceBEq, Nat.reduceBneDiff, Nat.reduceLT, Nat.reduceLeDiff, Nat.reduceAdd, Nat.reduceMul, Nat.reduceSub, Nat.reduceEqDiff, reduceCtorEq, v8_len, encTs_len, encRs_len, hmin, htk, hen, htn, htkT, htkR, List.cons_append, List.nil_append, Bool.not_true, Int.toNat_zero, List.drop_zero, Nat.zero_add]; exact rfl) ?_ rfl rfl (by first | exact .inl rfl | exact .inr rfl) (by simp only [go_sem, Nat.reduceBEq, Nat.reduceBneDiff, Nat.reduceLT, Nat.reduceLeDiff, Nat.reduceAdd, Nat.reduceMul, Nat.reduceSub, Nat.reduceEqDiff, reduceCtorEq, v8_len, encTs_len, encRs_len, hmin, htk, hen, htn, htkT, htkR, List.cons_append, List.nil_append, Bool.not_true, Int.toNat_zero, List.drop_zero, Nat.zero_add] <;> exact rfl) (hlent) (.inl rfl) ?_)
    | (exact ⟨hm0, hmle⟩) | fail)) <;> (try omega)
  · exact rfl
  · exact ⟨v8_nm11 _, trivial⟩
  refine go_loop [1, 7, 8, 9, 10] [7, 9, 30, 8013, 8014, 8021, 8022, 8023, 8024] (fun q : Nat × List Int => ⟨[(1, true, vI t), (7, true, .ptr 1 7 0 0), (8, true, .ref 3 1 30 0 n), (9, true, .ptr 1 9 0 0), (10, true, vI q.1)],
    [(7, .var [.ref 66 4 8013 0 S.length, .ref 70 2 8014 0 R.length]), (9, .var [.rfx 66 4 8021 0 S.length 1, .rfx 70 2 8022 0 R.length 1, .rfx 43 3 8023 0 0 1, .rfx 3 1 8024 0 n 1]), (30, .row 3 1 (v8 q.2)),
      (8013, .row 66 4 (encTs S)), (8014, .row 70 2 (encRs R)), (8021, .row 66 4 (encTxs S ++ [mT])), (8022, .row 70 2 (encRs R ++ [mR])), (8023, .row 43 3 (encNs V ++ [mN])), (8024, .row 3 1 (v8 q.2 ++ [mI]))]⟩)
    (fun q => q.1 ≤ 2 ∧ q.2.length = n) (fun q => 2 - q.1) (0, P1) (by simp only [go_sem, Nat.reduceBEq, Nat.reduceBneDiff, Nat.reduceLT, Nat.reduceLeDiff, Nat.reduceAdd, Nat.reduceMul, Nat.reduceSub, Nat.reduceEqDiff, reduceCtorEq]; exact rfl) ⟨Nat.zero_le _, htl⟩ ?_
  clear hen htn htk hmin hmle hm0 hcut hlent hT htl htn1 hLi
  intro ⟨k, P⟩ ⟨hk, hPn⟩
  simp only at hk hPn
  have hwk := wrap_i64 (n := (k : Int) + 1) (by omega)
  by_cases hk2 : k < 2
  case neg =>
    have f1 : ((k : Int) < 2) = False := eq_false (by omega)
    (repeat' (first
    | exact trivial
    | (with_reducible first | refine awA ?_ | refine awB ?_ | refine awC ?_ | refine awD ?_ | refine awE ?_ | refine awF ?_ | refine awG ?_ | refine awH ?_ | refine awI ?_ | refine awJ ?_ | refine awK ?_ | refine awL ?_ | refine awM (by decide) ?_)
    | (refine aw_draw (id := 19) (t := (.node [0, 1, 2, 3, 4, 5, 6] [])) (drR [9] [112] []) mixed (by kernel_rfl) (by kernel_rfl) (fun _ _ h => h) ?_)
    | (refine at_done (by simp only [List.filterMap_cons, List.filterMap_nil, List.getElem?_toArray, List.getElem?_cons_zero, List.getElem?_cons_succ]; exact rfl) ?_) | (refine at_alt (by simp only [List.filterMap_cons, List.filterMap_nil, List.getElem?_toArray, List.getElem?_cons_zero, List.getElem?_cons_succ]; exact rfl) ?_) | refine qalt_normal ?_ | refine ats_cons ?_ ?_ | exact ats_nil
    | ((with_reducible first | refine awN (tyOf_ok _) [] ?_ | refine awO (tyOf_ok _) [] ?_ | refine awP (tyOf_ok _) [] ?_ | refine awQ ?_ | refine awR ?_ | refine awS ?_); intro r hr; simp only [go_sem, Nat.reduceBEq, Nat.reduceBneDiff, Nat.reduceLT, Nat.reduceLeDiff, Nat.reduceAdd, Nat.reduceMul, Nat.reduceSub, Nat.reduceEqDiff, reduceCtorEq, f1] at hr; subst hr; (first | refine awV ?_ ?_ | refine awW ?_ ?_ | refine endK ?_ ?_ | (refine condK (fun h => ?_) (fun h => ?_) <;> (try simp only [go_sem, reduceCtorEq] at h) <;> (try (exfalso; omega))))) | fail)) <;> (try omega)
    exact rfl
  have f1 : ((k : Int) < 2) = True := eq_true (by omega)
  have hSm := GCall.weak (tSome_G S R (by omega) (by omega) hpS t P (by omega)) (as' := [.agg [.lst 4 (encTxs S), .lst 2 (encRs R)], vI t, .lst 1 (v8 P)]) (ob' := []) (UpL.up (.cons (up_schx S R) (.cons (.rfl _) (.cons (.rfl _) .nil)))) obUp_nil
  have hW := rSome11_G S R (by omega) (by omega) hpS hcg t ht P (by omega)
  have hLl := someF_len S R t P
  have hK := keptP_G S R (by omega) (by omega) hpS V hV P (by omega)
  generalize someF S R t P = O at *
  obtain ⟨L, e⟩ := O
  simp only at hSm hW hLl
  have hE := equal04_refl L (by omega)
  have hA := apartN11_G L (by omega)
  unfold sV lentV11 lentO11 sO11 at hK
  unfold vSch at hW
  rw [hPn, hV0] at hK
  have htV : (v8 P).take n = v8 P := take_len (by rw [v8_len]; omega)
  have htV2 : (v8 P ++ [mI]).take n = v8 P := take_app _ _ (by rw [v8_len]; omega)
  have hT : (encTxs S ++ [mT]).take S.length = encTxs S := take_app _ _ (by rw [encTxs_len])
  have hR : (encRs R ++ [mR]).take R.length = encRs R := take_app _ _ (by rw [encRs_len])
  have htL := encNs_take' L
  have hnn : (v8 P ++ [mI]).length = n + 1 := by simp [v8, hPn]
  have hle3 : S.length ≤ (encTxs S ++ [mT]).length ∧ R.length ≤ (encRs R ++ [mR]).length := by simp [encTxs, encRs]
  (repeat' (first
    | exact trivial
    | (refine go_cutC (.tmp 98) [1, 7, 8, 9, 10] [7, 9, 30, 8013, 8014, 8021, 8022, 8023, 8024] (fun _ : Unit => ⟨[(1, true, vI t), (7, true, .ptr 1 7 0 0), (8, true, .ref 3 1 30 0 n), (9, true, .ptr 1 9 0 0), (10, true, vI k)],
    [(7, .var [.ref 66 4 8013 0 S.length, .ref 70 2 8014 0 R.length]), (9, .var [.rfx 66 4 8021 0 S.length 1, .rfx 70 2 8022 0 R.length 1, .rfx 43 3 8023 0 0 1, .rfx 3 1 8024 0 n 1]), (30, .row 3 1 (v8 P)),
      (8013, .row 66 4 (encTs S)), (8014, .row 70 2 (encRs R)), (8021, .row 66 4 (encTxs S ++ [mT])), (8022, .row 70 2 (encRs R ++ [mR])), (8023, .row 43 3 (encNs V ++ [mN])), (8024, .row 3 1 (v8 P ++ [mI]))]⟩) (fun _ => True) (hold ?_) ?_)
    | (with_reducible first | refine awA ?_ | refine awB ?_ | refine awC ?_ | refine awD ?_ | refine awE ?_ | refine awF ?_ | refine awG ?_ | refine awH ?_ | refine awI ?_ | refine awJ ?_ | refine awK ?_ | refine awL ?_ | refine awM (by decide) ?_)
    | (refine aw_draw (id := 19) (t := (.node [0, 1, 2, 3, 4, 5, 6] [])) (drR [9] [112] []) mixed (by kernel_rfl) (by kernel_rfl) (fun _ _ h => h) ?_)
    | (refine at_done (by simp only [List.filterMap_cons, List.filterMap_nil, List.getElem?_toArray, List.getElem?_cons_zero, List.getElem?_cons_succ]; exact rfl) ?_) | (refine at_alt (by simp only [List.filterMap_cons, List.filterMap_nil, List.getElem?_toArray, List.getElem?_cons_zero, List.getElem?_cons_succ]; exact rfl) ?_) | refine qalt_normal ?_ | refine ats_cons ?_ ?_ | exact ats_nil
    | ((with_reducible first | refine awN (tyOf_ok _) [] ?_ | refine awO (tyOf_ok _) [] ?_ | refine awP (tyOf_ok _) [] ?_ | refine awQ ?_ | refine awR ?_ | refine awS ?_); intro r hr; simp only [go_sem, Nat.reduceBEq, Nat.reduceBneDiff, Nat.reduceLT, Nat.reduceLeDiff, Nat.reduceAdd, Nat.reduceMul, Nat.reduceSub, Nat.reduceEqDiff, reduceCtorEq, encNs_len, v8_len, hPn, htV, htV2, hT, hR, htkR, htkT, htL, hnn, List.cons_append, List.nil_append, Bool.not_true, Int.toNat_zero, List.drop_zero, Nat.zero_add, ne_eq, not_true_eq_false, decide_false, hwk, f1] at hr; subst hr; (first | refine caA (fun _ => hE) rfl ?_ ?_ ?_ | refine awV ?_ ?_ | refine awW ?_ ?_ | refine endK ?_ ?_ | (refine condK (fun h => ?_) (fun h => ?_) <;> (try simp only [go_sem, reduceCtorEq] at h) <;> (try (exfalso; omega)))))
    | (refine go_callGd 47 rfl [] [(8000, 47)] [47] [] (by simp only [go_sem, Nat.reduceBEq, Nat.reduceBneDiff, Nat.reduceLT, Nat.reduceLeDiff, Nat.reduceAdd, Nat.reduceMul, Nat.reduceSub, Nat.reduceEqDiff, reduceCtorEq, encNs_len, v8_len, hPn, htV, htV2, hT, hR, htkR, htkT, htL, hnn, List.cons_append, List.nil_append, Bool.not_true, Int.toNat_zero, List.drop_zero, Nat.zero_add, ne_eq, not_true_eq_false, decide_false, hwk, f1]; exact rfl) ?_ rfl rfl (by first | exact .inl rfl | exact .inr rfl) (by simp only [go_sem, Nat.reduceBEq, Nat.reduceBneDiff, Nat.reduceLT, Nat.reduceLeDiff, Nat.reduceAdd, Nat.reduceMul, Nat.reduceSub, Nat.reduceEqDiff, reduceCtorEq, encNs_len, v8_len, hPn, htV, htV2, hT, hR, htkR, htkT, htL, hnn, List.cons_append, List.nil_append, Bool.not_true, Int.toNat_zero, List.drop_zero, Nat.zero_add, ne_eq, not_true_eq_false, decide_false, hwk, f1] <;> exact rfl) (hSm) (.inr ⟨rfl, ?_⟩) ?_)
    | (refine go_callGd 56 rfl [] [(8000, 56)] [56] [] (by simp only [go_sem, Nat.reduceBEq, Nat.reduceBneDiff, Nat.reduceLT, Nat.reduceLeDiff, Nat.reduceAdd, Nat.reduceMul, Nat.reduceSub, Nat.reduceEqDiff, reduceCtorEq, encNs_len, v8_len, hPn, htV, htV2, hT, hR, htkR, htkT, htL, hnn, List.cons_append, List.nil_append, Bool.not_true, Int.toNat_zero, List.drop_zero, Nat.zero_add, ne_eq, not_true_eq_false, decide_false, hwk, f1]; exact rfl) ?_ rfl rfl (by first | exact .inl rfl | exact .inr rfl) (by simp only [go_sem, Nat.reduceBEq, Nat.reduceBneDiff, Nat.reduceLT, Nat.reduceLeDiff, Nat.reduceAdd, Nat.reduceMul, Nat.reduceSub, Nat.reduceEqDiff, reduceCtorEq, encNs_len, v8_len, hPn, htV, htV2, hT, hR, htkR, htkT, htL, hnn, List.cons_append, List.nil_append, Bool.not_true, Int.toNat_zero, List.drop_zero, Nat.zero_add, ne_eq, not_true_eq_false, decide_false, hwk, f1] <;> exact rfl) (hSm) (.inr ⟨rfl, ?_⟩) ?_)
    | (refine go_callGd 63 rfl [] [(8000, 63)] [63] [] (by simp only [go_sem, Nat.reduceBEq, Nat.reduceBneDiff, Nat.reduceLT, Nat.reduceLeDiff, Nat.reduceAdd, Nat.reduceMul, Nat.reduceSub, Nat.reduceEqDiff, reduceCtorEq, encNs_len, v8_len, hPn, htV, htV2, hT, hR, htkR, htkT, htL, hnn, List.cons_append, List.nil_append, Bool.not_true, Int.toNat_zero, List.drop_zero, Nat.zero_add, ne_eq, not_true_eq_false, decide_false, hwk, f1]; exact rfl) ?_ rfl rfl (by first | exact .inl rfl | exact .inr rfl) (by simp only [go_sem, Nat.reduceBEq, Nat.reduceBneDiff, Nat.reduceLT, Nat.reduceLeDiff, Nat.reduceAdd, Nat.reduceMul, Nat.reduceSub, Nat.reduceEqDiff, reduceCtorEq, encNs_len, v8_len, hPn, htV, htV2, hT, hR, htkR, htkT, htL, hnn, List.cons_append, List.nil_append, Bool.not_true, Int.toNat_zero, List.drop_zero, Nat.zero_add, ne_eq, not_true_eq_false, decide_false, hwk, f1] <;> exact rfl) (hW) (.inr ⟨rfl, ?_⟩) ?_)
    | (refine go_callGd 90 rfl [(8021, 10000), (8022, 10001), (8023, 10002), (8024, 10003), (8013, 10004), (8014, 10005), (30, 10007)] [(10000, 8021), (10001, 8022), (10002, 8023), (10003, 8024), (10004, 8013), (10005, 8014), (10006, 8026), (10007, 30)] [8026] [8021, 8022, 8023, 8024, 8013, 8014, 30] (by simp only [go_sem, Nat.reduceBEq, Nat.reduceBneDiff, Nat.reduceLT, Nat.reduceLeDiff, Nat.reduceAdd, Nat.reduceMul, Nat.reduceSub, Nat.reduceEqDiff, reduceCtorEq, encNs_len, v8_len, hPn, htV, htV2, hT, hR, htkR, htkT, htL, hnn, List.cons_append, List.nil_append, Bool.not_true, Int.toNat_zero, List.drop_zero, Nat.zero_add, ne_eq, not_true_eq_false, decide_false, hwk, f1]; exact rfl) ?_ rfl rfl (by first | exact .inl rfl | exact .inr rfl) (by simp only [go_sem, Nat.reduceBEq, Nat.reduceBneDiff, Nat.reduceLT, Nat.reduceLeDiff, Nat.reduceAdd, Nat.reduceMul, Nat.reduceSub, Nat.reduceEqDiff, reduceCtorEq, encNs_len, v8_len, hPn, htV, htV2, hT, hR, htkR, htkT, htL, hnn, List.cons_append, List.nil_append, Bool.not_true, Int.toNat_zero, List.drop_zero, Nat.zero_add, ne_eq, not_true_eq_false, decide_false, hwk, f1] <;> exact rfl) (hK) (.inl rfl) ?_)
    | (refine go_callGd 96 rfl [(47, 15000), (56, 15001)] [] [47, 56] [] (by simp only [go_sem, Nat.reduceBEq, Nat.reduceBneDiff, Nat.reduceLT, Nat.reduceLeDiff, Nat.reduceAdd, Nat.reduceMul, Nat.reduceSub, Nat.reduceEqDiff, reduceCtorEq, encNs_len, v8_len, hPn, htV, htV2, hT, hR, htkR, htkT, htL, hnn, List.cons_append, List.nil_append, Bool.not_true, Int.toNat_zero, List.drop_zero, Nat.zero_add, ne_eq, not_true_eq_false, decide_false, hwk, f1]; exact rfl) ?_ rfl rfl (by first | exact .inl rfl | exact .inr rfl) (by simp only [go_sem, Nat.reduceBEq, Nat.reduceBneDiff, Nat.reduceLT, Nat.reduceLeDiff, Nat.reduceAdd, Nat.reduceMul, Nat.reduceSub, Nat.reduceEqDiff, reduceCtorEq, encNs_len, v8_len, hPn, htV, htV2, hT, hR, htkR, htkT, htL, hnn, List.cons_append, List.nil_append, Bool.not_true, Int.toNat_zero, List.drop_zero, Nat.zero_add, ne_eq, not_true_eq_false, decide_false, hwk, f1] <;> exact rfl) (hA) (.inl rfl) ?_)
    | (exact ⟨encNs_nm _, trivial⟩)
    | (exact hle3) | fail)) <;> (try omega)
  · refine ⟨?_⟩
    (repeat' (first
    | exact trivial
    | (with_reducible first | refine awA ?_ | refine awB ?_ | refine awC ?_ | refine awD ?_ | refine awE ?_ | refine awF ?_ | refine awG ?_ | refine awH ?_ | refine awI ?_ | refine awJ ?_ | refine awK ?_ | refine awL ?_ | refine awM (by decide) ?_)
    | (refine aw_draw (id := 19) (t := (.node [0, 1, 2, 3, 4, 5, 6] [])) (drR [9] [112] []) mixed (by kernel_rfl) (by kernel_rfl) (fun _ _ h => h) ?_)
    | (refine at_done (by simp only [List.filterMap_cons, List.filterMap_nil, List.getElem?_toArray, List.getElem?_cons_zero, List.getElem?_cons_succ]; exact rfl) ?_) | (refine at_alt (by simp only [List.filterMap_cons, List.filterMap_nil, List.getElem?_toArray, List.getElem?_cons_zero, List.getElem?_cons_succ]; exact rfl) ?_) | refine qalt_normal ?_ | refine ats_cons ?_ ?_ | exact ats_nil
    | ((with_reducible first | refine awN (tyOf_ok _) [] ?_ | refine awO (tyOf_ok _) [] ?_ | refine awP (tyOf_ok _) [] ?_ | refine awQ ?_ | refine awR ?_ | refine awS ?_); intro r hr; simp only [go_sem, Nat.reduceBEq, Nat.reduceBneDiff, Nat.reduceLT, Nat.reduceLeDiff, Nat.reduceAdd, Nat.reduceMul, Nat.reduceSub, Nat.reduceEqDiff, reduceCtorEq] at hr; subst hr; (first | refine awV ?_ ?_ | refine awW ?_ ?_ | refine endK ?_ ?_ | (refine condK (fun h => ?_) (fun h => ?_) <;> (try simp only [go_sem, reduceCtorEq] at h) <;> (try (exfalso; omega))))) | fail)) <;> (try omega)
    exact ⟨(), by simp only [go_sem, Nat.reduceBEq, Nat.reduceBneDiff, Nat.reduceLT, Nat.reduceLeDiff, Nat.reduceAdd, Nat.reduceMul, Nat.reduceSub, Nat.reduceEqDiff, reduceCtorEq] <;> exact rfl, trivial⟩
  intro _ _
  clear hSm hW hE hK hA hle3 hT hR htL
  clear htV htV2 hcg hpS hcp hg hp
  by_cases hn0 : n = 0
  · have f3 : (0 < (n : Int)) = False := eq_false (by omega)
    (repeat' (first
    | exact trivial
    | (with_reducible first | refine awA ?_ | refine awB ?_ | refine awC ?_ | refine awD ?_ | refine awE ?_ | refine awF ?_ | refine awG ?_ | refine awH ?_ | refine awI ?_ | refine awJ ?_ | refine awK ?_ | refine awL ?_ | refine awM (by decide) ?_)
    | (refine aw_draw (id := 19) (t := (.node [0, 1, 2, 3, 4, 5, 6] [])) (drR [9] [112] []) mixed (by kernel_rfl) (by kernel_rfl) (fun _ _ h => h) ?_)
    | (refine at_done (by simp only [List.filterMap_cons, List.filterMap_nil, List.getElem?_toArray, List.getElem?_cons_zero, List.getElem?_cons_succ]; exact rfl) ?_) | (refine at_alt (by simp only [List.filterMap_cons, List.filterMap_nil, List.getElem?_toArray, List.getElem?_cons_zero, List.getElem?_cons_succ]; exact rfl) ?_) | refine qalt_normal ?_ | refine ats_cons ?_ ?_ | exact ats_nil
    | ((with_reducible first | refine awN (tyOf_ok _) [] ?_ | refine awO (tyOf_ok _) [] ?_ | refine awP (tyOf_ok _) [] ?_ | refine awQ ?_ | refine awR ?_ | refine awS ?_); intro r hr; simp only [go_sem, Nat.reduceBEq, Nat.reduceBneDiff, Nat.reduceLT, Nat.reduceLeDiff, Nat.reduceAdd, Nat.reduceMul, Nat.reduceSub, Nat.reduceEqDiff, reduceCtorEq, f3, hwk] at hr; subst hr; (first | refine awV ?_ ?_ | refine awW ?_ ?_ | refine endK ?_ ?_ | (refine condK (fun h => ?_) (fun h => ?_) <;> (try simp only [go_sem, reduceCtorEq] at h) <;> (try (exfalso; omega))))) | fail)) <;> (try omega)
    all_goals exact ⟨(k + 1, P), by simp only [go_sem, Nat.reduceBEq, Nat.reduceBneDiff, Nat.reduceLT, Nat.reduceLeDiff, Nat.reduceAdd, Nat.reduceMul, Nat.reduceSub, Nat.reduceEqDiff, reduceCtorEq] <;> exact rfl, ⟨by simp only; omega, hPn⟩, by simp only; omega⟩
  · have f3 : (0 < (n : Int)) = True := eq_true (by omega)
    have hlt : 0 < P.length := by omega
    have gv := v8_get hlt
    have gl : (v8 P ++ [mI])[0]? = some [vI P[0]] := by rw [List.getElem?_append_left (by rw [v8_len]; exact hlt)]; exact gv
    generalize hyy : bits .xor .i64 P[0] 1 = y at *
    have hs1 := v8_set P 0 y
    have hs2 := v8_setm P 0 hlt y
    have gv2 : (v8 (P.set 0 y))[0]? = some [vI y] := by rw [v8_get (by simpa using hlt)]; simp
    have hV2 : (P.set 0 y).length = n := by simp [hPn]
    generalize P.set 0 y = P2 at *
    generalize P[0] = x at *
    (repeat' (first
    | exact trivial
    | (with_reducible first | refine awA ?_ | refine awB ?_ | refine awC ?_ | refine awD ?_ | refine awE ?_ | refine awF ?_ | refine awG ?_ | refine awH ?_ | refine awI ?_ | refine awJ ?_ | refine awK ?_ | refine awL ?_ | refine awM (by decide) ?_)
    | (refine aw_draw (id := 19) (t := (.node [0, 1, 2, 3, 4, 5, 6] [])) (drR [9] [112] []) mixed (by kernel_rfl) (by kernel_rfl) (fun _ _ h => h) ?_)
    | (refine at_done (by simp only [List.filterMap_cons, List.filterMap_nil, List.getElem?_toArray, List.getElem?_cons_zero, List.getElem?_cons_succ]; exact rfl) ?_) | (refine at_alt (by simp only [List.filterMap_cons, List.filterMap_nil, List.getElem?_toArray, List.getElem?_cons_zero, List.getElem?_cons_succ]; exact rfl) ?_) | refine qalt_normal ?_ | refine ats_cons ?_ ?_ | exact ats_nil
    | ((with_reducible first | refine awN (tyOf_ok _) [] ?_ | refine awO (tyOf_ok _) [] ?_ | refine awP (tyOf_ok _) [] ?_ | refine awQ ?_ | refine awR ?_ | refine awS ?_); intro r hr; simp only [go_sem, Nat.reduceBEq, Nat.reduceBneDiff, Nat.reduceLT, Nat.reduceLeDiff, Nat.reduceAdd, Nat.reduceMul, Nat.reduceSub, Nat.reduceEqDiff, reduceCtorEq, f3, hwk, gv, gl, hyy, hs1, hs2, gv2, Int.toNat_zero, Nat.zero_add] at hr; subst hr; (first | refine awV ?_ ?_ | refine awW ?_ ?_ | refine endK ?_ ?_ | (refine condK (fun h => ?_) (fun h => ?_) <;> (try simp only [go_sem, reduceCtorEq] at h) <;> (try (exfalso; omega))))) | fail)) <;> (try omega)
    all_goals exact ⟨(k + 1, P2), by simp only [go_sem, Nat.reduceBEq, Nat.reduceBneDiff, Nat.reduceLT, Nat.reduceLeDiff, Nat.reduceAdd, Nat.reduceMul, Nat.reduceSub, Nat.reduceEqDiff, reduceCtorEq] <;> exact rfl, ⟨by simp only; omega, hV2⟩, by simp only; omega⟩
end Go.Proofs.YtfgacgpicfknpaaDoor
end

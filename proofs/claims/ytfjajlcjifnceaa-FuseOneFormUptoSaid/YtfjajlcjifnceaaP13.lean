import Derived.Test.YtfjajlcjifnceaaRows
import Derived.ProofKit
import Derived.OpenShut
import Derived.ShutString
import Derived.ChangeOld
import Derived.Deep.Slices
import Derived.JoinedCond
import Derived.Test.YtfjajlcjifnceaaP12
set_option linter.all false
set_option maxRecDepth 100000
set_option maxHeartbeats 8000000
namespace Go.Proofs.Ytfjajlcjifnceaa
section
open Go.ChangeShapes Go.WideShapes Go.ChangeAt Go.RowKit
theorem own : ownKnob Try.prog.godebug = none := by kernel_rfl
theorem UT : laidOutB Try.prog = true := by kernel_rfl
end
section
open Go.ChangeShapes Go.WideShapes Go.ChangeAt Go.RowKit Go.Deep
theorem V0 (b off j : Nat) : (⟨b, off, none⟩ : Addr).add j = ⟨b, off + j, none⟩ := by
 unfold Addr.add; by_cases h : j = 0 <;> simp [h]
section
variable {H : Type} {enc : TypeId × Value → H} {P : Program} {w : World} {base : Nat} {spare : Nat → Bool} {held : Bool}
end
end
section
open Go.RowKit
section
variable {P : Program} {w : World}
theorem zN.row {f : Nat} {args : List AV} (h : zN P f args (fun r => r = .v (.bool true))) (vs : Array Value) (hl : vs.size = args.length)
  (ha : ∀ (i : Nat) (x : AV) (v : Value), args[i]? = some x → vs[i]? = some v → AVR (fun b => b < w.heap.size) (fun _ => none) w x v) (hg : FOK (fun b => b < w.heap.size) w) :
  Calls P f vs w fun e w' => e = .returned (.bool true) ∧ Below w.heap.size w w' :=
 (h.2 w _ vs hg hl ha).mono fun e w' ⟨v, r, h1, h2, h3, h4⟩ => by
  subst h2
  cases h4 with
  | s h4 =>
  cases h4 with
  | v _ => exact ⟨h1, h3⟩
end
end
end Go.Proofs.Ytfjajlcjifnceaa
section
namespace Go.Proofs.Ytfjajlcjifnceaa.bulks
open Go.ChangeShapes Go.WideShapes Go.ChangeAt Go.RowKit
theorem zcj {H : Type} (d : DataW H) : 1 ≤ Rows.uptoBulk d := by
 cases d with
 | lit l => cases l <;> simp [Rows.uptoBulk]
 | nil => simp [Rows.uptoBulk]
 | ptr d => simp [Rows.uptoBulk]
 | slice elems spare => simp [Rows.uptoBulk]
 | agg parts => simp [Rows.uptoBulk]
 | iface t d => simp [Rows.uptoBulk]
 | map entries => simp [Rows.uptoBulk]
 | held h => simp [Rows.uptoBulk]
theorem part_le {H : Type} {d : DataW H} {l : List (DataW H)} (h : d ∈ l) : Rows.uptoBulk d ≤ Rows.uptoBulkAll l := by
 induction l with
 | nil => cases h
 | cons x r ih =>
  simp only [Rows.uptoBulkAll]
  cases List.mem_cons.1 h with
  | inl e => subst e; omega
  | inr e => have := ih e; omega
theorem length_le {H : Type} (l : List (DataW H)) : l.length ≤ Rows.uptoBulkAll l := by
 induction l with
 | nil => simp [Rows.uptoBulkAll]
 | cons x r ih => have := zcj x; simp only [Rows.uptoBulkAll, List.length_cons]; omega
theorem bound {H : Type} {l : List (DataW H)} (hk : Rows.uptoSmall H l = true) : Rows.uptoBulkAll l ≤ 1048576 := of_decide_eq_true hk
end Go.Proofs.Ytfjajlcjifnceaa.bulks
end
namespace Go.Proofs.Ytfjajlcjifnceaa
section
open Go.ChangeShapes Go.WideShapes Go.ChangeAt Go.RowKit Go.Deep
def QV (P : Program) : List Field → Nat → Nat → Bool
 | [], o, n => o == n
 | f :: l, o, n => (f.offset == o) && QV P l (o + P.cellsOf f.type) n
def vw (P : Program) : Nat → TypeId → Bool
 | 0, _ => false
 | n + 1, t =>
  match P.underlying t with
  | some .bool | some .string => P.cellsOf t == 1
  | some (.int _) => P.cellsOf t == 1
  | some (.slice e) => P.cellsOf t == 1 && Nat.blt 0 (P.cellsOf e) && vw P n e
  | some (.struct fs) => QV P fs.toList 0 (P.cellsOf t) && fs.toList.all fun f => vw P n f.type
  | _ => false
def y6 (P : Program) (B : Nat) : Nat → TypeId → List AV → Prop
 | 0, _, _ => False
 | n + 1, t, us =>
  match P.underlying t with
  | some .bool => ∃ b, us = [.v (.bool b)]
  | some (.int k) => ∃ z, us = [.v (.int k z)] ∧ (Lit.int k z).wf = true
  | some .string => ∃ s : ByteArray, us = [.v (.string s)] ∧ s.size ≤ B
  | some (.slice e) => ∃ xs, us = [.lst (P.cellsOf e) xs] ∧ xs.length ≤ B ∧ ∀ cs ∈ xs, cs.length = P.cellsOf e ∧ y6 P B n e cs
  | some (.struct fs) => us.length = P.cellsOf t ∧ ∀ (i : Nat) (f : Field), fs[i]? = some f → y6 P B n f.type ((us.drop f.offset).take (P.cellsOf f.type))
  | _ => False
def uS (P : Program) (B n : Nat) (t : TypeId) (x : AV) : Prop :=
 match P.underlying t with
 | some (.struct _) => ∃ us, x = .agg us ∧ y6 P B n t us
 | _ => y6 P B n t [x]
def qE (P : Program) (B n : Nat) : List TypeId → List AV → Prop
 | [], [] => True
 | t :: ts, x :: xs => uS P B n t x ∧ qE P B n ts xs
 | _, _ => False
theorem jW {H : Type} {elems spare : List (DataW H)} {B : Nat} (h : Rows.uptoBulk (.slice elems spare) ≤ B) : elems.length ≤ B ∧ ∀ d ∈ elems, Rows.uptoBulk d ≤ B := by
 simp only [Rows.uptoBulk] at h
 have h1 := bulks.length_le elems
 exact ⟨by omega, fun d hd => by have := bulks.part_le hd; omega⟩
theorem JI {H : Type} {parts : List (DataW H)} {B : Nat} (h : Rows.uptoBulk (.agg parts) ≤ B) : ∀ d ∈ parts, Rows.uptoBulk d ≤ B := fun d hd => by
 simp only [Rows.uptoBulk] at h
 have := bulks.part_le hd; omega
section
variable {H : Type} {enc : TypeId × Value → H} {P : Program} {w : World} {base : Nat} {spare : Nat → Bool} {held : Bool}
theorem VD : ∀ (l : List Field) (o n : Nat), QV P l o n = true → ∀ (us : Nat → List AV), (∀ (i : Nat) (f : Field), l[i]? = some f → (us i).length = P.cellsOf f.type) →
  ∃ r : List AV, r.length = n - o ∧ o ≤ n ∧ (∀ (i : Nat) (f : Field), l[i]? = some f → o ≤ f.offset ∧ (r.drop (f.offset - o)).take (P.cellsOf f.type) = us i) ∧
   ∀ j, j < n - o → ∃ i f q, l[i]? = some f ∧ q < P.cellsOf f.type ∧ o + j = f.offset + q ∧ r[j]? = (us i)[q]? := by
 intro l
 induction l with
 | nil =>
  intro o n h us _
  simp only [QV, beq_iff_eq] at h
  subst h
  exact ⟨[], by simp, Nat.le_refl _, fun i f h => by simp at h, fun j hj => by omega⟩
 | cons g l ih =>
  intro o n h us hus
  simp only [QV, Bool.and_eq_true, beq_iff_eq] at h
  obtain ⟨rfl, h⟩ := h
  obtain ⟨r, h1, h2, h3, h4⟩ := ih _ _ h (fun i => us (i + 1)) fun i f hf => hus (i + 1) f (by simpa using hf)
  have hl0 := hus 0 g rfl
  refine ⟨us 0 ++ r, by rw [List.length_append]; omega, by omega, fun i f hf => ?_, fun j hj => ?_⟩
  ·cases i with
   | zero =>
    simp only [List.getElem?_cons_zero, Option.some.injEq] at hf
    subst hf
    refine ⟨Nat.le_refl _, ?_⟩
    rw [Nat.sub_self, List.drop_zero, ← hl0, List.take_left]
   | succ i =>
    obtain ⟨g1, g2⟩ := h3 i f (by simpa using hf)
    refine ⟨by omega, ?_⟩
    rw [show f.offset - g.offset = (us 0).length + (f.offset - (g.offset + P.cellsOf g.type)) by omega, List.drop_append, List.drop_of_length_le (by omega), List.nil_append]
    rw [show (us 0).length + (f.offset - (g.offset + P.cellsOf g.type)) - (us 0).length = f.offset - (g.offset + P.cellsOf g.type) by omega]
    exact g2
  ·rcases Nat.lt_or_ge j (us 0).length with hlt | hge
   ·exact ⟨0, g, j, rfl, by omega, rfl, by rw [List.getElem?_append_left hlt]⟩
   ·obtain ⟨i, f, q, g1, g2, g3, g4⟩ := h4 (j - (us 0).length) (by omega)
    exact ⟨i + 1, f, q, by simpa using g1, g2, by omega, by rw [List.getElem?_append_right hge]; exact g4⟩
theorem JJ (B : Nat) : ∀ (n : Nat) (t : TypeId), vw P n t = true → ∀ (fuel : Nat) (cs : List Value) (x : DataW H × List MemPlace), DataW.trod enc P w base spare held fuel t cs = some x → (Rows.uptoBulk x.1 ≤ B ∨ maxLen ≤ B) →
  ∃ us : List AV, us.length = cs.length ∧ cs.length = P.cellsOf t ∧ (∀ (j : Nat) (u : AV) (v : Value), us[j]? = some u → cs[j]? = some v → SVR (fun b => b < w.heap.size) w u v) ∧ y6 P B n t us := by
 intro n
 induction n with
 | zero => intro t h; cases h
 | succ n ih =>
  intro t hp fuel cs x h hB
  have one : ∀ (u : AV) (v : Value), SVR (fun b => b < w.heap.size) w u v → ∀ (j : Nat) (u' : AV) (v' : Value), [u][j]? = some u' → [v][j]? = some v' → SVR (fun b => b < w.heap.size) w u' v' := fun u v hs j u' v' h1 h2 => by
   cases j with
   | zero => simp only [List.getElem?_cons_zero, Option.some.injEq] at h1 h2; subst h1; subst h2; exact hs
   | succ j => simp at h1
  unfold vw at hp
  split at hp
  ·rename_i ht
   obtain ⟨b, rfl, rfl⟩ := DataW.trod_bool ht h
   simp only [beq_iff_eq] at hp
   exact ⟨[.v (.bool b)], rfl, hp.symm, one _ _ (.v rfl), by unfold y6; rw [ht]; exact ⟨b, rfl⟩⟩
  ·rename_i ht
   obtain ⟨s, rfl, rfl, hs⟩ := DataW.trod_string ht h
   simp only [beq_iff_eq] at hp
   have hsB : s.size ≤ B := by
    rcases hB with hB | hB
    ·simp only [Rows.uptoBulk] at hB
     have h1 : s.data.toList.length = s.size := by rw [Array.length_toList]; rfl
     omega
    ·exact Nat.le_trans hs hB
   refine ⟨[.v (.string s)], rfl, hp.symm, one _ _ (.v rfl), ?_⟩
   unfold y6
   rw [ht]
   exact ⟨s, rfl, hsB⟩
  ·rename_i k ht
   obtain ⟨z, rfl, rfl, hz⟩ := DataW.trod_int ht h
   simp only [beq_iff_eq] at hp
   exact ⟨[.v (.int k z)], rfl, hp.symm, one _ _ (.v rfl), by unfold y6; rw [ht]; exact ⟨z, rfl, hz⟩⟩
  ·rename_i e ht
   simp only [Bool.and_eq_true, beq_iff_eq] at hp
   obtain ⟨⟨hp1, hp2⟩, hp3⟩ := hp
   have hk0 : 0 < P.cellsOf e := Nat.le_of_ble_eq_true hp2
   rcases open_slice ht h with ⟨h0, _⟩ | ⟨a, len, cap, m, f', D, Pl, rfl, hb, hl, hm, hmm, hx0, hx⟩
   ·subst h0
    refine ⟨[.lst (P.cellsOf e) []], rfl, hp1.symm, one _ _ (.lst (fun _ _ => .nilFunc) rfl (Nat.le_refl _) (by decide) (fun cs h => by cases h) (fun h => absurd h (Nat.lt_irrefl _)) (fun i j hi => absurd hi (Nat.not_lt_zero _)) (fun i j cs u h => by simp at h)), ?_⟩
    unfold y6
    rw [ht]
    exact ⟨[], rfl, Nat.zero_le _, fun cs h => by cases h⟩
   ·have hlm : len ≤ m := by rw [hmm]; split <;> omega
    have hBe : ∀ i, i < len → Rows.uptoBulk (D i) ≤ B ∨ maxLen ≤ B := fun i hi => by
     rcases hB with hB | hB
     ·rw [hx0] at hB
      exact .inl ((jW hB).2 _ (List.mem_map.2 ⟨i, List.mem_range.2 hi, rfl⟩))
     ·exact .inr hB
    have hBl : len ≤ B := by
     rcases hB with hB | hB
     ·rw [hx0] at hB
      have := (jW hB).1
      simpa using this
     ·omega
    obtain ⟨f, hf⟩ := choose_lt (n := len) (p := fun i (y : List AV × List Value) => w.cells? base (a.add (i * P.cellsOf e)) (P.cellsOf e) = some y.2 ∧ y.1.length = y.2.length ∧ y.2.length = P.cellsOf e ∧
      (∀ (j : Nat) (u : AV) (v : Value), y.1[j]? = some u → y.2[j]? = some v → SVR (fun b => b < w.heap.size) w u v) ∧ y6 P B n e y.1) (fun i hi => by
     obtain ⟨cs', h1, h2⟩ := hx i (by omega)
     obtain ⟨us, g1, g2, g3, g4⟩ := ih e hp3 _ _ _ h2 (hBe i hi)
     exact ⟨(us, cs'), h1, g1, g2, g3, g4⟩)
    refine ⟨[.lst (P.cellsOf e) ((List.range len).map fun i => (f i).1)], rfl, hp1.symm, one _ _ ?_, ?_⟩
    ·refine .lst (fun i j => ((f i).2[j]?).getD undef) (by simp) hl hm (fun cs hcs => ?_) (fun hn => ?_) (fun i j hi hj => ?_) (fun i j cs u hc hu => ?_)
     ·obtain ⟨i, hi, rfl⟩ := List.mem_map.1 hcs
      have := hf i (List.mem_range.1 hi)
      omega
     ·have hcell : ∀ i j, i < len → j < P.cellsOf e → w.cell? ((a.add (i * P.cellsOf e)).add j) = (f i).2[j]? := fun i j hi hj => (World.cells?_some (hf i hi).1).2.2 j hj
      obtain ⟨b, off, spot⟩ := a
      have h00 := hcell 0 0 hn hk0
      rw [Nat.zero_mul] at h00
      have hz : ((⟨b, off, spot⟩ : Addr).add 0).add 0 = ⟨b, off, spot⟩ := by simp [Addr.add]
      rw [hz, List.getElem?_eq_getElem (by have := hf 0 hn; omega)] at h00
      have hspot : spot = none := World.cell?_spot h00
      subst hspot
      refine ⟨b, off, rfl, World.block_lt_of_cell? w _ h00, fun i j hi hj => ?_⟩
      have h5 := hcell i j hi hj
      rw [add_add, V0] at h5
      rw [h5, List.getElem?_eq_getElem (by have := hf i hi; omega)]
      rfl
     ·have h5 := hf i hi
      have hj1 : j < (f i).1.length := by omega
      have hj2 : j < (f i).2.length := by omega
      rw [List.getElem?_eq_getElem hj2, Option.getD_some]
      exact (h5.2.2.2.1 j _ _ (List.getElem?_eq_getElem hj1) (List.getElem?_eq_getElem hj2)).one
     ·rw [List.getElem?_map] at hc
      rcases Nat.lt_or_ge i len with hi | hi
      ·rw [List.getElem?_range hi] at hc
       simp only [Option.map_some, Option.some.injEq] at hc
       subst hc
       have h5 := hf i hi
       have hj1 : j < (f i).1.length := zE hu
       have hj2 : j < (f i).2.length := by omega
       rw [List.getElem?_eq_getElem hj2, Option.getD_some]
       exact h5.2.2.2.1 j _ _ hu (List.getElem?_eq_getElem hj2)
      ·rw [List.getElem?_eq_none (by simpa using hi)] at hc; cases hc
    ·unfold y6
     rw [ht]
     refine ⟨_, rfl, by simpa using hBl, fun cs hcs => ?_⟩
     obtain ⟨i, hi, rfl⟩ := List.mem_map.1 hcs
     have := hf i (List.mem_range.1 hi)
     exact ⟨by omega, this.2.2.2.2⟩
  ·rename_i fs ht
   simp only [Bool.and_eq_true, List.all_eq_true] at hp
   obtain ⟨hp1, hp2⟩ := hp
   obtain ⟨xs, n', rfl, hx0, hlen, hxl, hf⟩ := DataW.trod_struct ht h
   have hBe : ∀ (i : Nat) (y : DataW H × List MemPlace), xs[i]? = some y → Rows.uptoBulk y.1 ≤ B ∨ maxLen ≤ B := fun i y hy => by
    rcases hB with hB | hB
    ·rw [hx0] at hB
     exact .inl (JI hB _ (List.mem_map.2 ⟨y, List.mem_of_getElem? hy, rfl⟩))
    ·exact .inr hB
   obtain ⟨us, hus⟩ := choose_lt (n := fs.size) (p := fun i (u : List AV) => ∀ f, fs[i]? = some f → u.length = P.cellsOf f.type ∧ ((cs.drop f.offset).take (P.cellsOf f.type)).length = P.cellsOf f.type ∧
     (∀ (j : Nat) (a : AV) (v : Value), u[j]? = some a → ((cs.drop f.offset).take (P.cellsOf f.type))[j]? = some v → SVR (fun b => b < w.heap.size) w a v) ∧ y6 P B n f.type u) (fun i hi => by
    have hix : i < xs.length := by omega
    have hfi := hf i fs[i] (Array.getElem?_eq_getElem hi)
    rw [List.getElem?_eq_getElem hix] at hfi
    obtain ⟨u, g1, g2, g3, g4⟩ := ih (fs[i]).type (hp2 _ (by simp)) _ _ _ hfi (hBe i _ (List.getElem?_eq_getElem hix))
    refine ⟨u, fun f hf' => ?_⟩
    rw [Array.getElem?_eq_getElem hi] at hf'
    injection hf' with hf'
    subst hf'
    exact ⟨by omega, g2, g3, g4⟩)
   have lt_of : ∀ (i : Nat) (f : Field), fs[i]? = some f → i < fs.size := fun i f h => by
    rcases Nat.lt_or_ge i fs.size with h' | h'
    ·exact h'
    ·rw [Array.getElem?_eq_none h'] at h; cases h
   obtain ⟨r, r1, r2, r3, r4⟩ := VD fs.toList 0 (P.cellsOf t) hp1 us fun i f hf' => by
    have hf'' : fs[i]? = some f := by simpa using hf'
    exact (hus i (lt_of i f hf'') f hf'').1
   refine ⟨r, by omega, hlen, fun j u v hu hv => ?_, ?_⟩
   ·obtain ⟨i, f, q, g1, g2, g3, g4⟩ := r4 j (by have := zE hu; omega)
    have g1' : fs[i]? = some f := by simpa using g1
    rw [hu] at g4
    refine (hus i (lt_of i f g1') f g1').2.2.1 q u v g4.symm ?_
    rw [List.getElem?_take_of_lt g2, List.getElem?_drop, ← g3, Nat.zero_add]
    exact hv
   ·unfold y6
    rw [ht]
    refine ⟨by omega, fun i f hf' => ?_⟩
    have := (r3 i f (by simpa using hf')).2
    rw [Nat.sub_zero] at this
    rw [this]
    exact (hus i (lt_of i f hf') f hf').2.2.2
  ·cases hp
theorem JK {B n : Nat} {t : TypeId} (hp : vw P n t = true) {v : Value} {d : DataW H} {p : List MemPlace} (h : DataW.Trod enc P w base spare held t v d p) {r : Reach} {b0 : Nat} (ho : Value.okWide P w r b0 t v) (hB : Rows.uptoBulk d ≤ B ∨ maxLen ≤ B) :
  ∃ x, AVR (fun b => b < w.heap.size) (fun _ => none) w x v ∧ uS P B n t x := by
 obtain ⟨fuel, hf⟩ := h
 obtain ⟨us, h1, h2, h3, h4⟩ := JJ B n t hp fuel _ _ hf hB
 have leaf : v.cells = #[v] → (∀ fs, P.underlying t ≠ some (.struct fs)) → ∃ x, AVR (fun b => b < w.heap.size) (fun _ => none) w x v ∧ uS P B n t x := fun hv hns => by
  rw [hv] at h1 h3
  obtain ⟨u, rfl⟩ := List.length_eq_one_iff.1 (show us.length = 1 by simpa using h1)
  refine ⟨u, .s (h3 0 u v rfl rfl), ?_⟩
  unfold uS
  split
  ·rename_i fs ht; exact absurd ht (hns fs)
  ·exact h4
 have hp' := hp
 cases n with
 | zero => cases hp
 | succ n =>
 unfold vw at hp'
 split at hp'
 ·rename_i ht
  obtain ⟨b, rfl⟩ := okWide_bool ht ho
  exact leaf rfl fun fs h => by rw [ht] at h; cases h
 ·rename_i ht
  obtain ⟨b, rfl⟩ := okWide_string ht ho
  exact leaf rfl fun fs h => by rw [ht] at h; cases h
 ·rename_i k ht
  obtain ⟨b, rfl⟩ := okWide_int ht ho
  exact leaf rfl fun fs h => by rw [ht] at h; cases h
 ·rename_i e ht
  obtain ⟨a, l, c, rfl⟩ := okWide_slice ht ho
  exact leaf rfl fun fs h => by rw [ht] at h; cases h
 ·rename_i fs ht
  obtain ⟨cs, rfl, hcs⟩ := okWide_struct ht ho
  have hc : (Value.agg cs).cells = cs := rfl
  rw [hc] at h1 h3
  refine ⟨.agg us, .agg (by simpa using h1.symm) (fun i u hu => ?_) (fun i c u hc hu => .s (h3 i c u hc (by simpa using hu))), ?_⟩
  ·have hi : i < us.length := by
    rw [h1]
    have := zE (l := cs.toList) (i := i) (x := u) (by simpa using hu)
    exact this
   exact (h3 i _ u (List.getElem?_eq_getElem hi) (by simpa using hu)).one
  ·unfold uS
   rw [ht]
   exact ⟨us, rfl, h4⟩
 ·cases hp'
theorem QW {B n : Nat} {r : Reach} {b0 : Nat} : ∀ (ts : List TypeId) (vs : List Value) (ds : List (DataW H)) (p : List MemPlace), DataW.TrodAll enc P w base spare held ts vs ds p → (∀ t ∈ ts, vw P n t = true) →
  (∀ (j : Nat) t v, ts[j]? = some t → vs[j]? = some v → Value.okWide P w r b0 t v) → (Rows.uptoBulkAll ds ≤ B ∨ maxLen ≤ B) →
  ds.length = ts.length ∧ vs.length = ts.length ∧ ∃ as' : List AV, as'.length = vs.length ∧ (∀ (i : Nat) (x : AV) (v : Value), as'[i]? = some x → vs[i]? = some v → AVR (fun b => b < w.heap.size) (fun _ => none) w x v) ∧ qE P B n ts as' := by
 intro ts
 induction ts with
 | nil =>
  intro vs ds p h _ _ _
  obtain ⟨rfl, rfl, rfl⟩ := trodAll_nil h
  exact ⟨rfl, rfl, [], rfl, fun i x v h => by simp at h, trivial⟩
 | cons t ts ih =>
  intro vs ds p h hp ho hB
  obtain ⟨v, vs', d, ds', p1, q, rfl, rfl, rfl, h1, h2⟩ := trodAll_cons h
  have hB1 : Rows.uptoBulk d ≤ B ∨ maxLen ≤ B := hB.imp (fun h => by simp only [Rows.uptoBulkAll] at h; omega) id
  have hB2 : Rows.uptoBulkAll ds' ≤ B ∨ maxLen ≤ B := hB.imp (fun h => by simp only [Rows.uptoBulkAll] at h; omega) id
  obtain ⟨x, g1, g2⟩ := JK (hp t (.head _)) h1 (ho 0 t v rfl rfl) hB1
  obtain ⟨e1, e2, as', g3, g4, g5⟩ := ih vs' ds' q h2 (fun t ht => hp t (.tail _ ht)) (fun j t v h1 h2 => ho (j + 1) t v (by simpa using h1) (by simpa using h2)) hB2
  refine ⟨by simp [e1], by simp [e2], x :: as', by simp [g3], fun i y u hy hu => ?_, g2, g5⟩
  cases i with
  | zero => simp only [List.getElem?_cons_zero, Option.some.injEq] at hy hu; subst hy; subst hu; exact g1
  | succ i => exact g4 i y u (by simpa using hy) (by simpa using hu)
end
theorem ZI {H : Type} {enc : TypeId × Value → H} {P : Program} (hl : laidOutB P = true) {W W' : World} (hb : Below W.heap.size W W') : ∀ (ts : List TypeId) (vs : List Value) (ds : List (DataW H)) (p : List MemPlace),
  (∀ t ∈ ts, P.readableRec t = true ∧ t < P.types.size) → DataW.TrodAll enc P W 0 (fun _ => true) true ts vs ds p → DataW.TrodAll enc P W' 0 (fun b => decide (b < W.heap.size)) true ts vs ds p := by
 intro ts
 induction ts with
 | nil =>
  intro vs ds p _ h
  obtain ⟨rfl, rfl, rfl⟩ := trodAll_nil h
  exact trodAll_mk0
 | cons t ts ih =>
  intro vs ds p hr h
  obtain ⟨v, vs', d, ds', p1, q, rfl, rfl, rfl, h1, h2⟩ := trodAll_cons h
  have hlt : ∀ x ∈ p1, x.block < W.heap.size := by obtain ⟨m, hm⟩ := h1; exact DataW.trod_lt m _ _ _ hm
  exact trodAll_cons_mk (Below.trod hl (hr t (.head _)).1 (hr t (.head _)).2 h1 hb hlt) (ih vs' ds' q (fun t ht => hr t (.tail _ ht)) h2)
theorem uT {P : Program} (hl : laidOutB P = true) {f : FuncId} {fn : Func} {spec : ChangeSpec} {tb B n : Nat} (hvars : spec.vars = []) (hres : fn.resultTypes = #[tb]) (htb : P.underlying tb = some .bool)
  (hfn : ∀ (H : Type) (ds : List (DataW H)), ds.length = fn.params.toList.length → spec.fn H ds = { results := [.lit (.bool true)], args := ds, vars := [] })
  (hplain : (fn.params.toList.all fun t => vw P n t && P.readableRec t && decide (t < P.types.size)) = true)
  (walk : ∀ as', qE P B n fn.params.toList as' → zN P f as' (fun r => r = .v (.bool true)))
  (H : Type) (enc : TypeId × Value → H) (W : World) (base : Nat) (args : Array Value) (ds gs : List (DataW H)) (before : List MemPlace)
  (hval : ∀ (j : Nat) t v, fn.params[j]? = some t → args[j]? = some v → Value.okWide P W .any base t v)
  (hW : DataW.Whole enc P fn.params.toList spec.vars false W args.toList ds gs before) (hk : Rows.uptoBulkAll (ds ++ gs) ≤ B ∨ maxLen ≤ B) (hF : FOK (fun b => b < W.heap.size) W) :
  Calls P f args W fun e W' => ∃ v, e = .returned v ∧ spec.post enc P fn false true false false W args v W' := by
 have hW' := hW
 obtain ⟨p, q, hA, hV, rfl, hfz, hnd⟩ := hW
 rw [hvars] at hV
 obtain ⟨rfl, rfl⟩ := trodVars_none hV
 rw [List.append_nil] at hk
 simp only [List.all_eq_true, Bool.and_eq_true, decide_eq_true_eq] at hplain
 obtain ⟨e1, e2, as', g1, g2, g3⟩ := QW _ _ _ _ hA (fun t ht => (hplain t ht).1.1) (fun j t v h1 h2 => hval j t v (by simpa using h1) (by simpa using h2)) hk
 refine (zN.row (walk as' g3) args (by simpa using g1.symm) (fun i x v hx hv => g2 i x v hx (by simpa using hv)) hF).mono fun e W' ⟨he, bel⟩ => ?_
 subst he
 have hs : spec.fn H (ds ++ []) = { results := [.lit (.bool true)], args := ds, vars := [] } := by rw [List.append_nil]; exact hfn H ds e1
 refine ⟨_, rfl, ds, [], _, [], p, [], hW', ?_, ?_, ?_, bel.frame _, fun h => by cases h⟩
 ·rw [hs, hres]
  exact trodAll_mk1 (shut_bool htb _)
 ·rw [hs]
  exact ZI hl bel _ _ _ _ (fun t ht => ⟨(hplain t ht).1.2, (hplain t ht).2⟩) hA
 ·rw [hs, hvars]; rfl
end
section
open Go.ChangeShapes Go.WideShapes Go.ChangeAt Go.RowKit
section
variable {P : Program} {B n : Nat} {t e : TypeId} {us : List AV}
theorem YX {k : IntKind} (ht : P.underlying t = some (.int k)) (h : y6 P B (n + 1) t us) : ∃ z, us = [.v (.int k z)] ∧ (Lit.int k z).wf = true := by
 unfold y6 at h; rw [ht] at h; exact h
theorem zbN (ht : P.underlying t = some .bool) (h : y6 P B (n + 1) t us) : ∃ b, us = [.v (.bool b)] := by
 unfold y6 at h; rw [ht] at h; exact h
theorem Kr {ts : List TypeId} {as' : List AV} (h : qE P B n (t :: ts) as') : ∃ x xs, as' = x :: xs ∧ uS P B n t x ∧ qE P B n ts xs := by
 cases as' with
 | nil => exact h.elim
 | cons x xs => exact ⟨x, xs, rfl, h.1, h.2⟩
theorem zaC {as' : List AV} (h : qE P B n [] as') : as' = [] := by
 cases as' with
 | nil => rfl
 | cons x xs => exact h.elim
theorem YY {fs : Array Field} {k : Nat} (ht : P.underlying t = some (.struct fs)) (hk : P.cellsOf t = k) (h : y6 P B (n + 1) t us) : us.length = k ∧ ∀ (i : Nat) (f : Field), fs[i]? = some f → y6 P B n f.type ((us.drop f.offset).take (P.cellsOf f.type)) := by
 unfold y6 at h; rw [ht, hk] at h; exact h
theorem zbO {fs : Array Field} {x : AV} (ht : P.underlying t = some (.struct fs)) (h : uS P B n t x) : ∃ us, x = .agg us ∧ y6 P B n t us := by
 unfold uS at h; rw [ht] at h; exact h
theorem zbP {α : Type} {xs : List (List AV)} {enc : α → List AV} {p : α → Prop} (h : ∀ cs ∈ xs, ∃ a, cs = enc a ∧ p a) : ∃ l : List α, xs = l.map enc ∧ ∀ a ∈ l, p a := by
 induction xs with
 | nil => exact ⟨[], rfl, fun a h => by cases h⟩
 | cons x xs ih =>
  obtain ⟨a, rfl, ha⟩ := h x (.head _)
  obtain ⟨l, rfl, hl⟩ := ih fun cs hcs => h cs (.tail _ hcs)
  exact ⟨a :: l, rfl, fun b hb => by rcases List.mem_cons.1 hb with rfl | hb; (· exact ha); exact hl b hb⟩
theorem W9 {α : Type} {enc : α → List AV} {p : α → Prop} {k : Nat} (ht : P.underlying t = some (.slice e)) (hk : P.cellsOf e = k) (h : y6 P B (n + 1) t us) (he : ∀ cs, y6 P B n e cs → ∃ a, cs = enc a ∧ p a) :
  ∃ l : List α, us = [.lst k (l.map enc)] ∧ l.length ≤ B ∧ ∀ a ∈ l, p a := by
 unfold y6 at h
 rw [ht] at h
 obtain ⟨xs, rfl, h1, h2⟩ := h
 obtain ⟨l, rfl, h3⟩ := zbP (enc := enc) (p := p) fun cs hcs => he cs (h2 cs hcs).2
 exact ⟨l, by rw [hk], by simpa using h1, h3⟩
theorem zbQ {k : IntKind} (ht : P.underlying t = some (.slice e)) (he : P.underlying e = some (.int k)) (hk : P.cellsOf e = 1) (h : y6 P B (n + 2) t us) :
  ∃ l : List Int, us = [.lst 1 (l.map fun z => [.v (.int k z)])] ∧ l.length ≤ B ∧ ∀ z ∈ l, (Lit.int k z).wf = true :=
 W9 ht hk h fun cs hcs => by obtain ⟨z, h1, h2⟩ := YX he hcs; exact ⟨z, h1, h2⟩
end
end
section
open Go.ChangeShapes Go.WideShapes Go.ChangeAt Go.RowKit
theorem zaD : (Try.prog).cellsOf 3 = 1 := by kernel_rfl
theorem zbR : (Try.prog).cellsOf 4 = 1 := by kernel_rfl
theorem zaE : (Try.prog).cellsOf 38 = 4 := by kernel_rfl
theorem zbS : (Try.prog).cellsOf 22 = 1 := by kernel_rfl
theorem zbT : (Try.prog).cellsOf 23 = 1 := by kernel_rfl
theorem zbU : (Try.prog).cellsOf 25 = 3 := by kernel_rfl
theorem zc7 {B n : Nat} {us : List AV} (h : y6 Try.prog B (n + 2) 38 us) : ∃ x : InsM, us = zau x ∧ True := by
 obtain ⟨hl, hf⟩ := YY Try.underlying38 zaE h
 have h0 : y6 Try.prog B _ 3 ((us.drop 0).take ((Try.prog).cellsOf 3)) := hf 0 _ rfl
 have h1 : y6 Try.prog B _ 3 ((us.drop 1).take ((Try.prog).cellsOf 3)) := hf 1 _ rfl
 have h2 : y6 Try.prog B _ 3 ((us.drop 2).take ((Try.prog).cellsOf 3)) := hf 2 _ rfl
 have h3 : y6 Try.prog B _ 3 ((us.drop 3).take ((Try.prog).cellsOf 3)) := hf 3 _ rfl
 match us, hl, h0, h1, h2, h3 with
 | [u0, u1, u2, u3], _, h0, h1, h2, h3 =>
 simp only [zaD, List.drop_zero, List.drop_succ_cons, List.take_succ_cons, List.take_zero] at h0 h1 h2 h3
 obtain ⟨a, g1, _⟩ := YX Try.underlying3 h0
 obtain ⟨b, g3, _⟩ := YX Try.underlying3 h1
 obtain ⟨c, g5, _⟩ := YX Try.underlying3 h2
 obtain ⟨d, g7, _⟩ := YX Try.underlying3 h3
 injection g1 with g1; injection g3 with g3; injection g5 with g5; injection g7 with g7
 subst g1; subst g3; subst g5; subst g7
 exact ⟨⟨a, b, c, d⟩, rfl, trivial⟩
theorem Ks {B n : Nat} {x : AV} (h : uS Try.prog B (n + 6) 25 x) : ∃ e C N, x = pG e C N ∧ C.length ≤ B ∧ N.length ≤ B := by
 obtain ⟨us, rfl, h'⟩ := zbO Try.underlying25 h
 obtain ⟨hl, hf⟩ := YY Try.underlying25 zbU h'
 have h0 : y6 Try.prog B _ 4 ((us.drop 0).take ((Try.prog).cellsOf 4)) := hf 0 _ rfl
 have h1 : y6 Try.prog B _ 22 ((us.drop 1).take ((Try.prog).cellsOf 22)) := hf 1 _ rfl
 have h2 : y6 Try.prog B _ 23 ((us.drop 2).take ((Try.prog).cellsOf 23)) := hf 2 _ rfl
 match us, hl, h0, h1, h2 with
 | [u0, u1, u2], _, h0, h1, h2 =>
 simp only [zbR, zbS, zbT, List.drop_zero, List.drop_succ_cons, List.take_succ_cons, List.take_zero] at h0 h1 h2
 obtain ⟨e, g0⟩ := zbN Try.underlying4 h0
 obtain ⟨C, g1, g2, _⟩ := W9 (enc := zau) Try.underlying22 zaE h1 (fun cs => zc7)
 obtain ⟨N, g4, g5, _⟩ := zbQ Try.underlying23 Try.underlying3 zaD h2
 injection g0 with g0; injection g1 with g1; injection g4 with g4
 subst g0; subst g1; subst g4
 exact ⟨e, C, N, rfl, g2, g5⟩
end
section
open Go.RowKit
theorem zcG {gs : List GrM} : ∀ k, k ≤ zG (PgF gs) k
 | 0 => Nat.le_refl _
 | k + 1 => by have := zcG (gs := gs) k; rw [kD]; omega
theorem uN {gs : List GrM} {k : Nat} (h : k < gs.length) : uj gs (zG (PgF gs) k : Nat) = k := by
 unfold uj
 rw [Int.toNat_natCast, Qc h, Nat.zero_add]
theorem zcH {e : Bool} {gs : List GrM} (hg : ∀ g ∈ gs, GrOK e g) {x : InsM} (hx : x ∈ gs.flatMap (glF e)) (ht : tgF x.op = true) : ∃ g ∈ gs, x = g.1 := by
 obtain ⟨g, hgm, hx⟩ := List.mem_flatMap.1 hx
 by_cases h2 : g.2 = []
 ·rw [wv h2] at hx
  simp at hx
  exact ⟨g, hgm, hx⟩
 ·unfold glF at hx
  rw [if_neg h2, List.mem_map] at hx
  obtain ⟨u, _, rfl⟩ := hx
  exact absurd ht (qy yS)
theorem jK {e : Bool} {D : List InsM} {M : List Int} (hc : yK e D M = (0, 0)) {i : Nat} (hi : i < D.length) (hm : zV D M i = true) : ∃ k, k < (zJ e D M).length ∧ i = zG (PgF (zJ e D M)) k ∧ uj (zJ e D M) (i : Nat) = k := by
 obtain ⟨k, hk, rfl⟩ := (Qd hc).st i hi hm
 exact ⟨k, hk, rfl, uN hk⟩
theorem Ww {e : Bool} {D : List InsM} {M : List Int} (hc : yK e D M = (0, 0)) {x : InsM} (hx : x ∈ D) (ht : tgF x.op = true) : (0 ≤ x.b ∧ x.b < D.length) ∧ ∃ k, k < (zJ e D M).length ∧ x.b = (zG (PgF (zJ e D M)) k : Nat) ∧ uj (zJ e D M) x.b = k := by
 obtain ⟨_, hr, hM⟩ := z9 hc
 obtain ⟨k, hk, rfl⟩ := yO hx
 have h3 := zZ (hr k hk)
 have h4 := h3.2.2.1
 rw [(Ku h3.1).b1 ht] at h4
 have h5 := jr h4
 obtain ⟨k2, q1, q2, q3⟩ := jK hc (show (zb D k).b.toNat < D.length by omega) (Wq hx ht h5.1)
 have e1 : (((zb D k).b.toNat : Nat) : Int) = (zb D k).b := by omega
 rw [e1] at q3
 exact ⟨h5, k2, q1, by omega, q3⟩
theorem Wx {e : Bool} {D : List InsM} {M : List Int} (hc : yK e D M = (0, 0)) {n : Int} (hn : n ∈ M) : (0 ≤ n ∧ n < D.length) ∧ ∃ k, k < (zJ e D M).length ∧ n = (zG (PgF (zJ e D M)) k : Nat) ∧ uj (zJ e D M) n = k := by
 obtain ⟨_, hr, hM⟩ := z9 hc
 have h5 := hM n hn
 obtain ⟨k2, q1, q2, q3⟩ := jK hc (show n.toNat < D.length by omega) (Wr hn h5.1)
 have e1 : ((n.toNat : Nat) : Int) = n := by omega
 rw [e1] at q3
 exact ⟨h5, k2, q1, by omega, q3⟩
theorem zbk (e : Bool) (C : List InsM) (i : Nat) : wz e C i = (C.take i).flatMap (ex e) := by
 unfold wz
 rw [List.flatMap_map]
 rfl
theorem Xs {e : Bool} {C : List InsM} {i : Nat} (h : i ≤ C.length) : pz e C i = ((C.take i).flatMap (ex e)).length := by rw [← X8 h, zbk]
theorem Qk {e : Bool} {gs : List GrM} {k : Nat} (h : k ≤ gs.length) : (gs.flatMap (glF e)).take (zG (PgF gs) k) = (gs.take k).flatMap (glF e) := by
 have h1 : gs.flatMap (glF e) = (gs.take k).flatMap (glF e) ++ (gs.drop k).flatMap (glF e) := by rw [← List.flatMap_append, List.take_append_drop]
 have h2 : ((gs.take k).flatMap (glF e)).length = zG (PgF gs) k := by
  rw [xj, List.length_take, Nat.min_eq_left h]
  conv => rhs; rw [← List.take_append_drop k gs]
  rw [xk (by rw [List.length_take]; omega)]
 rw [h1, ← h2, List.take_left']
 rfl
theorem Xt {e : Bool} {D : List InsM} {M : List Int} (hc : yK e D M = (0, 0)) {k : Nat} (hk : k ≤ (zJ e D M).length) : pz e (ye e D M) k = pz e D (zG (PgF (zJ e D M)) k) := by
 obtain ⟨_, _, _, hflat⟩ := x9 hc
 have hg := vK hc
 have hl := xj e (zJ e D M)
 rw [hflat] at hl
 have hcl : (ye e D M).length = (zJ e D M).length := by unfold ye; rw [List.length_map]
 rw [Xs (by rw [hcl]; exact hk), Xs (by rw [hl]; exact wC hk)]
 have h1 : (ye e D M).take k = (((zJ e D M).take k).map (·.1)).map (mvX (uj (zJ e D M))) := by
  unfold ye
  rw [List.map_map, List.map_take]
  rfl
 have h2 : D.take (zG (PgF (zJ e D M)) k) = ((zJ e D M).take k).flatMap (glF e) := by
  conv => lhs; rw [← hflat]
  have := Qk (e := e) hk
  rw [hflat] at this ⊢
  exact this
 have hg' : ∀ g ∈ (zJ e D M).take k, GrOK e g := fun g h => hg g (List.mem_of_mem_take h)
 rw [h1, h2, zcF hg', Wt _ fun x hx => by
  obtain ⟨g, hgm, rfl⟩ := List.mem_map.1 hx
  exact kM (hg' g hgm), List.length_map]
theorem zaj {e : Bool} {D : List InsM} {M : List Int} (hc : yK e D M = (0, 0)) {y : InsM} (hy : y ∈ D.flatMap (ex e)) (ht : tgF y.op = true) : y ∈ D := by
 obtain ⟨x, hx, hy⟩ := List.mem_flatMap.1 hy
 cases hf : yF x with
 | none => rw [Zz hf] at hy; simp at hy; rw [hy]; exact hx
 | some f =>
  obtain ⟨h1, h2⟩ := uL hc x hx f hf
  rw [h2, kK h1, List.mem_map] at hy
  obtain ⟨u, _, rfl⟩ := hy
  exact absurd ht (qy yS)
theorem jL {e : Bool} {D : List InsM} {M : List Int} (hc : yK e D M = (0, 0)) : zF e (ye e D M) = zF e D ∧ yb e (ye e D M) (yX e D M) = yb e D M := by
 have key : ∀ {n : Int}, (∃ k, k < (zJ e D M).length ∧ n = (zG (PgF (zJ e D M)) k : Nat) ∧ uj (zJ e D M) n = k) → trI (pz e (ye e D M)) (uj (zJ e D M) n) = trI (pz e D) n := fun {n} ⟨k, h1, h2, h3⟩ => by
  rw [h3, h2]
  unfold trI
  rw [Int.toNat_natCast, Int.toNat_natCast, Xt hc (by omega)]
 refine ⟨?_, ?_⟩
 ·rw [xD, xD, Qf hc, List.map_map]
  refine List.map_congr_left fun y hy => ?_
  show mvX _ (mvX _ y) = mvX _ y
  by_cases ht : tgF y.op = true
  ·obtain ⟨_, hk⟩ := Ww hc (zaj hc hy ht) ht
   have := key hk
   unfold mvX
   rw [if_pos ht, if_pos ht]
   dsimp only
   rw [if_pos ht, this]
  ·rw [qK ht, qK ht, qK ht]
 ·unfold yb yX
  rw [List.map_map]
  refine List.map_congr_left fun n hn => ?_
  obtain ⟨_, hk⟩ := Wx hc hn
  exact key hk
theorem kO {e : Bool} {C : List InsM} {N : List Int} (hc : yK e C N = (0, 0)) (hC : C.length ≤ 16000) : zF e (zF e C) = zF e C ∧ yb e (zF e C) (yb e C N) = yb e C N := by
 have hb := uM hc hC
 obtain ⟨_, hr, hN⟩ := z9 hb
 have hex : ∀ y ∈ zF e C, ex e y = [y] := by rw [xD]; exact zbj hc _
 have hpz : ∀ i, i ≤ (zF e C).length → pz e (zF e C) i = i := fun i hi => by
  rw [Xs hi, uf fun x hx => hex x (List.mem_of_mem_take hx), List.length_take]
  omega
 have key : ∀ {n : Int}, 0 ≤ n ∧ n < (zF e C).length → trI (pz e (zF e C)) n = n := fun {n} hn => by
  unfold trI
  rw [hpz _ (by omega)]
  omega
 refine ⟨?_, ?_⟩
 ·rw [xD e (zF e C), Wu hc]
  conv => rhs; rw [← List.map_id (zF e C)]
  refine List.map_congr_left fun y hy => ?_
  by_cases ht : tgF y.op = true
  ·obtain ⟨k, hk, rfl⟩ := yO hy
   have h3 := zZ (hr k hk)
   have h4 := h3.2.2.1
   rw [(Ku h3.1).b1 ht] at h4
   show mvX _ _ = _
   unfold mvX
   rw [if_pos ht, key (jr h4)]
   rfl
  ·exact qK ht
 ·show (yb e C N).map (trI (pz e (zF e C))) = _
  conv => rhs; rw [← List.map_id (yb e C N)]
  exact List.map_congr_left fun n hn => key (hN n hn)
theorem Ql {e : Bool} {p f b : FldM} (hp : FldOK e p) (hf : 1 ≤ f.n) (h : xc e p f = none) (ha : b.a = f.a) (hw : b.w = f.w) (hn : f.n ≤ b.n) : xc e p b = none := by
 unfold xc at h ⊢
 split at h
 ·cases h
 ·rename_i q
  rw [if_neg]
  rintro ⟨q1, q2, q3, q4⟩
  refine q ⟨by rw [← ha]; exact q1, by rw [← hw]; exact q2, by omega, ?_⟩
  refine Int.le_trans ?_ q4
  have hpn := hp.n
  unfold FldM.behind
  cases e
  ·rw [if_neg (by decide), if_neg (by decide)]; dsimp only; omega
  ·rw [if_pos rfl, if_pos rfl]
   dsimp only
   rcases hp.w with r | r | r | r <;> rw [r] <;> omega
structure FzJ (e : Bool) (mk : Nat → Bool) (S : FzS) : Prop where
 adj : ∀ k g g' f f', (zI e S)[k]? = some g → (zI e S)[k + 1]? = some g' → yF g.1 = some f → yF g'.1 = some f' → mk (zG (PgF (zI e S)) (k + 1)) = true ∨ xc e f f' = none
 last : S.cur = none → ∀ g, S.gs.getLast? = some g → yF g.1 = none
theorem wa {α : Type} {l : List α} {x : α} {k : Nat} {g : α} (h : (l ++ [x])[k]? = some g) : (k < l.length ∧ l[k]? = some g) ∨ (k = l.length ∧ g = x) := by
 rcases Nat.lt_trichotomy k l.length with q | q | q
 ·rw [List.getElem?_append_left q] at h; exact .inl ⟨q, h⟩
 ·subst q
  rw [List.getElem?_append_right (Nat.le_refl _), Nat.sub_self] at h
  simp at h
  exact .inr ⟨rfl, h.symm⟩
 ·rw [List.getElem?_append_right (by omega), List.getElem?_eq_none (by simp; omega)] at h; cases h
theorem FzJ.beg {e : Bool} {mk : Nat → Bool} {pre : List InsM} {S : FzS} (hI : FzI e mk pre S) (h : FzJ e mk S) {x : InsM} (hx : ∀ f, yF x = some f → FldOK e f ∧ x = f.ins e) (hno : ∀ f l g, S.cur = some (f, l) → yF x = some g → mk pre.length = true ∨ xc e f g = none) : FzJ e mk (qz e (zI e S) x) := by
 obtain ⟨g0, h1, h2, h3, h4⟩ := kJ (e := e) (gs := zI e S) (x := x)
 have hl := xj e (zI e S)
 rw [hI.flat] at hl
 refine ⟨fun k g g' f f' q1 q2 q3 q4 => ?_, fun q g hg => ?_⟩
 ·rw [h1] at q1 q2 ⊢
  rcases wa q2 with ⟨r1, r2⟩ | ⟨r1, rfl⟩
  ·rcases wa q1 with ⟨_, r3⟩ | ⟨r3, _⟩
   ·rw [xk (by omega)]
    exact h.adj k g g' f f' r3 r2 q3 q4
   ·omega
  ·rcases wa q1 with ⟨r2, r3⟩ | ⟨r3, _⟩
   ·rw [xk (by omega), r1, ← hl]
    have hfx : yF x = some f' := by
     cases hf : yF x with
     | none => rw [h3 hf] at q4; rw [hf] at q4; exact q4
     | some f2 =>
      rw [h4 f2 hf, xO (hx f2 hf).1] at q4
      exact q4
    cases hcur : S.cur with
    | none =>
     exfalso
     have hfl : zI e S = S.gs := by unfold zI; rw [hcur]
     rw [hfl] at r3 r1
     have := h.last hcur g (by rw [List.getLast?_eq_getElem?, ← r1]; exact r3)
     rw [this] at q3; cases q3
    | some c =>
     obtain ⟨f0, l0⟩ := c
     have hfl : zI e S = S.gs ++ [(f0.ins e, l0)] := by unfold zI; rw [hcur]
     rw [hfl] at r3 r1
     rw [List.length_append, List.length_singleton] at r1
     have hgk : g = (f0.ins e, l0) := by
      rcases wa r3 with ⟨s1, _⟩ | ⟨_, s2⟩
      ·omega
      ·exact s2
     rw [hgk, xO (hI.cur f0 l0 hcur).1] at q3
     injection q3 with q3
     rw [← q3]
     exact hno f0 l0 f' hcur hfx
   ·omega
 ·unfold qz at q hg
  cases hf : yF x with
  | none =>
   rw [hf] at hg
   dsimp only at hg
   rw [List.getLast?_append] at hg
   simp at hg
   rw [← hg]; exact hf
  | some f => rw [hf] at q; cases q
theorem FzJ.step {e : Bool} {mk : Nat → Bool} {pre : List InsM} {S : FzS} (hI : FzI e mk pre S) (h : FzJ e mk S) {x : InsM} (hx : ∀ f, yF x = some f → FldOK e f ∧ x = f.ins e) : FzJ e mk (xH e (mk pre.length) S x) := by
 cases hcur : S.cur with
 | none =>
  rw [x7 hcur]
  exact h.beg hI hx fun f l g q => by rw [hcur] at q; cases q
 | some c =>
  obtain ⟨f, l⟩ := c
  have hS : S = ⟨S.gs, some (f, l)⟩ := by rw [← hcur]
  have hfl : zI e S = S.gs ++ [(f.ins e, l)] := by unfold zI; rw [hcur]
  by_cases hj : ∃ g b, mk pre.length = false ∧ yF x = some g ∧ xc e f g = some b
  ·obtain ⟨g, b, j1, j2, j3⟩ := hj
   rw [hS, wB j1 j2 j3]
   obtain ⟨_, _, rfl, _, _⟩ := wE j3
   obtain ⟨fo, fp⟩ := hI.cur f l hcur
   obtain ⟨go, _⟩ := hx g j2
   have hadj := h.adj
   rw [hfl] at hadj
   have bo := Qb fo go j3
   refine ⟨fun k a a' p p' q1 q2 q3 q4 => ?_, fun q => by cases q⟩
   have hq1 : (S.gs ++ [(FldM.ins e ⟨f.a, f.n + g.n, f.w⟩, l ++ [g])])[k]? = some a := q1
   have hq2 : (S.gs ++ [(FldM.ins e ⟨f.a, f.n + g.n, f.w⟩, l ++ [g])])[k + 1]? = some a' := q2
   show mk (zG (PgF (S.gs ++ [_])) (k + 1)) = true ∨ _
   rcases wa hq2 with ⟨r1, r2⟩ | ⟨r1, rfl⟩
   ·rcases wa hq1 with ⟨_, r3⟩ | ⟨r3, _⟩
    ·have := hadj k a a' p p' (by rw [List.getElem?_append_left (by omega)]; exact r3) (by rw [List.getElem?_append_left r1]; exact r2) q3 q4
     rw [xk (by omega)] at this ⊢
     exact this
    ·omega
   ·rcases wa hq1 with ⟨r2, r3⟩ | ⟨r3, _⟩
    ·have := hadj k a (f.ins e, l) p f (by rw [List.getElem?_append_left r2]; exact r3) (by rw [List.getElem?_append_right (by omega), r1, Nat.sub_self]; rfl) q3 (xO fo)
     rw [xk (by omega)] at this ⊢
     rw [xO bo] at q4
     injection q4 with q4
     subst q4
     refine this.imp id fun hno => ?_
     have hpo := (kM (hI.ok a (List.mem_of_getElem? r3)) p q3).1
     exact Ql hpo fo.n.1 hno rfl rfl (by have := go.n; dsimp only; omega)
    ·omega
  ·have : xH e (mk pre.length) S x = qz e (zI e S) x := by
    rw [hfl]
    conv => lhs; rw [hS]
    refine vh ?_
    cases hm : mk pre.length with
    | true => exact .inl rfl
    | false =>
     right
     cases hf : yF x with
     | none => exact .inl rfl
     | some g =>
      refine .inr fun g' hg' => ?_
      injection hg' with hg'
      subst hg'
      cases hjj : xc e f g with
      | none => rfl
      | some b => exact absurd ⟨g, b, hm, hf, hjj⟩ hj
   rw [this]
   refine h.beg hI hx fun f' l' g q1 q2 => ?_
   rw [hcur] at q1
   injection q1 with q1
   injection q1 with q1 q1'
   subst q1
   cases hm : mk pre.length with
   | true => exact .inl rfl
   | false =>
    right
    cases hjj : xc e f g with
    | none => rfl
    | some b => exact absurd ⟨g, b, hm, q2, hjj⟩ hj
theorem FzJ.fold {e : Bool} {mk : Nat → Bool} : ∀ {xs pre : List InsM} {S : FzS}, FzI e mk pre S → FzJ e mk S → (∀ x ∈ xs, ∀ f, yF x = some f → FldOK e f ∧ x = f.ins e) → FzJ e mk (y3 e mk pre.length xs S)
 | [], pre, S, _, h, _ => h
 | x :: xs, pre, S, hI, h, hx => by
  have h1 := hI.step (x := x) (hx x (.head _))
  have h2 := h.step hI (x := x) (hx x (.head _))
  have := FzJ.fold h1 h2 fun y hy => hx y (.tail _ hy)
  rw [List.length_append, List.length_singleton] at this
  exact this
theorem Jn {e : Bool} {D : List InsM} {M : List Int} (hc : yK e D M = (0, 0)) : ∀ k g g' f f', (zJ e D M)[k]? = some g → (zJ e D M)[k + 1]? = some g' → yF g.1 = some f → yF g'.1 = some f' → zV D M (zG (PgF (zJ e D M)) (k + 1)) = true ∨ xc e f f' = none := by
 have h0 : FzI e (zV D M) [] ⟨[], none⟩ := ⟨fun g h => (by cases h), fun f l h => (by cases h), rfl, fun i h => absurd h (by simp)⟩
 have j0 : FzJ e (zV D M) ⟨[], none⟩ := ⟨fun k g g' f f' q1 => (by cases q1), fun _ g q => (by cases q)⟩
 exact (FzJ.fold h0 j0 (uL hc)).adj
def sgl (x : InsM) : GrM := (x, match yF x with | none => [] | some f => [f])
theorem zbl (x : InsM) : (sgl x).2.length ≤ 1 := by
 unfold sgl
 cases yF x <;> simp
theorem Qm (C : List InsM) : ∀ k, zG (PgF (C.map sgl)) k = k
 | 0 => rfl
 | k + 1 => by
  rw [kD, Qm C k]
  have : (PgF (C.map sgl) k).length ≤ 1 := by
   rcases Nat.lt_or_ge k C.length with q | q
   ·rw [qx (g := sgl C[k]) (by rw [List.getElem?_map, List.getElem?_eq_getElem q]; rfl)]
    exact zbl _
   ·rw [Xo (by rw [List.length_map]; exact q)]; simp
  omega
theorem Wy {e : Bool} {mk : Nat → Bool} {A : List InsM} (hA : ∀ x ∈ A, ∀ f, yF x = some f → FldOK e f ∧ x = f.ins e)
  (hno : ∀ i f g, i + 1 < A.length → yF (zb A i) = some f → yF (zb A (i + 1)) = some g → mk (i + 1) = true ∨ xc e f g = none) : ∀ {xs pre : List InsM} {S : FzS}, pre ++ xs = A → zI e S = pre.map sgl → (∀ f l, S.cur = some (f, l) → 0 < pre.length ∧ yF (zb A (pre.length - 1)) = some f) → zI e (y3 e mk pre.length xs S) = A.map sgl
 | [], pre, S, hp, hf, _ => by
  rw [List.append_nil] at hp
  rw [← hp]; exact hf
 | x :: xs, pre, S, hp, hf, hl => by
  have hx : zb A pre.length = x := zP (by rw [← hp, List.getElem?_append_right (Nat.le_refl _), Nat.sub_self]; rfl)
  have hlt : pre.length < A.length := by rw [← hp]; simp
  have hst : xH e (mk pre.length) S x = qz e (zI e S) x := by
   cases hcur : S.cur with
   | none => exact x7 hcur
   | some c =>
    obtain ⟨f, l⟩ := c
    obtain ⟨h1, h2⟩ := hl f l hcur
    have hfl : zI e S = S.gs ++ [(f.ins e, l)] := by unfold zI; rw [hcur]
    have hS : S = ⟨S.gs, some (f, l)⟩ := by rw [← hcur]
    rw [hfl]
    conv => lhs; rw [hS]
    refine vh ?_
    cases hfx : yF x with
    | none => exact .inr (.inl rfl)
    | some g =>
     have := hno (pre.length - 1) f g (by omega) h2 (by rw [show pre.length - 1 + 1 = pre.length by omega, hx]; exact hfx)
     rw [show pre.length - 1 + 1 = pre.length by omega] at this
     refine this.imp id fun q => .inr fun g' hg' => ?_
     injection hg' with hg'
     subst hg'
     exact q
  show zI e (y3 e mk (pre.length + 1) xs (xH e (mk pre.length) S x)) = _
  rw [hst]
  have ih := Wy hA hno (xs := xs) (pre := pre ++ [x]) (S := qz e (zI e S) x) (by rw [List.append_assoc]; exact hp) (by
   obtain ⟨g, h1, _, h3, h4⟩ := kJ (e := e) (gs := zI e S) (x := x)
   rw [h1, hf, List.map_append]
   congr 1
   show [g] = [sgl x]
   congr 1
   unfold sgl
   cases hfx : yF x with
   | none => rw [h3 hfx]
   | some f =>
    rw [h4 f hfx]
    have := (hA x (by rw [← hp]; simp) f hfx).2
    rw [← this]) (fun f l hc => by
   rw [List.length_append, List.length_singleton, Nat.add_sub_cancel, hx]
   refine ⟨by omega, ?_⟩
   unfold qz at hc
   cases hfx : yF x with
   | none => rw [hfx] at hc; cases hc
   | some g =>
    rw [hfx] at hc
    injection hc with hc
    injection hc with hc _
    rw [hc])
  rw [List.length_append, List.length_singleton] at ih
  exact ih
theorem Qn (m : Int → Int) (x : InsM) : yF (mvX m x) = yF x := by
 by_cases ht : tgF x.op = true
 ·rw [kL ht, kL (by rw [vQ]; exact ht)]
 ·rw [qK ht]
theorem Qo {e : Bool} {A : List InsM} {N : List Int} (hc : yK e A N = (0, 0)) (hno : ∀ i f g, i + 1 < A.length → yF (zb A i) = some f → yF (zb A (i + 1)) = some g → zV A N (i + 1) = true ∨ xc e f g = none) : ye e A N = A ∧ yX e A N = N := by
 have hG : zJ e A N = A.map sgl := Wy (mk := zV A N) (uL hc) hno (xs := A) (pre := []) (S := ⟨[], none⟩) rfl rfl fun f l h => by cases h
 obtain ⟨_, hr, hN⟩ := z9 hc
 have hnow : ∀ {n : Int}, 0 ≤ n ∧ n < A.length → uj (A.map sgl) n = n := fun {n} hn => by
  have := uN (gs := A.map sgl) (k := n.toNat) (by rw [List.length_map]; omega)
  rw [Qm] at this
  rw [show ((n.toNat : Nat) : Int) = n by omega] at this
  exact this
 refine ⟨?_, ?_⟩
 ·unfold ye
  rw [hG, List.map_map]
  conv => rhs; rw [← List.map_id A]
  refine List.map_congr_left fun y hy => ?_
  show mvX _ y = y
  by_cases ht : tgF y.op = true
  ·obtain ⟨k, hk, rfl⟩ := yO hy
   have h3 := zZ (hr k hk)
   have h4 := h3.2.2.1
   rw [(Ku h3.1).b1 ht] at h4
   unfold mvX
   rw [if_pos ht, hnow (jr h4)]
  ·exact qK ht
 ·unfold yX
  rw [hG]
  conv => rhs; rw [← List.map_id N]
  exact List.map_congr_left fun n hn => hnow (hN n hn)
theorem Yu {e : Bool} {D : List InsM} {M : List Int} (hc : yK e D M = (0, 0)) : ye e (ye e D M) (yX e D M) = ye e D M ∧ yX e (ye e D M) (yX e D M) = yX e D M := by
 obtain ⟨h1, J, h3, hflat⟩ := x9 hc
 have hg := vK hc
 have hcl : (ye e D M).length = (zJ e D M).length := by unfold ye; rw [List.length_map]
 refine Qo h1 fun i f g hi hf hg' => ?_
 have at_ : ∀ {k}, k < (ye e D M).length → ∃ a, (zJ e D M)[k]? = some a ∧ zb (ye e D M) k = mvX (uj (zJ e D M)) a.1 := fun {k} hk => by
  rw [hcl] at hk
  refine ⟨_, List.getElem?_eq_getElem hk, zP ?_⟩
  unfold ye
  rw [List.getElem?_map, List.getElem?_eq_getElem hk]
  rfl
 obtain ⟨a, a1, a2⟩ := at_ (show i < _ by omega)
 obtain ⟨a', b1, b2⟩ := at_ hi
 rw [a2, Qn] at hf
 rw [b2, Qn] at hg'
 refine (Jn hc i a a' f g a1 b1 hf hg').imp (fun hm => ?_) id
 have hn : uj (zJ e D M) (zG (PgF (zJ e D M)) (i + 1) : Nat) = (i + 1 : Nat) := uN (by omega)
 unfold zV at hm
 rw [Bool.or_eq_true] at hm
 rcases hm with hm | hm
 ·obtain ⟨x, hx, hq⟩ := List.any_eq_true.1 hm
  rw [Bool.and_eq_true, decide_eq_true_eq] at hq
  obtain ⟨ht, hb⟩ := hq
  rw [← hflat] at hx
  obtain ⟨g0, hg0, rfl⟩ := zcH hg hx ht
  have hmem : mvX (uj (zJ e D M)) g0.1 ∈ ye e D M := List.mem_map.2 ⟨g0, hg0, rfl⟩
  have ht2 : tgF (mvX (uj (zJ e D M)) g0.1).op = true := by rw [vQ]; exact ht
  have hb2 : (mvX (uj (zJ e D M)) g0.1).b = (i + 1 : Nat) := by rw [zbg ht, hb]; exact hn
  have := Wq (M := yX e D M) hmem ht2 (by rw [hb2]; omega)
  rw [hb2, Int.toNat_natCast] at this
  exact this
 ·obtain ⟨n, hn', hq⟩ := List.any_eq_true.1 hm
  rw [decide_eq_true_eq] at hq
  have hmem : uj (zJ e D M) n ∈ yX e D M := List.mem_map.2 ⟨n, hn', rfl⟩
  rw [hq, hn] at hmem
  have := Wr (D := ye e D M) hmem (by omega)
  rw [Int.toNat_natCast] at this
  exact this
end
section
open Go.RowKit
def kP (e : Bool) (C : List InsM) (i : Nat) (f : FldM) : Bool := decide (0 < i) && match yF (zb C (i - 1)) with
 | none => false
 | some p => decide (p.w = f.w) && decide (f.a = p.behind e)
def u7 (e : Bool) (C : List InsM) : Nat → Int
 | 0 => 0
 | i + 1 => match yF (zb C i) with
  | none => 0
  | some f => (if kP e C i f = true then u7 e C i else 0) + f.n
def ug (e : Bool) (C : List InsM) (i : Nat) : Bool := decide (u7 e C (i + 1) ≤ 64) && decide ((zb C i).a ≤ 16767216)
def qA (e : Bool) (C : List InsM) : Bool := (List.range C.length).all (ug e C)
theorem Xu {e : Bool} {C : List InsM} {N : List Int} (hc : yK e C N = (0, 0)) : ∀ i, i ≤ C.length → 0 ≤ u7 e C i
 | 0, _ => Int.le_refl _
 | i + 1, h => by
  have ih := Xu hc i (by omega)
  unfold u7
  cases hf : yF (zb C i) with
  | none => exact Int.le_refl _
  | some f =>
   have := (xS ((z9 hc).2.1 i (by omega)) hf).1.n
   dsimp only
   split <;> omega
theorem Qp {e : Bool} {D : List InsM} {M : List Int} (hc : yK e D M = (0, 0)) : ∀ i, i ≤ D.length → ∀ f l, (stZ e (zV D M) D i).cur = some (f, l) → 0 < i ∧ (∃ p, yF (zb D (i - 1)) = some p ∧ p.behind e = f.behind e ∧ p.w = f.w) ∧ f.n ≤ u7 e D i
 | 0, _, f, l, h => by cases h
 | i + 1, hi, f, l, h => by
  have hr := (z9 hc).2.1
  have ih := Qp hc i (by omega)
  have h0 := Xu hc i (by omega)
  rw [Yh (by omega)] at h
  have hI := uB hc i
  have beg : (qz e (zI e (stZ e (zV D M) D i)) (zb D i)).cur = some (f, l) → 0 < i + 1 ∧ (∃ p, yF (zb D (i + 1 - 1)) = some p ∧ p.behind e = f.behind e ∧ p.w = f.w) ∧ f.n ≤ u7 e D (i + 1) := fun q => by
   unfold qz at q
   cases hf : yF (zb D i) with
   | none => rw [hf] at q; cases q
   | some g =>
    rw [hf] at q
    injection q with q
    injection q with q _
    subst q
    refine ⟨by omega, ⟨g, hf, rfl, rfl⟩, ?_⟩
    unfold u7
    rw [hf]
    dsimp only
    split <;> omega
  cases hcur : (stZ e (zV D M) D i).cur with
  | none => rw [x7 hcur] at h; exact beg h
  | some c =>
   obtain ⟨f0, l0⟩ := c
   have hS : stZ e (zV D M) D i = ⟨(stZ e (zV D M) D i).gs, some (f0, l0)⟩ := by rw [← hcur]
   have hfl : zI e (stZ e (zV D M) D i) = (stZ e (zV D M) D i).gs ++ [(f0.ins e, l0)] := by unfold zI; rw [hcur]
   by_cases hj : ∃ g b, zV D M i = false ∧ yF (zb D i) = some g ∧ xc e f0 g = some b
   ·obtain ⟨g, b, j1, j2, j3⟩ := hj
    rw [hS, wB j1 j2 j3] at h
    injection h with h
    injection h with h _
    obtain ⟨q1, q2, rfl, _, _⟩ := wE j3
    subst h
    obtain ⟨g1, ⟨p, p1, p2, p3⟩, g3⟩ := ih f0 l0 hcur
    refine ⟨by omega, ⟨g, j2, ?_, q2⟩, ?_⟩
    ·unfold FldM.behind at q1 ⊢
     cases e
     ·rw [if_neg (by decide)] at q1
      rw [if_neg (by decide), if_neg (by decide)]
      dsimp only; omega
     ·rw [if_pos rfl] at q1
      rw [if_pos rfl, if_pos rfl]
      dsimp only
      rw [q1, q2, Int.add_mul]; omega
    ·unfold u7
     rw [j2]
     dsimp only
     have hcb : kP e D i g = true := by
      unfold kP
      rw [p1, decide_eq_true g1]
      dsimp only
      rw [decide_eq_true (by rw [p3, q2] : p.w = g.w), decide_eq_true (by rw [q1, p2] : g.a = p.behind e)]
      rfl
     rw [if_pos hcb]
     omega
   ·have : xH e (zV D M i) (stZ e (zV D M) D i) (zb D i) = qz e (zI e (stZ e (zV D M) D i)) (zb D i) := by
     rw [hfl]
     conv => lhs; rw [hS]
     refine vh ?_
     cases hm : zV D M i with
     | true => exact .inl rfl
     | false =>
      right
      cases hf : yF (zb D i) with
      | none => exact .inl rfl
      | some g =>
       refine .inr fun g' hg' => ?_
       injection hg' with hg'
       subst hg'
       cases hjj : xc e f0 g with
       | none => rfl
       | some b => exact absurd ⟨g, b, hm, hf, hjj⟩ hj
    rw [this] at h
    exact beg h
theorem Vt {e : Bool} {D : List InsM} {M : List Int} (hc : yK e D M = (0, 0)) (hs : qA e D = true) {i : Nat} (hi : i < D.length) {f g : FldM} {l : List FldM} (hcur : (stZ e (zV D M) D i).cur = some (f, l)) (hg : yF (zb D i) = some g) (ha : g.a = f.behind e) (hw : g.w = f.w) : xc e f g = some ⟨f.a, f.n + g.n, f.w⟩ := by
 obtain ⟨g1, ⟨p, p1, p2, p3⟩, g3⟩ := Qp hc i (by omega) f l hcur
 have h1 := List.all_eq_true.1 hs i (List.mem_range.2 hi)
 unfold ug at h1
 rw [Bool.and_eq_true, decide_eq_true_eq, decide_eq_true_eq] at h1
 obtain ⟨h1, h2⟩ := h1
 obtain ⟨fo, fi⟩ := xS ((z9 hc).2.1 i hi) hg
 have hcb : kP e D i g = true := by
  unfold kP
  rw [p1, decide_eq_true g1]
  dsimp only
  rw [decide_eq_true (by rw [p3, hw] : p.w = g.w), decide_eq_true (by rw [ha, p2] : g.a = p.behind e)]
  rfl
 unfold u7 at h1
 rw [hg] at h1
 dsimp only at h1
 rw [if_pos hcb] at h1
 have hga : (zb D i).a = g.a := by rw [fi]; exact UV
 have gn := fo.n
 unfold xc
 refine if_pos ⟨ha, hw, by omega, ?_⟩
 unfold Yr
 cases e
 ·rw [if_neg (by decide)]
  unfold FldM.behind at ha ⊢
  rw [if_neg (by decide)] at ha ⊢
  have := fo.d rfl
  dsimp only; omega
 ·rw [if_pos rfl]
  unfold FldM.behind at ha ⊢
  rw [if_pos rfl] at ha ⊢
  dsimp only
  have := Yl fo.w (n := g.n) (by omega)
  rw [Int.add_mul]
  rw [hw] at this
  omega
theorem jM {e : Bool} {mk : Nat → Bool} : ∀ {xs ys : List InsM} {i : Nat} {S : FzS}, y3 e mk i (xs ++ ys) S = y3 e mk (i + xs.length) ys (y3 e mk i xs S)
 | [], ys, i, S => rfl
 | x :: xs, ys, i, S => by
  show y3 e mk (i + 1) (xs ++ ys) _ = _
  rw [jM, List.length_cons, show i + 1 + xs.length = i + (xs.length + 1) by omega]
  rfl
theorem Wz {e : Bool} {a w n1 n2 : Int} (hw : 0 ≤ w) (h : n1 ≤ n2) : FldM.behind e ⟨a, n1, w⟩ ≤ FldM.behind e ⟨a, n2, w⟩ := by
 cases e
 ·show a + n1 ≤ a + n2
  omega
 ·show a + n1 * w ≤ a + n2 * w
  have := Int.mul_le_mul_of_nonneg_right h hw
  omega
theorem WA {e : Bool} {mk : Nat → Bool} {gs : List GrM} : ∀ (m idx : Nat) (c : FldM) (l : List FldM), (∀ u ∈ yd e (c.behind e) c.w m, FldOK e u) → 1 ≤ c.n → c.n + m ≤ 64 → (0 < m → FldM.behind e ⟨c.a, c.n + m, c.w⟩ ≤ Yr e) → 0 ≤ c.w → (∀ j, j < m → mk (idx + j) = false) →
  y3 e mk idx ((yd e (c.behind e) c.w m).map (·.ins e)) ⟨gs, some (c, l)⟩ = ⟨gs, some (⟨c.a, c.n + m, c.w⟩, l ++ yd e (c.behind e) c.w m)⟩
 | 0, idx, c, l, _, _, _, _, _, _ => by
  show (⟨gs, some (c, l)⟩ : FzS) = _
  simp [yd]
 | m + 1, idx, c, l, hu, h1, h64, hb, hw, hm => by
  have u0 := hu ⟨c.behind e, 1, c.w⟩ (.head _)
  have hj : xc e c ⟨c.behind e, 1, c.w⟩ = some ⟨c.a, c.n + 1, c.w⟩ := by
   unfold xc
   refine if_pos ⟨rfl, rfl, by dsimp only; omega, ?_⟩
   exact Int.le_trans (Wz hw (by dsimp only; omega)) (hb (by omega))
  have hb' : FldM.behind e ⟨c.a, c.n + 1, c.w⟩ = c.behind e + (if e = true then c.w else 1) := by
   unfold FldM.behind
   cases e
   ·rw [if_neg (by decide), if_neg (by decide), if_neg (by decide)]; dsimp only; omega
   ·rw [if_pos rfl, if_pos rfl, if_pos rfl]
    dsimp only
    rw [Int.add_mul]; omega
  show y3 e mk (idx + 1) ((yd e (c.behind e + if e = true then c.w else 1) c.w m).map (·.ins e)) (xH e (mk idx) ⟨gs, some (c, l)⟩ (FldM.ins e ⟨c.behind e, 1, c.w⟩)) = _
  rw [wB (by have := hm 0 (by omega); rwa [Nat.add_zero] at this) (xO u0) hj, ← hb']
  have ih := WA (mk := mk) (gs := gs) m (idx + 1) ⟨c.a, c.n + 1, c.w⟩ (l ++ [⟨c.behind e, 1, c.w⟩]) (fun u hu' => hu u (.tail _ (by rw [← hb']; exact hu'))) (by dsimp only; omega) (by dsimp only; omega) (fun _ => by
   have := hb (by omega)
   rw [show c.n + ((m + 1 : Nat) : Int) = c.n + 1 + m by omega] at this
   exact this) hw (fun j hj => by rw [show idx + 1 + j = idx + (j + 1) by omega]; exact hm _ (by omega))
  dsimp only at ih
  rw [ih]
  rw [show c.n + 1 + (m : Int) = c.n + ((m + 1 : Nat) : Int) by omega, List.append_assoc]
  rw [hb']
  rfl
structure SimZ (e : Bool) (m : Int → Int) (S T : FzS) : Prop where
 gs : T.gs.map (·.1) = S.gs.map fun g => mvX m g.1
 cur : (S.cur = none ∧ T.cur = none) ∨ ∃ f l l', S.cur = some (f, l) ∧ T.cur = some (f, l')
theorem SimZ.flush {e : Bool} {m : Int → Int} {S T : FzS} (h : SimZ e m S T) : (zI e T).map (·.1) = (zI e S).map fun g => mvX m g.1 := by
 rcases h.cur with ⟨h1, h2⟩ | ⟨f, l, l', h1, h2⟩
 ·unfold zI; rw [h1, h2]; exact h.gs
 ·unfold zI
  rw [h1, h2]
  dsimp only
  rw [List.map_append, List.map_append, h.gs]
  show _ ++ [f.ins e] = _ ++ [mvX m (f.ins e)]
  rw [kH yS]
theorem Jo {e : Bool} {D : List InsM} {M : List Int} (hc : yK e D M = (0, 0)) (hs : qA e D = true) {m : Int → Int} {mkB : Nat → Bool} {i idx : Nat} (hi : i < D.length) (hm0 : mkB idx = zV D M i) (hm1 : ∀ j, 0 < j → j < (ex e (zb D i)).length → mkB (idx + j) = false) {T : FzS} (h : SimZ e m (stZ e (zV D M) D i) T) :
  SimZ e m (stZ e (zV D M) D (i + 1)) (y3 e mkB idx ((ex e (zb D i)).map (mvX m)) T) := by
 have hr := (z9 hc).2.1
 rw [Yh hi]
 cases hf : yF (zb D i) with
 | none =>
  have beg : ∀ (mm : Bool) (S : FzS) (x : InsM), yF x = none → xH e mm S x = ⟨zI e S ++ [(x, [])], none⟩ := fun mm S x hx => by
   have : xH e mm S x = qz e (zI e S) x := by
    unfold xH
    cases S.cur with
    | none => rfl
    | some c => rw [hx]
   rw [this]
   unfold qz
   rw [hx]
  rw [Zz hf]
  show SimZ e m _ (xH e (mkB idx) T (mvX m (zb D i)))
  rw [beg _ _ _ hf, beg _ _ _ (by rw [Qn]; exact hf)]
  refine ⟨?_, .inl ⟨rfl, rfl⟩⟩
  dsimp only
  rw [List.map_append, List.map_append, h.flush]
  rfl
 | some g =>
  obtain ⟨go, gi⟩ := xS (hr i hi) hf
  have gn := go.n
  obtain ⟨n, hn⟩ : ∃ n : Nat, g.n = ((n + 1 : Nat) : Int) := ⟨g.n.toNat - 1, by omega⟩
  have hex : ex e (zb D i) = (yd e g.a g.w (n + 1)).map (·.ins e) := by
   rw [gi, kK go]
   show (yd e g.a g.w g.n.toNat).map _ = _
   rw [hn, Int.toNat_natCast]
  have hall : ∀ u ∈ yd e g.a g.w (n + 1), FldOK e u := fun u hu => (Xr go (by show u ∈ yd e g.a g.w g.n.toNat; rw [hn, Int.toNat_natCast]; exact hu)).1
  have hexm : (ex e (zb D i)).map (mvX m) = (yd e g.a g.w (n + 1)).map (·.ins e) := by
   rw [hex, List.map_map]
   exact List.map_congr_left fun u _ => kH yS
  rw [hex, List.length_map, uI] at hm1
  rw [hexm]
  have hgw : 0 ≤ g.w := by rcases go.w with q | q | q | q <;> rw [q] <;> decide
  have hu0 := hall ⟨g.a, 1, g.w⟩ (.head _)
  have rest : ∀ (gsT : List GrM) (c : FldM) (l : List FldM), c.behind e = g.a + (if e = true then g.w else 1) → c.w = g.w → 1 ≤ c.n → c.n + n ≤ 64 → FldM.behind e ⟨c.a, c.n + n, c.w⟩ ≤ Yr e ∨ n = 0 →
    y3 e mkB (idx + 1) ((yd e (g.a + if e = true then g.w else 1) g.w n).map (·.ins e)) ⟨gsT, some (c, l)⟩ = ⟨gsT, some (⟨c.a, c.n + n, c.w⟩, l ++ yd e (g.a + if e = true then g.w else 1) g.w n)⟩ := fun gsT c l q1 q2 q3 q4 q5 => by
   have := WA (e := e) (mk := mkB) (gs := gsT) n (idx + 1) c l (fun u hu => hall u (.tail _ (by rw [q1, q2] at hu; exact hu))) q3 q4 (fun q => by
    rcases q5 with q5 | q5
    ·exact q5
    ·omega) (by rw [q2]; exact hgw) (fun j hj => by rw [show idx + 1 + j = idx + (j + 1) by omega]; exact hm1 _ (by omega) (by omega))
   rw [q1, q2] at this
   rw [this, q2]
  have one : FldM.behind e ⟨g.a, 1, g.w⟩ = g.a + (if e = true then g.w else 1) := by
   unfold FldM.behind
   cases e <;> simp
  have gB : FldM.behind e ⟨g.a, 1 + n, g.w⟩ ≤ Yr e ∨ n = 0 := by
   by_cases h0 : n = 0
   ·exact .inr h0
   ·left
    unfold FldM.behind Yr
    cases e
    ·rw [if_neg (by decide), if_neg (by decide)]
     have := go.d rfl
     dsimp only; omega
    ·rw [if_pos rfl, if_pos rfl]
     have := go.e2 rfl (by omega)
     dsimp only
     rw [show (1 + (n : Int)) = g.n by omega]; exact this
  have gE : (⟨g.a, 1 + (n : Int), g.w⟩ : FldM) = g := by
   obtain ⟨a, k, w⟩ := g
   rw [FldM.mk.injEq]
   dsimp only at hn ⊢
   exact ⟨rfl, by omega, rfl⟩
  show SimZ e m _ (y3 e mkB (idx + 1) ((yd e (g.a + if e = true then g.w else 1) g.w n).map (·.ins e)) (xH e (mkB idx) T (FldM.ins e ⟨g.a, 1, g.w⟩)))
  have both : xH e (zV D M i) (stZ e (zV D M) D i) (zb D i) = qz e (zI e (stZ e (zV D M) D i)) (zb D i) → xH e (mkB idx) T (FldM.ins e ⟨g.a, 1, g.w⟩) = qz e (zI e T) (FldM.ins e ⟨g.a, 1, g.w⟩) →
    SimZ e m (xH e (zV D M i) (stZ e (zV D M) D i) (zb D i)) (y3 e mkB (idx + 1) ((yd e (g.a + if e = true then g.w else 1) g.w n).map (·.ins e)) (xH e (mkB idx) T (FldM.ins e ⟨g.a, 1, g.w⟩))) := fun b1 b2 => by
   rw [b1, b2]
   unfold qz
   rw [hf, xO hu0]
   dsimp only
   rw [rest _ _ _ one rfl (by dsimp only; omega) (by dsimp only; omega) gB]
   dsimp only
   rw [gE]
   exact ⟨h.flush, .inr ⟨g, _, _, rfl, rfl⟩⟩
  rcases h.cur with ⟨h1, h2⟩ | ⟨f, l, l', h1, h2⟩
  ·exact both (x7 h1) (x7 h2)
  ·have hS : stZ e (zV D M) D i = ⟨(stZ e (zV D M) D i).gs, some (f, l)⟩ := by rw [← h1]
   have hT : T = ⟨T.gs, some (f, l')⟩ := by rw [← h2]
   have hfS : zI e (stZ e (zV D M) D i) = (stZ e (zV D M) D i).gs ++ [(f.ins e, l)] := by unfold zI; rw [h1]
   have hfT : zI e T = T.gs ++ [(f.ins e, l')] := by unfold zI; rw [h2]
   obtain ⟨fo, _⟩ := (uB hc i).cur f l h1
   have hfn := fo.n
   by_cases hj : zV D M i = false ∧ g.a = f.behind e ∧ g.w = f.w
   ·obtain ⟨j1, j2, j3⟩ := hj
    have jj := Vt hc hs hi h1 hf j2 j3
    obtain ⟨_, _, _, k4, k5⟩ := wE jj
    dsimp only at k4
    have j0 : xc e f ⟨g.a, 1, g.w⟩ = some ⟨f.a, f.n + 1, f.w⟩ := by
     unfold xc
     refine if_pos ⟨j2, j3, by dsimp only; omega, ?_⟩
     exact Int.le_trans (Wz (by rw [← j3]; exact hgw) (by dsimp only; omega)) k5
    rw [hS, hT, wB j1 hf jj, wB (by rw [hm0]; exact j1) (xO hu0) j0]
    have hbh : FldM.behind e ⟨f.a, f.n + 1, f.w⟩ = g.a + (if e = true then g.w else 1) := by
     rw [j2, j3]
     unfold FldM.behind
     cases e
     ·rw [if_neg (by decide), if_neg (by decide), if_neg (by decide)]; dsimp only; omega
     ·rw [if_pos rfl, if_pos rfl, if_pos rfl]
      dsimp only
      rw [Int.add_mul]; omega
    rw [rest _ _ _ hbh j3.symm (by dsimp only; omega) (by dsimp only; omega) (.inl (by
     dsimp only
     rw [show f.n + 1 + (n : Int) = f.n + g.n by omega]
     exact k5))]
    dsimp only
    rw [show f.n + 1 + (n : Int) = f.n + g.n by omega]
    exact ⟨h.gs, .inr ⟨_, _, _, rfl, rfl⟩⟩
   ·refine both ?_ ?_
    ·rw [hfS]
     conv => lhs; rw [hS]
     refine vh ?_
     cases hm : zV D M i with
     | true => exact .inl rfl
     | false =>
      refine .inr (.inr fun g' hg' => ?_)
      rw [hf] at hg'
      injection hg' with hg'
      subst hg'
      unfold xc
      rw [if_neg fun q => hj ⟨hm, q.1, q.2.1⟩]
    ·rw [hfT]
     conv => lhs; rw [hT]
     refine vh ?_
     cases hm : zV D M i with
     | true => exact .inl (by rw [hm0]; exact hm)
     | false =>
      refine .inr (.inr fun g' hg' => ?_)
      rw [xO hu0] at hg'
      injection hg' with hg'
      subst hg'
      unfold xc
      rw [if_neg fun q => hj ⟨hm, q.1, q.2.1⟩]
theorem Yv {e : Bool} {C : List InsM} {i : Nat} (h : i < C.length) : (ex e (zb C i)).length = max 1 (PgF (C.map (spG e)) i).length := by
 unfold ex
 rw [ue, qx (g := spG e (zb C i)) (by rw [List.getElem?_map, List.getElem?_eq_getElem h, zP (List.getElem?_eq_getElem h)]; rfl)]
theorem jN {e : Bool} {D : List InsM} {M : List Int} (hc : yK e D M = (0, 0)) {i j : Nat} (hi : i < D.length) (hj : j < (ex e (zb D i)).length) : zV (zF e D) (yb e D M) (pz e D i + j) = (decide (j = 0) && zV D M i) := by
 obtain ⟨_, hr, hM⟩ := z9 hc
 rw [Yv hi] at hj
 have uq : ∀ {b : Nat}, pz e D b = pz e D i + j → b = i ∧ j = 0 := fun {b} q => by
  have := uF (P := PgF (D.map (spG e))) (k := b) (k' := i) (j := 0) (j' := j) (by omega) hj q
  exact ⟨this.1, this.2.symm⟩
 cases hm : (decide (j = 0) && zV D M i) with
 | true =>
  rw [Bool.and_eq_true, decide_eq_true_eq] at hm
  obtain ⟨rfl, hm⟩ := hm
  rw [Nat.add_zero]
  unfold zV at hm ⊢
  rw [Bool.or_eq_true] at hm ⊢
  rcases hm with hm | hm
  ·left
   obtain ⟨x, hx, hq⟩ := List.any_eq_true.1 hm
   rw [Bool.and_eq_true, decide_eq_true_eq] at hq
   obtain ⟨ht, hb⟩ := hq
   refine List.any_eq_true.2 ⟨mvX (trI (pz e D)) x, ?_, ?_⟩
   ·rw [xD]
    exact List.mem_map.2 ⟨x, List.mem_flatMap.2 ⟨x, hx, by rw [Zz (kL ht)]; exact .head _⟩, rfl⟩
   ·rw [vQ, ht, zbg ht, hb, Bool.true_and, decide_eq_true_eq]
    unfold trI
    rw [Int.toNat_natCast]
  ·right
   obtain ⟨n, hn, hq⟩ := List.any_eq_true.1 hm
   rw [decide_eq_true_eq] at hq
   refine List.any_eq_true.2 ⟨trI (pz e D) n, List.mem_map.2 ⟨n, hn, rfl⟩, ?_⟩
   rw [hq, decide_eq_true_eq]
   unfold trI
   rw [Int.toNat_natCast]
 | false =>
  cases hq : zV (zF e D) (yb e D M) (pz e D i + j) with
  | false => rfl
  | true =>
   exfalso
   have key : j = 0 ∧ zV D M i = true := by
    unfold zV at hq
    rw [Bool.or_eq_true] at hq
    rcases hq with hq | hq
    ·obtain ⟨y, hy, hq⟩ := List.any_eq_true.1 hq
     rw [Bool.and_eq_true, decide_eq_true_eq] at hq
     obtain ⟨ht, hb⟩ := hq
     rw [xD, List.mem_map] at hy
     obtain ⟨x, hx, rfl⟩ := hy
     rw [vQ] at ht
     rw [zbg ht] at hb
     have hxD := zaj hc hx ht
     obtain ⟨k, hk, hkx⟩ := yO hxD
     have h3 := zZ (hr k hk)
     rw [hkx] at h3
     have h4 := h3.2.2.1
     rw [(Ku h3.1).b1 ht] at h4
     have h5 := jr h4
     obtain ⟨u1, u2⟩ := uq (b := x.b.toNat) (by unfold trI at hb; omega)
     have := Wq (M := M) hxD ht h5.1
     rw [u1] at this
     exact ⟨u2, this⟩
    ·obtain ⟨y, hy, hq⟩ := List.any_eq_true.1 hq
     rw [decide_eq_true_eq] at hq
     obtain ⟨n, hn, rfl⟩ := List.mem_map.1 hy
     have h5 := hM n hn
     obtain ⟨u1, u2⟩ := uq (b := n.toNat) (by unfold trI at hq; exact Int.ofNat.inj hq)
     have := Wr (D := D) hn h5.1
     rw [u1] at this
     exact ⟨u2, this⟩
   rw [key.1, key.2] at hm
   cases hm
theorem Qq {e : Bool} {D : List InsM} {M : List Int} (hc : yK e D M = (0, 0)) (hs : qA e D = true) : ∀ i, i ≤ D.length → SimZ e (trI (pz e D)) (stZ e (zV D M) D i) (y3 e (zV (zF e D) (yb e D M)) 0 (((D.take i).flatMap (ex e)).map (mvX (trI (pz e D)))) ⟨[], none⟩)
 | 0, _ => ⟨rfl, .inl ⟨rfl, rfl⟩⟩
 | i + 1, hi => by
  have ih := Qq hc hs i (by omega)
  have hlt : i < D.length := by omega
  have e1 : (D.take (i + 1)).flatMap (ex e) = (D.take i).flatMap (ex e) ++ ex e (zb D i) := by
   rw [List.take_succ_eq_append_getElem hlt, List.flatMap_append, zP (List.getElem?_eq_getElem hlt)]
   simp
  rw [e1, List.map_append, jM, List.length_map, ← Xs (by omega), Nat.zero_add]
  refine Jo hc hs hlt ?_ (fun j h0 hj => ?_) ih
  ·have h1 : 0 < (ex e (zb D i)).length := by rw [Yv hlt]; omega
   have := jN hc hlt h1
   rw [Nat.add_zero] at this
   rw [this]
   rfl
  ·rw [jN hc hlt hj, decide_eq_false (by omega)]
   rfl
theorem Vu {e : Bool} {D : List InsM} {M : List Int} (hc : yK e D M = (0, 0)) (hC : D.length ≤ 16000) (hs : qA e D = true) : ye e (zF e D) (yb e D M) = ye e D M ∧ yX e (zF e D) (yb e D M) = yX e D M := by
 have hb := uM hc hC
 have hsim := (Qq hc hs D.length (Nat.le_refl _)).flush
 rw [List.take_length, ← xD, ← X7] at hsim
 have hsim : (zJ e (zF e D) (yb e D M)).map (·.1) = (zJ e D M).map fun g => mvX (trI (pz e D)) g.1 := hsim
 have hlen : (zJ e (zF e D) (yb e D M)).length = (zJ e D M).length := by
  have := congrArg List.length hsim
  rwa [List.length_map, List.length_map] at this
 have hcl : ∀ {D : List InsM} {M : List Int}, (ye e D M).length = (zJ e D M).length := fun {D M} => by unfold ye; rw [List.length_map]
 have hpz : ∀ k, k ≤ (zJ e D M).length → zG (PgF (zJ e (zF e D) (yb e D M))) k = pz e D (zG (PgF (zJ e D M)) k) := fun k hk => by
  have h1 := Xt hb (k := k) (by omega)
  have h2 := Xt hc hk
  have hex : ∀ y ∈ zF e D, ex e y = [y] := by rw [xD]; exact zbj hc _
  obtain ⟨_, J, _, hflat⟩ := x9 hb
  have hl := xj e (zJ e (zF e D) (yb e D M))
  rw [hflat] at hl
  have hle : zG (PgF (zJ e (zF e D) (yb e D M))) k ≤ (zF e D).length := by rw [hl]; exact wC (by omega)
  rw [Xs hle, uf fun x hx => hex x (List.mem_of_mem_take hx), List.length_take, Nat.min_eq_left hle] at h1
  rw [← h1, ← h2, Xs (by rw [hcl]; omega), Xs (by rw [hcl]; exact hk)]
  have gen : ∀ {D : List InsM} {M : List Int}, yK e D M = (0, 0) → ((ye e D M).take k).flatMap (ex e) = ((((zJ e D M).map (·.1)).take k).flatMap (ex e)).map (mvX (uj (zJ e D M))) := fun {D M} hc => by
   have : (ye e D M).take k = (((zJ e D M).map (·.1)).take k).map (mvX (uj (zJ e D M))) := by
    unfold ye
    rw [← List.map_take, ← List.map_take, List.map_map]
    rfl
   rw [this]
   refine Wt _ fun x hx => ?_
   obtain ⟨g, hgm, rfl⟩ := List.mem_map.1 (List.mem_of_mem_take hx)
   exact kM (vK hc g hgm)
  rw [gen hb, gen hc, List.length_map, List.length_map, hsim]
  have : (zJ e D M).map (fun g => mvX (trI (pz e D)) g.1) = ((zJ e D M).map (·.1)).map (mvX (trI (pz e D))) := by rw [List.map_map]; rfl
  rw [this, ← List.map_take, Wt _ fun x hx => by
   obtain ⟨g, hgm, rfl⟩ := List.mem_map.1 (List.mem_of_mem_take hx)
   exact kM (vK hc g hgm), List.length_map]
 have key : ∀ {n : Int}, (∃ k, k < (zJ e D M).length ∧ n = (zG (PgF (zJ e D M)) k : Nat) ∧ uj (zJ e D M) n = k) → uj (zJ e (zF e D) (yb e D M)) (trI (pz e D) n) = uj (zJ e D M) n := fun {n} ⟨k, h1, h2, h3⟩ => by
  rw [h3, h2]
  unfold trI
  rw [Int.toNat_natCast, ← hpz k (by omega)]
  exact uN (by omega)
 refine ⟨?_, ?_⟩
 ·have c1 : ye e (zF e D) (yb e D M) = ((zJ e (zF e D) (yb e D M)).map (·.1)).map (mvX (uj (zJ e (zF e D) (yb e D M)))) := by unfold ye; rw [List.map_map]; rfl
  rw [c1, hsim, List.map_map]
  unfold ye
  refine List.map_congr_left fun g hg => ?_
  show mvX _ (mvX _ g.1) = mvX _ g.1
  by_cases ht : tgF g.1.op = true
  ·have hmem : g.1 ∈ D := by
    obtain ⟨_, _, _, hflat⟩ := x9 hc
    rw [← hflat, List.mem_flatMap]
    refine ⟨g, hg, ?_⟩
    by_cases h2 : g.2 = []
    ·rw [wv h2]; exact .head _
    ·obtain ⟨f, _, f2, _⟩ := (vK hc g hg).run h2
     rw [f2] at ht
     exact absurd ht (qy yS)
   obtain ⟨_, hk⟩ := Ww hc hmem ht
   have := key hk
   unfold mvX
   rw [if_pos ht, if_pos ht]
   dsimp only
   rw [if_pos ht, this]
  ·rw [qK ht, qK ht, qK ht]
 ·unfold yX yb
  rw [List.map_map]
  refine List.map_congr_left fun n hn => ?_
  obtain ⟨_, hk⟩ := Wx hc hn
  exact key hk
end
section
open Go.RowKit
theorem UU (e : Bool) (C : List InsM) (N : List Int) (hc : yK e C N = (0, 0)) : zN Try.prog 13 [pG e C N] (fun r => r = vB (qA e C)) := by
 obtain ⟨⟨hC, hN⟩, hr, _⟩ := z9 hc
 have hnum := fun x => kz e C N x
 have hrp := Xu hc
 unfold pG at *
 refine zB (za _) Try.func13 rfl rfl (by rw [Try.results13]) Try.ntmps13 rfl fun E => ?_
 (repeat' (first | exact trivial | (with_reducible first | apply awA | apply awB | apply awF) | ((with_reducible apply awn); intro r hr; simp only [go_sem, Nat.reduceLT] at hr; subst hr; (first | refine awV ?_ ?_)))) <;> (try omega)
 refine zC [1, 3, 4] [1] (fun i : Nat => ⟨[(1, true, .ptr 1 1 0 0), (3, true, vI (u7 e C i)), (4, true, vI i)], [(1, .var [vB e, .lst 4 (zz C), .lst 1 (v8 N)])]⟩)
  (fun i => i ≤ C.length ∧ ∀ j, j < i → ug e C j = true) (fun i => C.length - i) 0 (by simp only [go_sem, Nat.reduceBEq] <;> exact rfl) ⟨Nat.zero_le _, fun j hj => by omega⟩ ?_
 intro i ⟨hi, hs⟩
 have hwi := zg (n := (i : Int) + 1) (by omega)
 have zi : ((i : Int)).toNat = i := by omega
 have h0 := hrp i hi
 have h64 : u7 e C i ≤ 64 := by
  cases i with
  | zero => show (0 : Int) ≤ 64; decide
  | succ i =>
   have := hs i (by omega)
   unfold ug at this
   rw [Bool.and_eq_true, decide_eq_true_eq] at this
   exact this.1
 by_cases hlt : i < C.length
 ·have e1 : ((i : Int) < (C.length : Int)) = True := eq_true (by omega)
  have gC := yw hlt
  have hn := hnum (zb C i)
  have hfo := fun f => xS (f := f) (hr i hlt)
  have cx : AV.agg (qF (zb C i)) = .agg [vI (zb C i).op, vI (zb C i).a, vI (zb C i).b, vI (zb C i).c] := rfl
  rw [cx] at hn
  have hno : ¬ (u7 e C (i + 1) ≤ 64 ∧ (zb C i).a ≤ 16767216) → qA e C = false := fun h => by
   refine List.all_eq_false.2 ⟨i, List.mem_range.2 hlt, ?_⟩
   unfold ug
   rw [Bool.and_eq_true, decide_eq_true_eq, decide_eq_true_eq]
   exact h
  have hyes : (u7 e C (i + 1) ≤ 64 ∧ (zb C i).a ≤ 16767216) → ∀ j, j < i + 1 → ug e C j = true := fun h j hj => by
   by_cases hji : j = i
   ·subst hji
    unfold ug
    rw [Bool.and_eq_true, decide_eq_true_eq, decide_eq_true_eq]
    exact h
   ·exact hs j (by omega)
  cases hf : yF (zb C i) with
  | none =>
   have hR : u7 e C (i + 1) = 0 := by unfold u7; rw [hf]
   rw [hR] at hno hyes
   rw [Zo hf] at hn
   dsimp only at hn
   generalize (if (zb C i).a < 0 then (0 : Int) else if e = true then 0 else 1) = st at hn
   have w0 := zg (n := u7 e C i + 0) (by omega)
   have q1 : ((0 : Int) > 0) = False := by simp
   have q2 : ((0 : Int) > 64) = False := by simp
   rcases Classical.propComplete ((zb C i).a > 16767216) with q3 | q3
   all_goals (repeat' (first | exact trivial | (with_reducible first | apply awA | apply awB | apply awC | apply awD | apply awF | apply awG | apply awI | apply awJ) | (refine zn (id := 5) (t := (.node [0, 1, 2, 3, 4, 5, 6, 7, 8, 9, 10, 11, 12, 13] [])) (drR [1] [24] []) zD (by kernel_rfl) (by kernel_rfl) (fun _ _ h => h) ?_) | (refine zx (by simp only [go_sem]; exact rfl) ?_) | (refine zA (by simp only [go_sem]; exact rfl) ?_) | refine ze ?_ | refine zl ?_ ?_ | exact zy | ((with_reducible first | apply awn | apply awp | refine awQ ?_ | refine awR ?_); intro r hr; simp only [go_sem, Nat.reduceBEq, Nat.reduceLT, Nat.reduceLeDiff, Nat.reduceAdd, Nat.reduceMul, reduceCtorEq, e1, q1, q2, q3, w0, hwi, zi, gC, zd] at hr; subst hr; (first | refine caA (fun _ => hn) rfl ?_ ?_ ?_ | refine awV ?_ ?_ | refine zR ?_ ?_ | (refine zf (fun h => ?_) (fun h => ?_) <;> (try simp only [go_sem, reduceCtorEq] at h) <;> (try (exfalso; omega))))))) <;> (try omega)
   ·rw [hno (fun h => by have := of_eq_true q3; omega)]; exact rfl
   ·refine ⟨i + 1, ?_, ⟨hlt, hyes ⟨by omega, by have := of_eq_false q3; omega⟩⟩, by omega⟩
    rw [hR]
    simp only [go_sem, Nat.reduceBEq]
    try exact rfl
  | some f =>
   obtain ⟨fo, fi⟩ := hfo f hf
   have fn := fo.n
   rw [Zn hf] at hn
   dsimp only at hn
   have q1 : (f.n > 0) = True := eq_true (by omega)
   have q2 : (f.n = 0) = False := eq_false (by omega)
   have w0 := zg (n := u7 e C i + f.n) (by omega)
   have w00 := zg (n := 0 + f.n) (by omega)
   have xa : (zb C i).a = f.a := by rw [fi]; exact UV
   have two : u7 e C (i + 1) = (if kP e C i f = true then u7 e C i else 0) + f.n := by
    conv => lhs; unfold u7
    rw [hf]
   by_cases hi0 : i = 0
   ·subst hi0
    have hR : u7 e C (0 + 1) = u7 e C 0 + f.n := by
     rw [two]
     have : kP e C 0 f = false := rfl
     rw [this]; rfl
    rw [hR] at hno hyes
    rcases Classical.propComplete (u7 e C 0 + f.n > 64) with q4 | q4 <;> rcases Classical.propComplete ((zb C 0).a > 16767216) with q3 | q3
    all_goals (repeat' (first | exact trivial | (with_reducible first | apply awA | apply awB | apply awC | apply awD | apply awF | apply awG | apply awI | apply awJ) | (refine zn (id := 5) (t := (.node [0, 1, 2, 3, 4, 5, 6, 7, 8, 9, 10, 11, 12, 13] [])) (drR [1] [24] []) zD (by kernel_rfl) (by kernel_rfl) (fun _ _ h => h) ?_) | (refine zx (by simp only [go_sem]; exact rfl) ?_) | (refine zA (by simp only [go_sem]; exact rfl) ?_) | refine ze ?_ | refine zl ?_ ?_ | exact zy | ((with_reducible first | apply awn | apply awp | refine awQ ?_ | refine awR ?_); intro r hr; simp only [go_sem, Nat.reduceBEq, Nat.reduceLT, Nat.reduceLeDiff, Nat.reduceAdd, Nat.reduceMul, reduceCtorEq, q1, q2, q3, q4, w0, gC, zd, Int.cast_ofNat_Int, Int.reduceToNat, Int.reduceLT, Int.reduceLE] at hr; subst hr; (first | refine caA (fun _ => hn) rfl ?_ ?_ ?_ | refine awV ?_ ?_ | refine zR ?_ ?_ | (refine zf (fun h => ?_) (fun h => ?_) <;> (try simp only [go_sem, reduceCtorEq] at h) <;> (try (exfalso; omega))))))) <;> (try omega)
    ·rw [hno (fun h => by have := of_eq_true q4; omega)]; exact rfl
    ·rw [hno (fun h => by have := of_eq_true q4; omega)]; exact rfl
    ·rw [hno (fun h => by have := of_eq_true q3; omega)]; exact rfl
    ·refine ⟨0 + 1, ?_, ⟨hlt, hyes ⟨by have := of_eq_false q4; omega, by have := of_eq_false q3; omega⟩⟩, by omega⟩
     rw [hR]
     simp only [go_sem, Nat.reduceBEq]
     try exact rfl
   ·obtain ⟨k, rfl⟩ : ∃ k, i = k + 1 := ⟨i - 1, by omega⟩
    have hk : k < C.length := by omega
    have gP := yw hk
    have hnp := hnum (zb C k)
    have cp : AV.agg (qF (zb C k)) = .agg [vI (zb C k).op, vI (zb C k).a, vI (zb C k).b, vI (zb C k).c] := rfl
    rw [cp] at hnp
    have hfp := fun p => xS (f := p) (hr k hk)
    have ws := zg (n := ((k + 1 : Nat) : Int) - 1) (by omega)
    have zk : (((k + 1 : Nat) : Int) - 1).toNat = k := by omega
    have i0 : (((k + 1 : Nat) : Int) > 0) = True := eq_true (by omega)
    cases hp : yF (zb C k) with
    | none =>
     have hR : u7 e C (k + 1 + 1) = 0 + f.n := by
      rw [two]
      have : kP e C (k + 1) f = false := by
       unfold kP
       rw [Nat.add_sub_cancel, hp]
       simp
      rw [this]; rfl
     rw [hR] at hno hyes
     rw [Zo hp] at hnp
     dsimp only at hnp
     generalize (if (zb C k).a < 0 then (0 : Int) else if e = true then 0 else 1) = st at hnp
     rcases Classical.propComplete (0 + f.n > 64) with q4 | q4 <;> rcases Classical.propComplete ((zb C (k + 1)).a > 16767216) with q3 | q3
     all_goals (repeat' (first | exact trivial | (with_reducible first | apply awA | apply awB | apply awC | apply awD | apply awF | apply awG | apply awI | apply awJ) | (refine zn (id := 5) (t := (.node [0, 1, 2, 3, 4, 5, 6, 7, 8, 9, 10, 11, 12, 13] [])) (drR [1] [24] []) zD (by kernel_rfl) (by kernel_rfl) (fun _ _ h => h) ?_) | (refine zn (id := 7) (t := (.node [0, 1, 2, 3, 4, 5, 6, 7, 8, 9, 10, 11, 12, 13, 14] [])) (drR [1] [42] []) zD (by kernel_rfl) (by kernel_rfl) (fun _ _ h => h) ?_) | (refine zn (id := 8) (t := (.node [0, 1, 2, 3, 4, 5, 6, 7, 8, 9, 10, 11, 12, 13, 14, 15, 16, 17, 18, 19, 20, 21, 22, 23, 24, 25, 26] [])) (drR [1] [60, 67] []) zD (by kernel_rfl) (by kernel_rfl) (fun _ _ h => h) ?_) | (refine zx (by simp only [go_sem]; exact rfl) ?_) | (refine zA (by simp only [go_sem]; exact rfl) ?_) | refine ze ?_ | refine zl ?_ ?_ | exact zy | ((with_reducible first | apply awn | apply awp | refine awQ ?_ | refine awR ?_); intro r hr; simp only [go_sem, Nat.reduceBEq, Nat.reduceLT, Nat.reduceLeDiff, Nat.reduceAdd, Nat.reduceMul, reduceCtorEq, e1, q1, q2, q3, q4, w00, i0, ws, zk, gP, hwi, zi, gC, zd] at hr; subst hr; (first | refine caA (fun _ => hn) rfl ?_ ?_ ?_ | refine caA (fun _ => hnp) rfl ?_ ?_ ?_ | refine awV ?_ ?_ | refine zR ?_ ?_ | (refine zf (fun h => ?_) (fun h => ?_) <;> (try simp only [go_sem, reduceCtorEq] at h) <;> (try (exfalso; omega))))))) <;> (try omega)
     ·rw [hno (fun h => by have := of_eq_true q4; omega)]; exact rfl
     ·rw [hno (fun h => by have := of_eq_true q4; omega)]; exact rfl
     ·rw [hno (fun h => by have := of_eq_true q3; omega)]; exact rfl
     ·refine ⟨k + 1 + 1, ?_, ⟨hlt, hyes ⟨by have := of_eq_false q4; omega, by have := of_eq_false q3; omega⟩⟩, by omega⟩
      rw [hR]
      simp only [go_sem, Nat.reduceBEq]
      try exact rfl
    | some p =>
     obtain ⟨po, pi⟩ := hfp p hp
     have pn := po.n
     have pa : (zb C k).a = p.a := by rw [pi]; exact UV
     rw [Zn hp] at hnp
     dsimp only at hnp
     have q5 : (p.n = 0) = False := eq_false (by omega)
     have hst := Yl fo.w (n := p.n) (by omega)
     have hpa : 0 ≤ p.a ∧ p.a ≤ 16777215 := by
      have h1 := po.a
      cases e
      ·have := po.d rfl; omega
      ·have := po.e1 rfl; omega
     have hms : 0 ≤ p.n * (if e = true then f.w else 1) ∧ p.n * (if e = true then f.w else 1) ≤ 1000 := by
      cases e
      ·rw [if_neg (by decide)]; omega
      ·rw [if_pos rfl]; omega
     have w5 := zg (n := p.n * (if e = true then f.w else 1)) (by omega)
     have w6 := zg (n := (zb C k).a + p.n * (if e = true then f.w else 1)) (by omega)
     have hcb : kP e C (k + 1) f = (decide (p.w = f.w) && decide ((zb C (k + 1)).a = (zb C k).a + p.n * (if e = true then f.w else 1))) := by
      unfold kP
      rw [Nat.add_sub_cancel, hp, decide_eq_true (show 0 < k + 1 by omega), Bool.true_and]
      dsimp only
      rw [xa, pa]
      by_cases hw : p.w = f.w
      ·rw [decide_eq_true hw, Bool.true_and, Bool.true_and, ← hw]
       congr 1
       unfold FldM.behind
       cases e
       ·rw [if_neg (by decide), if_neg (by decide), Int.mul_one]
       ·rw [if_pos rfl, if_pos rfl]
      ·rw [decide_eq_false hw]; rfl
     rw [hcb] at two
     generalize (if e = true then f.w else 1) = st at *
     clear hms hst
     rcases Classical.propComplete (p.w = f.w) with q6 | q6 <;> rcases Classical.propComplete ((zb C (k + 1)).a = (zb C k).a + p.n * st) with q7 | q7
     ·have hR : u7 e C (k + 1 + 1) = u7 e C (k + 1) + f.n := by rw [two]; simp only [q6, q7, decide_true, Bool.and_self, if_true]
      rw [hR] at hno hyes
      rcases Classical.propComplete (u7 e C (k + 1) + f.n > 64) with q4 | q4 <;> rcases Classical.propComplete ((zb C (k + 1)).a > 16767216) with q3 | q3
      all_goals (repeat' (first | exact trivial | (with_reducible first | apply awA | apply awB | apply awC | apply awD | apply awF | apply awG | apply awI | apply awJ) | (refine zn (id := 5) (t := (.node [0, 1, 2, 3, 4, 5, 6, 7, 8, 9, 10, 11, 12, 13] [])) (drR [1] [24] []) zD (by kernel_rfl) (by kernel_rfl) (fun _ _ h => h) ?_) | (refine zn (id := 7) (t := (.node [0, 1, 2, 3, 4, 5, 6, 7, 8, 9, 10, 11, 12, 13, 14] [])) (drR [1] [42] []) zD (by kernel_rfl) (by kernel_rfl) (fun _ _ h => h) ?_) | (refine zn (id := 8) (t := (.node [0, 1, 2, 3, 4, 5, 6, 7, 8, 9, 10, 11, 12, 13, 14, 15, 16, 17, 18, 19, 20, 21, 22, 23, 24, 25, 26] [])) (drR [1] [60, 67] []) zD (by kernel_rfl) (by kernel_rfl) (fun _ _ h => h) ?_) | (refine zx (by simp only [go_sem]; exact rfl) ?_) | (refine zA (by simp only [go_sem]; exact rfl) ?_) | refine ze ?_ | refine zl ?_ ?_ | exact zy | ((with_reducible first | apply awn | apply awp | refine awQ ?_ | refine awR ?_); intro r hr; simp only [go_sem, Nat.reduceBEq, Nat.reduceLT, Nat.reduceLeDiff, Nat.reduceAdd, Nat.reduceMul, reduceCtorEq, e1, q1, q2, q3, q4, q5, q6, q7, w0, w5, w6, i0, ws, zk, gP, hwi, zi, gC, zd] at hr; subst hr; (first | refine caA (fun _ => hn) rfl ?_ ?_ ?_ | refine caA (fun _ => hnp) rfl ?_ ?_ ?_ | refine awV ?_ ?_ | refine zR ?_ ?_ | (refine zf (fun h => ?_) (fun h => ?_) <;> (try simp only [go_sem, reduceCtorEq] at h) <;> (try (exfalso; omega))))))) <;> (try omega)
      ·rw [hno (fun h => by have := of_eq_true q4; omega)]; exact rfl
      ·rw [hno (fun h => by have := of_eq_true q4; omega)]; exact rfl
      ·rw [hno (fun h => by have := of_eq_true q3; omega)]; exact rfl
      ·refine ⟨k + 1 + 1, ?_, ⟨hlt, hyes ⟨by have := of_eq_false q4; omega, by have := of_eq_false q3; omega⟩⟩, by omega⟩
       rw [hR]
       simp only [go_sem, Nat.reduceBEq]
       try exact rfl
     all_goals
      have hR : u7 e C (k + 1 + 1) = 0 + f.n := by rw [two]; simp [q6, q7]
      rw [hR] at hno hyes
      rcases Classical.propComplete (0 + f.n > 64) with q4 | q4 <;> rcases Classical.propComplete ((zb C (k + 1)).a > 16767216) with q3 | q3
      all_goals (repeat' (first | exact trivial | (with_reducible first | apply awA | apply awB | apply awC | apply awD | apply awF | apply awG | apply awI | apply awJ) | (refine zn (id := 5) (t := (.node [0, 1, 2, 3, 4, 5, 6, 7, 8, 9, 10, 11, 12, 13] [])) (drR [1] [24] []) zD (by kernel_rfl) (by kernel_rfl) (fun _ _ h => h) ?_) | (refine zn (id := 7) (t := (.node [0, 1, 2, 3, 4, 5, 6, 7, 8, 9, 10, 11, 12, 13, 14] [])) (drR [1] [42] []) zD (by kernel_rfl) (by kernel_rfl) (fun _ _ h => h) ?_) | (refine zn (id := 8) (t := (.node [0, 1, 2, 3, 4, 5, 6, 7, 8, 9, 10, 11, 12, 13, 14, 15, 16, 17, 18, 19, 20, 21, 22, 23, 24, 25, 26] [])) (drR [1] [60, 67] []) zD (by kernel_rfl) (by kernel_rfl) (fun _ _ h => h) ?_) | (refine zx (by simp only [go_sem]; exact rfl) ?_) | (refine zA (by simp only [go_sem]; exact rfl) ?_) | refine ze ?_ | refine zl ?_ ?_ | exact zy | ((with_reducible first | apply awn | apply awp | refine awQ ?_ | refine awR ?_); intro r hr; simp only [go_sem, Nat.reduceBEq, Nat.reduceLT, Nat.reduceLeDiff, Nat.reduceAdd, Nat.reduceMul, reduceCtorEq, e1, q1, q2, q3, q4, q5, q6, q7, w00, w5, w6, i0, ws, zk, gP, hwi, zi, gC, zd] at hr; subst hr; (first | refine caA (fun _ => hn) rfl ?_ ?_ ?_ | refine caA (fun _ => hnp) rfl ?_ ?_ ?_ | refine awV ?_ ?_ | refine zR ?_ ?_ | (refine zf (fun h => ?_) (fun h => ?_) <;> (try simp only [go_sem, reduceCtorEq] at h) <;> (try (exfalso; omega))))))) <;> (try omega)
      ·rw [hno (fun h => by have := of_eq_true q4; omega)]; exact rfl
      ·rw [hno (fun h => by have := of_eq_true q4; omega)]; exact rfl
      ·rw [hno (fun h => by have := of_eq_true q3; omega)]; exact rfl
      ·refine ⟨k + 1 + 1, ?_, ⟨hlt, hyes ⟨by have := of_eq_false q4; omega, by have := of_eq_false q3; omega⟩⟩, by omega⟩
       rw [hR]
       simp only [go_sem, Nat.reduceBEq]
       try exact rfl
 ·have e1 : ((i : Int) < (C.length : Int)) = False := eq_false (by omega)
  obtain rfl : i = C.length := by omega
  have : qA e C = true := List.all_eq_true.2 fun j hj => hs j (List.mem_range.1 hj)
  rw [this]
  (repeat' (first | exact trivial | (with_reducible first | apply awA | apply awD | apply awE | apply awF | apply awH | apply awK) | ((with_reducible first | apply awn | refine awQ ?_ | refine awR ?_); intro r hr; simp only [go_sem, Nat.reduceBEq, Nat.reduceLT, Nat.reduceLeDiff, Nat.reduceAdd, Nat.reduceMul, e1, zd] at hr; subst hr; (first | refine awV ?_ ?_ | refine zR ?_ ?_ | (refine zf (fun h => ?_) (fun h => ?_) <;> (try simp only [go_sem, reduceCtorEq] at h) <;> (try (exfalso; omega))))))) <;> (try omega)
  all_goals exact rfl
end
section
open Go.RowKit
theorem kB (e : Bool) (C : List InsM) (N : List Int) (hC : C.length ≤ 100000000) (hN : N.length ≤ 100000000) : zN Try.prog 4 [pG e C N] (fun r => r = vB true) := by
 have hm := WJ e C N hC hN
 have hfi := UQ
 unfold pG at hm ⊢
 refine zB (za _) Try.func4 rfl rfl (by rw [Try.results4]) Try.ntmps4 rfl fun E => ?_
 (repeat' (first | exact trivial | (with_reducible first | apply awA | apply awC | apply awF) | ((with_reducible first | apply awn | apply awo | refine awQ ?_); intro r hr; simp only [go_sem, Nat.reduceBEq, Nat.reduceLT, Nat.reduceLeDiff, Nat.reduceAdd, Nat.reduceMul] at hr; subst hr; (first | refine caA (fun _ => hfi) rfl ?_ ?_ ?_ | refine caD (hm) rfl ?_ ?_ (fun r hr => wl ?_) | refine awV ?_ ?_ | (refine zf (fun h => ?_) (fun h => ?_) <;> (try simp only [go_sem, reduceCtorEq] at h) <;> (try (exfalso; omega))))))) <;> (try omega)
 refine ⟨?_⟩
 obtain ⟨X, Z, rfl, hc, hx1, hx2⟩ := hr
 have hZ := (z9 hc).1.2
 have hf := vJ e X Z (by omega) (by omega)
 unfold Vp at hf
 by_cases hv : (wX e X Z).1 = 0
 ·rw [if_pos hv] at hf
  have hs := vi e X Z (by omega) (by omega)
  have l1 := Qj hc
  have l3 := kN hc
  have va := Wv hv
  have vb := Yt hv (by omega)
  have fa := vJ e (ye e X Z) (yX e X Z) (by omega) (by rw [x8]; omega)
  have sb := vi e (zF e X) (yb e X Z) (by omega) (by rw [xr]; omega)
  have sa := vi e (ye e X Z) (yX e X Z) (by omega) (by rw [x8]; omega)
  have fb := vJ e (zF e X) (yb e X Z) (by omega) (by rw [xr]; omega)
  unfold Yk at hs sb sa
  unfold Vp at fa fb
  rw [va, if_pos rfl] at fa sa
  rw [vb, if_pos rfl] at fb sb
  rw [if_pos hv] at hs
  rw [(Yu hc).1, (Yu hc).2] at fa
  rw [(kO hc (by omega)).1, (kO hc (by omega)).2] at sb
  rw [(jL hc).1, (jL hc).2] at sa
  have sh := UU e X Z hc
  have q1 := x1 e (ye e X Z) (yX e X Z) (by omega) (by rw [x8]; omega)
  have q2 := x1 e (zF e X) (yb e X Z) (by omega) (by rw [xr]; omega)
  have hfs := fun h => Vu hc (by omega) h
  generalize ye e (zF e X) (yb e X Z) = K at *
  generalize yX e (zF e X) (yb e X Z) = KN at *
  generalize ye e X Z = A at *
  generalize yX e X Z = AN at *
  generalize zF e X = B at *
  generalize yb e X Z = BN at *
  clear l1 l3 va vb hc hv
  cases hsh : qA e X with
  | true =>
   obtain ⟨rfl, rfl⟩ := hfs hsh
   rw [hsh] at sh
   unfold pG at *
   (repeat' (first | exact trivial | (with_reducible first | apply awA | apply awC | apply awD | apply awF) | ((with_reducible first | apply awn | apply awo | refine awQ ?_ | refine awR ?_); intro r hr; simp only [go_sem, Nat.reduceBEq, Nat.reduceLT, Nat.reduceLeDiff, Nat.reduceAdd, Nat.reduceMul, reduceCtorEq] at hr; subst hr; (first | refine caC (hf) rfl ?_ ?_ ?_ | refine caC (hs) rfl ?_ ?_ ?_ | refine caC (fa) rfl ?_ ?_ ?_ | refine caC (sb) rfl ?_ ?_ ?_ | refine caC (sa) rfl ?_ ?_ ?_ | refine caC (fb) rfl ?_ ?_ ?_ | refine caA (fun _ => q1) rfl ?_ ?_ ?_ | refine caA (fun _ => q2) rfl ?_ ?_ ?_ | refine caA (fun _ => sh) rfl ?_ ?_ ?_ | refine awV ?_ ?_ | refine zR ?_ ?_ | (refine zf (fun h => ?_) (fun h => ?_) <;> (try simp only [go_sem, reduceCtorEq] at h) <;> (try (exfalso; omega))))))) <;> (try omega)
   all_goals exact rfl
  | false =>
   rw [hsh] at sh
   clear hfs
   unfold pG at *
   (repeat' (first | exact trivial | (with_reducible first | apply awA | apply awC | apply awD | apply awF) | ((with_reducible first | apply awn | apply awo | refine awQ ?_ | refine awR ?_); intro r hr; simp only [go_sem, Nat.reduceBEq, Nat.reduceLT, Nat.reduceLeDiff, Nat.reduceAdd, Nat.reduceMul, reduceCtorEq] at hr; subst hr; (first | refine caB 11 (vB true) ?_ ?_ ?_ | refine caC (hf) rfl ?_ ?_ ?_ | refine caC (hs) rfl ?_ ?_ ?_ | refine caC (fa) rfl ?_ ?_ ?_ | refine caC (sb) rfl ?_ ?_ ?_ | refine caC (sa) rfl ?_ ?_ ?_ | refine caC (fb) rfl ?_ ?_ ?_ | refine caA (fun _ => q1) rfl ?_ ?_ ?_ | refine caA (fun _ => q2) rfl ?_ ?_ ?_ | refine caA (fun _ => sh) rfl ?_ ?_ ?_ | refine awV ?_ ?_ | refine zR ?_ ?_ | (refine zf (fun h => ?_) (fun h => ?_) <;> (try simp only [go_sem, reduceCtorEq] at h) <;> (try (exfalso; omega))))))) <;> (try omega)
   all_goals exact rfl
 ·rw [if_neg hv] at hf
  generalize wX e X Z = f at *
  obtain ⟨f1, f2⟩ := f
  have e1 : (f1 = 0) = False := eq_false hv
  unfold Xj at *
  unfold pG at *
  (repeat' (first | exact trivial | (with_reducible first | apply awA | apply awD | apply awF | apply awG) | ((with_reducible first | apply awn | apply awo | refine awQ ?_ | refine awR ?_); intro r hr; simp only [go_sem, Nat.reduceBEq, Nat.reduceLT, Nat.reduceLeDiff, Nat.reduceAdd, Nat.reduceMul, e1] at hr; subst hr; (first | refine caC (hf) rfl ?_ ?_ ?_ | refine awV ?_ ?_ | refine zR ?_ ?_ | (refine zf (fun h => ?_) (fun h => ?_) <;> (try simp only [go_sem, reduceCtorEq] at h) <;> (try (exfalso; omega))))))) <;> (try omega)
  all_goals exact rfl
end
end Go.Proofs.Ytfjajlcjifnceaa

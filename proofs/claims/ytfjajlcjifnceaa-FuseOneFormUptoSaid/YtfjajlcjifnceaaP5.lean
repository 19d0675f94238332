import Derived.Test.YtfjajlcjifnceaaP4
set_option linter.all false
set_option maxRecDepth 100000
set_option maxHeartbeats 8000000
namespace Go.Proofs.Ytfjajlcjifnceaa
section
inductive Rch (R : Nat → Nat → Prop) : Nat → Nat → Prop
 | one {a b : Nat} : R a b → Rch R a b
 | more {a b c : Nat} : Rch R a b → R b c → Rch R a c
theorem Rch.trans {R : Nat → Nat → Prop} {a b c : Nat} (h : Rch R a b) (g : Rch R b c) : Rch R a c := by
 induction g with
 | one h1 => exact .more h h1
 | more _ h1 ih => exact .more ih h1
theorem Rch.front {R : Nat → Nat → Prop} {a c : Nat} (h : Rch R a c) : ∃ b, R a b ∧ (b = c ∨ Rch R b c) := by
 induction h with
 | one h1 => exact ⟨_, h1, .inl rfl⟩
 | more _ h1 ih =>
  obtain ⟨b, hb, h2⟩ := ih
  refine ⟨b, hb, .inr ?_⟩
  rcases h2 with rfl | h2
  ·exact .one h1
  ·exact .more h2 h1
def zdl (R : Nat → Nat → Prop) (fr : List Nat) (k : Nat) : Prop := ∃ a ∈ fr, Rch R a k
structure Srch (R : Nat → Nat → Prop) (fr Q : List Nat) (i : Nat) : Prop where
 nd : Q.Nodup
 ok : ∀ k ∈ Q, zdl R fr k
 cl : ∀ x ∈ (fr ++ Q).take i, ∀ k, R x k → k ∈ Q
theorem Srch.nil (R : Nat → Nat → Prop) (fr : List Nat) : Srch R fr [] 0 := ⟨List.nodup_nil, fun _ h => (by cases h), fun _ h => (by simp at h)⟩
theorem Srch.done {R : Nat → Nat → Prop} {fr Q : List Nat} {i : Nat} (h : Srch R fr Q i) (hi : (fr ++ Q).length ≤ i) (k : Nat) : k ∈ Q ↔ zdl R fr k := by
 refine ⟨h.ok k, fun ⟨a, ha, hr⟩ => ?_⟩
 have hall : ∀ x ∈ fr ++ Q, ∀ k, R x k → k ∈ Q := fun x hx k hk => h.cl x (by rw [List.take_of_length_le hi]; exact hx) k hk
 have gen : ∀ c, Rch R a c → c ∈ Q := fun c hr => by
  induction hr with
  | one h1 => exact hall _ (List.mem_append_left _ ha) _ h1
  | more _ h1 ih => exact hall _ (List.mem_append_right _ ih) _ h1
 exact gen k hr
theorem Srch.add {R : Nat → Nat → Prop} {fr Q : List Nat} {i x k : Nat} (h : Srch R fr Q i) (hx : (fr ++ Q)[i]? = some x) (hk : R x k) (hn : k ∉ Q) : Srch R fr (Q ++ [k]) i := by
 have hlt : i < (fr ++ Q).length := by
  rcases Nat.lt_or_ge i (fr ++ Q).length with h' | h'
  ·exact h'
  ·rw [List.getElem?_eq_none h'] at hx; cases hx
 have hxm := List.mem_of_getElem? hx
 refine ⟨?_, fun y hy => ?_, fun y hy z hz => ?_⟩
 ·rw [List.nodup_append]
  exact ⟨h.nd, by simp, fun a ha b hb hab => by simp at hb; subst hb; subst hab; exact hn ha⟩
 ·rcases List.mem_append.1 hy with hy | hy
  ·exact h.ok y hy
  ·simp at hy
   subst hy
   rcases List.mem_append.1 hxm with hxm | hxm
   ·exact ⟨x, hxm, .one hk⟩
   ·obtain ⟨a, ha, hr⟩ := h.ok x hxm
    exact ⟨a, ha, .more hr hk⟩
 ·rw [← List.append_assoc, List.take_append_of_le_length (by omega)] at hy
  exact List.mem_append_left _ (h.cl y hy z hz)
theorem Srch.next {R : Nat → Nat → Prop} {fr Q : List Nat} {i x : Nat} (h : Srch R fr Q i) (hx : (fr ++ Q)[i]? = some x) (hall : ∀ k, R x k → k ∈ Q) : Srch R fr Q (i + 1) := by
 refine ⟨h.nd, h.ok, fun y hy z hz => ?_⟩
 have hlt : i < (fr ++ Q).length := by
  rcases Nat.lt_or_ge i (fr ++ Q).length with h' | h'
  ·exact h'
  ·rw [List.getElem?_eq_none h'] at hx; cases hx
 rw [List.take_succ_eq_append_getElem hlt] at hy
 rcases List.mem_append.1 hy with hy | hy
 ·exact h.cl y hy z hz
 ·simp at hy
  rw [List.getElem?_eq_getElem hlt] at hx
  injection hx with hx
  rw [hx] at hy
  subst hy
  exact hall z hz
theorem xX {n : Nat} : ∀ {Q : List Nat}, Q.Nodup → (∀ k ∈ Q, k < n) → Q.length ≤ n := by
 induction n with
 | zero =>
  intro Q _ h
  cases Q with
  | nil => simp
  | cons k Q => exact absurd (h k (.head _)) (by omega)
 | succ n ih =>
  intro Q hn h
  have h1 : (Q.filter (· ≠ n)).length ≤ n := ih (hn.filter _) fun k hk => by
   simp at hk
   have := h k hk.1
   omega
  have h2 : Q.length ≤ (Q.filter (· ≠ n)).length + 1 := by
   clear h1 h ih
   induction Q with
   | nil => simp
   | cons k Q ih =>
    rw [List.nodup_cons] at hn
    by_cases hk : k = n
    ·subst hk
     have hf : Q.filter (· ≠ k) = Q := List.filter_eq_self.2 fun a ha => by simp; rintro rfl; exact hn.1 ha
     rw [List.filter_cons_of_neg (by simp), hf]
     simp
    ·rw [List.filter_cons_of_pos (by simpa using hk)]
     have := ih hn.2
     simp only [List.length_cons]
     omega
  omega
def qB (K gone : List Nat) (l : List Nat) : Nat := (l.filter fun k => decide (k ∈ K) && !decide (k ∈ gone)).length
theorem ZA {K gone l : List Nat} {y : Nat} (h1 : y ∈ l) (h2 : y ∈ K) (h3 : y ∉ gone) : 0 < qB K gone l := by
 unfold qB
 exact List.length_pos_of_mem (List.mem_filter.2 ⟨h1, by simp [h2, h3]⟩)
theorem kQ {K gone l : List Nat} {b : Nat} (hb : b ∈ K) (hg : b ∉ gone) : qB K gone l = qB K (gone ++ [b]) l + l.count b := by
 unfold qB
 induction l with
 | nil => rfl
 | cons x l ih =>
  by_cases hx : x = b
  ·subst hx
   rw [List.filter_cons_of_pos (by simp [hb, hg]), List.filter_cons_of_neg (by simp [hb]), List.count_cons_self, List.length_cons, ih]
   omega
  ·rw [List.count_cons_of_ne hx]
   by_cases hk : x ∈ K ∧ x ∉ gone
   ·rw [List.filter_cons_of_pos (by simp [hk.1, hk.2]), List.filter_cons_of_pos (by simp [hk.1, hk.2, hx]), List.length_cons, List.length_cons, ih]
    omega
   ·rw [List.filter_cons_of_neg (by simp only [Bool.and_eq_true, decide_eq_true_eq, Bool.not_eq_true', decide_eq_false_iff_not]; exact hk), List.filter_cons_of_neg (by simp only [Bool.and_eq_true, decide_eq_true_eq, Bool.not_eq_true', decide_eq_false_iff_not, List.mem_append, List.mem_singleton, hx, or_false]; exact hk), ih]
def Cyc (K : List Nat) (on : Nat → List Nat) (C : Nat → Prop) : Prop := ∀ x, C x → x ∈ K ∧ ∃ y ∈ on x, C y
structure Peel (K : List Nat) (on : Nat → List Nat) (bare : List Nat) (i : Nat) (cnt : Nat → Int) : Prop where
 nd : bare.Nodup
 sub : ∀ x ∈ bare, x ∈ K
 cn : ∀ x ∈ K, cnt x = qB K (bare.take i) (on x)
 zr : ∀ x ∈ K, x ∈ bare ↔ cnt x = 0
 cy : ∀ C, Cyc K on C → ∀ x, C x → x ∉ bare
structure PeelIn (K : List Nat) (on back : Nat → List Nat) (bare0 bare : List Nat) (i j b : Nat) (cnt : Nat → Int) : Prop where
 nd : bare.Nodup
 sub : ∀ x ∈ bare, x ∈ K
 pre : ∃ m, bare = bare0 ++ m
 at_ : bare0[i]? = some b
 nd0 : bare0.Nodup
 sub0 : ∀ x ∈ bare0, x ∈ K
 cn : ∀ x ∈ K, cnt x + ((back b).take j).count x = qB K (bare0.take i) (on x)
 z0 : ∀ x ∈ K, x ∈ bare0 ↔ qB K (bare0.take i) (on x) = 0
 zr : ∀ x ∈ K, x ∈ bare ↔ cnt x = 0
 cy : ∀ C, Cyc K on C → ∀ x, C x → x ∉ bare
section
variable {K : List Nat} {on back : Nat → List Nat} {bare bare0 : List Nat} {i j b : Nat} {cnt : Nat → Int}
theorem Peel.enter (h : Peel K on bare i cnt) (hb : bare[i]? = some b) : PeelIn K on back bare bare i 0 b cnt :=
 ⟨h.nd, h.sub, ⟨[], by simp⟩, hb, h.nd, h.sub, fun x hx => by rw [List.take_zero, List.count_nil, h.cn x hx]; simp, fun x hx => by rw [h.zr x hx, h.cn x hx]; omega, h.zr, h.cy⟩
theorem wq {l : List Nat} (h : l.Nodup) {i : Nat} {b : Nat} (hb : l[i]? = some b) : b ∉ l.take i := by
 have hlt : i < l.length := by
  rcases Nat.lt_or_ge i l.length with h' | h'
  ·exact h'
  ·rw [List.getElem?_eq_none h'] at hb; cases hb
 rw [List.getElem?_eq_getElem hlt] at hb
 injection hb with hb
 intro hm
 rw [← List.take_append_drop i l, List.nodup_append] at h
 exact h.2.2 b hm b (by rw [List.drop_eq_getElem_cons hlt, hb]; exact .head _) rfl
theorem PeelIn.b_in (h : PeelIn K on back bare0 bare i j b cnt) : b ∈ K := h.sub0 b (List.mem_of_getElem? h.at_)
theorem PeelIn.left (hc : ∀ x y, (on x).count y = (back y).count x) (h : PeelIn K on back bare0 bare i j b cnt) {x : Nat} (hx : (back b)[j]? = some x) (hK : x ∈ K) : x ∉ bare0.take (i + 1) := by
 intro hm
 have hx0 : x ∈ bare0 := List.mem_of_mem_take hm
 have h1 := (h.z0 x hK).1 hx0
 have h2 : 0 < (on x).count b := by rw [hc]; exact List.count_pos_iff.2 (List.mem_of_getElem? hx)
 have h3 := ZA (List.count_pos_iff.1 h2) h.b_in (wq h.nd0 h.at_)
 omega
theorem vq {l : List Nat} {j x : Nat} (hx : l[j]? = some x) (y : Nat) : (l.take (j + 1)).count y = (l.take j).count y + if x = y then 1 else 0 := by
 have hlt : j < l.length := by
  rcases Nat.lt_or_ge j l.length with h' | h'
  ·exact h'
  ·rw [List.getElem?_eq_none h'] at hx; cases hx
 rw [List.getElem?_eq_getElem hlt] at hx
 injection hx with hx
 rw [List.take_succ_eq_append_getElem hlt, List.count_append, hx, List.count_singleton]
 by_cases hxy : x = y <;> simp [hxy]
theorem PeelIn.skip (h : PeelIn K on back bare0 bare i j b cnt) {x : Nat} (hx : (back b)[j]? = some x) (hK : x ∉ K) : PeelIn K on back bare0 bare i (j + 1) b cnt :=
 ⟨h.nd, h.sub, h.pre, h.at_, h.nd0, h.sub0, fun y hy => by
  rw [vq hx, if_neg (by rintro rfl; exact hK hy), Nat.add_zero]; exact h.cn y hy, h.z0, h.zr, h.cy⟩
theorem PeelIn.step (hc : ∀ x y, (on x).count y = (back y).count x) (h : PeelIn K on back bare0 bare i j b cnt) {x : Nat} (hx : (back b)[j]? = some x) (hK : x ∈ K) {cnt' : Nat → Int} (h' : ∀ y, cnt' y = if y = x then cnt x - 1 else cnt y) :
  PeelIn K on back bare0 (if cnt x - 1 = 0 then bare ++ [x] else bare) i (j + 1) b cnt' := by
 have hcx := h.cn x hK
 have hct := vq hx
 have hle : ((back b).take (j + 1)).count x ≤ qB K (bare0.take i) (on x) := by
  have h1 : ((back b).take (j + 1)).count x ≤ (back b).count x := List.Sublist.count_le _ (List.take_sublist _ _)
  rw [← hc] at h1
  have h2 := kQ (l := on x) h.b_in (wq h.nd0 h.at_)
  omega
 rw [hct, if_pos rfl] at hle
 have hpos : 0 < cnt x := by omega
 have hnb : x ∉ bare := fun hm => by have := (h.zr x hK).1 hm; omega
 have hcn : ∀ y ∈ K, cnt' y + ((back b).take (j + 1)).count y = qB K (bare0.take i) (on y) := fun y hy => by
  have := h.cn y hy
  rw [hct, h']
  by_cases hyx : y = x
  ·subst hyx; rw [if_pos rfl, if_pos rfl]; omega
  ·rw [if_neg hyx, if_neg (Ne.symm hyx)]; omega
 have hcy : ∀ C, Cyc K on C → ∀ y, C y → 0 < cnt' y := fun C hC y hy => by
  obtain ⟨hyK, z, hz, hCz⟩ := hC y hy
  have h1 := hcn y hyK
  have hzb : z ∉ bare := h.cy C hC z hCz
  have hz0 : z ∉ bare0.take i ++ [b] := fun hm => hzb (by
   obtain ⟨m, hm'⟩ := h.pre
   rw [hm']
   refine List.mem_append_left _ ?_
   rcases List.mem_append.1 hm with hm | hm
   ·exact List.mem_of_mem_take hm
   ·simp at hm; subst hm; exact List.mem_of_getElem? h.at_)
  have h2 := kQ (l := on y) h.b_in (wq h.nd0 h.at_)
  have h3 := ZA hz (hC z hCz).1 hz0
  have h4 : ((back b).take (j + 1)).count y ≤ (back b).count y := List.Sublist.count_le _ (List.take_sublist _ _)
  rw [← hc] at h4
  omega
 by_cases hz : cnt x - 1 = 0
 ·rw [if_pos hz]
  refine ⟨?_, fun y hy => ?_, ?_, h.at_, h.nd0, h.sub0, hcn, h.z0, fun y hy => ?_, fun C hC y hy hm => ?_⟩
  ·rw [List.nodup_append]
   exact ⟨h.nd, by simp, fun a ha c hc' hac => by simp at hc'; subst hc'; subst hac; exact hnb ha⟩
  ·rcases List.mem_append.1 hy with hy | hy
   ·exact h.sub y hy
   ·simp at hy; subst hy; exact hK
  ·obtain ⟨m, hm⟩ := h.pre
   exact ⟨m ++ [x], by rw [hm, List.append_assoc]⟩
  ·rw [List.mem_append, List.mem_singleton, h']
   by_cases hyx : y = x
   ·subst hyx; rw [if_pos rfl]; simp [hz]
   ·rw [if_neg hyx]; simp only [hyx, or_false]; exact h.zr y hy
  ·rcases List.mem_append.1 hm with hm | hm
   ·exact h.cy C hC y hy hm
   ·simp at hm
    subst hm
    have := hcy C hC y hy
    rw [h', if_pos rfl] at this
    omega
 ·rw [if_neg hz]
  refine ⟨h.nd, h.sub, h.pre, h.at_, h.nd0, h.sub0, hcn, h.z0, fun y hy => ?_, h.cy⟩
  rw [h']
  by_cases hyx : y = x
  ·subst hyx; rw [if_pos rfl]; exact ⟨fun hm => absurd hm hnb, fun h0 => absurd h0 hz⟩
  ·rw [if_neg hyx]; exact h.zr y hy
theorem PeelIn.leave (hc : ∀ x y, (on x).count y = (back y).count x) (h : PeelIn K on back bare0 bare i j b cnt) (hj : (back b).length ≤ j) : Peel K on bare (i + 1) cnt := by
 obtain ⟨m, hm⟩ := h.pre
 have hlt : i < bare0.length := by
  have := h.at_
  rcases Nat.lt_or_ge i bare0.length with h' | h'
  ·exact h'
  ·rw [List.getElem?_eq_none h'] at this; cases this
 have ht : bare.take (i + 1) = bare0.take i ++ [b] := by
  rw [hm, List.take_append_of_le_length (by omega), List.take_succ_eq_append_getElem hlt]
  have := h.at_
  rw [List.getElem?_eq_getElem hlt] at this
  injection this with this
  rw [this]
 refine ⟨h.nd, h.sub, fun x hx => ?_, h.zr, h.cy⟩
 have h1 := h.cn x hx
 rw [List.take_of_length_le hj, ← hc] at h1
 have h2 := kQ (l := on x) h.b_in (wq h.nd0 h.at_)
 rw [ht]
 omega
theorem Peel.init (hnd : bare.Nodup) (hb : ∀ x, x ∈ bare ↔ x ∈ K ∧ qB K [] (on x) = 0) (hcn : ∀ x ∈ K, cnt x = qB K [] (on x)) : Peel K on bare 0 cnt :=
 ⟨hnd, fun x hx => ((hb x).1 hx).1, fun x hx => by rw [List.take_zero]; exact hcn x hx, fun x hx => by
  rw [hb, hcn x hx]
  exact ⟨fun h => by omega, fun h => ⟨hx, by omega⟩⟩, fun C hC x hx hm => by
  obtain ⟨_, y, hy, hCy⟩ := hC x hx
  have := ZA (gone := []) hy (hC y hCy).1 (by simp)
  have := ((hb x).1 hm).2
  omega⟩
end
section
variable {R : Nat → Nat → Prop} {K : List Nat} {on back : Nat → List Nat}
theorem zcI (hon : ∀ x ∈ K, ∀ y, y ∈ on x ↔ R x y) (hcl : ∀ x ∈ K, ∀ y, R x y → y ∈ K) {x : Nat} (hx : x ∈ K) : Cyc K on (fun y => Rch R x y ∧ Rch R y x) := fun y ⟨h1, h2⟩ => by
 have hK : ∀ z, Rch R x z → z ∈ K := fun z hz => by
  induction hz with
  | one h => exact hcl x hx _ h
  | more _ h ih => exact hcl _ ih _ h
 have hyK := hK y h1
 refine ⟨hyK, ?_⟩
 obtain ⟨z, hz, h3⟩ := h2.front
 refine ⟨z, (hon y hyK z).2 hz, h1.more hz, ?_⟩
 rcases h3 with rfl | h3
 ·exact h1.trans h2
 ·exact h3
theorem Jq {x : Nat} {K1 : List Nat} (hK1 : ∀ y, Rch R x y → Rch R y x → y ∈ K1) (hback : ∀ y ∈ K1, ∀ z, z ∈ K1 → (z ∈ back y ↔ R z y)) : Cyc K1 back (fun y => Rch R x y ∧ Rch R y x) := fun y ⟨h1, h2⟩ => by
 have hy := hK1 y h1 h2
 refine ⟨hy, ?_⟩
 cases h1 with
 | one h =>
  have hxx : Rch R x x := (Rch.one h).trans h2
  exact ⟨x, (hback y hy x (hK1 x hxx hxx)).2 h, hxx, hxx⟩
 | @more z _ h h' =>
  have hzx : Rch R z x := (Rch.one h').trans h2
  exact ⟨z, (hback y hy z (hK1 z h hzx)).2 h', h, hzx⟩
end
end
section
open Go.RowKit
structure StM where
 place : Int
 kids : Int
 table : Int
 parts : Int
 free : Int
 left : Int
deriving DecidableEq
def StM.zero : StM := ⟨0, 0, 0, 0, 0, 0⟩
def StM.still (s : StM) : StM := { s with free := 0 }
def StM.at_ (s : StM) (p : Int) : StM := { s with place := p, free := 0 }
def StM.wth (s : StM) (f : Int) : StM := { s with free := f }
def zb3 (kids k : Int) : Bool := decide (bits .and .u64 (kids.fdiv (2 ^ min k.toNat 64)) 1 = 1)
def zay (kids k : Int) : Int := bits .or .u64 kids (IntKind.u64.wrap (1 * 2 ^ min k.toNat 64))
def StM.fill (s : StM) (k : Int) : StM × Bool :=
 if s.place = 0 then (s.at_ 4, decide (k = -1)) else if s.place = 3 then (s.at_ 4, decide (k ≤ 0))
 else if s.place = 1 then (s.still, decide (k = -1) && (decide (s.free = 1) || decide (s.free = 2)))
 else if s.place = 2 then (if k < 0 ∨ zb3 s.kids k = true then (s, false) else (({ s with kids := zay s.kids k } : StM).still, true))
 else (s, false)
def StM.take (s : StM) (n : Int) : StM × Bool :=
 if s.place = 5 ∧ n = 1 then (⟨6, 0, 0, 0, 0, 0⟩, true)
 else if s.place = 6 then ({ s with left := IntKind.i64.wrap (s.left - n) }, decide (0 ≤ IntKind.i64.wrap (s.left - n)))
 else (s, false)
def StM.turn (s : StM) : StM × Bool := (s.still, decide (s.place = 7) && decide (s.free = 2))
def StM.over (s : StM) : Bool :=
 if s.place = 1 ∨ s.place = 4 then true
 else if s.place = 2 then decide (s.kids ≠ 0) && decide (bits .and .u64 s.kids (IntKind.u64.wrap (s.kids + 1)) = 0)
 else if s.place = 6 then decide (s.left = 0)
 else false
structure EfM where
 next : StM
 target : StM
deriving DecidableEq
def both (s : StM) : EfM := ⟨s, s⟩
def EfM.zero : EfM := ⟨.zero, .zero⟩
def StM.offset (s : StM) (f : Int) : EfM × Bool :=
 if s.place = 2 then (both ({ s with table := IntKind.i64.wrap (s.table + 1) } : StM).still, decide (s.parts = 0) && decide (s.table < 64))
 else (both ({ s with table := -1 } : StM).still, decide (s.place = 1) && (decide (s.free = 1) && decide (f ≤ 4194304) || decide (s.free = 3)))
def StM.part (s : StM) (x : InsM) : EfM × Bool :=
 if x.a = -1 then (both s.still, decide (s.place = 1) && decide (s.free = 4))
 else (both { (s.fill x.a).1 with parts := IntKind.i64.wrap ((s.fill x.a).1.parts + 1) }, (s.fill x.a).2 && decide (s.place = 2) && decide (x.b = s.parts) && decide (x.b < s.table))
def runN : Nat → Int → StM → Bool → StM × Bool
 | 0, _, s, ok => (s, ok)
 | n + 1, k, s, ok => if ok = true then runN n (k + 1) (s.fill k).1 (s.fill k).2 else (s, ok)
def StM.run (s : StM) (x : InsM) : EfM × Bool :=
 let r := runN x.b.toNat x.a s (decide (s.place = 2))
 (both r.1, r.2)
def StM.rounds (s : StM) (x : InsM) : EfM × Bool :=
 let q := decide (s.place = 1)
 let t := decide (s.table = -1)
 if x.op = 11 then (⟨{ s.still with table := -1 }, s.still⟩, q && decide (s.table = 0))
 else if x.op = 12 then (⟨s.still, s.still.wth 3⟩, q && t)
 else if x.op = 13 then (⟨s.still.wth 2, s.still⟩, q)
 else if x.op = 14 then (⟨s.still, s.still.wth 2⟩, q)
 else if x.op = 15 then (⟨s.still, s.still.wth 4⟩, q && t)
 else (both s.still, decide (x.a = -1) && q && t || decide (x.a ≠ -1) && decide (s.place = 2) && decide (x.a < s.parts))
def Kv (s : StM) (x : InsM) (t : Int) : EfM × Bool :=
 let nobody := decide (s.place = 0)
 if x.op = 16 then (if t ≤ x.c then (.zero, false) else (both (s.fill x.a).1, (s.fill x.a).2))
 else if x.op = 1 ∨ x.op = 3 ∨ x.op = 4 then (both (s.fill x.a).1, (s.fill x.a).2)
 else if x.op = 2 then s.run x
 else if x.op = 5 then (both ((s.at_ 1).wth 1), nobody)
 else if x.op = 6 then (both (s.at_ 2), nobody)
 else if x.op = 7 then (⟨s.at_ 3, s.at_ 4⟩, nobody)
 else if x.op = 8 then (both (s.at_ 3), nobody)
 else if x.op = 10 then s.offset x.a
 else if x.op = 17 then (if t ≤ x.c then (.zero, false) else s.part x)
 else if x.op = 11 ∨ x.op = 12 ∨ x.op = 13 ∨ x.op = 14 ∨ x.op = 15 ∨ x.op = 18 then s.rounds x
 else if x.op = 19 then (both s, true)
 else if x.op = 20 then (.zero, s.over)
 else (.zero, false)
def Q6 (s : StM) (x : InsM) (t : Int) : EfM × Bool :=
  let anew := decide (s.place = 5)
  if x.op = 44 ∨ x.op = 45 ∨ x.op = 46 then
    (if t ≤ x.c then (.zero, false)
     else if x.op = 45 ∨ x.op = 46 ∧ s.place = 7 then (both s.turn.1, s.turn.2) else (both (s.take 1).1, (s.take 1).2))
  else if x.op = 33 ∨ x.op = 35 ∨ x.op = 36 then (if x.a = -1 then (both s.turn.1, s.turn.2) else (both (s.take 1).1, (s.take 1).2))
  else if x.op = 34 then (both (s.take x.b).1, (s.take x.b).2 && decide (s.place = 6))
  else if x.op = 37 then (both ⟨7, 0, 0, 0, 2, 0⟩, anew)
  else if x.op = 38 then (both ⟨7, 0, 0, 0, 0, 0⟩, anew)
  else if x.op = 39 then (both ⟨6, 0, 0, 0, 0, x.a⟩, anew)
  else if x.op = 40 then (⟨⟨6, 0, 0, 0, 0, 1⟩, ⟨6, 0, 0, 0, 0, 0⟩⟩, anew)
  else if x.op = 41 then (both ⟨6, 0, 0, 0, 0, 1⟩, anew)
  else if x.op = 42 then (both s, decide (s.place = 7) || decide (s.place = 6) && !decide (x.a = -1))
  else if x.op = 43 then (both s, decide (s.place = 6) && !decide (x.a = -1) || decide (s.place = 7) && decide (x.a = -1) && decide (s.free = 2))
  else if x.op = 47 then (⟨⟨6, 0, 0, 0, 0, 0⟩, ⟨7, 0, 0, 0, 2, 0⟩⟩, decide (s.place = 7))
  else if x.op = 19 then (both s, true)
  else if x.op = 20 then (.zero, decide (s.place = 6) && s.over)
  else (.zero, false)
def z5 (e : Bool) (x : InsM) (s : StM) (t : Int) : EfM × Bool := if e = true then Q6 s x t else Kv s x t
def yz (C : List InsM) (at_ : Nat) (x : InsM) : List Int :=
 if x.op = 19 then [x.b]
 else if x.op = 20 ∨ x.op = 9 then []
 else if x.op = 8 ∨ x.op = 41 then (List.range x.a.toNat).map fun k => ((C[at_ + 1 + k]?).map (·.b)).getD 0
 else if x.op = 7 ∨ x.op = 11 ∨ x.op = 12 ∨ x.op = 13 ∨ x.op = 14 ∨ x.op = 15 ∨ x.op = 40 ∨ x.op = 47 then [(at_ : Int) + 1, x.b]
 else [(at_ : Int) + 1]
end
section
open Go.RowKit
instance : Inhabited InsM := ⟨⟨0, 0, 0, 0⟩⟩
abbrev LkM := List (Option StM)
def zb (C : List InsM) (k : Nat) : InsM := C.getD k ⟨0, 0, 0, 0⟩
def jb (L : LkM) (k : Nat) : StM := (L.getD k none).getD .zero
def w7 (e : Bool) (C : List InsM) (L : LkM) (k : Nat) (s : StM) (t : Int) : Option LkM :=
 match L.getD k none with
 | none => some (L.set k (some s))
 | some s0 => if s0 = s then some L else if (z5 e (zb C k) s t).2 = true ∧ (z5 e (zb C k) s0 t).1 = (z5 e (zb C k) s t).1 then some L else none
def uW (e : Bool) (C : List InsM) (t : Int) (E : EfM) (arms : Bool) : List Int → Nat → LkM → Except Int LkM
 | [], _, L => .ok L
 | k :: ks, w, L =>
  match w7 e C L k.toNat (if w = 1 ∧ arms = false then E.target else E.next) t with
  | none => .error k
  | some L' => uW e C t E arms ks (w + 1) L'
def YR (x : InsM) : Bool := decide (x.op = 8) || decide (x.op = 41)
def jt (e : Bool) (C : List InsM) (k : Nat) (L : LkM) (t : Int) : Except Int LkM :=
 let x := zb C k
 let r := z5 e x (jb L k) t
 if r.2 = false ∨ (yz C k x).any (fun j => decide ((C.length : Int) ≤ j)) = true then .error k
 else uW e C t r.1 (YR x) (yz C k x) 0 L
def xL (L : LkM) (D : List Nat) (k : Nat) : Bool := (L.getD k none).isSome && !decide (k ∈ D)
def ju (L : LkM) (D : List Nat) : Option Nat := (List.range L.length).find? (xL L D)
def qO (e : Bool) (C : List InsM) (t : Int) : Nat → LkM → List Nat → Except Int (LkM × List Nat)
 | 0, L, D => .ok (L, D)
 | f + 1, L, D =>
  match ju L D with
  | none => .ok (L, D)
  | some k =>
   match jt e C k L t with
   | .error j => .error j
   | .ok L' => qO e C t f L' (k :: D)
def xh (e : Bool) : StM := if e = true then ⟨5, 0, 0, 0, 0, 0⟩ else .zero
def xU (e : Bool) (C : List InsM) : List Int → Int → LkM → List Nat → Except Int (LkM × List Nat)
 | [], _, L, D => .ok (L, D)
 | n :: ns, t, L, D =>
  match w7 e C L n.toNat (xh e) t with
  | none => .error n
  | some L' =>
   match qO e C t (C.length + 1 - D.length) L' D with
   | .error j => .error j
   | .ok (L2, D2) => xU e C ns (t + 1) L2 D2
def xV (e : Bool) (C : List InsM) (N : List Int) : Except Int (LkM × List Nat) := xU e C N 0 (List.replicate C.length none) []
structure WtH (L : LkM) (D : List Nat) (W : List Int) : Prop where
 heap : qD W
 nd : W.Nodup
 mem : ∀ k : Int, k ∈ W ↔ 0 ≤ k ∧ xL L D k.toNat = true
theorem kc {L : LkM} {D : List Nat} {k : Nat} (h : xL L D k = true) : k < L.length := by
 unfold xL at h
 rcases Nat.lt_or_ge k L.length with h' | h'
 ·exact h'
 ·simp [List.getD, List.getElem?_eq_none h'] at h
theorem jc {W : List Int} (h : W ≠ []) : W.getD 0 0 ∈ W := by
 cases W with
 | nil => exact absurd rfl h
 | cons a W => simp [List.getD]
theorem zbK {W : List Int} (h : qD W) {k : Int} (hk : k ∈ W) : W.getD 0 0 ≤ k := by
 obtain ⟨i, hi, rfl⟩ := List.mem_iff_getElem.1 hk
 have := Js h i hi
 rw [show W.getD i 0 = W[i] by simp [List.getD, hi]] at this
 exact this
theorem WtH.empty {L : LkM} {D : List Nat} {W : List Int} (h : WtH L D W) : W = [] ↔ ju L D = none := by
 constructor
 ·rintro rfl
  rw [ju, List.find?_eq_none]
  intro k _ hk
  have := (h.mem k).2 ⟨by omega, by simpa using hk⟩
  cases this
 ·intro hn
  rw [ju, List.find?_eq_none] at hn
  cases W with
  | nil => rfl
  | cons a W =>
   have := (h.mem a).1 (.head _)
   exact absurd this.2 (hn _ (by rw [List.mem_range]; exact kc this.2))
theorem VV {n : Nat} {p : Nat → Bool} {k : Nat} (hk : k < n) (hp : p k = true) (hm : ∀ j, j < k → p j = false) : (List.range n).find? p = some k := by
 rw [List.find?_eq_some_iff_append]
 refine ⟨hp, List.range k, (List.range' (k + 1) (n - k - 1)), ?_, fun j hj => by rw [List.mem_range] at hj; simp [hm j hj]⟩
 rw [List.range_eq_range', List.range_eq_range']
 have h1 : List.range' 0 n = List.range' 0 k ++ List.range' (0 + 1 * k) (n - k) := by rw [List.range'_append]; congr 1; omega
 rw [h1]
 congr 1
 obtain ⟨m, hm⟩ : ∃ m, n - k = m + 1 := ⟨n - k - 1, by omega⟩
 rw [hm, List.range'_succ]
 simp
theorem WtH.next {L : LkM} {D : List Nat} {W : List Int} (h : WtH L D W) (hne : W ≠ []) : 0 ≤ W.getD 0 0 ∧ ju L D = some (W.getD 0 0).toNat := by
 have h1 := (h.mem _).1 (jc hne)
 refine ⟨h1.1, VV (kc h1.2) h1.2 fun j hj => ?_⟩
 cases hw : xL L D j with
 | false => rfl
 | true =>
  have := zbK h.heap ((h.mem j).2 ⟨by omega, by simpa using hw⟩)
  omega
theorem WtH.pop {L : LkM} {D : List Nat} {W : List Int} (h : WtH L D W) (hne : W ≠ []) : WtH L ((W.getD 0 0).toNat :: D) (XB W) := by
 have hp := Ju hne
 have h1 := (h.mem _).1 (jc hne)
 have hnd := hp.nodup_iff.2 h.nd
 rw [List.nodup_cons] at hnd
 refine ⟨Jv h.heap, hnd.2, fun k => ?_⟩
 have h2 : k ∈ W ↔ k = W.getD 0 0 ∨ k ∈ XB W := by rw [← hp.mem_iff, List.mem_cons]
 have hw : xL L ((W.getD 0 0).toNat :: D) k.toNat = (xL L D k.toNat && !decide (k.toNat = (W.getD 0 0).toNat)) := by
  unfold xL
  by_cases e1 : k.toNat = (W.getD 0 0).toNat <;> by_cases e2 : k.toNat ∈ D <;> simp [e1, e2]
 rw [hw]
 constructor
 ·intro hk
  have h3 := (h.mem k).1 (h2.2 (.inr hk))
  refine ⟨h3.1, ?_⟩
  have : k ≠ W.getD 0 0 := by rintro rfl; exact hnd.1 hk
  simp only [h3.2, Bool.true_and, Bool.not_eq_true', decide_eq_false_iff_not]
  omega
 ·intro ⟨h3, h4⟩
  simp only [Bool.and_eq_true, Bool.not_eq_true', decide_eq_false_iff_not] at h4
  rcases h2.1 ((h.mem k).2 ⟨h3, h4.1⟩) with h5 | h5
  ·rw [h5] at h4; exact absurd rfl h4.2
  ·exact h5
theorem WtH.push {L : LkM} {D : List Nat} {W : List Int} (h : WtH L D W) {k : Nat} (hk : k < L.length) (hn : L.getD k none = none) (hD : k ∉ D) (s : StM) : WtH (L.set k (some s)) D (upF (W.length + 1) (W ++ [(k : Int)]) W.length) := by
 have hp := qX (W.length + 1) (W ++ [(k : Int)]) W.length (by simp)
 have hnk : (k : Int) ∉ W := fun hm => by
  have := ((h.mem k).1 hm).2
  unfold xL at this
  simp only [Int.toNat_natCast, hn] at this
  simp at this
 refine ⟨QE h.heap _, hp.nodup_iff.2 ?_, fun j => ?_⟩
 ·rw [List.nodup_append]
  exact ⟨h.nd, by simp, fun a ha b hb hab => by simp at hb; subst hb; subst hab; exact hnk ha⟩
 ·rw [hp.mem_iff, List.mem_append, List.mem_singleton, h.mem]
  have hw : xL (L.set k (some s)) D j.toNat = (xL L D j.toNat || decide (j.toNat = k)) := by
   unfold xL
   by_cases e : j.toNat = k
   ·rw [e]
    simp [List.getD, hk, hD]
   ·simp [List.getD, List.getElem?_set_ne (Ne.symm e), e]
  rw [hw, Bool.or_eq_true, decide_eq_true_eq]
  constructor
  ·rintro (⟨h1, h2⟩ | h1)
   ·exact ⟨h1, .inl h2⟩
   ·exact ⟨by omega, .inr (by omega)⟩
  ·rintro ⟨h1, h2 | h2⟩
   ·exact .inl ⟨h1, h2⟩
   ·exact .inr (by omega)
end
section
open Go.RowKit
theorem zcK : vX Try.prog 81 "Len" = some (106, false, 66) := by kernel_rfl
theorem zbp : vX Try.prog 81 "Less" = some (107, false, 66) := by kernel_rfl
theorem zbq : vX Try.prog 81 "Swap" = some (108, false, 66) := by kernel_rfl
theorem zbr : vX Try.prog 81 "Push" = some (110, true, 66) := by kernel_rfl
theorem zcL : vX Try.prog 81 "Pop" = some (109, true, 66) := by kernel_rfl
attribute [go_sem] zcK zbp zbq zbr zcL
section
variable {P : Program} {T : Nat → Option TyD} {E : Env} {s : AState} {n : Nat} {ops : Array Oper} {Q : Exit → AState → Prop} {rest : List Oper} {o : Oper} {D : Dr}
theorem yW (ra : AV) (hg : z6 ops s o.guard = some false) (hkd : wY o.op = false) (hdst : yQ n o.dst) (hr : zL P E n ops D rest Q (s.put o.dst false ra)) : yp P E n ops D (o :: rest) Q s := by
 intro a w β hn hd hs
 have hw := yn (ops := ops) hs hg
 obtain ⟨g1, g2, g3⟩ := yN hn hd hs hdst false ra (v := undef) (fun h => by cases h) (fun _ => rfl)
 exact yi hkd hw (fun h => by cases h) fun _ => hr _ _ _ g1 g2 g3
end
theorem vu {W : List Int} {i : Nat} (h : i < W.length) : (v8 W)[i]? = some [.v (.int .i64 (W.getD i 0))] := by
 rw [xm h]; simp [List.getD, h]
theorem zal (W : List Int) : yq Try.prog 106 [.lst 1 (v8 W)] [] (vI W.length) [] := by
 refine zW (za _) Try.func106 rfl rfl (by rw [Try.results106]) Try.ntmps106 rfl fun E => ?_
 (repeat' (first | exact trivial | (with_reducible first | apply awA | apply awD | apply awF) | ((with_reducible first | apply awn | refine awT ?_); intro r hr; simp only [go_sem, Nat.reduceBEq, Nat.reduceLT, zq] at hr; subst hr; (first | refine awV ?_ ?_ | refine yl ?_ ?_ ?_)))) <;> (try omega)
 all_goals first | exact AV.up_rfl _ | exact zo
theorem kT (W : List Int) (hW : W.length ≤ 1000000000) (i j : Nat) (hi : i < W.length) (hj : j < W.length) : yq Try.prog 107 [.lst 1 (v8 W), vI i, vI j] [] (vB (decide (W.getD i 0 < W.getD j 0))) [] := by
 have zi : ((i : Int)).toNat = i := by omega
 have zj : ((j : Int)).toNat = j := by omega
 have gi := vu hi
 have gj := vu hj
 refine zW (za _) Try.func107 rfl rfl (by rw [Try.results107]) Try.ntmps107 rfl fun E => ?_
 (repeat' (first | exact trivial | (with_reducible first | apply awA | apply awD | apply awF) | (refine zn (id := 1) (t := (.node [0, 1, 2, 3, 4, 5, 6, 7, 8, 9] [])) (drR [] [10, 14] []) zD (by kernel_rfl) (by kernel_rfl) (fun _ _ h => h) ?_) | (refine zx (by simp only [go_sem]; exact rfl) ?_) | (refine zA (by simp only [go_sem]; exact rfl) ?_) | refine ze ?_ | refine zl ?_ ?_ | exact zy | ((with_reducible first | apply awn | apply awp | refine awT ?_); intro r hr; simp only [go_sem, Nat.reduceBEq, Nat.reduceLT, Nat.reduceLeDiff, Nat.reduceAdd, reduceCtorEq, zq, zi, zj, gi, gj] at hr; subst hr; (first | refine awV ?_ ?_ | refine yl ?_ ?_ ?_)))) <;> (try omega)
 all_goals first | exact AV.up_rfl _ | exact zo
theorem ZD (l : List Int) (k : Nat) (z : Int) : (v8 l).set k [vI z] = v8 (l.set k z) := by simp [v8, List.map_set]
theorem kU (W : List Int) (hW : W.length ≤ 1000000000) (m : Nat) (hm : m ≤ W.length) (i j : Nat) (hi : i < m) (hj : j < m) : yq Try.prog 108 [.ref 3 1 10001 0 m, vI i, vI j] [(10001, .row 3 1 (v8 W))] (.tup []) [(10001, .row 3 1 (v8 (yJ W i j)))] := by
 have zi : ((i : Int)).toNat = i := by omega
 have zj : ((j : Int)).toNat = j := by omega
 have gi := vu (show i < W.length by omega)
 have gj := vu (show j < W.length by omega)
 have s1 := ZD W i (W.getD j 0)
 have s2 := ZD (W.set i (W.getD j 0)) j (W.getD i 0)
 have g2 := vu (W := W.set i (W.getD j 0)) (show j < (W.set i (W.getD j 0)).length by simp; omega)
 unfold yJ
 refine zW (za _) Try.func108 rfl rfl (by rw [Try.results108]) Try.ntmps108 rfl fun E => ?_
 (repeat' (first | exact trivial | (refine zn (id := 0) (t := (.node [0, 1, 2, 3, 4, 5, 6, 7, 8, 9, 10, 11, 12, 13, 14, 15] [])) (drR [] [13, 17] []) zD (by kernel_rfl) (by kernel_rfl) (fun _ _ h => h) ?_) | (refine zx (by simp only [go_sem]; exact rfl) ?_) | (refine zA (by simp only [go_sem]; exact rfl) ?_) | refine ze ?_ | refine zl ?_ ?_ | exact zy | ((with_reducible first | apply awp | refine awU ?_); intro r hr; simp only [go_sem, Nat.reduceBEq, Nat.reduceLT, Nat.reduceLeDiff, Nat.reduceAdd, reduceCtorEq, zq, Z9, zi, zj, gi, gj, g2, s1, s2, List.length_set, Nat.zero_add] at hr; subst hr; (first | refine awV ?_ ?_ | refine yl ?_ ?_ ?_)))) <;> (try omega)
 all_goals first | exact AV.up_rfl _ | exact zh rfl zo
def Jw (s : StM) : List AV := [vI s.place, .v (.int .u64 s.kids), vI s.table, vI s.parts, vI s.free, vI s.left]
def xf (L : LkM) : List (List AV) := L.map fun s => Jw (s.getD .zero)
def xg (L : LkM) : List (List AV) := L.map fun s => [vB s.isSome]
def lkV (e : Bool) (C : List InsM) (N : List Int) (n w : Nat) : AObj := .var [vB e, .lst 4 (zz C), .lst 1 (v8 N), .ref 77 6 15000 0 n, .ref 4 1 15001 0 n, .ref 3 1 15002 0 w]
def lkO (e : Bool) (C : List InsM) (N : List Int) (L : LkM) (W : List Int) : List (Nat × AObj) :=
 [(10000, lkV e C N L.length W.length), (15000, .row 77 6 (xf L)), (15001, .row 4 1 (xg L)), (15002, .row 3 1 (v8 W))]
theorem zbs (e : Bool) (C : List InsM) (N : List Int) (L : LkM) (W : List Int) (hW : W.length ≤ 1000000000) (x : Int) :
  yq Try.prog 110 [.ptr 1 10000 0 5, .ifc 3 (vI x)] (lkO e C N L W) (.tup []) (lkO e C N L (W ++ [x])) := by
 have ht : (v8 W).take W.length = v8 W := by rw [yT, List.take_length]
 have ha := zap W x
 have hl : (W ++ [x]).length = W.length + 1 := by simp
 unfold lkO lkV
 rw [hl]
 refine zW (za _) Try.func110 rfl rfl (by rw [Try.results110]) Try.ntmps110 rfl fun E => ?_
 (repeat' (first | exact trivial | (refine zn (id := 0) (t := (.node [0, 1, 2, 3, 4, 5, 6, 7, 8, 9] [])) (drR [] [7] []) zD (by kernel_rfl) (by kernel_rfl) (fun _ _ h => h) ?_) | (refine zx (by simp only [go_sem]; exact rfl) ?_) | (refine zA (by simp only [go_sem]; exact rfl) ?_) | refine ze ?_ | refine zl ?_ ?_ | exact zy | ((with_reducible first | apply awp | refine awU ?_); intro r hr; simp only [go_sem, Nat.reduceBEq, Nat.reduceLT, Nat.reduceLeDiff, Nat.reduceAdd, Nat.reduceMul, Nat.reduceEqDiff, reduceCtorEq, zq, ht, ha, hl] at hr; subst hr; (first | refine awV ?_ ?_ | refine yl ?_ ?_ ?_)))) <;> (try omega)
 all_goals first | exact AV.up_rfl _ | (repeat first | exact zo | refine zh rfl ?_)
theorem zcM (e : Bool) (C : List InsM) (N : List Int) (L : LkM) (W : List Int) (hW : W.length ≤ 1000000000) (hne : 0 < W.length) :
  yq Try.prog 109 [.ptr 1 10000 0 5] (lkO e C N L W) (.ifc 3 (vI (W.getD (W.length - 1) 0))) (lkO e C N L (W.take (W.length - 1))) := by
 have hw := zg (n := (W.length : Int) - 1) (by omega)
 have zw : ((W.length : Int) - 1).toNat = W.length - 1 := by omega
 have gw := vu (W := W) (i := W.length - 1) (by omega)
 have hl : (W.take (W.length - 1)).length = W.length - 1 := by rw [List.length_take]; omega
 unfold lkO lkV
 rw [hl, ← yT]
 refine zW (za _) Try.func109 rfl rfl (by rw [Try.results109]) Try.ntmps109 rfl fun E => ?_
 (repeat' (first | exact trivial | (with_reducible first | apply awA | apply awD | apply awF) | ((with_reducible first | apply awn | refine awT ?_); intro r hr; simp only [go_sem, Nat.reduceBEq, Nat.reduceLT, Nat.reduceLeDiff, Nat.reduceAdd, Nat.reduceMul, hw, zw, gw, Int.toNat_zero, Nat.sub_zero, Nat.zero_add] at hr; subst hr; (first | refine awV ?_ ?_ | refine yl ?_ ?_ ?_)))) <;> (try omega)
 all_goals first | exact AV.up_rfl _ | exact zh rfl (zh rfl (zh rfl (QC rfl zo)))
theorem zdn (e : Bool) (C : List InsM) (N : List Int) (L : LkM) (W : List Int) (hW : W.length ≤ 1000000000) (j0 : Nat) (hj0 : j0 < W.length) :
  yq Try.prog 70 [.ifc 81 (.ptr 1 10000 0 5), vI j0] (lkO e C N L W) (.tup []) (lkO e C N L (upF (j0 + 1) W j0)) := by
 have hlen : (upF (j0 + 1) W j0).length = W.length := (qX _ _ _ hj0).length_eq
 generalize hR : upF (j0 + 1) W j0 = R at hlen
 unfold lkO lkV
 rw [hlen]
 refine zW (za _) Try.func70 rfl rfl (by rw [Try.results70]) Try.ntmps70 rfl fun E => ?_
 (repeat' (first | exact trivial | (with_reducible apply awB) | ((with_reducible first | apply awn | apply awo | apply awp | refine awQ ?_ | refine awR ?_ | refine awS ?_ | refine awT ?_ | refine awU ?_); intro r hr; simp only [go_sem, Nat.reduceBEq, Nat.reduceBneDiff, Nat.reduceLT, Nat.reduceLeDiff, Nat.reduceAdd, Nat.reduceMul, Nat.reduceSub, Nat.reduceEqDiff, reduceCtorEq] at hr; subst hr))) <;> (try omega)
 refine zC [0, 1] [10000, 15000, 15001, 15002] (fun x : Nat × Nat × List Int => ⟨[(0, true, .ifc 81 (.ptr 1 10000 0 5)), (1, true, vI x.2.1)],
  [(10000, .var [vB e, .lst 4 (zz C), .lst 1 (v8 N), .ref 77 6 15000 0 L.length, .ref 4 1 15001 0 L.length, .ref 3 1 15002 0 W.length]), (15000, .row 77 6 (xf L)), (15001, .row 4 1 (xg L)), (15002, .row 3 1 (v8 x.2.2))]⟩)
  (fun x => x.2.1 < x.1 ∧ x.2.1 < W.length ∧ x.2.2.length = W.length ∧ upF x.1 x.2.2 x.2.1 = R) (fun x => x.1) (j0 + 1, j0, W) (by simp only [go_sem, Nat.reduceBEq] <;> exact rfl) ⟨Nat.lt_succ_self _, hj0, rfl, hR⟩ ?_
 clear hR hj0 j0
 intro ⟨f, j, W'⟩ ⟨h1, h2, h3, h4⟩
 simp only at h1 h2 h3 h4 ⊢
 obtain ⟨f, rfl⟩ : ∃ f', f = f' + 1 := ⟨f - 1, by omega⟩
 have hw1 := zg (n := (j : Int) - 1) (by omega)
 have hw2 : IntKind.i64.wrap (((j : Int) - 1).tdiv 2) = (((j - 1) / 2 : Nat) : Int) := by
  rcases Nat.eq_zero_or_pos j with h0 | h0
  ·subst h0; rfl
  ·rw [show ((j : Int) - 1) = ((j - 1 : Nat) : Int) by omega, Int.tdiv_eq_ediv_of_nonneg (by omega), show ((j - 1 : Nat) : Int) / 2 = (((j - 1) / 2 : Nat) : Int) by omega, zg (by omega)]
 generalize hi : (j - 1) / 2 = i at hw2
 have hil : i < W'.length := by omega
 have hjl : j < W'.length := by omega
 unfold upF at h4
 rw [hi] at h4
 by_cases h0 : i = j
 ·rw [if_pos (.inl h0)] at h4
  subst h4
  have e0 : ((i : Int) = (j : Int)) = True := eq_true (by omega)
  (repeat' (first | exact trivial | (with_reducible first | apply awA | apply awB | apply awE | apply awF | apply awH | apply awK | refine awM (by decide) ?_) | ((with_reducible first | apply awn | apply awo | refine awQ ?_ | refine awU ?_); intro r hr; simp only [go_sem, Nat.reduceBEq, Nat.reduceLT, reduceCtorEq, hw1, hw2, e0, Int.reduceEq] at hr; subst hr; (first | refine awV ?_ ?_ | refine awW ?_ ?_ | refine yl ?_ ?_ ?_ | (refine zf (fun h => ?_) (fun h => ?_) <;> (try simp only [go_sem, reduceCtorEq] at h) <;> (try (exfalso; omega))))) | (refine yW (vB true) rfl rfl ⟨by decide, by decide⟩ ?_))) <;> (try omega)
  all_goals first | exact AV.up_rfl _ | (repeat first | exact zo | refine zh rfl ?_)
 ·have e0 : ((i : Int) = (j : Int)) = False := eq_false (by omega)
  have hls := kT W' (by omega) j i hjl hil
  have ht : (v8 W').take W.length = v8 W' := by rw [yT, List.take_of_length_le (by omega)]
  by_cases hlt : W'.getD j 0 < W'.getD i 0
  ·rw [if_neg (by rintro (h | h) <;> omega)] at h4
   have hsw := kU W' (by omega) W.length (by omega) i j (by omega) (by omega)
   rw [decide_eq_true hlt] at hls
   (repeat' (first | exact trivial | (with_reducible first | apply awA | apply awB | apply awC | apply awF | apply awI) | ((with_reducible first | apply awn | apply awo | refine awQ ?_); intro r hr; simp only [go_sem, Nat.reduceBEq, Nat.reduceLT, reduceCtorEq, hw1, hw2, e0, Int.reduceEq] at hr; subst hr; (first | refine awV ?_ ?_ | refine awW ?_ ?_ | (refine zf (fun h => ?_) (fun h => ?_) <;> (try simp only [go_sem, reduceCtorEq] at h) <;> (try (exfalso; omega))))) | (refine yf (za _) [] [] [] [] (by simp only [go_sem, Nat.reduceBEq, Nat.reduceLT, Nat.reduceLeDiff, Nat.reduceAdd, Nat.reduceMul, h3, ht, zq] <;> exact rfl) ?_ rfl rfl (by first | exact .inl rfl | exact .inr rfl) (by simp only [go_sem] <;> exact rfl) (hls) (.inr ⟨rfl, ?_⟩) ?_) | (refine yf (za _) [(15002, 10001)] [(10001, 15002)] [] [15002] (by simp only [go_sem, Nat.reduceBEq, Nat.reduceLT, Nat.reduceLeDiff, Nat.reduceAdd, Nat.reduceMul] <;> exact rfl) ?_ rfl rfl (by first | exact .inl rfl | exact .inr rfl) (by simp only [go_sem, Nat.reduceBEq] <;> exact rfl) (hsw) (.inl rfl) ?_))) <;> (try omega)
   refine ⟨(f, i, yJ W' i j), ?_, ⟨by show i < f; omega, by show i < W.length; omega, by show (yJ W' i j).length = _; rw [yx]; exact h3, h4⟩, by show f < f + 1; omega⟩
   simp only [go_sem, Nat.reduceBEq]
  ·rw [if_pos (.inr hlt)] at h4
   subst h4
   rw [decide_eq_false hlt] at hls
   (repeat' (first | exact trivial | (with_reducible first | apply awA | apply awB | apply awE | apply awF | apply awH | apply awK | refine awM (by decide) ?_) | ((with_reducible first | apply awn | apply awo | refine awQ ?_ | refine awU ?_); intro r hr; simp only [go_sem, Nat.reduceBEq, Nat.reduceLT, reduceCtorEq, hw1, hw2, e0, Int.reduceEq] at hr; subst hr; (first | refine awV ?_ ?_ | refine awW ?_ ?_ | refine yl ?_ ?_ ?_ | (refine zf (fun h => ?_) (fun h => ?_) <;> (try simp only [go_sem, reduceCtorEq] at h) <;> (try (exfalso; omega))))) | (refine yf (za _) [] [] [] [] (by simp only [go_sem, Nat.reduceBEq, Nat.reduceLT, Nat.reduceLeDiff, Nat.reduceAdd, Nat.reduceMul, h3, ht, zq] <;> exact rfl) ?_ rfl rfl (by first | exact .inl rfl | exact .inr rfl) (by simp only [go_sem] <;> exact rfl) (hls) (.inr ⟨rfl, ?_⟩) ?_))) <;> (try omega)
   all_goals first | exact AV.up_rfl _ | (repeat first | exact zo | refine zh rfl ?_)
end
section
open Go.RowKit
abbrev vSt (s : StM) : AV := .agg [vI s.place, .v (.int .u64 s.kids), vI s.table, vI s.parts, vI s.free, vI s.left]
abbrev vEf (e : EfM) : AV := .agg [vI e.next.place, .v (.int .u64 e.next.kids), vI e.next.table, vI e.next.parts, vI e.next.free, vI e.next.left, vI e.target.place, .v (.int .u64 e.target.kids), vI e.target.table, vI e.target.parts, vI e.target.free, vI e.target.left]
theorem yA (s : StM) : zN Try.prog 78 [vSt s] (fun r => r = vEf (both s)) := by
 refine zB (za _) Try.func78 rfl rfl (by rw [Try.results78]) Try.ntmps78 rfl fun E => ?_
 (repeat' (first | exact trivial | (with_reducible first | apply awA | apply awD | apply awF) | ((with_reducible first | apply awn | refine awR ?_); intro r hr; simp only [go_sem, Nat.reduceBEq, Nat.reduceLT, Nat.reduceLeDiff, Nat.reduceAdd, Nat.reduceMul] at hr; subst hr; (first | refine awV ?_ ?_ | refine zR ?_ ?_)))) <;> (try omega)
 all_goals exact rfl
theorem xI (s : StM) : zN Try.prog 88 [vSt s] (fun r => r = vSt s.still) := by
 refine zB (za _) Try.func88 rfl rfl (by rw [Try.results88]) Try.ntmps88 rfl fun E => ?_
 (repeat' (first | exact trivial | (with_reducible first | apply awA | apply awD | apply awF) | ((with_reducible first | apply awn | refine awR ?_); intro r hr; simp only [go_sem, Nat.reduceBEq, Nat.reduceLT, Nat.reduceLeDiff, Nat.reduceAdd, Nat.reduceMul] at hr; subst hr; (first | refine awV ?_ ?_ | refine zR ?_ ?_)))) <;> (try omega)
 all_goals exact rfl
theorem YE (s : StM) (p : Int) : zN Try.prog 82 [vSt s, vI p] (fun r => r = vSt (s.at_ p)) := by
 have h := xI { s with place := p }
 refine zB (za _) Try.func82 rfl rfl (by rw [Try.results82]) Try.ntmps82 rfl fun E => ?_
 (repeat' (first | exact trivial | (with_reducible first | apply awA | apply awD | apply awF) | ((with_reducible first | apply awn | apply awo | refine awR ?_); intro r hr; simp only [go_sem, Nat.reduceBEq, Nat.reduceLT, Nat.reduceLeDiff, Nat.reduceAdd, Nat.reduceMul] at hr; subst hr; (first | refine caC (h) rfl ?_ ?_ ?_ | refine awV ?_ ?_ | refine zR ?_ ?_)))) <;> (try omega)
 all_goals exact rfl
theorem q8 (s : StM) (p : Int) : zN Try.prog 83 [vSt s, vI p] (fun r => r = vSt (s.wth p)) := by
 refine zB (za _) Try.func83 rfl rfl (by rw [Try.results83]) Try.ntmps83 rfl fun E => ?_
 (repeat' (first | exact trivial | (with_reducible first | apply awA | apply awD | apply awF) | ((with_reducible first | apply awn | refine awR ?_); intro r hr; simp only [go_sem, Nat.reduceBEq, Nat.reduceLT, Nat.reduceLeDiff, Nat.reduceAdd, Nat.reduceMul] at hr; subst hr; (first | refine awV ?_ ?_ | refine zR ?_ ?_)))) <;> (try omega)
 all_goals exact rfl
theorem ZJ (s : StM) (k : Int) : zN Try.prog 80 [vSt s, vI k] (fun r => r = .tup [vSt (s.fill k).1, vB (s.fill k).2]) := by
 have h4 := YE s 4
 have hs := xI s
 have hb := xI { s with kids := zay s.kids k }
 unfold StM.fill
 by_cases h0 : s.place = 0
 ·simp only [h0, if_true]
  have e0 : (s.place = 0) = True := eq_true h0
  refine zB (za _) Try.func80 rfl rfl (by rw [Try.results80]) Try.ntmps80 rfl fun E => ?_
  (repeat' (first | exact trivial | (with_reducible first | apply awA | apply awB | apply awD | apply awF | apply awG | apply awJ) | ((with_reducible first | apply awn | apply awo | refine awQ ?_ | refine awR ?_); intro r hr; simp only [go_sem, Nat.reduceBEq, Nat.reduceLT, Nat.reduceLeDiff, Nat.reduceAdd, Nat.reduceMul, e0] at hr; subst hr; (first | refine caC (h4) rfl ?_ ?_ ?_ | refine awV ?_ ?_ | refine zR ?_ ?_ | (refine zf (fun h => ?_) (fun h => ?_) <;> (try simp only [go_sem, reduceCtorEq] at h) <;> (try (exfalso; omega))))))) <;> (try omega)
  all_goals exact rfl
 have e0 : (s.place = 0) = False := eq_false h0
 rw [if_neg h0]
 by_cases h3 : s.place = 3
 ·simp only [h3, if_true]
  have e3 : (s.place = 3) = True := eq_true h3
  refine zB (za _) Try.func80 rfl rfl (by rw [Try.results80]) Try.ntmps80 rfl fun E => ?_
  (repeat' (first | exact trivial | (with_reducible first | apply awA | apply awB | apply awD | apply awF | apply awG | apply awJ) | ((with_reducible first | apply awn | apply awo | refine awQ ?_ | refine awR ?_); intro r hr; simp only [go_sem, Nat.reduceBEq, Nat.reduceLT, Nat.reduceLeDiff, Nat.reduceAdd, Nat.reduceMul, e0, e3] at hr; subst hr; (first | refine caC (h4) rfl ?_ ?_ ?_ | refine awV ?_ ?_ | refine zR ?_ ?_ | (refine zf (fun h => ?_) (fun h => ?_) <;> (try simp only [go_sem, reduceCtorEq] at h) <;> (try (exfalso; omega))))))) <;> (try omega)
  all_goals exact rfl
 have e3 : (s.place = 3) = False := eq_false h3
 rw [if_neg h3]
 by_cases h1 : s.place = 1
 ·simp only [h1, if_true]
  have e1 : (s.place = 1) = True := eq_true h1
  refine zB (za _) Try.func80 rfl rfl (by rw [Try.results80]) Try.ntmps80 rfl fun E => ?_
  (repeat' (first | exact trivial | (with_reducible first | apply awA | apply awB | apply awD | apply awF | apply awG | apply awJ) | (refine zn (id := 7) (t := (.node [0, 2, 3, 1, 4, 5, 6, 7, 8, 9, 10, 11, 12, 13, 14, 15] [])) (drR [2] [] []) zD (by kernel_rfl) (by kernel_rfl) (fun _ _ h => h) ?_) | (refine zx (by simp only [go_sem]; exact rfl) ?_) | (refine zA (by simp only [go_sem]; exact rfl) ?_) | refine ze ?_ | refine zl ?_ ?_ | exact zy | ((with_reducible first | apply awn | apply awp | refine awQ ?_ | refine awR ?_); intro r hr; simp only [go_sem, Nat.reduceBEq, Nat.reduceLT, Nat.reduceLeDiff, Nat.reduceAdd, Nat.reduceMul, e0, e3, e1] at hr; subst hr; (first | refine caC (hs) rfl ?_ ?_ ?_ | refine awV ?_ ?_ | refine zR ?_ ?_ | (refine zf (fun h => ?_) (fun h => ?_) <;> (try simp only [go_sem, reduceCtorEq] at h) <;> (try (exfalso; omega))))))) <;> (try omega)
  all_goals trace_state
  all_goals exact rfl
 have e1 : (s.place = 1) = False := eq_false h1
 rw [if_neg h1]
 by_cases h2 : s.place = 2
 ·have e2 : (s.place = 2) = True := eq_true h2
  rw [if_pos h2]
  by_cases hk : k < 0
  ·have ek : (k < 0) = True := eq_true hk
   rw [if_pos (.inl hk)]
   refine zB (za _) Try.func80 rfl rfl (by rw [Try.results80]) Try.ntmps80 rfl fun E => ?_
   (repeat' (first | exact trivial | (with_reducible first | apply awA | apply awB | apply awD | apply awF | apply awG | apply awJ) | ((with_reducible first | apply awn | refine awQ ?_ | refine awR ?_); intro r hr; simp only [go_sem, Nat.reduceBEq, Nat.reduceLT, Nat.reduceLeDiff, Nat.reduceAdd, Nat.reduceMul, reduceCtorEq, e0, e3, e1, e2, ek] at hr; subst hr; (first | refine awV ?_ ?_ | refine zR ?_ ?_ | (refine zf (fun h => ?_) (fun h => ?_) <;> (try simp only [go_sem, reduceCtorEq] at h) <;> (try (exfalso; omega))))))) <;> (try omega)
   all_goals trace_state
   all_goals exact rfl
  ·have ek : (k < 0) = False := eq_false hk
   by_cases hg : bits .and .u64 (s.kids.fdiv (2 ^ min k.toNat 64)) 1 = 1
   ·rw [if_pos (.inr (decide_eq_true hg))]
    have eg : (bits .and .u64 (s.kids.fdiv (2 ^ min k.toNat 64)) 1 = 1) = True := eq_true hg
    refine zB (za _) Try.func80 rfl rfl (by rw [Try.results80]) Try.ntmps80 rfl fun E => ?_
    (repeat' (first | exact trivial | (with_reducible first | apply awA | apply awB | apply awD | apply awF | apply awG | apply awJ) | ((with_reducible first | apply awn | refine awQ ?_ | refine awR ?_); intro r hr; simp only [go_sem, Nat.reduceBEq, Nat.reduceLT, Nat.reduceLeDiff, Nat.reduceAdd, Nat.reduceMul, reduceCtorEq, e0, e3, e1, e2, ek, eg] at hr; subst hr; (first | refine awV ?_ ?_ | refine zR ?_ ?_ | (refine zf (fun h => ?_) (fun h => ?_) <;> (try simp only [go_sem, reduceCtorEq] at h) <;> (try (exfalso; omega))))))) <;> (try omega)
    all_goals trace_state
    all_goals exact rfl
   ·rw [if_neg (by rintro (h | h); (· exact hk h); exact hg (of_decide_eq_true h))]
    have eg : (bits .and .u64 (s.kids.fdiv (2 ^ min k.toNat 64)) 1 = 1) = False := eq_false hg
    unfold zay at hb ⊢
    refine zB (za _) Try.func80 rfl rfl (by rw [Try.results80]) Try.ntmps80 rfl fun E => ?_
    (repeat' (first | exact trivial | (with_reducible first | apply awA | apply awB | apply awC | apply awD | apply awF | apply awG | apply awJ) | (refine zn (id := 11) (t := (.node [0, 1, 2, 3, 4, 5, 6] [])) (drR [] [50] []) zD (by kernel_rfl) (by kernel_rfl) (fun _ _ h => h) ?_) | (refine zx (by simp only [go_sem]; exact rfl) ?_) | (refine zA (by simp only [go_sem]; exact rfl) ?_) | refine ze ?_ | refine zl ?_ ?_ | exact zy | ((with_reducible first | apply awn | apply awo | apply awp | refine awQ ?_ | refine awR ?_); intro r hr; simp only [go_sem, Nat.reduceBEq, Nat.reduceLT, Nat.reduceLeDiff, Nat.reduceAdd, Nat.reduceMul, reduceCtorEq, e0, e3, e1, e2, ek, eg] at hr; subst hr; (first | refine caC (hb) rfl ?_ ?_ ?_ | refine awV ?_ ?_ | refine zR ?_ ?_ | (refine zf (fun h => ?_) (fun h => ?_) <;> (try simp only [go_sem, reduceCtorEq] at h) <;> (try (exfalso; omega))))))) <;> (try omega)
    all_goals trace_state
    all_goals exact rfl
 have e2 : (s.place = 2) = False := eq_false h2
 rw [if_neg h2]
 refine zB (za _) Try.func80 rfl rfl (by rw [Try.results80]) Try.ntmps80 rfl fun E => ?_
 (repeat' (first | exact trivial | (with_reducible first | apply awA | apply awB | apply awC | apply awD | apply awF | apply awI) | ((with_reducible first | apply awn | refine awQ ?_ | refine awR ?_); intro r hr; simp only [go_sem, Nat.reduceBEq, Nat.reduceLT, Nat.reduceLeDiff, Nat.reduceAdd, Nat.reduceMul, e0, e3, e1, e2] at hr; subst hr; (first | refine awV ?_ ?_ | refine zR ?_ ?_ | (refine zf (fun h => ?_) (fun h => ?_) <;> (try simp only [go_sem, reduceCtorEq] at h) <;> (try (exfalso; omega))))))) <;> (try omega)
 all_goals exact rfl
end
section
open Go.RowKit
def inF (n lo hi : Int) : Bool := decide (lo ≤ n) && decide (n ≤ hi)
theorem yU (n lo hi : Int) : zN Try.prog 40 [vI n, vI lo, vI hi] (fun r => r = vB (inF n lo hi)) := by
 unfold inF
 refine zB (za _) Try.func40 rfl rfl (by rw [Try.results40]) Try.ntmps40 rfl fun E => ?_
 (repeat' (first | exact trivial | (with_reducible first | apply awA | apply awD | apply awF) | ((with_reducible first | apply awn | refine awR ?_); intro r hr; simp only [go_sem, Nat.reduceBEq, Nat.reduceLT, Nat.reduceAdd] at hr; subst hr; (first | refine awV ?_ ?_ | refine zR ?_ ?_)))) <;> (try omega)
 all_goals exact rfl
theorem XK (n lo hi : Int) : zN Try.prog 29 [vI n, vI lo, vI hi] (fun r => r = vB (inF n lo hi)) := by
 unfold inF
 refine zB (za _) Try.func29 rfl rfl (by rw [Try.results29]) Try.ntmps29 rfl fun E => ?_
 (repeat' (first | exact trivial | (with_reducible first | apply awA | apply awD | apply awF) | ((with_reducible first | apply awn | refine awR ?_); intro r hr; simp only [go_sem, Nat.reduceBEq, Nat.reduceLT, Nat.reduceAdd] at hr; subst hr; (first | refine awV ?_ ?_ | refine zR ?_ ?_)))) <;> (try omega)
 all_goals exact rfl
end
section
open Go.RowKit
def wW (nC nN : Nat) (w n : Int) : Bool :=
 if w = 32 then decide (n = 0) else
 if w = 107 then inF n (-1) 63 else
 if w = 112 then inF n (-1) 63 else
 if w = 75 then inF n 0 63 else
 if w = 119 then decide (n = 1) || decide (n = 2) || decide (n = 4) || decide (n = 8) else
 if w = 110 then inF n 2 64 else
 if w = 102 then inF n 4 16777216 else
 if w = 109 then inF n 1 1048576 else
 if w = 115 then inF n 1 64 else
 if w = 97 then inF n 1 64 else
 if w = 103 then inF n 0 255 else
 if w = 80 then inF n (-1) 16777215 else
 if w = 113 then inF n 0 16777215 else
 if w = 98 then decide (n = -1) || inF n 1 16777216 else
 if w = 122 then inF n 1 16777216 else
 if w = 116 then inF n 0 ((nC : Int) - 1) else
 inF n 0 ((nN : Int) - 1)
theorem XL (e : Bool) (C : List InsM) (N : List Int) (hC : C.length ≤ 1000000000) (hN : N.length ≤ 1000000000) (w n : Int) : zN Try.prog 51 [pG e C N, vU8 w, vI n] (fun r => r = vB (wW C.length N.length w n)) := by
 have hw1 := zg (n := (C.length : Int) - 1) (by omega)
 have hw2 := zg (n := (N.length : Int) - 1) (by omega)
 unfold wW pG
 by_cases h32 : w = 32
 ·subst h32
  simp only [reduceIte, Int.reduceEq]
  refine zB (za _) Try.func51 rfl rfl (by rw [Try.results51]) Try.ntmps51 rfl fun E => ?_
  (repeat' (first | exact trivial | (with_reducible first | apply awA | apply awB | apply awD | apply awF | apply awG | apply awJ) | ((with_reducible first | apply awn | refine awQ ?_ | refine awR ?_); intro r hr; simp only [go_sem, Nat.reduceBEq, Nat.reduceLT, Nat.reduceAdd] at hr; subst hr; (first | refine caA (fun _ => yU _ _ _) rfl ?_ ?_ ?_ | refine awV ?_ ?_ | refine zR ?_ ?_ | (refine zf (fun h => ?_) (fun h => ?_) <;> (try simp only [go_sem, reduceCtorEq] at h) <;> (try (exfalso; omega))))))) <;> (try omega)
  all_goals exact rfl
 by_cases h107 : w = 107
 ·subst h107
  simp only [reduceIte, Int.reduceEq]
  refine zB (za _) Try.func51 rfl rfl (by rw [Try.results51]) Try.ntmps51 rfl fun E => ?_
  (repeat' (first | exact trivial | (with_reducible first | apply awA | apply awB | apply awC | apply awD | apply awF | apply awG | apply awJ) | ((with_reducible first | apply awn | apply awo | refine awQ ?_ | refine awR ?_); intro r hr; simp only [go_sem, Nat.reduceBEq, Nat.reduceLT, Nat.reduceAdd, Int.reduceEq] at hr; subst hr; (first | refine caA (fun _ => yU _ _ _) rfl ?_ ?_ ?_ | refine awV ?_ ?_ | refine zR ?_ ?_ | (refine zf (fun h => ?_) (fun h => ?_) <;> (try simp only [go_sem, reduceCtorEq] at h) <;> (try (exfalso; omega))))))) <;> (try omega)
  all_goals exact rfl
 by_cases h112 : w = 112
 ·subst h112
  simp only [reduceIte, Int.reduceEq]
  refine zB (za _) Try.func51 rfl rfl (by rw [Try.results51]) Try.ntmps51 rfl fun E => ?_
  (repeat' (first | exact trivial | (with_reducible first | apply awA | apply awB | apply awD | apply awF | apply awG | apply awJ) | ((with_reducible first | apply awn | apply awo | refine awQ ?_ | refine awR ?_); intro r hr; simp only [go_sem, Nat.reduceBEq, Nat.reduceLT, Nat.reduceAdd, Int.reduceEq] at hr; subst hr; (first | refine caA (fun _ => yU _ _ _) rfl ?_ ?_ ?_ | refine awV ?_ ?_ | refine zR ?_ ?_ | (refine zf (fun h => ?_) (fun h => ?_) <;> (try simp only [go_sem, reduceCtorEq] at h) <;> (try (exfalso; omega))))))) <;> (try omega)
  all_goals exact rfl
 by_cases h75 : w = 75
 ·subst h75
  simp only [reduceIte, Int.reduceEq]
  refine zB (za _) Try.func51 rfl rfl (by rw [Try.results51]) Try.ntmps51 rfl fun E => ?_
  (repeat' (first | exact trivial | (with_reducible first | apply awA | apply awB | apply awD | apply awF | apply awG | apply awJ) | ((with_reducible first | apply awn | apply awo | refine awQ ?_ | refine awR ?_); intro r hr; simp only [go_sem, Nat.reduceBEq, Nat.reduceLT, Nat.reduceAdd, Int.reduceEq] at hr; subst hr; (first | refine caA (fun _ => yU _ _ _) rfl ?_ ?_ ?_ | refine awV ?_ ?_ | refine zR ?_ ?_ | (refine zf (fun h => ?_) (fun h => ?_) <;> (try simp only [go_sem, reduceCtorEq] at h) <;> (try (exfalso; omega))))))) <;> (try omega)
  all_goals exact rfl
 by_cases h119 : w = 119
 ·subst h119
  simp only [reduceIte, Int.reduceEq]
  refine zB (za _) Try.func51 rfl rfl (by rw [Try.results51]) Try.ntmps51 rfl fun E => ?_
  (repeat' (first | exact trivial | (with_reducible first | apply awA | apply awB | apply awD | apply awF | apply awG | apply awJ) | ((with_reducible first | apply awn | refine awQ ?_ | refine awR ?_); intro r hr; simp only [go_sem, Nat.reduceBEq, Nat.reduceLT, Nat.reduceAdd, Int.reduceEq] at hr; subst hr; (first | refine caA (fun _ => yU _ _ _) rfl ?_ ?_ ?_ | refine awV ?_ ?_ | refine zR ?_ ?_ | (refine zf (fun h => ?_) (fun h => ?_) <;> (try simp only [go_sem, reduceCtorEq] at h) <;> (try (exfalso; omega))))))) <;> (try omega)
  all_goals exact rfl
 by_cases h110 : w = 110
 ·subst h110
  simp only [reduceIte, Int.reduceEq]
  refine zB (za _) Try.func51 rfl rfl (by rw [Try.results51]) Try.ntmps51 rfl fun E => ?_
  (repeat' (first | exact trivial | (with_reducible first | apply awA | apply awB | apply awD | apply awF | apply awG | apply awJ) | ((with_reducible first | apply awn | apply awo | refine awQ ?_ | refine awR ?_); intro r hr; simp only [go_sem, Nat.reduceBEq, Nat.reduceLT, Nat.reduceAdd, Int.reduceEq] at hr; subst hr; (first | refine caA (fun _ => yU _ _ _) rfl ?_ ?_ ?_ | refine awV ?_ ?_ | refine zR ?_ ?_ | (refine zf (fun h => ?_) (fun h => ?_) <;> (try simp only [go_sem, reduceCtorEq] at h) <;> (try (exfalso; omega))))))) <;> (try omega)
  all_goals exact rfl
 by_cases h102 : w = 102
 ·subst h102
  simp only [reduceIte, Int.reduceEq]
  refine zB (za _) Try.func51 rfl rfl (by rw [Try.results51]) Try.ntmps51 rfl fun E => ?_
  (repeat' (first | exact trivial | (with_reducible first | apply awA | apply awB | apply awD | apply awF | apply awG | apply awJ) | ((with_reducible first | apply awn | apply awo | refine awQ ?_ | refine awR ?_); intro r hr; simp only [go_sem, Nat.reduceBEq, Nat.reduceLT, Nat.reduceAdd, Int.reduceEq] at hr; subst hr; (first | refine caA (fun _ => yU _ _ _) rfl ?_ ?_ ?_ | refine awV ?_ ?_ | refine zR ?_ ?_ | (refine zf (fun h => ?_) (fun h => ?_) <;> (try simp only [go_sem, reduceCtorEq] at h) <;> (try (exfalso; omega))))))) <;> (try omega)
  all_goals exact rfl
 by_cases h109 : w = 109
 ·subst h109
  simp only [reduceIte, Int.reduceEq]
  refine zB (za _) Try.func51 rfl rfl (by rw [Try.results51]) Try.ntmps51 rfl fun E => ?_
  (repeat' (first | exact trivial | (with_reducible first | apply awA | apply awB | apply awD | apply awF | apply awG | apply awJ) | ((with_reducible first | apply awn | apply awo | refine awQ ?_ | refine awR ?_); intro r hr; simp only [go_sem, Nat.reduceBEq, Nat.reduceLT, Nat.reduceAdd, Int.reduceEq] at hr; subst hr; (first | refine caA (fun _ => yU _ _ _) rfl ?_ ?_ ?_ | refine awV ?_ ?_ | refine zR ?_ ?_ | (refine zf (fun h => ?_) (fun h => ?_) <;> (try simp only [go_sem, reduceCtorEq] at h) <;> (try (exfalso; omega))))))) <;> (try omega)
  all_goals exact rfl
 by_cases h115 : w = 115
 ·subst h115
  simp only [reduceIte, Int.reduceEq]
  refine zB (za _) Try.func51 rfl rfl (by rw [Try.results51]) Try.ntmps51 rfl fun E => ?_
  (repeat' (first | exact trivial | (with_reducible first | apply awA | apply awB | apply awD | apply awF | apply awG | apply awJ) | ((with_reducible first | apply awn | apply awo | refine awQ ?_ | refine awR ?_); intro r hr; simp only [go_sem, Nat.reduceBEq, Nat.reduceLT, Nat.reduceAdd, Int.reduceEq] at hr; subst hr; (first | refine caA (fun _ => yU _ _ _) rfl ?_ ?_ ?_ | refine awV ?_ ?_ | refine zR ?_ ?_ | (refine zf (fun h => ?_) (fun h => ?_) <;> (try simp only [go_sem, reduceCtorEq] at h) <;> (try (exfalso; omega))))))) <;> (try omega)
  all_goals exact rfl
 by_cases h97 : w = 97
 ·subst h97
  simp only [reduceIte, Int.reduceEq]
  refine zB (za _) Try.func51 rfl rfl (by rw [Try.results51]) Try.ntmps51 rfl fun E => ?_
  (repeat' (first | exact trivial | (with_reducible first | apply awA | apply awB | apply awD | apply awF | apply awG | apply awJ) | ((with_reducible first | apply awn | apply awo | refine awQ ?_ | refine awR ?_); intro r hr; simp only [go_sem, Nat.reduceBEq, Nat.reduceLT, Nat.reduceAdd, Int.reduceEq] at hr; subst hr; (first | refine caA (fun _ => yU _ _ _) rfl ?_ ?_ ?_ | refine awV ?_ ?_ | refine zR ?_ ?_ | (refine zf (fun h => ?_) (fun h => ?_) <;> (try simp only [go_sem, reduceCtorEq] at h) <;> (try (exfalso; omega))))))) <;> (try omega)
  all_goals exact rfl
 by_cases h103 : w = 103
 ·subst h103
  simp only [reduceIte, Int.reduceEq]
  refine zB (za _) Try.func51 rfl rfl (by rw [Try.results51]) Try.ntmps51 rfl fun E => ?_
  (repeat' (first | exact trivial | (with_reducible first | apply awA | apply awB | apply awD | apply awF | apply awG | apply awJ) | ((with_reducible first | apply awn | apply awo | refine awQ ?_ | refine awR ?_); intro r hr; simp only [go_sem, Nat.reduceBEq, Nat.reduceLT, Nat.reduceAdd, Int.reduceEq] at hr; subst hr; (first | refine caA (fun _ => yU _ _ _) rfl ?_ ?_ ?_ | refine awV ?_ ?_ | refine zR ?_ ?_ | (refine zf (fun h => ?_) (fun h => ?_) <;> (try simp only [go_sem, reduceCtorEq] at h) <;> (try (exfalso; omega))))))) <;> (try omega)
  all_goals exact rfl
 by_cases h80 : w = 80
 ·subst h80
  simp only [reduceIte, Int.reduceEq]
  refine zB (za _) Try.func51 rfl rfl (by rw [Try.results51]) Try.ntmps51 rfl fun E => ?_
  (repeat' (first | exact trivial | (with_reducible first | apply awA | apply awB | apply awD | apply awF | apply awG | apply awJ) | ((with_reducible first | apply awn | apply awo | refine awQ ?_ | refine awR ?_); intro r hr; simp only [go_sem, Nat.reduceBEq, Nat.reduceLT, Nat.reduceAdd, Int.reduceEq] at hr; subst hr; (first | refine caA (fun _ => yU _ _ _) rfl ?_ ?_ ?_ | refine awV ?_ ?_ | refine zR ?_ ?_ | (refine zf (fun h => ?_) (fun h => ?_) <;> (try simp only [go_sem, reduceCtorEq] at h) <;> (try (exfalso; omega))))))) <;> (try omega)
  all_goals exact rfl
 by_cases h113 : w = 113
 ·subst h113
  simp only [reduceIte, Int.reduceEq]
  refine zB (za _) Try.func51 rfl rfl (by rw [Try.results51]) Try.ntmps51 rfl fun E => ?_
  (repeat' (first | exact trivial | (with_reducible first | apply awA | apply awB | apply awD | apply awF | apply awG | apply awJ) | ((with_reducible first | apply awn | apply awo | refine awQ ?_ | refine awR ?_); intro r hr; simp only [go_sem, Nat.reduceBEq, Nat.reduceLT, Nat.reduceAdd, Int.reduceEq] at hr; subst hr; (first | refine caA (fun _ => yU _ _ _) rfl ?_ ?_ ?_ | refine awV ?_ ?_ | refine zR ?_ ?_ | (refine zf (fun h => ?_) (fun h => ?_) <;> (try simp only [go_sem, reduceCtorEq] at h) <;> (try (exfalso; omega))))))) <;> (try omega)
  all_goals exact rfl
 by_cases h98 : w = 98
 ·subst h98
  simp only [reduceIte, Int.reduceEq]
  refine zB (za _) Try.func51 rfl rfl (by rw [Try.results51]) Try.ntmps51 rfl fun E => ?_
  (repeat' (first | exact trivial | (with_reducible first | apply awA | apply awB | apply awD | apply awF | apply awG | apply awJ) | ((with_reducible first | apply awn | apply awo | refine awQ ?_ | refine awR ?_); intro r hr; simp only [go_sem, Nat.reduceBEq, Nat.reduceLT, Nat.reduceAdd, Int.reduceEq] at hr; subst hr; (first | refine caA (fun _ => yU _ _ _) rfl ?_ ?_ ?_ | refine awV ?_ ?_ | refine zR ?_ ?_ | (refine zf (fun h => ?_) (fun h => ?_) <;> (try simp only [go_sem, reduceCtorEq] at h) <;> (try (exfalso; omega))))))) <;> (try omega)
  all_goals exact rfl
 by_cases h122 : w = 122
 ·subst h122
  simp only [reduceIte, Int.reduceEq]
  refine zB (za _) Try.func51 rfl rfl (by rw [Try.results51]) Try.ntmps51 rfl fun E => ?_
  (repeat' (first | exact trivial | (with_reducible first | apply awA | apply awB | apply awD | apply awF | apply awG | apply awJ) | ((with_reducible first | apply awn | apply awo | refine awQ ?_ | refine awR ?_); intro r hr; simp only [go_sem, Nat.reduceBEq, Nat.reduceLT, Nat.reduceAdd, Int.reduceEq] at hr; subst hr; (first | refine caA (fun _ => yU _ _ _) rfl ?_ ?_ ?_ | refine awV ?_ ?_ | refine zR ?_ ?_ | (refine zf (fun h => ?_) (fun h => ?_) <;> (try simp only [go_sem, reduceCtorEq] at h) <;> (try (exfalso; omega))))))) <;> (try omega)
  all_goals exact rfl
 by_cases h116 : w = 116
 ·subst h116
  simp only [reduceIte, Int.reduceEq]
  refine zB (za _) Try.func51 rfl rfl (by rw [Try.results51]) Try.ntmps51 rfl fun E => ?_
  (repeat' (first | exact trivial | (with_reducible first | apply awA | apply awB | apply awD | apply awF | apply awG | apply awJ) | ((with_reducible first | apply awn | apply awo | refine awQ ?_ | refine awR ?_); intro r hr; simp only [go_sem, Nat.reduceBEq, Nat.reduceLT, Nat.reduceLeDiff, Nat.reduceAdd, Nat.reduceMul, hw1, zd, Int.reduceEq] at hr; subst hr; (first | refine caA (fun _ => yU _ _ _) rfl ?_ ?_ ?_ | refine awV ?_ ?_ | refine zR ?_ ?_ | (refine zf (fun h => ?_) (fun h => ?_) <;> (try simp only [go_sem, reduceCtorEq] at h) <;> (try (exfalso; omega))))))) <;> (try omega)
  all_goals exact rfl
 have e32 : (w = 32) = False := eq_false h32
 have e107 : (w = 107) = False := eq_false h107
 have e112 : (w = 112) = False := eq_false h112
 have e75 : (w = 75) = False := eq_false h75
 have e119 : (w = 119) = False := eq_false h119
 have e110 : (w = 110) = False := eq_false h110
 have e102 : (w = 102) = False := eq_false h102
 have e109 : (w = 109) = False := eq_false h109
 have e115 : (w = 115) = False := eq_false h115
 have e97 : (w = 97) = False := eq_false h97
 have e103 : (w = 103) = False := eq_false h103
 have e80 : (w = 80) = False := eq_false h80
 have e113 : (w = 113) = False := eq_false h113
 have e98 : (w = 98) = False := eq_false h98
 have e122 : (w = 122) = False := eq_false h122
 have e116 : (w = 116) = False := eq_false h116
 simp only [e32, e107, e112, e75, e119, e110, e102, e109, e115, e97, e103, e80, e113, e98, e122, e116, if_false]
 refine zB (za _) Try.func51 rfl rfl (by rw [Try.results51]) Try.ntmps51 rfl fun E => ?_
 (repeat' (first | exact trivial | (with_reducible first | apply awA | apply awB | apply awC | apply awD | apply awF | apply awI) | ((with_reducible first | apply awn | apply awo | refine awQ ?_ | refine awR ?_); intro r hr; simp only [go_sem, Nat.reduceBEq, Nat.reduceLT, Nat.reduceLeDiff, Nat.reduceAdd, Nat.reduceMul, hw2, e32, e107, e112, e75, e119, e110, e102, e109, e115, e97, e103, e80, e113, e98, e122, e116, zq] at hr; subst hr; (first | refine caA (fun _ => yU _ _ _) rfl ?_ ?_ ?_ | refine awV ?_ ?_ | refine zR ?_ ?_ | (refine zf (fun h => ?_) (fun h => ?_) <;> (try simp only [go_sem, reduceCtorEq] at h) <;> (try (exfalso; omega))))))) <;> (try omega)
 all_goals exact rfl
end
section
open Go.RowKit
abbrev zcT (x : InsM) : AV := .agg [vI x.op, vI x.a, vI x.b, vI x.c]
theorem WM (s : StM) (n : Int) : zN Try.prog 76 [vSt s, vI n] (fun r => r = .tup [vSt (s.take n).1, vB (s.take n).2]) := by
 unfold StM.take
 by_cases h5 : s.place = 5
 ·have e5 : (s.place = 5) = True := eq_true h5
  have e6 : (s.place = 6) = False := eq_false (by omega)
  by_cases hn : n = 1
  ·have en : (n = 1) = True := eq_true hn
   rw [if_pos ⟨h5, hn⟩]
   refine zB (za _) Try.func76 rfl rfl (by rw [Try.results76]) Try.ntmps76 rfl fun E => ?_
   (repeat' (first | exact trivial | (with_reducible first | apply awA | apply awB | apply awD | apply awF | apply awG | apply awJ) | ((with_reducible first | apply awn | refine awQ ?_ | refine awR ?_); intro r hr; simp only [go_sem, Nat.reduceBEq, Nat.reduceLT, Nat.reduceLeDiff, Nat.reduceAdd, Nat.reduceMul, reduceCtorEq, e5, en] at hr; subst hr; (first | refine awV ?_ ?_ | refine zR ?_ ?_ | (refine zf (fun h => ?_) (fun h => ?_) <;> (try simp only [go_sem, reduceCtorEq] at h) <;> (try (exfalso; omega))))))) <;> (try omega)
   all_goals exact rfl
  ·have en : (n = 1) = False := eq_false hn
   rw [if_neg (fun h => hn h.2), if_neg (by omega)]
   refine zB (za _) Try.func76 rfl rfl (by rw [Try.results76]) Try.ntmps76 rfl fun E => ?_
   (repeat' (first | exact trivial | (with_reducible first | apply awA | apply awB | apply awC | apply awD | apply awF | apply awI) | ((with_reducible first | apply awn | refine awQ ?_ | refine awR ?_); intro r hr; simp only [go_sem, Nat.reduceBEq, Nat.reduceLT, Nat.reduceLeDiff, Nat.reduceAdd, Nat.reduceMul, reduceCtorEq, e5, en, e6] at hr; subst hr; (first | refine awV ?_ ?_ | refine zR ?_ ?_ | (refine zf (fun h => ?_) (fun h => ?_) <;> (try simp only [go_sem, reduceCtorEq] at h) <;> (try (exfalso; omega))))))) <;> (try omega)
   all_goals exact rfl
 ·have e5 : (s.place = 5) = False := eq_false h5
  rw [if_neg (fun h => h5 h.1)]
  by_cases h6 : s.place = 6
  ·have e6 : (s.place = 6) = True := eq_true h6
   rw [if_pos h6]
   refine zB (za _) Try.func76 rfl rfl (by rw [Try.results76]) Try.ntmps76 rfl fun E => ?_
   (repeat' (first | exact trivial | (with_reducible first | apply awA | apply awB | apply awD | apply awF | apply awG | apply awJ) | (refine zn (id := 5) (t := (.node [0, 1, 2, 3, 4, 5] [])) (drR [2] [] []) zD (by kernel_rfl) (by kernel_rfl) (fun _ _ h => h) ?_) | (refine zx (by simp only [go_sem]; exact rfl) ?_) | (refine zA (by simp only [go_sem]; exact rfl) ?_) | refine ze ?_ | refine zl ?_ ?_ | exact zy | ((with_reducible first | apply awn | apply awp | refine awQ ?_ | refine awR ?_); intro r hr; simp only [go_sem, Nat.reduceBEq, Nat.reduceLT, Nat.reduceLeDiff, Nat.reduceAdd, Nat.reduceMul, reduceCtorEq, e5, e6] at hr; subst hr; (first | refine awV ?_ ?_ | refine zR ?_ ?_ | (refine zf (fun h => ?_) (fun h => ?_) <;> (try simp only [go_sem, reduceCtorEq] at h) <;> (try (exfalso; omega))))))) <;> (try omega)
   all_goals exact rfl
  ·have e6 : (s.place = 6) = False := eq_false h6
   rw [if_neg h6]
   refine zB (za _) Try.func76 rfl rfl (by rw [Try.results76]) Try.ntmps76 rfl fun E => ?_
   (repeat' (first | exact trivial | (with_reducible first | apply awA | apply awB | apply awC | apply awD | apply awF | apply awI) | ((with_reducible first | apply awn | refine awQ ?_ | refine awR ?_); intro r hr; simp only [go_sem, Nat.reduceBEq, Nat.reduceLT, Nat.reduceLeDiff, Nat.reduceAdd, Nat.reduceMul, reduceCtorEq, e5, e6] at hr; subst hr; (first | refine awV ?_ ?_ | refine zR ?_ ?_ | (refine zf (fun h => ?_) (fun h => ?_) <;> (try simp only [go_sem, reduceCtorEq] at h) <;> (try (exfalso; omega))))))) <;> (try omega)
   all_goals exact rfl
theorem JL (s : StM) : zN Try.prog 77 [vSt s] (fun r => r = .tup [vSt s.turn.1, vB s.turn.2]) := by
 have hs := xI s
 refine zB (za _) Try.func77 rfl rfl (by rw [Try.results77]) Try.ntmps77 rfl fun E => ?_
 (repeat' (first | exact trivial | (with_reducible first | apply awA | apply awD | apply awF) | (refine zn (id := 1) (t := (.node [0, 2, 3, 4, 1, 5, 6, 7, 8, 9, 10, 11] [])) (drR [1] [] []) zD (by kernel_rfl) (by kernel_rfl) (fun _ _ h => h) ?_) | (refine zx (by simp only [go_sem]; exact rfl) ?_) | (refine zA (by simp only [go_sem]; exact rfl) ?_) | refine ze ?_ | refine zl ?_ ?_ | exact zy | ((with_reducible first | apply awn | apply awp | refine awR ?_); intro r hr; simp only [go_sem, Nat.reduceBEq, Nat.reduceLT, Nat.reduceLeDiff, Nat.reduceAdd, Nat.reduceMul] at hr; subst hr; (first | refine caC (hs) rfl ?_ ?_ ?_ | refine awV ?_ ?_ | refine zR ?_ ?_)))) <;> (try omega)
 all_goals exact rfl
theorem WN (s : StM) : zN Try.prog 79 [vSt s] (fun r => r = vB s.over) := by
 unfold StM.over
 by_cases h1 : s.place = 1
 ·have e1 : (s.place = 1) = True := eq_true h1
  rw [if_pos (.inl h1)]
  refine zB (za _) Try.func79 rfl rfl (by rw [Try.results79]) Try.ntmps79 rfl fun E => ?_
  (repeat' (first | exact trivial | (with_reducible first | apply awA | apply awB | apply awC | apply awD | apply awF | apply awG | apply awJ) | ((with_reducible first | apply awn | refine awQ ?_ | refine awR ?_); intro r hr; simp only [go_sem, Nat.reduceBEq, Nat.reduceLT, Nat.reduceLeDiff, Nat.reduceAdd, Nat.reduceMul, e1] at hr; subst hr; (first | refine awV ?_ ?_ | refine zR ?_ ?_ | (refine zf (fun h => ?_) (fun h => ?_) <;> (try simp only [go_sem, reduceCtorEq] at h) <;> (try (exfalso; omega))))))) <;> (try omega)
  all_goals exact rfl
 have e1 : (s.place = 1) = False := eq_false h1
 by_cases h4 : s.place = 4
 ·have e4 : (s.place = 4) = True := eq_true h4
  rw [if_pos (.inr h4)]
  refine zB (za _) Try.func79 rfl rfl (by rw [Try.results79]) Try.ntmps79 rfl fun E => ?_
  (repeat' (first | exact trivial | (with_reducible first | apply awA | apply awB | apply awD | apply awF | apply awG | apply awJ) | ((with_reducible first | apply awn | refine awQ ?_ | refine awR ?_); intro r hr; simp only [go_sem, Nat.reduceBEq, Nat.reduceLT, Nat.reduceLeDiff, Nat.reduceAdd, Nat.reduceMul, e1, e4] at hr; subst hr; (first | refine awV ?_ ?_ | refine zR ?_ ?_ | (refine zf (fun h => ?_) (fun h => ?_) <;> (try simp only [go_sem, reduceCtorEq] at h) <;> (try (exfalso; omega))))))) <;> (try omega)
  all_goals exact rfl
 have e4 : (s.place = 4) = False := eq_false h4
 rw [if_neg (by omega)]
 by_cases h2 : s.place = 2
 ·have e2 : (s.place = 2) = True := eq_true h2
  rw [if_pos h2]
  refine zB (za _) Try.func79 rfl rfl (by rw [Try.results79]) Try.ntmps79 rfl fun E => ?_
  (repeat' (first | exact trivial | (with_reducible first | apply awA | apply awB | apply awD | apply awF | apply awG | apply awJ) | ((with_reducible first | apply awn | refine awQ ?_ | refine awR ?_); intro r hr; simp only [go_sem, Nat.reduceBEq, Nat.reduceLT, Nat.reduceLeDiff, Nat.reduceAdd, Nat.reduceMul, e1, e4, e2] at hr; subst hr; (first | refine awV ?_ ?_ | refine zR ?_ ?_ | (refine zf (fun h => ?_) (fun h => ?_) <;> (try simp only [go_sem, reduceCtorEq] at h) <;> (try (exfalso; omega))))))) <;> (try omega)
  all_goals exact rfl
 have e2 : (s.place = 2) = False := eq_false h2
 rw [if_neg h2]
 by_cases h6 : s.place = 6
 ·have e6 : (s.place = 6) = True := eq_true h6
  rw [if_pos h6]
  refine zB (za _) Try.func79 rfl rfl (by rw [Try.results79]) Try.ntmps79 rfl fun E => ?_
  (repeat' (first | exact trivial | (with_reducible first | apply awA | apply awB | apply awD | apply awF | apply awG | apply awJ) | ((with_reducible first | apply awn | refine awQ ?_ | refine awR ?_); intro r hr; simp only [go_sem, Nat.reduceBEq, Nat.reduceLT, Nat.reduceLeDiff, Nat.reduceAdd, Nat.reduceMul, e1, e4, e2, e6] at hr; subst hr; (first | refine awV ?_ ?_ | refine zR ?_ ?_ | (refine zf (fun h => ?_) (fun h => ?_) <;> (try simp only [go_sem, reduceCtorEq] at h) <;> (try (exfalso; omega))))))) <;> (try omega)
  all_goals exact rfl
 have e6 : (s.place = 6) = False := eq_false h6
 rw [if_neg h6]
 refine zB (za _) Try.func79 rfl rfl (by rw [Try.results79]) Try.ntmps79 rfl fun E => ?_
 (repeat' (first | exact trivial | (with_reducible first | apply awA | apply awB | apply awC | apply awD | apply awF | apply awI) | ((with_reducible first | apply awn | refine awQ ?_ | refine awR ?_); intro r hr; simp only [go_sem, Nat.reduceBEq, Nat.reduceLT, Nat.reduceLeDiff, Nat.reduceAdd, Nat.reduceMul, e1, e4, e2, e6] at hr; subst hr; (first | refine awV ?_ ?_ | refine zR ?_ ?_ | (refine zf (fun h => ?_) (fun h => ?_) <;> (try simp only [go_sem, reduceCtorEq] at h) <;> (try (exfalso; omega))))))) <;> (try omega)
 all_goals exact rfl
theorem VE (s : StM) (f : Int) : zN Try.prog 84 [vSt s, vI f] (fun r => r = .tup [vEf (s.offset f).1, vB (s.offset f).2]) := by
 unfold StM.offset
 have s1 := xI { s with table := IntKind.i64.wrap (s.table + 1) }
 have s2 := xI { s with table := -1 }
 by_cases h2 : s.place = 2
 ·have e2 : (s.place = 2) = True := eq_true h2
  rw [if_pos h2]
  have b1 := yA ({ s with table := IntKind.i64.wrap (s.table + 1) } : StM).still
  refine zB (za _) Try.func84 rfl rfl (by rw [Try.results84]) Try.ntmps84 rfl fun E => ?_
  (repeat' (first | exact trivial | (with_reducible first | apply awA | apply awD | apply awF | apply awG) | ((with_reducible first | apply awn | apply awo | refine awQ ?_ | refine awR ?_); intro r hr; simp only [go_sem, Nat.reduceBEq, Nat.reduceLT, Nat.reduceLeDiff, Nat.reduceAdd, Nat.reduceMul, e2, StM.still] at hr; subst hr; (first | refine caC (s1) rfl ?_ ?_ ?_ | refine caC (b1) rfl ?_ ?_ ?_ | refine awV ?_ ?_ | refine zR ?_ ?_ | (refine zf (fun h => ?_) (fun h => ?_) <;> (try simp only [go_sem, reduceCtorEq] at h) <;> (try (exfalso; omega))))))) <;> (try omega)
  all_goals exact rfl
 have e2 : (s.place = 2) = False := eq_false h2
 rw [if_neg h2]
 have b2 := yA ({ s with table := -1 } : StM).still
 refine zB (za _) Try.func84 rfl rfl (by rw [Try.results84]) Try.ntmps84 rfl fun E => ?_
 (repeat' (first | exact trivial | (with_reducible first | apply awA | apply awC | apply awD | apply awF) | (refine zn (id := 7) (t := (.node [0, 3, 4, 5, 1, 2, 6, 7, 8, 9, 10] [])) (drR [2] [] []) zD (by kernel_rfl) (by kernel_rfl) (fun _ _ h => h) ?_) | (refine zx (by simp only [go_sem]; exact rfl) ?_) | (refine zA (by simp only [go_sem]; exact rfl) ?_) | refine ze ?_ | refine zl ?_ ?_ | exact zy | ((with_reducible first | apply awn | apply awp | refine awQ ?_ | refine awR ?_); intro r hr; simp only [go_sem, Nat.reduceBEq, Nat.reduceLT, Nat.reduceLeDiff, Nat.reduceAdd, Nat.reduceMul, e2, StM.still] at hr; subst hr; (first | refine caC (s2) rfl ?_ ?_ ?_ | refine caC (b2) rfl ?_ ?_ ?_ | refine awV ?_ ?_ | refine zR ?_ ?_ | (refine zf (fun h => ?_) (fun h => ?_) <;> (try simp only [go_sem, reduceCtorEq] at h) <;> (try (exfalso; omega))))))) <;> (try omega)
 all_goals exact rfl
theorem JM (s : StM) (x : InsM) : zN Try.prog 85 [vSt s, zcT x] (fun r => r = .tup [vEf (s.part x).1, vB (s.part x).2]) := by
 unfold StM.part
 have s1 := xI s
 have b1 := yA s.still
 by_cases h1 : x.a = -1
 ·have e1 : (x.a = -1) = True := eq_true h1
  rw [if_pos h1]
  refine zB (za _) Try.func85 rfl rfl (by rw [Try.results85]) Try.ntmps85 rfl fun E => ?_
  (repeat' (first | exact trivial | (with_reducible first | apply awA | apply awD | apply awF | apply awG) | (refine zn (id := 2) (t := (.node [0, 3, 4, 5, 1, 2, 6, 7, 8, 9, 10, 11, 12] [])) (drR [2] [] []) zD (by kernel_rfl) (by kernel_rfl) (fun _ _ h => h) ?_) | (refine zx (by simp only [go_sem]; exact rfl) ?_) | (refine zA (by simp only [go_sem]; exact rfl) ?_) | refine ze ?_ | refine zl ?_ ?_ | exact zy | ((with_reducible first | apply awn | apply awp | refine awQ ?_ | refine awR ?_); intro r hr; simp only [go_sem, Nat.reduceBEq, Nat.reduceLT, Nat.reduceLeDiff, Nat.reduceAdd, Nat.reduceMul, e1] at hr; subst hr; (first | refine caC (s1) rfl ?_ ?_ ?_ | refine caC (b1) rfl ?_ ?_ ?_ | refine awV ?_ ?_ | refine zR ?_ ?_ | (refine zf (fun h => ?_) (fun h => ?_) <;> (try simp only [go_sem, reduceCtorEq] at h) <;> (try (exfalso; omega))))))) <;> (try omega)
  all_goals exact rfl
 have e1 : (x.a = -1) = False := eq_false h1
 rw [if_neg h1]
 have hf := ZJ s x.a
 generalize s.fill x.a = q at hf ⊢
 obtain ⟨f, ok⟩ := q
 have b2 := yA { f with parts := IntKind.i64.wrap (f.parts + 1) }
 refine zB (za _) Try.func85 rfl rfl (by rw [Try.results85]) Try.ntmps85 rfl fun E => ?_
 cases ok
 ·(repeat' (first | exact trivial | (with_reducible first | apply awA | apply awC | apply awD | apply awF) | (refine zn (id := 5) (t := (.node [0, 2, 1, 3, 4, 5, 6, 7, 8, 9, 10, 11, 12, 13, 14, 15, 16, 17, 18, 19, 20, 21, 22, 23] [])) (drR [6, 2, 3] [] []) zD (by kernel_rfl) (by kernel_rfl) (fun _ _ h => h) ?_) | (refine zx (by simp only [go_sem]; exact rfl) ?_) | (refine zA (by simp only [go_sem]; exact rfl) ?_) | refine ze ?_ | refine zl ?_ ?_ | exact zy | ((with_reducible first | apply awn | apply awo | apply awp | refine awQ ?_ | refine awR ?_); intro r hr; simp only [go_sem, Nat.reduceBEq, Nat.reduceLT, Nat.reduceLeDiff, Nat.reduceAdd, Nat.reduceMul, reduceCtorEq, e1] at hr; subst hr; (first | refine caC (hf) rfl ?_ ?_ ?_ | refine caC (b2) rfl ?_ ?_ ?_ | refine awV ?_ ?_ | refine zR ?_ ?_ | (refine zf (fun h => ?_) (fun h => ?_) <;> (try simp only [go_sem, reduceCtorEq] at h) <;> (try (exfalso; omega))))))) <;> (try omega)
  all_goals exact rfl
 ·(repeat' (first | exact trivial | (with_reducible first | apply awA | apply awC | apply awD | apply awF) | (refine zn (id := 5) (t := (.node [0, 2, 1, 3, 4, 5, 6, 7, 8, 9, 10, 11, 12, 13, 14, 15, 16, 17, 18, 19, 20, 21, 22, 23] [])) (drR [6, 2, 3] [] []) zD (by kernel_rfl) (by kernel_rfl) (fun _ _ h => h) ?_) | (refine zx (by simp only [go_sem]; exact rfl) ?_) | (refine zA (by simp only [go_sem]; exact rfl) ?_) | refine ze ?_ | refine zl ?_ ?_ | exact zy | ((with_reducible first | apply awn | apply awo | apply awp | refine awQ ?_ | refine awR ?_); intro r hr; simp only [go_sem, Nat.reduceBEq, Nat.reduceLT, Nat.reduceLeDiff, Nat.reduceAdd, Nat.reduceMul, reduceCtorEq, e1] at hr; subst hr; (first | refine caC (hf) rfl ?_ ?_ ?_ | refine caC (b2) rfl ?_ ?_ ?_ | refine awV ?_ ?_ | refine zR ?_ ?_ | (refine zf (fun h => ?_) (fun h => ?_) <;> (try simp only [go_sem, reduceCtorEq] at h) <;> (try (exfalso; omega))))))) <;> (try omega)
  all_goals exact rfl
end
section
open Go.RowKit
abbrev cSt (s : StM) : List AV := [vI s.place, .v (.int .u64 s.kids), vI s.table, vI s.parts, vI s.free, vI s.left]
abbrev qF (x : InsM) : List AV := [vI x.op, vI x.a, vI x.b, vI x.c]
theorem zbF (s : StM) (x : InsM) (ha : 0 ≤ x.a ∧ x.a ≤ 64) (hb : 0 ≤ x.b ∧ x.b ≤ 64) : zN Try.prog 81 [vSt s, zcT x] (fun r => r = .tup [vEf (s.run x).1, vB (s.run x).2]) := by
 unfold StM.run
 dsimp only
 generalize hR : runN x.b.toNat x.a s (decide (s.place = 2)) = R
 have hb1 := yA R.1
 have hw := zg (n := x.a + x.b) (by omega)
 refine zB (za _) Try.func81 rfl rfl (by rw [Try.results81]) Try.ntmps81 rfl fun E => ?_
 (repeat' (first | exact trivial | (with_reducible first | apply awA | apply awB | apply awF) | ((with_reducible apply awn); intro r hr; simp only [go_sem, Nat.reduceBEq, Nat.reduceLT, Nat.reduceLeDiff, Nat.reduceAdd, Nat.reduceMul] at hr; subst hr; (first | refine awV ?_ ?_)))) <;> (try omega)
 refine zC [2, 3, 4, 5, 6, 7] [2, 3, 4] (fun q : Nat × Int × StM × Bool => ⟨[(2, true, .ptr 1 2 0 0), (3, true, .ptr 1 3 0 0), (4, true, .ptr 1 4 0 0), (5, true, vB false), (6, true, vB q.2.2.2), (7, true, vI q.2.1)],
  [(2, .var (cSt q.2.2.1)), (3, .var (qF x)), (4, .var (cSt .zero ++ cSt .zero))]⟩) (fun q => q.2.1 + q.1 = x.a + x.b ∧ 0 ≤ q.2.1 ∧ runN q.1 q.2.1 q.2.2.1 q.2.2.2 = R) (fun q => q.1) (x.b.toNat, x.a, s, decide (s.place = 2)) (by simp only [go_sem, Nat.reduceBEq] <;> exact rfl) ⟨by show x.a + (x.b.toNat : Int) = _; omega, ha.1, hR⟩ ?_
 clear hR
 intro ⟨m, k, s1, ok⟩ ⟨h1, h2, h3⟩
 simp only at h1 h2 h3 ⊢
 have hwk := zg (n := k + 1) (by omega)
 cases ok with
 | false =>
  have : (s1, false) = R := by rw [← h3]; cases m <;> rfl
  subst this
  (repeat' (first | exact trivial | (with_reducible first | apply awA | apply awD | apply awE | apply awF | apply awH | apply awK) | ((with_reducible first | apply awn | apply awo | refine awQ ?_ | refine awR ?_); intro r hr; simp only [go_sem, Nat.reduceBEq, Nat.reduceLT, Nat.reduceLeDiff, Nat.reduceAdd, Nat.reduceMul, reduceCtorEq, List.cons_append, List.nil_append, StM.zero] at hr; subst hr; (first | refine caC (hb1) rfl ?_ ?_ ?_ | refine awV ?_ ?_ | refine zR ?_ ?_ | (refine zf (fun h => ?_) (fun h => ?_) <;> (try simp only [go_sem, reduceCtorEq] at h) <;> (try (exfalso; omega))))))) <;> (try omega)
  all_goals exact rfl
 | true =>
  cases m with
  | zero =>
   have e1 : (k < x.a + x.b) = False := eq_false (by omega)
   subst h3
   (repeat' (first | exact trivial | (with_reducible first | apply awA | apply awD | apply awE | apply awF | apply awH | apply awK) | ((with_reducible first | apply awn | apply awo | refine awQ ?_ | refine awR ?_); intro r hr; simp only [go_sem, Nat.reduceBEq, Nat.reduceLT, Nat.reduceLeDiff, Nat.reduceAdd, Nat.reduceMul, reduceCtorEq, hw, e1, List.cons_append, List.nil_append, StM.zero] at hr; subst hr; (first | refine caC (hb1) rfl ?_ ?_ ?_ | refine awV ?_ ?_ | refine zR ?_ ?_ | (refine zf (fun h => ?_) (fun h => ?_) <;> (try simp only [go_sem, reduceCtorEq] at h) <;> (try (exfalso; omega))))))) <;> (try omega)
   all_goals exact rfl
  | succ m =>
   have e1 : (k < x.a + x.b) = True := eq_true (by omega)
   have hf := ZJ s1 k
   unfold runN at h3
   rw [if_pos rfl] at h3
   generalize s1.fill k = q at hf h3
   obtain ⟨f, ok⟩ := q
   simp only at hf h3
   (repeat' (first | exact trivial | (with_reducible first | apply awA | apply awB | apply awC | apply awF | apply awI) | ((with_reducible first | apply awn | apply awo | refine awQ ?_); intro r hr; simp only [go_sem, Nat.reduceBEq, Nat.reduceLT, Nat.reduceLeDiff, Nat.reduceAdd, Nat.reduceMul, reduceCtorEq, hw, hwk, e1] at hr; subst hr; (first | refine caC (hf) rfl ?_ ?_ ?_ | refine awV ?_ ?_ | (refine zf (fun h => ?_) (fun h => ?_) <;> (try simp only [go_sem, reduceCtorEq] at h) <;> (try (exfalso; omega))))))) <;> (try omega)
   refine ⟨(m, k + 1, f, ok), ?_, ⟨by show k + 1 + m = _; omega, by show 0 ≤ k + 1; omega, h3⟩, Nat.lt_succ_self m⟩
   simp only [go_sem, Nat.reduceBEq]
theorem VF (s : StM) (x : InsM) : zN Try.prog 86 [vSt s, zcT x] (fun r => r = .tup [vEf (s.rounds x).1, vB (s.rounds x).2]) := by
 have hs := xI s
 have w2 := q8 s.still 2
 have w3 := q8 s.still 3
 have w4 := q8 s.still 4
 have hb := yA s.still
 unfold StM.rounds
 dsimp only
 by_cases h1 : x.op = 11
 ·have e1 : (x.op = 11) = True := eq_true h1
  rw [if_pos h1]
  refine zB (za _) Try.func86 rfl rfl (by rw [Try.results86]) Try.ntmps86 rfl fun E => ?_
  (repeat' (first | exact trivial | (with_reducible first | apply awA | apply awB | apply awD | apply awF | apply awG | apply awJ) | (refine zn (id := 1) (t := (.node [0, 1, 2, 3, 4, 5, 6, 7] [])) (drR [2] [] []) zD (by kernel_rfl) (by kernel_rfl) (fun _ _ h => h) ?_) | (refine zn (id := 7) (t := (.node [0, 1, 2, 3, 4, 5, 6, 7, 8, 9, 10] [])) (drR [8, 2] [] []) zD (by kernel_rfl) (by kernel_rfl) (fun _ _ h => h) ?_) | (refine zx (by simp only [go_sem]; exact rfl) ?_) | (refine zA (by simp only [go_sem]; exact rfl) ?_) | refine ze ?_ | refine zl ?_ ?_ | exact zy | ((with_reducible first | apply awn | apply awo | apply awp | refine awQ ?_ | refine awR ?_); intro r hr; simp only [go_sem, Nat.reduceBEq, Nat.reduceLT, Nat.reduceLeDiff, Nat.reduceAdd, Nat.reduceMul, reduceCtorEq, e1] at hr; subst hr; (first | refine caC (hs) rfl ?_ ?_ ?_ | refine awV ?_ ?_ | refine zR ?_ ?_ | (refine zf (fun h => ?_) (fun h => ?_) <;> (try simp only [go_sem, reduceCtorEq] at h) <;> (try (exfalso; omega))))))) <;> (try omega)
  all_goals exact rfl
 have e1 : (x.op = 11) = False := eq_false h1
 rw [if_neg h1]
 by_cases h2 : x.op = 12
 ·have e2 : (x.op = 12) = True := eq_true h2
  rw [if_pos h2]
  refine zB (za _) Try.func86 rfl rfl (by rw [Try.results86]) Try.ntmps86 rfl fun E => ?_
  (repeat' (first | exact trivial | (with_reducible first | apply awA | apply awB | apply awD | apply awF | apply awG | apply awJ) | (refine zn (id := 1) (t := (.node [0, 1, 2, 3, 4, 5, 6, 7] [])) (drR [2] [] []) zD (by kernel_rfl) (by kernel_rfl) (fun _ _ h => h) ?_) | (refine zn (id := 9) (t := (.node [0, 1, 4, 2, 3, 5, 6, 7, 8, 9] [])) (drR [2] [] []) zD (by kernel_rfl) (by kernel_rfl) (fun _ _ h => h) ?_) | (refine zx (by simp only [go_sem]; exact rfl) ?_) | (refine zA (by simp only [go_sem]; exact rfl) ?_) | refine ze ?_ | refine zl ?_ ?_ | exact zy | ((with_reducible first | apply awn | apply awo | apply awp | refine awQ ?_ | refine awR ?_); intro r hr; simp only [go_sem, Nat.reduceBEq, Nat.reduceLT, Nat.reduceLeDiff, Nat.reduceAdd, Nat.reduceMul, e1, e2] at hr; subst hr; (first | refine caC (hs) rfl ?_ ?_ ?_ | refine caC (w3) rfl ?_ ?_ ?_ | refine awV ?_ ?_ | refine zR ?_ ?_ | (refine zf (fun h => ?_) (fun h => ?_) <;> (try simp only [go_sem, reduceCtorEq] at h) <;> (try (exfalso; omega))))))) <;> (try omega)
  all_goals exact rfl
 have e2 : (x.op = 12) = False := eq_false h2
 rw [if_neg h2]
 by_cases h3 : x.op = 13
 ·have e3 : (x.op = 13) = True := eq_true h3
  rw [if_pos h3]
  refine zB (za _) Try.func86 rfl rfl (by rw [Try.results86]) Try.ntmps86 rfl fun E => ?_
  (repeat' (first | exact trivial | (with_reducible first | apply awA | apply awB | apply awD | apply awF | apply awG | apply awJ) | (refine zn (id := 1) (t := (.node [0, 1, 2, 3, 4, 5, 6, 7] [])) (drR [2] [] []) zD (by kernel_rfl) (by kernel_rfl) (fun _ _ h => h) ?_) | (refine zn (id := 11) (t := (.node [0, 2, 4, 1, 3, 5, 6] [])) (drR [2] [] []) zD (by kernel_rfl) (by kernel_rfl) (fun _ _ h => h) ?_) | (refine zx (by simp only [go_sem]; exact rfl) ?_) | (refine zA (by simp only [go_sem]; exact rfl) ?_) | refine ze ?_ | refine zl ?_ ?_ | exact zy | ((with_reducible first | apply awn | apply awo | apply awp | refine awQ ?_ | refine awR ?_); intro r hr; simp only [go_sem, Nat.reduceBEq, Nat.reduceLT, Nat.reduceLeDiff, Nat.reduceAdd, Nat.reduceMul, e1, e2, e3] at hr; subst hr; (first | refine caC (hs) rfl ?_ ?_ ?_ | refine caC (w2) rfl ?_ ?_ ?_ | refine awV ?_ ?_ | refine zR ?_ ?_ | (refine zf (fun h => ?_) (fun h => ?_) <;> (try simp only [go_sem, reduceCtorEq] at h) <;> (try (exfalso; omega))))))) <;> (try omega)
  all_goals exact rfl
 have e3 : (x.op = 13) = False := eq_false h3
 rw [if_neg h3]
 by_cases h4 : x.op = 14
 ·have e4 : (x.op = 14) = True := eq_true h4
  rw [if_pos h4]
  refine zB (za _) Try.func86 rfl rfl (by rw [Try.results86]) Try.ntmps86 rfl fun E => ?_
  (repeat' (first | exact trivial | (with_reducible first | apply awA | apply awB | apply awD | apply awF | apply awG | apply awJ) | (refine zn (id := 1) (t := (.node [0, 1, 2, 3, 4, 5, 6, 7] [])) (drR [2] [] []) zD (by kernel_rfl) (by kernel_rfl) (fun _ _ h => h) ?_) | (refine zn (id := 13) (t := (.node [0, 1, 4, 2, 3, 5, 6] [])) (drR [2] [] []) zD (by kernel_rfl) (by kernel_rfl) (fun _ _ h => h) ?_) | (refine zx (by simp only [go_sem]; exact rfl) ?_) | (refine zA (by simp only [go_sem]; exact rfl) ?_) | refine ze ?_ | refine zl ?_ ?_ | exact zy | ((with_reducible first | apply awn | apply awo | apply awp | refine awQ ?_ | refine awR ?_); intro r hr; simp only [go_sem, Nat.reduceBEq, Nat.reduceLT, Nat.reduceLeDiff, Nat.reduceAdd, Nat.reduceMul, e1, e2, e3, e4] at hr; subst hr; (first | refine caC (hs) rfl ?_ ?_ ?_ | refine caC (w2) rfl ?_ ?_ ?_ | refine awV ?_ ?_ | refine zR ?_ ?_ | (refine zf (fun h => ?_) (fun h => ?_) <;> (try simp only [go_sem, reduceCtorEq] at h) <;> (try (exfalso; omega))))))) <;> (try omega)
  all_goals exact rfl
 have e4 : (x.op = 14) = False := eq_false h4
 rw [if_neg h4]
 by_cases h5 : x.op = 15
 ·have e5 : (x.op = 15) = True := eq_true h5
  rw [if_pos h5]
  refine zB (za _) Try.func86 rfl rfl (by rw [Try.results86]) Try.ntmps86 rfl fun E => ?_
  (repeat' (first | exact trivial | (with_reducible first | apply awA | apply awB | apply awD | apply awF | apply awG | apply awJ) | (refine zn (id := 1) (t := (.node [0, 1, 2, 3, 4, 5, 6, 7] [])) (drR [2] [] []) zD (by kernel_rfl) (by kernel_rfl) (fun _ _ h => h) ?_) | (refine zn (id := 15) (t := (.node [0, 1, 4, 2, 3, 5, 6, 7, 8, 9] [])) (drR [2] [] []) zD (by kernel_rfl) (by kernel_rfl) (fun _ _ h => h) ?_) | (refine zx (by simp only [go_sem]; exact rfl) ?_) | (refine zA (by simp only [go_sem]; exact rfl) ?_) | refine ze ?_ | refine zl ?_ ?_ | exact zy | ((with_reducible first | apply awn | apply awo | apply awp | refine awQ ?_ | refine awR ?_); intro r hr; simp only [go_sem, Nat.reduceBEq, Nat.reduceLT, Nat.reduceLeDiff, Nat.reduceAdd, Nat.reduceMul, e1, e2, e3, e4, e5] at hr; subst hr; (first | refine caC (hs) rfl ?_ ?_ ?_ | refine caC (w4) rfl ?_ ?_ ?_ | refine awV ?_ ?_ | refine zR ?_ ?_ | (refine zf (fun h => ?_) (fun h => ?_) <;> (try simp only [go_sem, reduceCtorEq] at h) <;> (try (exfalso; omega))))))) <;> (try omega)
  all_goals exact rfl
 have e5 : (x.op = 15) = False := eq_false h5
 rw [if_neg h5]
 refine zB (za _) Try.func86 rfl rfl (by rw [Try.results86]) Try.ntmps86 rfl fun E => ?_
 (repeat' (first | exact trivial | (with_reducible first | apply awA | apply awB | apply awC | apply awD | apply awF | apply awI) | (refine zn (id := 1) (t := (.node [0, 1, 2, 3, 4, 5, 6, 7] [])) (drR [2] [] []) zD (by kernel_rfl) (by kernel_rfl) (fun _ _ h => h) ?_) | (refine zn (id := 16) (t := (.node [0, 2, 3, 4, 1, 5, 6, 7, 8, 9, 10, 11, 12, 13, 14, 15, 16, 17, 18, 19, 20, 21, 22, 23, 24, 25, 26, 27, 28, 29] [])) (drR [2, 3] [] []) zD (by kernel_rfl) (by kernel_rfl) (fun _ _ h => h) ?_) | (refine zx (by simp only [go_sem]; exact rfl) ?_) | (refine zA (by simp only [go_sem]; exact rfl) ?_) | refine ze ?_ | refine zl ?_ ?_ | exact zy | ((with_reducible first | apply awn | apply awo | apply awp | refine awQ ?_ | refine awR ?_); intro r hr; simp only [go_sem, Nat.reduceBEq, Nat.reduceLT, Nat.reduceLeDiff, Nat.reduceAdd, Nat.reduceMul, reduceCtorEq, e1, e2, e3, e4, e5] at hr; subst hr; (first | refine caC (hs) rfl ?_ ?_ ?_ | refine caC (hb) rfl ?_ ?_ ?_ | refine awV ?_ ?_ | refine zR ?_ ?_ | (refine zf (fun h => ?_) (fun h => ?_) <;> (try simp only [go_sem, reduceCtorEq] at h) <;> (try (exfalso; omega))))))) <;> (try omega)
 all_goals exact rfl
end
section
open Go.RowKit
theorem XH (s : StM) (x : InsM) (t : Int) (hx : x.op = 2 → (0 ≤ x.a ∧ x.a ≤ 64) ∧ 0 ≤ x.b ∧ x.b ≤ 64) : zN Try.prog 72 [vSt s, zcT x, vI t] (fun r => r = .tup [vEf (Kv s x t).1, vB (Kv s x t).2]) := by
 obtain ⟨op, a, b, c⟩ := x
 unfold Kv
 dsimp only at hx ⊢
 have no : ((7 : Nat) + 0 = 7) = True := eq_true rfl
 by_cases hA : (op = 1 ∨ op = 3 ∨ op = 4) ∨ op = 16 ∧ ¬ t ≤ c
 ·have hf := ZJ s a
  generalize s.fill a = q at hf ⊢
  obtain ⟨f, ok⟩ := q
  have hb := yA f
  dsimp only
  have hA : (op = 1 ∧ ((7 : Nat) + 0 = 7) = True) ∨ (op = 3 ∧ ((7 : Nat) + 0 = 7) = True) ∨ (op = 4 ∧ ((7 : Nat) + 0 = 7) = True) ∨ (op = 16 ∧ (t ≤ c) = False) := by
   rcases hA with (h | h | h) | ⟨h, hc⟩
   ·exact .inl ⟨h, no⟩
   ·exact .inr (.inl ⟨h, no⟩)
   ·exact .inr (.inr (.inl ⟨h, no⟩))
   ·exact .inr (.inr (.inr ⟨h, eq_false hc⟩))
  rcases hA with ⟨rfl, ec⟩ | ⟨rfl, ec⟩ | ⟨rfl, ec⟩ | ⟨rfl, ec⟩
  all_goals
   simp only [ec, Int.reduceEq, or_false, or_true, or_self, if_true, if_false]
   refine zB (za _) Try.func72 rfl rfl (by rw [Try.results72]) Try.ntmps72 rfl fun E => ?_
  all_goals (repeat' (first | exact trivial | (with_reducible first | apply awA | apply awB | apply awC | apply awD | apply awE | apply awF | apply awG | apply awH | apply awI | apply awJ | apply awK | refine awM (by decide) ?_) | ((with_reducible first | apply awn | apply awo | refine awQ ?_ | refine awR ?_); intro r hr; simp only [go_sem, Nat.reduceBEq, Nat.reduceLT, Nat.reduceLeDiff, Nat.reduceAdd, Nat.reduceMul, ec, Int.reduceEq] at hr; subst hr; (first | refine caC (hf) rfl ?_ ?_ ?_ | refine caC (hb) rfl ?_ ?_ ?_ | refine awV ?_ ?_ | refine zR ?_ ?_ | (refine zf (fun h => ?_) (fun h => ?_) <;> (try simp only [go_sem, reduceCtorEq] at h) <;> (try (exfalso; omega))))))) <;> (try omega)
  all_goals exact rfl
 by_cases hC : (op = 16 ∨ op = 17) ∧ t ≤ c
 ·have ec : (t ≤ c) = True := eq_true hC.2
  rcases hC.1 with rfl | rfl
  all_goals
   simp only [ec, Int.reduceEq, or_self, if_true, if_false]
   refine zB (za _) Try.func72 rfl rfl (by rw [Try.results72]) Try.ntmps72 rfl fun E => ?_
  all_goals (repeat' (first | exact trivial | (with_reducible first | apply awA | apply awB | apply awC | apply awD | apply awE | apply awF | apply awG | apply awH | apply awJ | apply awK | refine awM (by decide) ?_) | ((with_reducible first | apply awn | refine awQ ?_ | refine awR ?_); intro r hr; simp only [go_sem, Nat.reduceBEq, Nat.reduceLT, Nat.reduceLeDiff, Nat.reduceAdd, Nat.reduceMul, ec, Int.reduceEq] at hr; subst hr; (first | refine awV ?_ ?_ | refine zR ?_ ?_ | (refine zf (fun h => ?_) (fun h => ?_) <;> (try simp only [go_sem, reduceCtorEq] at h) <;> (try (exfalso; omega))))))) <;> (try omega)
  all_goals exact rfl
 by_cases hB : (op = 2 ∨ op = 10 ∨ op = 11 ∨ op = 12 ∨ op = 13 ∨ op = 14 ∨ op = 15 ∨ op = 18 ∨ op = 20) ∨ op = 17
 ·have ho := VE s a
  have hv := WN s
  have hp := JM s ⟨17, a, b, c⟩
  have hB : (t ≤ c) = False ∧ op = 17 ∨ ((7 : Nat) + 0 = 7) = True ∧ (op = 2 ∨ op = 10 ∨ op = 11 ∨ op = 12 ∨ op = 13 ∨ op = 14 ∨ op = 15 ∨ op = 18 ∨ op = 20) := by
   rcases hB with h | h
   ·exact .inr ⟨no, h⟩
   ·exact .inl ⟨eq_false fun g => hC ⟨.inr h, g⟩, h⟩
  rcases hB with ⟨ec, rfl⟩ | ⟨ec, rfl | rfl | rfl | rfl | rfl | rfl | rfl | rfl | rfl⟩
  all_goals
   simp only [ec, Int.reduceEq, or_false, or_true, or_self, if_true, if_false]
   refine zB (za _) Try.func72 rfl rfl (by rw [Try.results72]) Try.ntmps72 rfl fun E => ?_
  all_goals (repeat' (first | exact trivial | (with_reducible first | apply awA | apply awB | apply awC | apply awD | apply awE | apply awF | apply awG | apply awH | apply awJ | apply awK | refine awM (by decide) ?_) | ((with_reducible first | apply awn | apply awo | refine awQ ?_ | refine awR ?_); intro r hr; simp only [go_sem, Nat.reduceBEq, Nat.reduceLT, Nat.reduceLeDiff, Nat.reduceAdd, Nat.reduceMul, ec, Int.reduceEq] at hr; subst hr; (first | refine caC (hp) rfl ?_ ?_ ?_ | refine caC (zbF s ⟨2, a, b, c⟩ (hx rfl).1 (hx rfl).2) rfl ?_ ?_ ?_ | refine caC (ho) rfl ?_ ?_ ?_ | refine caC (VF s ⟨_, a, b, c⟩) rfl ?_ ?_ ?_ | refine caC (hv) rfl ?_ ?_ ?_ | refine awV ?_ ?_ | refine zR ?_ ?_ | (refine zf (fun h => ?_) (fun h => ?_) <;> (try simp only [go_sem, reduceCtorEq] at h) <;> (try (exfalso; omega))))))) <;> (try omega)
  all_goals exact rfl
 by_cases hE : op = 5 ∨ op = 6 ∨ op = 7 ∨ op = 8 ∨ op = 19
 ·have a1 := YE s 1
  have a2 := YE s 2
  have a3 := YE s 3
  have a4 := YE s 4
  have wi := q8 (s.at_ 1) 1
  have b5 := yA ((s.at_ 1).wth 1)
  have b6 := yA (s.at_ 2)
  have b8 := yA (s.at_ 3)
  have b9 := yA s
  rcases hE with rfl | rfl | rfl | rfl | rfl
  all_goals
   simp only [Int.reduceEq, or_self, if_true, if_false]
   refine zB (za _) Try.func72 rfl rfl (by rw [Try.results72]) Try.ntmps72 rfl fun E => ?_
  all_goals (repeat' (first | exact trivial | (with_reducible first | apply awA | apply awB | apply awC | apply awD | apply awE | apply awF | apply awG | apply awH | apply awJ | apply awK | refine awM (by decide) ?_) | (refine zn (id := 29) (t := (.node [0, 2, 5, 1, 3, 4, 6, 7] [])) (drR [3] [] []) zD (by kernel_rfl) (by kernel_rfl) (fun _ _ h => h) ?_) | (refine zx (by simp only [go_sem]; exact rfl) ?_) | (refine zA (by simp only [go_sem]; exact rfl) ?_) | refine ze ?_ | refine zl ?_ ?_ | exact zy | ((with_reducible first | apply awn | apply awo | apply awp | refine awQ ?_ | refine awR ?_); intro r hr; simp only [go_sem, Nat.reduceBEq, Nat.reduceLT, Nat.reduceLeDiff, Nat.reduceAdd, Nat.reduceMul, Int.reduceEq] at hr; subst hr; (first | refine caC (a1) rfl ?_ ?_ ?_ | refine caC (a2) rfl ?_ ?_ ?_ | refine caC (a3) rfl ?_ ?_ ?_ | refine caC (a4) rfl ?_ ?_ ?_ | refine caC (wi) rfl ?_ ?_ ?_ | refine caC (b5) rfl ?_ ?_ ?_ | refine caC (b6) rfl ?_ ?_ ?_ | refine caC (b8) rfl ?_ ?_ ?_ | refine caC (b9) rfl ?_ ?_ ?_ | refine awV ?_ ?_ | refine zR ?_ ?_ | (refine zf (fun h => ?_) (fun h => ?_) <;> (try simp only [go_sem, reduceCtorEq] at h) <;> (try (exfalso; omega))))))) <;> (try omega)
  all_goals exact rfl
 have key : ∀ k : Int, k = 16 ∨ k = 1 ∨ k = 3 ∨ k = 4 ∨ k = 2 ∨ k = 5 ∨ k = 6 ∨ k = 7 ∨ k = 8 ∨ k = 10 ∨ k = 17 ∨ k = 11 ∨ k = 12 ∨ k = 13 ∨ k = 14 ∨ k = 15 ∨ k = 18 ∨ k = 19 ∨ k = 20 → (op = k) = False := fun k hk => eq_false fun h => by omega
 have e16 := key 16 (by decide)
 have e1 := key 1 (by decide)
 have e3 := key 3 (by decide)
 have e4 := key 4 (by decide)
 have e2 := key 2 (by decide)
 have e5 := key 5 (by decide)
 have e6 := key 6 (by decide)
 have e7 := key 7 (by decide)
 have e8 := key 8 (by decide)
 have e10 := key 10 (by decide)
 have e17 := key 17 (by decide)
 have e11 := key 11 (by decide)
 have e12 := key 12 (by decide)
 have e13 := key 13 (by decide)
 have e14 := key 14 (by decide)
 have e15 := key 15 (by decide)
 have e18 := key 18 (by decide)
 have e19 := key 19 (by decide)
 have e20 := key 20 (by decide)
 clear key hA hB hC hE
 simp only [e16, e1, e3, e4, e2, e5, e6, e7, e8, e10, e17, e11, e12, e13, e14, e15, e18, e19, e20, or_self, if_false]
 refine zB (za _) Try.func72 rfl rfl (by rw [Try.results72]) Try.ntmps72 rfl fun E => ?_
 (repeat' (first | exact trivial | (with_reducible first | apply awA | apply awB | apply awC | apply awD | apply awE | apply awF | apply awH | apply awK | refine awM (by decide) ?_) | ((with_reducible first | apply awn | refine awQ ?_ | refine awR ?_); intro r hr; simp only [go_sem, Nat.reduceBEq, Nat.reduceLT, Nat.reduceLeDiff, Nat.reduceAdd, Nat.reduceMul, e16, e1, e3, e4, e2, e5, e6, e7, e8, e10, e17, e11, e12, e13, e14, e15, e18, e19, e20] at hr; subst hr; (first | refine awV ?_ ?_ | refine zR ?_ ?_ | (refine zf (fun h => ?_) (fun h => ?_) <;> (try simp only [go_sem, reduceCtorEq] at h) <;> (try (exfalso; omega))))))) <;> (try omega)
 all_goals exact rfl
end
section
open Go.RowKit
theorem XI (s : StM) (x : InsM) (t : Int) : zN Try.prog 71 [vSt s, zcT x, vI t] (fun r => r = .tup [vEf (Q6 s x t).1, vB (Q6 s x t).2]) := by
 obtain ⟨op, a, b, c⟩ := x
 unfold Q6
 dsimp only
 have no : ((7 : Nat) + 0 = 7) = True := eq_true rfl
 by_cases hC : (op = 44 ∨ op = 45 ∨ op = 46) ∧ t ≤ c
 ·have ec : (t ≤ c) = True := eq_true hC.2
  rcases hC.1 with rfl | rfl | rfl
  all_goals
   simp only [ec, Int.reduceEq, or_false, false_or, or_true, or_self, false_and, if_true, if_false]
   refine zB (za _) Try.func71 rfl rfl (by rw [Try.results71]) Try.ntmps71 rfl fun E => ?_
  all_goals (repeat' (first | exact trivial | (with_reducible first | apply awA | apply awB | apply awC | apply awD | apply awE | apply awF | apply awG | apply awH | apply awJ | apply awK) | ((with_reducible first | apply awn | refine awQ ?_ | refine awR ?_); intro r hr; simp only [go_sem, Nat.reduceBEq, Nat.reduceLT, Nat.reduceLeDiff, Nat.reduceAdd, Nat.reduceMul, ec, Int.reduceEq] at hr; subst hr; (first | refine awV ?_ ?_ | refine zR ?_ ?_ | (refine zf (fun h => ?_) (fun h => ?_) <;> (try simp only [go_sem, reduceCtorEq] at h) <;> (try (exfalso; omega))))))) <;> (try omega)
  all_goals exact rfl
 by_cases hT : (op = 44 ∨ op = 45 ∨ op = 46) ∨ op = 33 ∨ op = 35 ∨ op = 36
 ·have h1 := WM s 1
  generalize s.take 1 = q at h1 ⊢
  obtain ⟨f1, o1⟩ := q
  have h2 := JL s
  generalize s.turn = q at h2 ⊢
  obtain ⟨f2, o2⟩ := q
  have b1 := yA f1
  have b2 := yA f2
  dsimp only
  have hT : ((t ≤ c) = False ∧ ((s.place = 7) = True ∨ (s.place = 7) = False) ∧ (op = 44 ∨ op = 45 ∨ op = 46)) ∨ ((a = -1) = True ∨ (a = -1) = False) ∧ ((7 : Nat) + 0 = 7) = True ∧ (op = 33 ∨ op = 35 ∨ op = 36) := by
   rcases hT with h | h
   ·refine .inl ⟨eq_false fun g => hC ⟨h, g⟩, ?_, h⟩
    by_cases g : s.place = 7
    ·exact .inl (eq_true g)
    ·exact .inr (eq_false g)
   ·refine .inr ⟨?_, no, h⟩
    by_cases g : a = -1
    ·exact .inl (eq_true g)
    ·exact .inr (eq_false g)
  rcases hT with ⟨ec, e7 | e7, rfl | rfl | rfl⟩ | ⟨ec | ec, e7, rfl | rfl | rfl⟩
  all_goals
   simp only [ec, e7, and_true, Int.reduceEq, or_false, or_true, or_self, false_and, and_false, if_true, if_false]
   refine zB (za _) Try.func71 rfl rfl (by rw [Try.results71]) Try.ntmps71 rfl fun E => ?_
  all_goals (repeat' (first | exact trivial | (with_reducible first | apply awA | apply awB | apply awC | apply awD | apply awE | apply awF | apply awG | apply awH | apply awI | apply awJ | apply awK | refine awM (by decide) ?_) | ((with_reducible first | apply awn | apply awo | refine awQ ?_ | refine awR ?_); intro r hr; simp only [go_sem, Nat.reduceBEq, Nat.reduceLT, Nat.reduceLeDiff, Nat.reduceAdd, Nat.reduceMul, reduceCtorEq, ec, e7, Int.reduceEq] at hr; subst hr; (first | refine caC (h1) rfl ?_ ?_ ?_ | refine caC (h2) rfl ?_ ?_ ?_ | refine caC (b1) rfl ?_ ?_ ?_ | refine caC (b2) rfl ?_ ?_ ?_ | refine awV ?_ ?_ | refine zR ?_ ?_ | (refine zf (fun h => ?_) (fun h => ?_) <;> (try simp only [go_sem, reduceCtorEq] at h) <;> (try (exfalso; omega))))))) <;> (try omega)
  all_goals exact rfl
 by_cases h34 : op = 34
 ·subst h34
  have h1 := WM s b
  generalize s.take b = q at h1 ⊢
  obtain ⟨f1, o1⟩ := q
  have b1 := yA f1
  dsimp only
  all_goals
   simp only [Int.reduceEq, or_self, false_and, if_true, if_false]
   refine zB (za _) Try.func71 rfl rfl (by rw [Try.results71]) Try.ntmps71 rfl fun E => ?_
  all_goals (repeat' (first | exact trivial | (with_reducible first | apply awA | apply awB | apply awC | apply awD | apply awE | apply awF | apply awG | apply awH | apply awJ | apply awK | refine awM (by decide) ?_) | (refine zn (id := 29) (t := (.node [0, 2, 1, 3, 4, 5, 6, 7, 8, 9] [])) (drR [12, 3] [] []) zD (by kernel_rfl) (by kernel_rfl) (fun _ _ h => h) ?_) | (refine zx (by simp only [go_sem]; exact rfl) ?_) | (refine zA (by simp only [go_sem]; exact rfl) ?_) | refine ze ?_ | refine zl ?_ ?_ | exact zy | ((with_reducible first | apply awn | apply awo | apply awp | refine awQ ?_ | refine awR ?_); intro r hr; simp only [go_sem, Nat.reduceBEq, Nat.reduceLT, Nat.reduceLeDiff, Nat.reduceAdd, Nat.reduceMul, reduceCtorEq, Int.reduceEq] at hr; subst hr; (first | refine caC (h1) rfl ?_ ?_ ?_ | refine caC (b1) rfl ?_ ?_ ?_ | refine awV ?_ ?_ | refine zR ?_ ?_ | (refine zf (fun h => ?_) (fun h => ?_) <;> (try simp only [go_sem, reduceCtorEq] at h) <;> (try (exfalso; omega))))))) <;> (try omega)
  all_goals exact rfl
 by_cases hB : op = 37 ∨ op = 38 ∨ op = 39 ∨ op = 40 ∨ op = 41 ∨ op = 42 ∨ op = 43 ∨ op = 47 ∨ op = 19
 ·have b1 := yA ⟨7, 0, 0, 0, 2, 0⟩
  have b2 := yA ⟨7, 0, 0, 0, 0, 0⟩
  have b3 := yA ⟨6, 0, 0, 0, 0, a⟩
  have b4 := yA ⟨6, 0, 0, 0, 0, 1⟩
  have b5 := yA s
  rcases hB with rfl | rfl | rfl | rfl | rfl | rfl | rfl | rfl | rfl
  all_goals
   simp only [Int.reduceEq, or_self, false_and, if_true, if_false]
   refine zB (za _) Try.func71 rfl rfl (by rw [Try.results71]) Try.ntmps71 rfl fun E => ?_
  all_goals (repeat' (first | exact trivial | (with_reducible first | apply awA | apply awB | apply awC | apply awD | apply awE | apply awF | apply awG | apply awH | apply awJ | apply awK | refine awM (by decide) ?_) | (refine zn (id := 35) (t := (.node [0, 2, 3, 4, 1, 5, 6, 7, 8, 9, 10, 11, 12, 13, 14, 15] [])) (drR [3] [] []) zD (by kernel_rfl) (by kernel_rfl) (fun _ _ h => h) ?_) | (refine zn (id := 36) (t := (.node [0, 2, 3, 4, 1, 5, 6, 7, 8, 9, 10, 11, 12, 13, 14, 15, 16, 17, 18, 19, 20, 21, 22, 23] [])) (drR [3] [] []) zD (by kernel_rfl) (by kernel_rfl) (fun _ _ h => h) ?_) | (refine zn (id := 37) (t := (.node [0, 1, 2, 3, 4, 5, 6, 7] [])) (drR [3] [] []) zD (by kernel_rfl) (by kernel_rfl) (fun _ _ h => h) ?_) | (refine zx (by simp only [go_sem]; exact rfl) ?_) | (refine zA (by simp only [go_sem]; exact rfl) ?_) | refine ze ?_ | refine zl ?_ ?_ | exact zy | ((with_reducible first | apply awn | apply awo | apply awp | refine awQ ?_ | refine awR ?_); intro r hr; simp only [go_sem, Nat.reduceBEq, Nat.reduceLT, Nat.reduceLeDiff, Nat.reduceAdd, Nat.reduceMul, Int.reduceEq] at hr; subst hr; (first | refine caC (b1) rfl ?_ ?_ ?_ | refine caC (b2) rfl ?_ ?_ ?_ | refine caC (b3) rfl ?_ ?_ ?_ | refine caC (b4) rfl ?_ ?_ ?_ | refine caC (b5) rfl ?_ ?_ ?_ | refine awV ?_ ?_ | refine zR ?_ ?_ | (refine zf (fun h => ?_) (fun h => ?_) <;> (try simp only [go_sem, reduceCtorEq] at h) <;> (try (exfalso; omega))))))) <;> (try omega)
  all_goals exact rfl
 by_cases h20 : op = 20
 ·subst h20
  have hv := WN s
  by_cases h6 : s.place = 6
  ·have e6 : (s.place = 6) = True := eq_true h6
   rw [decide_eq_true h6, Bool.true_and]
   all_goals
    simp only [Int.reduceEq, or_self, false_and, if_true, if_false]
    refine zB (za _) Try.func71 rfl rfl (by rw [Try.results71]) Try.ntmps71 rfl fun E => ?_
   all_goals (repeat' (first | exact trivial | (with_reducible first | apply awA | apply awB | apply awC | apply awD | apply awE | apply awF | apply awG | apply awH | apply awJ | apply awK | refine awM (by decide) ?_) | ((with_reducible first | apply awn | apply awo | refine awQ ?_ | refine awR ?_); intro r hr; simp only [go_sem, Nat.reduceBEq, Nat.reduceLT, Nat.reduceLeDiff, Nat.reduceAdd, Nat.reduceMul, reduceCtorEq, e6, Int.reduceEq] at hr; subst hr; (first | refine caA (fun _ => hv) rfl ?_ ?_ ?_ | refine awV ?_ ?_ | refine zR ?_ ?_ | (refine zf (fun h => ?_) (fun h => ?_) <;> (try simp only [go_sem, reduceCtorEq] at h) <;> (try (exfalso; omega))))))) <;> (try omega)
   all_goals exact rfl
  ·have e6 : (s.place = 6) = False := eq_false h6
   rw [decide_eq_false h6, Bool.false_and]
   all_goals
    simp only [Int.reduceEq, or_self, false_and, if_true, if_false]
    refine zB (za _) Try.func71 rfl rfl (by rw [Try.results71]) Try.ntmps71 rfl fun E => ?_
   all_goals (repeat' (first | exact trivial | (with_reducible first | apply awA | apply awB | apply awC | apply awD | apply awE | apply awF | apply awG | apply awH | apply awJ | apply awK | refine awM (by decide) ?_) | ((with_reducible first | apply awn | apply awo | refine awQ ?_ | refine awR ?_); intro r hr; simp only [go_sem, Nat.reduceBEq, Nat.reduceLT, Nat.reduceLeDiff, Nat.reduceAdd, Nat.reduceMul, reduceCtorEq, e6, Int.reduceEq] at hr; subst hr; (first | refine awV ?_ ?_ | refine awW ?_ ?_ | refine zR ?_ ?_ | (refine zf (fun h => ?_) (fun h => ?_) <;> (try simp only [go_sem, reduceCtorEq] at h) <;> (try (exfalso; omega))))) | (refine yW (vB true) rfl rfl ⟨by decide, by decide⟩ ?_))) <;> (try omega)
   all_goals exact rfl
 have key : ∀ k : Int, k = 44 ∨ k = 45 ∨ k = 46 ∨ k = 33 ∨ k = 35 ∨ k = 36 ∨ k = 34 ∨ k = 37 ∨ k = 38 ∨ k = 39 ∨ k = 40 ∨ k = 41 ∨ k = 42 ∨ k = 43 ∨ k = 47 ∨ k = 19 ∨ k = 20 → (op = k) = False := fun k hk => eq_false fun h => by omega
 have e44 := key 44 (by decide)
 have e45 := key 45 (by decide)
 have e46 := key 46 (by decide)
 have e33 := key 33 (by decide)
 have e35 := key 35 (by decide)
 have e36 := key 36 (by decide)
 have e34 := key 34 (by decide)
 have e37 := key 37 (by decide)
 have e38 := key 38 (by decide)
 have e39 := key 39 (by decide)
 have e40 := key 40 (by decide)
 have e41 := key 41 (by decide)
 have e42 := key 42 (by decide)
 have e43 := key 43 (by decide)
 have e47 := key 47 (by decide)
 have e19 := key 19 (by decide)
 have e20 := key 20 (by decide)
 clear key hC hT hB
 simp only [e44, e45, e46, e33, e35, e36, e34, e37, e38, e39, e40, e41, e42, e43, e47, e19, e20, or_self, if_false]
 refine zB (za _) Try.func71 rfl rfl (by rw [Try.results71]) Try.ntmps71 rfl fun E => ?_
 (repeat' (first | exact trivial | (with_reducible first | apply awA | apply awB | apply awC | apply awD | apply awE | apply awF | apply awH | apply awK | refine awM (by decide) ?_) | ((with_reducible first | apply awn | refine awQ ?_ | refine awR ?_); intro r hr; simp only [go_sem, Nat.reduceBEq, Nat.reduceLT, Nat.reduceLeDiff, Nat.reduceAdd, Nat.reduceMul, e44, e45, e46, e33, e35, e36, e34, e37, e38, e39, e40, e41, e42, e43, e47, e19, e20] at hr; subst hr; (first | refine awV ?_ ?_ | refine zR ?_ ?_ | (refine zf (fun h => ?_) (fun h => ?_) <;> (try simp only [go_sem, reduceCtorEq] at h) <;> (try (exfalso; omega))))))) <;> (try omega)
 all_goals exact rfl
end
end Go.Proofs.Ytfjajlcjifnceaa

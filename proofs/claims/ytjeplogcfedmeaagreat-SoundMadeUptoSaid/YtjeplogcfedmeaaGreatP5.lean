import Derived.Test.YtjeplogcfedmeaaGreatP4
set_option linter.all false
set_option maxRecDepth 100000
set_option maxHeartbeats 8000000
namespace Go.Proofs.YtjeplogcfedmeaaGreat
section
inductive Rch (R : Nat → Nat → Prop) : Nat → Nat → Prop
 | one {a b : Nat} : R a b → Rch R a b
 | more {a b c : Nat} : Rch R a b → R b c → Rch R a c
theorem Rch.trans {R : Nat → Nat → Prop} {a b c : Nat} (h : Rch R a b) (g : Rch R b c) : Rch R a c := by
 induction g with
 | one h1 => exact .more h h1
 | more _ h1 ih => exact .more ih h1
theorem Rch.front {R : Nat → Nat → Prop} {a c : Nat} (h : Rch R a c) : ∃ b, R a b ∧ (b = c ∨ Rch R b c) := by
 induction h with
 | one h1 => exact ⟨_, h1, .inl rfl⟩
 | more _ h1 ih =>
  obtain ⟨b, hb, h2⟩ := ih
  refine ⟨b, hb, .inr ?_⟩
  rcases h2 with rfl | h2
  ·exact .one h1
  ·exact .more h2 h1
def zaY (R : Nat → Nat → Prop) (fr : List Nat) (k : Nat) : Prop := ∃ a ∈ fr, Rch R a k
structure Srch (R : Nat → Nat → Prop) (fr Q : List Nat) (i : Nat) : Prop where
 nd : Q.Nodup
 ok : ∀ k ∈ Q, zaY R fr k
 cl : ∀ x ∈ (fr ++ Q).take i, ∀ k, R x k → k ∈ Q
theorem Srch.nil (R : Nat → Nat → Prop) (fr : List Nat) : Srch R fr [] 0 := ⟨List.nodup_nil, fun _ h => (by cases h), fun _ h => (by simp at h)⟩
theorem Srch.done {R : Nat → Nat → Prop} {fr Q : List Nat} {i : Nat} (h : Srch R fr Q i) (hi : (fr ++ Q).length ≤ i) (k : Nat) : k ∈ Q ↔ zaY R fr k := by
 refine ⟨h.ok k, fun ⟨a, ha, hr⟩ => ?_⟩
 have hall : ∀ x ∈ fr ++ Q, ∀ k, R x k → k ∈ Q := fun x hx k hk => h.cl x (by rw [List.take_of_length_le hi]; exact hx) k hk
 have gen : ∀ c, Rch R a c → c ∈ Q := fun c hr => by
  induction hr with
  | one h1 => exact hall _ (List.mem_append_left _ ha) _ h1
  | more _ h1 ih => exact hall _ (List.mem_append_right _ ih) _ h1
 exact gen k hr
theorem Srch.add {R : Nat → Nat → Prop} {fr Q : List Nat} {i x k : Nat} (h : Srch R fr Q i) (hx : (fr ++ Q)[i]? = some x) (hk : R x k) (hn : k ∉ Q) : Srch R fr (Q ++ [k]) i := by
 have hlt : i < (fr ++ Q).length := by
  rcases Nat.lt_or_ge i (fr ++ Q).length with h' | h'
  ·exact h'
  ·rw [List.getElem?_eq_none h'] at hx; cases hx
 have hxm := List.mem_of_getElem? hx
 refine ⟨?_, fun y hy => ?_, fun y hy z hz => ?_⟩
 ·rw [List.nodup_append]
  exact ⟨h.nd, by simp, fun a ha b hb hab => by simp at hb; subst hb; subst hab; exact hn ha⟩
 ·rcases List.mem_append.1 hy with hy | hy
  ·exact h.ok y hy
  ·simp at hy
   subst hy
   rcases List.mem_append.1 hxm with hxm | hxm
   ·exact ⟨x, hxm, .one hk⟩
   ·obtain ⟨a, ha, hr⟩ := h.ok x hxm
    exact ⟨a, ha, .more hr hk⟩
 ·rw [← List.append_assoc, List.take_append_of_le_length (by omega)] at hy
  exact List.mem_append_left _ (h.cl y hy z hz)
theorem Srch.next {R : Nat → Nat → Prop} {fr Q : List Nat} {i x : Nat} (h : Srch R fr Q i) (hx : (fr ++ Q)[i]? = some x) (hall : ∀ k, R x k → k ∈ Q) : Srch R fr Q (i + 1) := by
 refine ⟨h.nd, h.ok, fun y hy z hz => ?_⟩
 have hlt : i < (fr ++ Q).length := by
  rcases Nat.lt_or_ge i (fr ++ Q).length with h' | h'
  ·exact h'
  ·rw [List.getElem?_eq_none h'] at hx; cases hx
 rw [List.take_succ_eq_append_getElem hlt] at hy
 rcases List.mem_append.1 hy with hy | hy
 ·exact h.cl y hy z hz
 ·simp at hy
  rw [List.getElem?_eq_getElem hlt] at hx
  injection hx with hx
  rw [hx] at hy
  subst hy
  exact hall z hz
theorem yV {n : Nat} : ∀ {Q : List Nat}, Q.Nodup → (∀ k ∈ Q, k < n) → Q.length ≤ n := by
 induction n with
 | zero =>
  intro Q _ h
  cases Q with
  | nil => simp
  | cons k Q => exact absurd (h k (.head _)) (by omega)
 | succ n ih =>
  intro Q hn h
  have h1 : (Q.filter (· ≠ n)).length ≤ n := ih (hn.filter _) fun k hk => by
   simp at hk
   have := h k hk.1
   omega
  have h2 : Q.length ≤ (Q.filter (· ≠ n)).length + 1 := by
   clear h1 h ih
   induction Q with
   | nil => simp
   | cons k Q ih =>
    rw [List.nodup_cons] at hn
    by_cases hk : k = n
    ·subst hk
     have hf : Q.filter (· ≠ k) = Q := List.filter_eq_self.2 fun a ha => by simp; rintro rfl; exact hn.1 ha
     rw [List.filter_cons_of_neg (by simp), hf]
     simp
    ·rw [List.filter_cons_of_pos (by simpa using hk)]
     have := ih hn.2
     simp only [List.length_cons]
     omega
  omega
def u7 (K gone : List Nat) (l : List Nat) : Nat := (l.filter fun k => decide (k ∈ K) && !decide (k ∈ gone)).length
theorem jz {K gone l : List Nat} {y : Nat} (h1 : y ∈ l) (h2 : y ∈ K) (h3 : y ∉ gone) : 0 < u7 K gone l := by
 unfold u7
 exact List.length_pos_of_mem (List.mem_filter.2 ⟨h1, by simp [h2, h3]⟩)
theorem qK {K gone l : List Nat} {b : Nat} (hb : b ∈ K) (hg : b ∉ gone) : u7 K gone l = u7 K (gone ++ [b]) l + l.count b := by
 unfold u7
 induction l with
 | nil => rfl
 | cons x l ih =>
  by_cases hx : x = b
  ·subst hx
   rw [List.filter_cons_of_pos (by simp [hb, hg]), List.filter_cons_of_neg (by simp [hb]), List.count_cons_self, List.length_cons, ih]
   omega
  ·rw [List.count_cons_of_ne hx]
   by_cases hk : x ∈ K ∧ x ∉ gone
   ·rw [List.filter_cons_of_pos (by simp [hk.1, hk.2]), List.filter_cons_of_pos (by simp [hk.1, hk.2, hx]), List.length_cons, List.length_cons, ih]
    omega
   ·rw [List.filter_cons_of_neg (by simp only [Bool.and_eq_true, decide_eq_true_eq, Bool.not_eq_true', decide_eq_false_iff_not]; exact hk), List.filter_cons_of_neg (by simp only [Bool.and_eq_true, decide_eq_true_eq, Bool.not_eq_true', decide_eq_false_iff_not, List.mem_append, List.mem_singleton, hx, or_false]; exact hk), ih]
def Cyc (K : List Nat) (on : Nat → List Nat) (C : Nat → Prop) : Prop := ∀ x, C x → x ∈ K ∧ ∃ y ∈ on x, C y
structure Peel (K : List Nat) (on : Nat → List Nat) (bare : List Nat) (i : Nat) (cnt : Nat → Int) : Prop where
 nd : bare.Nodup
 sub : ∀ x ∈ bare, x ∈ K
 cn : ∀ x ∈ K, cnt x = u7 K (bare.take i) (on x)
 zr : ∀ x ∈ K, x ∈ bare ↔ cnt x = 0
 cy : ∀ C, Cyc K on C → ∀ x, C x → x ∉ bare
structure PeelIn (K : List Nat) (on back : Nat → List Nat) (bare0 bare : List Nat) (i j b : Nat) (cnt : Nat → Int) : Prop where
 nd : bare.Nodup
 sub : ∀ x ∈ bare, x ∈ K
 pre : ∃ m, bare = bare0 ++ m
 at_ : bare0[i]? = some b
 nd0 : bare0.Nodup
 sub0 : ∀ x ∈ bare0, x ∈ K
 cn : ∀ x ∈ K, cnt x + ((back b).take j).count x = u7 K (bare0.take i) (on x)
 z0 : ∀ x ∈ K, x ∈ bare0 ↔ u7 K (bare0.take i) (on x) = 0
 zr : ∀ x ∈ K, x ∈ bare ↔ cnt x = 0
 cy : ∀ C, Cyc K on C → ∀ x, C x → x ∉ bare
section
variable {K : List Nat} {on back : Nat → List Nat} {bare bare0 : List Nat} {i j b : Nat} {cnt : Nat → Int}
theorem Peel.enter (h : Peel K on bare i cnt) (hb : bare[i]? = some b) : PeelIn K on back bare bare i 0 b cnt :=
 ⟨h.nd, h.sub, ⟨[], by simp⟩, hb, h.nd, h.sub, fun x hx => by rw [List.take_zero, List.count_nil, h.cn x hx]; simp, fun x hx => by rw [h.zr x hx, h.cn x hx]; omega, h.zr, h.cy⟩
theorem x5 {l : List Nat} (h : l.Nodup) {i : Nat} {b : Nat} (hb : l[i]? = some b) : b ∉ l.take i := by
 have hlt : i < l.length := by
  rcases Nat.lt_or_ge i l.length with h' | h'
  ·exact h'
  ·rw [List.getElem?_eq_none h'] at hb; cases hb
 rw [List.getElem?_eq_getElem hlt] at hb
 injection hb with hb
 intro hm
 rw [← List.take_append_drop i l, List.nodup_append] at h
 exact h.2.2 b hm b (by rw [List.drop_eq_getElem_cons hlt, hb]; exact .head _) rfl
theorem PeelIn.b_in (h : PeelIn K on back bare0 bare i j b cnt) : b ∈ K := h.sub0 b (List.mem_of_getElem? h.at_)
theorem PeelIn.left (hc : ∀ x y, (on x).count y = (back y).count x) (h : PeelIn K on back bare0 bare i j b cnt) {x : Nat} (hx : (back b)[j]? = some x) (hK : x ∈ K) : x ∉ bare0.take (i + 1) := by
 intro hm
 have hx0 : x ∈ bare0 := List.mem_of_mem_take hm
 have h1 := (h.z0 x hK).1 hx0
 have h2 : 0 < (on x).count b := by rw [hc]; exact List.count_pos_iff.2 (List.mem_of_getElem? hx)
 have h3 := jz (List.count_pos_iff.1 h2) h.b_in (x5 h.nd0 h.at_)
 omega
theorem wT {l : List Nat} {j x : Nat} (hx : l[j]? = some x) (y : Nat) : (l.take (j + 1)).count y = (l.take j).count y + if x = y then 1 else 0 := by
 have hlt : j < l.length := by
  rcases Nat.lt_or_ge j l.length with h' | h'
  ·exact h'
  ·rw [List.getElem?_eq_none h'] at hx; cases hx
 rw [List.getElem?_eq_getElem hlt] at hx
 injection hx with hx
 rw [List.take_succ_eq_append_getElem hlt, List.count_append, hx, List.count_singleton]
 by_cases hxy : x = y <;> simp [hxy]
theorem PeelIn.skip (h : PeelIn K on back bare0 bare i j b cnt) {x : Nat} (hx : (back b)[j]? = some x) (hK : x ∉ K) : PeelIn K on back bare0 bare i (j + 1) b cnt :=
 ⟨h.nd, h.sub, h.pre, h.at_, h.nd0, h.sub0, fun y hy => by
  rw [wT hx, if_neg (by rintro rfl; exact hK hy), Nat.add_zero]; exact h.cn y hy, h.z0, h.zr, h.cy⟩
theorem PeelIn.step (hc : ∀ x y, (on x).count y = (back y).count x) (h : PeelIn K on back bare0 bare i j b cnt) {x : Nat} (hx : (back b)[j]? = some x) (hK : x ∈ K) {cnt' : Nat → Int} (h' : ∀ y, cnt' y = if y = x then cnt x - 1 else cnt y) :
  PeelIn K on back bare0 (if cnt x - 1 = 0 then bare ++ [x] else bare) i (j + 1) b cnt' := by
 have hcx := h.cn x hK
 have hct := wT hx
 have hle : ((back b).take (j + 1)).count x ≤ u7 K (bare0.take i) (on x) := by
  have h1 : ((back b).take (j + 1)).count x ≤ (back b).count x := List.Sublist.count_le _ (List.take_sublist _ _)
  rw [← hc] at h1
  have h2 := qK (l := on x) h.b_in (x5 h.nd0 h.at_)
  omega
 rw [hct, if_pos rfl] at hle
 have hpos : 0 < cnt x := by omega
 have hnb : x ∉ bare := fun hm => by have := (h.zr x hK).1 hm; omega
 have hcn : ∀ y ∈ K, cnt' y + ((back b).take (j + 1)).count y = u7 K (bare0.take i) (on y) := fun y hy => by
  have := h.cn y hy
  rw [hct, h']
  by_cases hyx : y = x
  ·subst hyx; rw [if_pos rfl, if_pos rfl]; omega
  ·rw [if_neg hyx, if_neg (Ne.symm hyx)]; omega
 have hcy : ∀ C, Cyc K on C → ∀ y, C y → 0 < cnt' y := fun C hC y hy => by
  obtain ⟨hyK, z, hz, hCz⟩ := hC y hy
  have h1 := hcn y hyK
  have hzb : z ∉ bare := h.cy C hC z hCz
  have hz0 : z ∉ bare0.take i ++ [b] := fun hm => hzb (by
   obtain ⟨m, hm'⟩ := h.pre
   rw [hm']
   refine List.mem_append_left _ ?_
   rcases List.mem_append.1 hm with hm | hm
   ·exact List.mem_of_mem_take hm
   ·simp at hm; subst hm; exact List.mem_of_getElem? h.at_)
  have h2 := qK (l := on y) h.b_in (x5 h.nd0 h.at_)
  have h3 := jz hz (hC z hCz).1 hz0
  have h4 : ((back b).take (j + 1)).count y ≤ (back b).count y := List.Sublist.count_le _ (List.take_sublist _ _)
  rw [← hc] at h4
  omega
 by_cases hz : cnt x - 1 = 0
 ·rw [if_pos hz]
  refine ⟨?_, fun y hy => ?_, ?_, h.at_, h.nd0, h.sub0, hcn, h.z0, fun y hy => ?_, fun C hC y hy hm => ?_⟩
  ·rw [List.nodup_append]
   exact ⟨h.nd, by simp, fun a ha c hc' hac => by simp at hc'; subst hc'; subst hac; exact hnb ha⟩
  ·rcases List.mem_append.1 hy with hy | hy
   ·exact h.sub y hy
   ·simp at hy; subst hy; exact hK
  ·obtain ⟨m, hm⟩ := h.pre
   exact ⟨m ++ [x], by rw [hm, List.append_assoc]⟩
  ·rw [List.mem_append, List.mem_singleton, h']
   by_cases hyx : y = x
   ·subst hyx; rw [if_pos rfl]; simp [hz]
   ·rw [if_neg hyx]; simp only [hyx, or_false]; exact h.zr y hy
  ·rcases List.mem_append.1 hm with hm | hm
   ·exact h.cy C hC y hy hm
   ·simp at hm
    subst hm
    have := hcy C hC y hy
    rw [h', if_pos rfl] at this
    omega
 ·rw [if_neg hz]
  refine ⟨h.nd, h.sub, h.pre, h.at_, h.nd0, h.sub0, hcn, h.z0, fun y hy => ?_, h.cy⟩
  rw [h']
  by_cases hyx : y = x
  ·subst hyx; rw [if_pos rfl]; exact ⟨fun hm => absurd hm hnb, fun h0 => absurd h0 hz⟩
  ·rw [if_neg hyx]; exact h.zr y hy
theorem PeelIn.leave (hc : ∀ x y, (on x).count y = (back y).count x) (h : PeelIn K on back bare0 bare i j b cnt) (hj : (back b).length ≤ j) : Peel K on bare (i + 1) cnt := by
 obtain ⟨m, hm⟩ := h.pre
 have hlt : i < bare0.length := by
  have := h.at_
  rcases Nat.lt_or_ge i bare0.length with h' | h'
  ·exact h'
  ·rw [List.getElem?_eq_none h'] at this; cases this
 have ht : bare.take (i + 1) = bare0.take i ++ [b] := by
  rw [hm, List.take_append_of_le_length (by omega), List.take_succ_eq_append_getElem hlt]
  have := h.at_
  rw [List.getElem?_eq_getElem hlt] at this
  injection this with this
  rw [this]
 refine ⟨h.nd, h.sub, fun x hx => ?_, h.zr, h.cy⟩
 have h1 := h.cn x hx
 rw [List.take_of_length_le hj, ← hc] at h1
 have h2 := qK (l := on x) h.b_in (x5 h.nd0 h.at_)
 rw [ht]
 omega
theorem Peel.init (hnd : bare.Nodup) (hb : ∀ x, x ∈ bare ↔ x ∈ K ∧ u7 K [] (on x) = 0) (hcn : ∀ x ∈ K, cnt x = u7 K [] (on x)) : Peel K on bare 0 cnt :=
 ⟨hnd, fun x hx => ((hb x).1 hx).1, fun x hx => by rw [List.take_zero]; exact hcn x hx, fun x hx => by
  rw [hb, hcn x hx]
  exact ⟨fun h => by omega, fun h => ⟨hx, by omega⟩⟩, fun C hC x hx hm => by
  obtain ⟨_, y, hy, hCy⟩ := hC x hx
  have := jz (gone := []) hy (hC y hCy).1 (by simp)
  have := ((hb x).1 hm).2
  omega⟩
end
section
variable {R : Nat → Nat → Prop} {K : List Nat} {on back : Nat → List Nat}
theorem zar (hon : ∀ x ∈ K, ∀ y, y ∈ on x ↔ R x y) (hcl : ∀ x ∈ K, ∀ y, R x y → y ∈ K) {x : Nat} (hx : x ∈ K) : Cyc K on (fun y => Rch R x y ∧ Rch R y x) := fun y ⟨h1, h2⟩ => by
 have hK : ∀ z, Rch R x z → z ∈ K := fun z hz => by
  induction hz with
  | one h => exact hcl x hx _ h
  | more _ h ih => exact hcl _ ih _ h
 have hyK := hK y h1
 refine ⟨hyK, ?_⟩
 obtain ⟨z, hz, h3⟩ := h2.front
 refine ⟨z, (hon y hyK z).2 hz, h1.more hz, ?_⟩
 rcases h3 with rfl | h3
 ·exact h1.trans h2
 ·exact h3
theorem Qy {x : Nat} {K1 : List Nat} (hK1 : ∀ y, Rch R x y → Rch R y x → y ∈ K1) (hback : ∀ y ∈ K1, ∀ z, z ∈ K1 → (z ∈ back y ↔ R z y)) : Cyc K1 back (fun y => Rch R x y ∧ Rch R y x) := fun y ⟨h1, h2⟩ => by
 have hy := hK1 y h1 h2
 refine ⟨hy, ?_⟩
 cases h1 with
 | one h =>
  have hxx : Rch R x x := (Rch.one h).trans h2
  exact ⟨x, (hback y hy x (hK1 x hxx hxx)).2 h, hxx, hxx⟩
 | @more z _ h h' =>
  have hzx : Rch R z x := (Rch.one h').trans h2
  exact ⟨z, (hback y hy z (hK1 z h hzx)).2 h', h, hzx⟩
end
end
section
open Go.RowKit
structure StM where
 place : Int
 kids : Int
 table : Int
 parts : Int
 free : Int
 left : Int
deriving DecidableEq
def StM.zero : StM := ⟨0, 0, 0, 0, 0, 0⟩
def StM.still (s : StM) : StM := { s with free := 0 }
def StM.at_ (s : StM) (p : Int) : StM := { s with place := p, free := 0 }
def StM.wth (s : StM) (f : Int) : StM := { s with free := f }
def JT (kids k : Int) : Bool := decide (bits .and .u64 (kids.fdiv (2 ^ min k.toNat 64)) 1 = 1)
def za0 (kids k : Int) : Int := bits .or .u64 kids (IntKind.u64.wrap (1 * 2 ^ min k.toNat 64))
def StM.fill (s : StM) (k : Int) : StM × Bool :=
 if s.place = 0 then (s.at_ 4, decide (k = -1)) else if s.place = 3 then (s.at_ 4, decide (k ≤ 0))
 else if s.place = 1 then (s.still, decide (k = -1) && (decide (s.free = 1) || decide (s.free = 2)))
 else if s.place = 2 then (if k < 0 ∨ JT s.kids k = true then (s, false) else (({ s with kids := za0 s.kids k } : StM).still, true))
 else (s, false)
def StM.take (s : StM) (n : Int) : StM × Bool :=
 if s.place = 5 ∧ n = 1 then (⟨6, 0, 0, 0, 0, 0⟩, true)
 else if s.place = 6 then ({ s with left := IntKind.i64.wrap (s.left - n) }, decide (0 ≤ IntKind.i64.wrap (s.left - n)))
 else (s, false)
def StM.turn (s : StM) : StM × Bool := (s.still, decide (s.place = 7) && decide (s.free = 2))
def StM.over (s : StM) : Bool :=
 if s.place = 1 ∨ s.place = 4 then true
 else if s.place = 2 then decide (s.kids ≠ 0) && decide (bits .and .u64 s.kids (IntKind.u64.wrap (s.kids + 1)) = 0)
 else if s.place = 6 then decide (s.left = 0)
 else false
structure EfM where
 next : StM
 target : StM
deriving DecidableEq
def both (s : StM) : EfM := ⟨s, s⟩
def EfM.zero : EfM := ⟨.zero, .zero⟩
def StM.offset (s : StM) (f : Int) : EfM × Bool :=
 if s.place = 2 then (both ({ s with table := IntKind.i64.wrap (s.table + 1) } : StM).still, decide (s.parts = 0) && decide (s.table < 64))
 else (both ({ s with table := -1 } : StM).still, decide (s.place = 1) && (decide (s.free = 1) && decide (f ≤ 4194304) || decide (s.free = 3)))
def StM.part (s : StM) (x : InsM) : EfM × Bool :=
 if x.a = -1 then (both s.still, decide (s.place = 1) && decide (s.free = 4))
 else (both { (s.fill x.a).1 with parts := IntKind.i64.wrap ((s.fill x.a).1.parts + 1) }, (s.fill x.a).2 && decide (s.place = 2) && decide (x.b = s.parts) && decide (x.b < s.table))
def runN : Nat → Int → StM → Bool → StM × Bool
 | 0, _, s, ok => (s, ok)
 | n + 1, k, s, ok => if ok = true then runN n (k + 1) (s.fill k).1 (s.fill k).2 else (s, ok)
def StM.run (s : StM) (x : InsM) : EfM × Bool :=
 let r := runN x.b.toNat x.a s (decide (s.place = 2))
 (both r.1, r.2)
def StM.rounds (s : StM) (x : InsM) : EfM × Bool :=
 let q := decide (s.place = 1)
 let t := decide (s.table = -1)
 if x.op = 11 then (⟨{ s.still with table := -1 }, s.still⟩, q && decide (s.table = 0))
 else if x.op = 12 then (⟨s.still, s.still.wth 3⟩, q && t)
 else if x.op = 13 then (⟨s.still.wth 2, s.still⟩, q)
 else if x.op = 14 then (⟨s.still, s.still.wth 2⟩, q)
 else if x.op = 15 then (⟨s.still, s.still.wth 4⟩, q && t)
 else (both s.still, decide (x.a = -1) && q && t || decide (x.a ≠ -1) && decide (s.place = 2) && decide (x.a < s.parts))
def vC (s : StM) (x : InsM) (t : Int) : EfM × Bool :=
 let nobody := decide (s.place = 0)
 if x.op = 16 then (if t ≤ x.c then (.zero, false) else (both (s.fill x.a).1, (s.fill x.a).2))
 else if x.op = 1 ∨ x.op = 3 ∨ x.op = 4 then (both (s.fill x.a).1, (s.fill x.a).2)
 else if x.op = 2 then s.run x
 else if x.op = 5 then (both ((s.at_ 1).wth 1), nobody)
 else if x.op = 6 then (both (s.at_ 2), nobody)
 else if x.op = 7 then (⟨s.at_ 3, s.at_ 4⟩, nobody)
 else if x.op = 8 then (both (s.at_ 3), nobody)
 else if x.op = 10 then s.offset x.a
 else if x.op = 17 then (if t ≤ x.c then (.zero, false) else s.part x)
 else if x.op = 11 ∨ x.op = 12 ∨ x.op = 13 ∨ x.op = 14 ∨ x.op = 15 ∨ x.op = 18 then s.rounds x
 else if x.op = 19 then (both s, true)
 else if x.op = 20 then (.zero, s.over)
 else (.zero, false)
def vd (s : StM) (x : InsM) (t : Int) : EfM × Bool :=
  let anew := decide (s.place = 5)
  if x.op = 44 ∨ x.op = 45 ∨ x.op = 46 then
    (if t ≤ x.c then (.zero, false)
     else if x.op = 45 ∨ x.op = 46 ∧ s.place = 7 then (both s.turn.1, s.turn.2) else (both (s.take 1).1, (s.take 1).2))
  else if x.op = 33 ∨ x.op = 35 ∨ x.op = 36 then (if x.a = -1 then (both s.turn.1, s.turn.2) else (both (s.take 1).1, (s.take 1).2))
  else if x.op = 34 then (both (s.take x.b).1, (s.take x.b).2 && decide (s.place = 6))
  else if x.op = 37 then (both ⟨7, 0, 0, 0, 2, 0⟩, anew)
  else if x.op = 38 then (both ⟨7, 0, 0, 0, 0, 0⟩, anew)
  else if x.op = 39 then (both ⟨6, 0, 0, 0, 0, x.a⟩, anew)
  else if x.op = 40 then (⟨⟨6, 0, 0, 0, 0, 1⟩, ⟨6, 0, 0, 0, 0, 0⟩⟩, anew)
  else if x.op = 41 then (both ⟨6, 0, 0, 0, 0, 1⟩, anew)
  else if x.op = 42 then (both s, decide (s.place = 7) || decide (s.place = 6) && !decide (x.a = -1))
  else if x.op = 43 then (both s, decide (s.place = 6) && !decide (x.a = -1) || decide (s.place = 7) && decide (x.a = -1) && decide (s.free = 2))
  else if x.op = 47 then (⟨⟨6, 0, 0, 0, 0, 0⟩, ⟨7, 0, 0, 0, 2, 0⟩⟩, decide (s.place = 7))
  else if x.op = 19 then (both s, true)
  else if x.op = 20 then (.zero, decide (s.place = 6) && s.over)
  else (.zero, false)
def z9 (e : Bool) (x : InsM) (s : StM) (t : Int) : EfM × Bool := if e = true then vd s x t else vC s x t
def zO (C : List InsM) (at_ : Nat) (x : InsM) : List Int :=
 if x.op = 19 then [x.b]
 else if x.op = 20 ∨ x.op = 9 then []
 else if x.op = 8 ∨ x.op = 41 then (List.range x.a.toNat).map fun k => ((C[at_ + 1 + k]?).map (·.b)).getD 0
 else if x.op = 7 ∨ x.op = 11 ∨ x.op = 12 ∨ x.op = 13 ∨ x.op = 14 ∨ x.op = 15 ∨ x.op = 40 ∨ x.op = 47 then [(at_ : Int) + 1, x.b]
 else [(at_ : Int) + 1]
end
section
open Go.RowKit
instance : Inhabited InsM := ⟨⟨0, 0, 0, 0⟩⟩
abbrev LkM := List (Option StM)
def zg (C : List InsM) (k : Nat) : InsM := C.getD k ⟨0, 0, 0, 0⟩
def wK (L : LkM) (k : Nat) : StM := (L.getD k none).getD .zero
def xF (e : Bool) (C : List InsM) (L : LkM) (k : Nat) (s : StM) (t : Int) : Option LkM :=
 match L.getD k none with
 | none => some (L.set k (some s))
 | some s0 => if s0 = s then some L else if (z9 e (zg C k) s t).2 = true ∧ (z9 e (zg C k) s0 t).1 = (z9 e (zg C k) s t).1 then some L else none
def handS (e : Bool) (C : List InsM) (t : Int) (E : EfM) (arms : Bool) : List Int → Nat → LkM → Except Int LkM
 | [], _, L => .ok L
 | k :: ks, w, L =>
  match xF e C L k.toNat (if w = 1 ∧ arms = false then E.target else E.next) t with
  | none => .error k
  | some L' => handS e C t E arms ks (w + 1) L'
def vD (x : InsM) : Bool := decide (x.op = 8) || decide (x.op = 41)
def qf (e : Bool) (C : List InsM) (k : Nat) (L : LkM) (t : Int) : Except Int LkM :=
 let x := zg C k
 let r := z9 e x (wK L k) t
 if r.2 = false ∨ (zO C k x).any (fun j => decide ((C.length : Int) ≤ j)) = true then .error k
 else handS e C t r.1 (vD x) (zO C k x) 0 L
def yM (L : LkM) (D : List Nat) (k : Nat) : Bool := (L.getD k none).isSome && !decide (k ∈ D)
def vE (L : LkM) (D : List Nat) : Option Nat := (List.range L.length).find? (yM L D)
def vF (e : Bool) (C : List InsM) (t : Int) : Nat → LkM → List Nat → Except Int (LkM × List Nat)
 | 0, L, D => .ok (L, D)
 | f + 1, L, D =>
  match vE L D with
  | none => .ok (L, D)
  | some k =>
   match qf e C k L t with
   | .error j => .error j
   | .ok L' => vF e C t f L' (k :: D)
def yF (e : Bool) : StM := if e = true then ⟨5, 0, 0, 0, 0, 0⟩ else .zero
def xo (e : Bool) (C : List InsM) : List Int → Int → LkM → List Nat → Except Int (LkM × List Nat)
 | [], _, L, D => .ok (L, D)
 | n :: ns, t, L, D =>
  match xF e C L n.toNat (yF e) t with
  | none => .error n
  | some L' =>
   match vF e C t (C.length + 1 - D.length) L' D with
   | .error j => .error j
   | .ok (L2, D2) => xo e C ns (t + 1) L2 D2
def xc (e : Bool) (C : List InsM) (N : List Int) : Except Int (LkM × List Nat) := xo e C N 0 (List.replicate C.length none) []
structure WtH (L : LkM) (D : List Nat) (W : List Int) : Prop where
 heap : qa W
 nd : W.Nodup
 mem : ∀ k : Int, k ∈ W ↔ 0 ≤ k ∧ yM L D k.toNat = true
theorem qy {L : LkM} {D : List Nat} {k : Nat} (h : yM L D k = true) : k < L.length := by
 unfold yM at h
 rcases Nat.lt_or_ge k L.length with h' | h'
 ·exact h'
 ·simp [List.getD, List.getElem?_eq_none h'] at h
theorem q7 {W : List Int} (h : W ≠ []) : W.getD 0 0 ∈ W := by
 cases W with
 | nil => exact absurd rfl h
 | cons a W => simp [List.getD]
theorem JU {W : List Int} (h : qa W) {k : Int} (hk : k ∈ W) : W.getD 0 0 ≤ k := by
 obtain ⟨i, hi, rfl⟩ := List.mem_iff_getElem.1 hk
 have := QA h i hi
 rw [show W.getD i 0 = W[i] by simp [List.getD, hi]] at this
 exact this
theorem WtH.empty {L : LkM} {D : List Nat} {W : List Int} (h : WtH L D W) : W = [] ↔ vE L D = none := by
 constructor
 ·rintro rfl
  rw [vE, List.find?_eq_none]
  intro k _ hk
  have := (h.mem k).2 ⟨by omega, by simpa using hk⟩
  cases this
 ·intro hn
  rw [vE, List.find?_eq_none] at hn
  cases W with
  | nil => rfl
  | cons a W =>
   have := (h.mem a).1 (.head _)
   exact absurd this.2 (hn _ (by rw [List.mem_range]; exact qy this.2))
theorem ja {n : Nat} {p : Nat → Bool} {k : Nat} (hk : k < n) (hp : p k = true) (hm : ∀ j, j < k → p j = false) : (List.range n).find? p = some k := by
 rw [List.find?_eq_some_iff_append]
 refine ⟨hp, List.range k, (List.range' (k + 1) (n - k - 1)), ?_, fun j hj => by rw [List.mem_range] at hj; simp [hm j hj]⟩
 rw [List.range_eq_range', List.range_eq_range']
 have h1 : List.range' 0 n = List.range' 0 k ++ List.range' (0 + 1 * k) (n - k) := by rw [List.range'_append]; congr 1; omega
 rw [h1]
 congr 1
 obtain ⟨m, hm⟩ : ∃ m, n - k = m + 1 := ⟨n - k - 1, by omega⟩
 rw [hm, List.range'_succ]
 simp
theorem WtH.next {L : LkM} {D : List Nat} {W : List Int} (h : WtH L D W) (hne : W ≠ []) : 0 ≤ W.getD 0 0 ∧ vE L D = some (W.getD 0 0).toNat := by
 have h1 := (h.mem _).1 (q7 hne)
 refine ⟨h1.1, ja (qy h1.2) h1.2 fun j hj => ?_⟩
 cases hw : yM L D j with
 | false => rfl
 | true =>
  have := JU h.heap ((h.mem j).2 ⟨by omega, by simpa using hw⟩)
  omega
theorem WtH.pop {L : LkM} {D : List Nat} {W : List Int} (h : WtH L D W) (hne : W ≠ []) : WtH L ((W.getD 0 0).toNat :: D) (YA W) := by
 have hp := QC hne
 have h1 := (h.mem _).1 (q7 hne)
 have hnd := hp.nodup_iff.2 h.nd
 rw [List.nodup_cons] at hnd
 refine ⟨QD h.heap, hnd.2, fun k => ?_⟩
 have h2 : k ∈ W ↔ k = W.getD 0 0 ∨ k ∈ YA W := by rw [← hp.mem_iff, List.mem_cons]
 have hw : yM L ((W.getD 0 0).toNat :: D) k.toNat = (yM L D k.toNat && !decide (k.toNat = (W.getD 0 0).toNat)) := by
  unfold yM
  by_cases e1 : k.toNat = (W.getD 0 0).toNat <;> by_cases e2 : k.toNat ∈ D <;> simp [e1, e2]
 rw [hw]
 constructor
 ·intro hk
  have h3 := (h.mem k).1 (h2.2 (.inr hk))
  refine ⟨h3.1, ?_⟩
  have : k ≠ W.getD 0 0 := by rintro rfl; exact hnd.1 hk
  simp only [h3.2, Bool.true_and, Bool.not_eq_true', decide_eq_false_iff_not]
  omega
 ·intro ⟨h3, h4⟩
  simp only [Bool.and_eq_true, Bool.not_eq_true', decide_eq_false_iff_not] at h4
  rcases h2.1 ((h.mem k).2 ⟨h3, h4.1⟩) with h5 | h5
  ·rw [h5] at h4; exact absurd rfl h4.2
  ·exact h5
theorem WtH.push {L : LkM} {D : List Nat} {W : List Int} (h : WtH L D W) {k : Nat} (hk : k < L.length) (hn : L.getD k none = none) (hD : k ∉ D) (s : StM) : WtH (L.set k (some s)) D (upF (W.length + 1) (W ++ [(k : Int)]) W.length) := by
 have hp := qm (W.length + 1) (W ++ [(k : Int)]) W.length (by simp)
 have hnk : (k : Int) ∉ W := fun hm => by
  have := ((h.mem k).1 hm).2
  unfold yM at this
  simp only [Int.toNat_natCast, hn] at this
  simp at this
 refine ⟨VE h.heap _, hp.nodup_iff.2 ?_, fun j => ?_⟩
 ·rw [List.nodup_append]
  exact ⟨h.nd, by simp, fun a ha b hb hab => by simp at hb; subst hb; subst hab; exact hnk ha⟩
 ·rw [hp.mem_iff, List.mem_append, List.mem_singleton, h.mem]
  have hw : yM (L.set k (some s)) D j.toNat = (yM L D j.toNat || decide (j.toNat = k)) := by
   unfold yM
   by_cases e : j.toNat = k
   ·rw [e]
    simp [List.getD, hk, hD]
   ·simp [List.getD, List.getElem?_set_ne (Ne.symm e), e]
  rw [hw, Bool.or_eq_true, decide_eq_true_eq]
  constructor
  ·rintro (⟨h1, h2⟩ | h1)
   ·exact ⟨h1, .inl h2⟩
   ·exact ⟨by omega, .inr (by omega)⟩
  ·rintro ⟨h1, h2 | h2⟩
   ·exact .inl ⟨h1, h2⟩
   ·exact .inr (by omega)
end
section
open Go.RowKit
theorem zat : vK Tryz.prog 76 "Len" = some (122, false, 45) := by kernel_rfl
theorem Jp : vK Tryz.prog 76 "Less" = some (123, false, 45) := by kernel_rfl
theorem Jq : vK Tryz.prog 76 "Swap" = some (124, false, 45) := by kernel_rfl
theorem Jr : vK Tryz.prog 76 "Push" = some (126, true, 45) := by kernel_rfl
theorem zau : vK Tryz.prog 76 "Pop" = some (125, true, 45) := by kernel_rfl
attribute [go_sem] zat Jp Jq Jr zau
section
variable {P : Program} {T : Nat → Option TyD} {E : Env} {s : AState} {n : Nat} {ops : Array Oper} {Q : Exit → AState → Prop} {rest : List Oper} {o : Oper} {D : Dr}
theorem yD (ra : AV) (hg : ya ops s o.guard = some false) (hkd : wL o.op = false) (hdst : yY n o.dst) (hr : zT P E n ops D rest Q (s.put o.dst false ra)) : yu P E n ops D (o :: rest) Q s := by
 intro a w β hn hd hs
 have hw := yq (ops := ops) hs hg
 obtain ⟨g1, g2, g3⟩ := yW hn hd hs hdst false ra (v := undef) (fun h => by cases h) (fun _ => rfl)
 exact ym hkd hw (fun h => by cases h) fun _ => hr _ _ _ g1 g2 g3
end
theorem wA {W : List Int} {i : Nat} (h : i < W.length) : (v8 W)[i]? = some [.v (.int .i64 (W.getD i 0))] := by
 rw [xb h]; simp [List.getD, h]
theorem KA (W : List Int) : yb Tryz.prog 122 [.lst 1 (v8 W)] [] (vI W.length) [] := by
 refine zJ (zb _) Tryz.func122 rfl rfl (by rw [Tryz.results122]) Tryz.ntmps122 rfl fun E => ?_
 (repeat' (first | exact trivial | (with_reducible first | apply awA | apply awD | apply awF) | ((with_reducible first | apply awn | refine awT ?_); intro r hr; simp only [go_sem, Nat.reduceBEq, Nat.reduceLT, zp] at hr; subst hr; (first | refine awV ?_ ?_ | refine zP ?_ ?_ ?_)))) <;> (try omega)
 all_goals first | exact AV.up_rfl _ | exact zo
theorem qO (W : List Int) (hW : W.length ≤ 1000000000) (i j : Nat) (hi : i < W.length) (hj : j < W.length) : yb Tryz.prog 123 [.lst 1 (v8 W), vI i, vI j] [] (vB (decide (W.getD i 0 < W.getD j 0))) [] := by
 have zi : ((i : Int)).toNat = i := by omega
 have zj : ((j : Int)).toNat = j := by omega
 have gi := wA hi
 have gj := wA hj
 refine zJ (zb _) Tryz.func123 rfl rfl (by rw [Tryz.results123]) Tryz.ntmps123 rfl fun E => ?_
 (repeat' (first | exact trivial | (with_reducible first | apply awA | apply awD | apply awF) | (refine zA (id := 1) (t := (.node [0, 1, 2, 3, 4, 5, 6, 7, 8, 9] [])) (drR [] [10, 14] []) zH (by kernel_rfl) (by kernel_rfl) (fun _ _ h => h) ?_) | (refine zB (by simp only [go_sem]; exact rfl) ?_) | (refine zD (by simp only [go_sem]; exact rfl) ?_) | refine zl ?_ | refine zq ?_ ?_ | exact zC | ((with_reducible first | apply awn | apply awp | refine awT ?_); intro r hr; simp only [go_sem, Nat.reduceBEq, Nat.reduceLT, Nat.reduceLeDiff, Nat.reduceAdd, reduceCtorEq, zp, zi, zj, gi, gj] at hr; subst hr; (first | refine awV ?_ ?_ | refine zP ?_ ?_ ?_)))) <;> (try omega)
 all_goals first | exact AV.up_rfl _ | exact zo
theorem qP (l : List Int) (k : Nat) (z : Int) : (v8 l).set k [vI z] = v8 (l.set k z) := by simp [v8, List.map_set]
theorem qQ (W : List Int) (hW : W.length ≤ 1000000000) (m : Nat) (hm : m ≤ W.length) (i j : Nat) (hi : i < m) (hj : j < m) : yb Tryz.prog 124 [.ref 3 1 10001 0 m, vI i, vI j] [(10001, .row 3 1 (v8 W))] (.tup []) [(10001, .row 3 1 (v8 (yN W i j)))] := by
 have zi : ((i : Int)).toNat = i := by omega
 have zj : ((j : Int)).toNat = j := by omega
 have gi := wA (show i < W.length by omega)
 have gj := wA (show j < W.length by omega)
 have s1 := qP W i (W.getD j 0)
 have s2 := qP (W.set i (W.getD j 0)) j (W.getD i 0)
 have g2 := wA (W := W.set i (W.getD j 0)) (show j < (W.set i (W.getD j 0)).length by simp; omega)
 unfold yN
 refine zJ (zb _) Tryz.func124 rfl rfl (by rw [Tryz.results124]) Tryz.ntmps124 rfl fun E => ?_
 (repeat' (first | exact trivial | (refine zA (id := 0) (t := (.node [0, 1, 2, 3, 4, 5, 6, 7, 8, 9, 10, 11, 12, 13, 14, 15] [])) (drR [] [13, 17] []) zH (by kernel_rfl) (by kernel_rfl) (fun _ _ h => h) ?_) | (refine zB (by simp only [go_sem]; exact rfl) ?_) | (refine zD (by simp only [go_sem]; exact rfl) ?_) | refine zl ?_ | refine zq ?_ ?_ | exact zC | ((with_reducible first | apply awp | refine awU ?_); intro r hr; simp only [go_sem, Nat.reduceBEq, Nat.reduceLT, Nat.reduceLeDiff, Nat.reduceAdd, reduceCtorEq, zp, vw, zi, zj, gi, gj, g2, s1, s2, List.length_set, Nat.zero_add] at hr; subst hr; (first | refine awV ?_ ?_ | refine zP ?_ ?_ ?_)))) <;> (try omega)
 all_goals first | exact AV.up_rfl _ | exact zn rfl zo
def Zu (s : StM) : List AV := [vI s.place, .v (.int .u64 s.kids), vI s.table, vI s.parts, vI s.free, vI s.left]
def yk (L : LkM) : List (List AV) := L.map fun s => Zu (s.getD .zero)
def yl (L : LkM) : List (List AV) := L.map fun s => [vB s.isSome]
def lkV (e : Bool) (C : List InsM) (N : List Int) (n w : Nat) : AObj := .var [vB e, .lst 4 (zF C), .lst 1 (v8 N), .ref 52 6 15000 0 n, .ref 4 1 15001 0 n, .ref 3 1 15002 0 w]
def lkO (e : Bool) (C : List InsM) (N : List Int) (L : LkM) (W : List Int) : List (Nat × AObj) :=
 [(10000, lkV e C N L.length W.length), (15000, .row 52 6 (yk L)), (15001, .row 4 1 (yl L)), (15002, .row 3 1 (v8 W))]
theorem Js (e : Bool) (C : List InsM) (N : List Int) (L : LkM) (W : List Int) (hW : W.length ≤ 1000000000) (x : Int) :
  yb Tryz.prog 126 [.ptr 1 10000 0 5, .ifc 3 (vI x)] (lkO e C N L W) (.tup []) (lkO e C N L (W ++ [x])) := by
 have ht : (v8 W).take W.length = v8 W := by rw [yR, List.take_length]
 have ha := Xf W x
 have hl : (W ++ [x]).length = W.length + 1 := by simp
 unfold lkO lkV
 rw [hl]
 refine zJ (zb _) Tryz.func126 rfl rfl (by rw [Tryz.results126]) Tryz.ntmps126 rfl fun E => ?_
 (repeat' (first | exact trivial | (refine zA (id := 0) (t := (.node [0, 1, 2, 3, 4, 5, 6, 7, 8, 9] [])) (drR [] [7] []) zH (by kernel_rfl) (by kernel_rfl) (fun _ _ h => h) ?_) | (refine zB (by simp only [go_sem]; exact rfl) ?_) | (refine zD (by simp only [go_sem]; exact rfl) ?_) | refine zl ?_ | refine zq ?_ ?_ | exact zC | ((with_reducible first | apply awp | refine awU ?_); intro r hr; simp only [go_sem, Nat.reduceBEq, Nat.reduceLT, Nat.reduceLeDiff, Nat.reduceAdd, Nat.reduceMul, Nat.reduceEqDiff, reduceCtorEq, zp, ht, ha, hl] at hr; subst hr; (first | refine awV ?_ ?_ | refine zP ?_ ?_ ?_)))) <;> (try omega)
 all_goals first | exact AV.up_rfl _ | (repeat first | exact zo | refine zn rfl ?_)
theorem zav (e : Bool) (C : List InsM) (N : List Int) (L : LkM) (W : List Int) (hW : W.length ≤ 1000000000) (hne : 0 < W.length) :
  yb Tryz.prog 125 [.ptr 1 10000 0 5] (lkO e C N L W) (.ifc 3 (vI (W.getD (W.length - 1) 0))) (lkO e C N L (W.take (W.length - 1))) := by
 have hw := zy (n := (W.length : Int) - 1) (by omega)
 have zw : ((W.length : Int) - 1).toNat = W.length - 1 := by omega
 have gw := wA (W := W) (i := W.length - 1) (by omega)
 have hl : (W.take (W.length - 1)).length = W.length - 1 := by rw [List.length_take]; omega
 unfold lkO lkV
 rw [hl, ← yR]
 refine zJ (zb _) Tryz.func125 rfl rfl (by rw [Tryz.results125]) Tryz.ntmps125 rfl fun E => ?_
 (repeat' (first | exact trivial | (with_reducible first | apply awA | apply awD | apply awF) | ((with_reducible first | apply awn | refine awT ?_); intro r hr; simp only [go_sem, Nat.reduceBEq, Nat.reduceLT, Nat.reduceLeDiff, Nat.reduceAdd, Nat.reduceMul, hw, zw, gw, Int.toNat_zero, Nat.sub_zero, Nat.zero_add] at hr; subst hr; (first | refine awV ?_ ?_ | refine zP ?_ ?_ ?_)))) <;> (try omega)
 all_goals first | exact AV.up_rfl _ | exact zn rfl (zn rfl (zn rfl (VB rfl zo)))
theorem za6 (e : Bool) (C : List InsM) (N : List Int) (L : LkM) (W : List Int) (hW : W.length ≤ 1000000000) (j0 : Nat) (hj0 : j0 < W.length) :
  yb Tryz.prog 78 [.ifc 76 (.ptr 1 10000 0 5), vI j0] (lkO e C N L W) (.tup []) (lkO e C N L (upF (j0 + 1) W j0)) := by
 have hlen : (upF (j0 + 1) W j0).length = W.length := (qm _ _ _ hj0).length_eq
 generalize hR : upF (j0 + 1) W j0 = R at hlen
 unfold lkO lkV
 rw [hlen]
 refine zJ (zb _) Tryz.func78 rfl rfl (by rw [Tryz.results78]) Tryz.ntmps78 rfl fun E => ?_
 (repeat' (first | exact trivial | (with_reducible apply awB) | ((with_reducible first | apply awn | apply awo | apply awp | refine awQ ?_ | refine awR ?_ | refine awS ?_ | refine awT ?_ | refine awU ?_); intro r hr; simp only [go_sem, Nat.reduceBEq, Nat.reduceBneDiff, Nat.reduceLT, Nat.reduceLeDiff, Nat.reduceAdd, Nat.reduceMul, Nat.reduceSub, Nat.reduceEqDiff, reduceCtorEq] at hr; subst hr))) <;> (try omega)
 refine zI [0, 1] [10000, 15000, 15001, 15002] (fun x : Nat × Nat × List Int => ⟨[(0, true, .ifc 76 (.ptr 1 10000 0 5)), (1, true, vI x.2.1)],
  [(10000, .var [vB e, .lst 4 (zF C), .lst 1 (v8 N), .ref 52 6 15000 0 L.length, .ref 4 1 15001 0 L.length, .ref 3 1 15002 0 W.length]), (15000, .row 52 6 (yk L)), (15001, .row 4 1 (yl L)), (15002, .row 3 1 (v8 x.2.2))]⟩)
  (fun x => x.2.1 < x.1 ∧ x.2.1 < W.length ∧ x.2.2.length = W.length ∧ upF x.1 x.2.2 x.2.1 = R) (fun x => x.1) (j0 + 1, j0, W) (by simp only [go_sem, Nat.reduceBEq] <;> exact rfl) ⟨Nat.lt_succ_self _, hj0, rfl, hR⟩ ?_
 clear hR hj0 j0
 intro ⟨f, j, W'⟩ ⟨h1, h2, h3, h4⟩
 simp only at h1 h2 h3 h4 ⊢
 obtain ⟨f, rfl⟩ : ∃ f', f = f' + 1 := ⟨f - 1, by omega⟩
 have hw1 := zy (n := (j : Int) - 1) (by omega)
 have hw2 : IntKind.i64.wrap (((j : Int) - 1).tdiv 2) = (((j - 1) / 2 : Nat) : Int) := by
  rcases Nat.eq_zero_or_pos j with h0 | h0
  ·subst h0; rfl
  ·rw [show ((j : Int) - 1) = ((j - 1 : Nat) : Int) by omega, Int.tdiv_eq_ediv_of_nonneg (by omega), show ((j - 1 : Nat) : Int) / 2 = (((j - 1) / 2 : Nat) : Int) by omega, zy (by omega)]
 generalize hi : (j - 1) / 2 = i at hw2
 have hil : i < W'.length := by omega
 have hjl : j < W'.length := by omega
 unfold upF at h4
 rw [hi] at h4
 by_cases h0 : i = j
 ·rw [if_pos (.inl h0)] at h4
  subst h4
  have e0 : ((i : Int) = (j : Int)) = True := eq_true (by omega)
  (repeat' (first | exact trivial | (with_reducible first | apply awA | apply awB | apply awE | apply awF | apply awH | apply awK | refine awM (by decide) ?_) | ((with_reducible first | apply awn | apply awo | refine awQ ?_ | refine awU ?_); intro r hr; simp only [go_sem, Nat.reduceBEq, Nat.reduceLT, reduceCtorEq, hw1, hw2, e0, Int.reduceEq] at hr; subst hr; (first | refine awV ?_ ?_ | refine awW ?_ ?_ | refine zP ?_ ?_ ?_ | (refine zh (fun h => ?_) (fun h => ?_) <;> (try simp only [go_sem, reduceCtorEq] at h) <;> (try (exfalso; omega))))) | (refine yD (vB true) rfl rfl ⟨by decide, by decide⟩ ?_))) <;> (try omega)
  all_goals first | exact AV.up_rfl _ | (repeat first | exact zo | refine zn rfl ?_)
 ·have e0 : ((i : Int) = (j : Int)) = False := eq_false (by omega)
  have hls := qO W' (by omega) j i hjl hil
  have ht : (v8 W').take W.length = v8 W' := by rw [yR, List.take_of_length_le (by omega)]
  by_cases hlt : W'.getD j 0 < W'.getD i 0
  ·rw [if_neg (by rintro (h | h) <;> omega)] at h4
   have hsw := qQ W' (by omega) W.length (by omega) i j (by omega) (by omega)
   rw [decide_eq_true hlt] at hls
   (repeat' (first | exact trivial | (with_reducible first | apply awA | apply awB | apply awC | apply awF | apply awI) | ((with_reducible first | apply awn | apply awo | refine awQ ?_); intro r hr; simp only [go_sem, Nat.reduceBEq, Nat.reduceLT, reduceCtorEq, hw1, hw2, e0, Int.reduceEq] at hr; subst hr; (first | refine awV ?_ ?_ | refine awW ?_ ?_ | (refine zh (fun h => ?_) (fun h => ?_) <;> (try simp only [go_sem, reduceCtorEq] at h) <;> (try (exfalso; omega))))) | (refine yr (zb _) [] [] [] [] (by simp only [go_sem, Nat.reduceBEq, Nat.reduceLT, Nat.reduceLeDiff, Nat.reduceAdd, Nat.reduceMul, h3, ht, zp] <;> exact rfl) ?_ rfl rfl (by first | exact .inl rfl | exact .inr rfl) (by simp only [go_sem] <;> exact rfl) (hls) (.inr ⟨rfl, ?_⟩) ?_) | (refine yr (zb _) [(15002, 10001)] [(10001, 15002)] [] [15002] (by simp only [go_sem, Nat.reduceBEq, Nat.reduceLT, Nat.reduceLeDiff, Nat.reduceAdd, Nat.reduceMul] <;> exact rfl) ?_ rfl rfl (by first | exact .inl rfl | exact .inr rfl) (by simp only [go_sem, Nat.reduceBEq] <;> exact rfl) (hsw) (.inl rfl) ?_))) <;> (try omega)
   refine ⟨(f, i, yN W' i j), ?_, ⟨by show i < f; omega, by show i < W.length; omega, by show (yN W' i j).length = _; rw [yz]; exact h3, h4⟩, by show f < f + 1; omega⟩
   simp only [go_sem, Nat.reduceBEq]
  ·rw [if_pos (.inr hlt)] at h4
   subst h4
   rw [decide_eq_false hlt] at hls
   (repeat' (first | exact trivial | (with_reducible first | apply awA | apply awB | apply awE | apply awF | apply awH | apply awK | refine awM (by decide) ?_) | ((with_reducible first | apply awn | apply awo | refine awQ ?_ | refine awU ?_); intro r hr; simp only [go_sem, Nat.reduceBEq, Nat.reduceLT, reduceCtorEq, hw1, hw2, e0, Int.reduceEq] at hr; subst hr; (first | refine awV ?_ ?_ | refine awW ?_ ?_ | refine zP ?_ ?_ ?_ | (refine zh (fun h => ?_) (fun h => ?_) <;> (try simp only [go_sem, reduceCtorEq] at h) <;> (try (exfalso; omega))))) | (refine yr (zb _) [] [] [] [] (by simp only [go_sem, Nat.reduceBEq, Nat.reduceLT, Nat.reduceLeDiff, Nat.reduceAdd, Nat.reduceMul, h3, ht, zp] <;> exact rfl) ?_ rfl rfl (by first | exact .inl rfl | exact .inr rfl) (by simp only [go_sem] <;> exact rfl) (hls) (.inr ⟨rfl, ?_⟩) ?_))) <;> (try omega)
   all_goals first | exact AV.up_rfl _ | (repeat first | exact zo | refine zn rfl ?_)
end
section
open Go.RowKit
abbrev vSt (s : StM) : AV := .agg [vI s.place, .v (.int .u64 s.kids), vI s.table, vI s.parts, vI s.free, vI s.left]
abbrev vEf (e : EfM) : AV := .agg [vI e.next.place, .v (.int .u64 e.next.kids), vI e.next.table, vI e.next.parts, vI e.next.free, vI e.next.left, vI e.target.place, .v (.int .u64 e.target.kids), vI e.target.table, vI e.target.parts, vI e.target.free, vI e.target.left]
theorem yA (s : StM) : zQ Tryz.prog 94 [vSt s] (fun r => r = vEf (both s)) := by
 refine zE (zb _) Tryz.func94 rfl rfl (by rw [Tryz.results94]) Tryz.ntmps94 rfl fun E => ?_
 (repeat' (first | exact trivial | (with_reducible first | apply awA | apply awD | apply awF) | ((with_reducible first | apply awn | refine awR ?_); intro r hr; simp only [go_sem, Nat.reduceBEq, Nat.reduceLT, Nat.reduceLeDiff, Nat.reduceAdd, Nat.reduceMul] at hr; subst hr; (first | refine awV ?_ ?_ | refine zM ?_ ?_)))) <;> (try omega)
 all_goals exact rfl
theorem xz (s : StM) : zQ Tryz.prog 104 [vSt s] (fun r => r = vSt s.still) := by
 refine zE (zb _) Tryz.func104 rfl rfl (by rw [Tryz.results104]) Tryz.ntmps104 rfl fun E => ?_
 (repeat' (first | exact trivial | (with_reducible first | apply awA | apply awD | apply awF) | ((with_reducible first | apply awn | refine awR ?_); intro r hr; simp only [go_sem, Nat.reduceBEq, Nat.reduceLT, Nat.reduceLeDiff, Nat.reduceAdd, Nat.reduceMul] at hr; subst hr; (first | refine awV ?_ ?_ | refine zM ?_ ?_)))) <;> (try omega)
 all_goals exact rfl
theorem ZL (s : StM) (p : Int) : zQ Tryz.prog 98 [vSt s, vI p] (fun r => r = vSt (s.at_ p)) := by
 have h := xz { s with place := p }
 refine zE (zb _) Tryz.func98 rfl rfl (by rw [Tryz.results98]) Tryz.ntmps98 rfl fun E => ?_
 (repeat' (first | exact trivial | (with_reducible first | apply awA | apply awD | apply awF) | ((with_reducible first | apply awn | apply awo | refine awR ?_); intro r hr; simp only [go_sem, Nat.reduceBEq, Nat.reduceLT, Nat.reduceLeDiff, Nat.reduceAdd, Nat.reduceMul] at hr; subst hr; (first | refine caC (h) rfl ?_ ?_ ?_ | refine awV ?_ ?_ | refine zM ?_ ?_)))) <;> (try omega)
 all_goals exact rfl
theorem qv (s : StM) (p : Int) : zQ Tryz.prog 99 [vSt s, vI p] (fun r => r = vSt (s.wth p)) := by
 refine zE (zb _) Tryz.func99 rfl rfl (by rw [Tryz.results99]) Tryz.ntmps99 rfl fun E => ?_
 (repeat' (first | exact trivial | (with_reducible first | apply awA | apply awD | apply awF) | ((with_reducible first | apply awn | refine awR ?_); intro r hr; simp only [go_sem, Nat.reduceBEq, Nat.reduceLT, Nat.reduceLeDiff, Nat.reduceAdd, Nat.reduceMul] at hr; subst hr; (first | refine awV ?_ ?_ | refine zM ?_ ?_)))) <;> (try omega)
 all_goals exact rfl
theorem jP (s : StM) (k : Int) : zQ Tryz.prog 96 [vSt s, vI k] (fun r => r = .tup [vSt (s.fill k).1, vB (s.fill k).2]) := by
 have h4 := ZL s 4
 have hs := xz s
 have hb := xz { s with kids := za0 s.kids k }
 unfold StM.fill
 by_cases h0 : s.place = 0
 ·simp only [h0, if_true]
  have e0 : (s.place = 0) = True := eq_true h0
  refine zE (zb _) Tryz.func96 rfl rfl (by rw [Tryz.results96]) Tryz.ntmps96 rfl fun E => ?_
  (repeat' (first | exact trivial | (with_reducible first | apply awA | apply awB | apply awD | apply awF | apply awG | apply awJ) | ((with_reducible first | apply awn | apply awo | refine awQ ?_ | refine awR ?_); intro r hr; simp only [go_sem, Nat.reduceBEq, Nat.reduceLT, Nat.reduceLeDiff, Nat.reduceAdd, Nat.reduceMul, e0] at hr; subst hr; (first | refine caC (h4) rfl ?_ ?_ ?_ | refine awV ?_ ?_ | refine zM ?_ ?_ | (refine zh (fun h => ?_) (fun h => ?_) <;> (try simp only [go_sem, reduceCtorEq] at h) <;> (try (exfalso; omega))))))) <;> (try omega)
  all_goals exact rfl
 have e0 : (s.place = 0) = False := eq_false h0
 rw [if_neg h0]
 by_cases h3 : s.place = 3
 ·simp only [h3, if_true]
  have e3 : (s.place = 3) = True := eq_true h3
  refine zE (zb _) Tryz.func96 rfl rfl (by rw [Tryz.results96]) Tryz.ntmps96 rfl fun E => ?_
  (repeat' (first | exact trivial | (with_reducible first | apply awA | apply awB | apply awD | apply awF | apply awG | apply awJ) | ((with_reducible first | apply awn | apply awo | refine awQ ?_ | refine awR ?_); intro r hr; simp only [go_sem, Nat.reduceBEq, Nat.reduceLT, Nat.reduceLeDiff, Nat.reduceAdd, Nat.reduceMul, e0, e3] at hr; subst hr; (first | refine caC (h4) rfl ?_ ?_ ?_ | refine awV ?_ ?_ | refine zM ?_ ?_ | (refine zh (fun h => ?_) (fun h => ?_) <;> (try simp only [go_sem, reduceCtorEq] at h) <;> (try (exfalso; omega))))))) <;> (try omega)
  all_goals exact rfl
 have e3 : (s.place = 3) = False := eq_false h3
 rw [if_neg h3]
 by_cases h1 : s.place = 1
 ·simp only [h1, if_true]
  have e1 : (s.place = 1) = True := eq_true h1
  refine zE (zb _) Tryz.func96 rfl rfl (by rw [Tryz.results96]) Tryz.ntmps96 rfl fun E => ?_
  (repeat' (first | exact trivial | (with_reducible first | apply awA | apply awB | apply awD | apply awF | apply awG | apply awJ) | (refine zA (id := 7) (t := (.node [0, 2, 3, 1, 4, 5, 6, 7, 8, 9, 10, 11, 12, 13, 14, 15] [])) (drR [2] [] []) zH (by kernel_rfl) (by kernel_rfl) (fun _ _ h => h) ?_) | (refine zB (by simp only [go_sem]; exact rfl) ?_) | (refine zD (by simp only [go_sem]; exact rfl) ?_) | refine zl ?_ | refine zq ?_ ?_ | exact zC | ((with_reducible first | apply awn | apply awp | refine awQ ?_ | refine awR ?_); intro r hr; simp only [go_sem, Nat.reduceBEq, Nat.reduceLT, Nat.reduceLeDiff, Nat.reduceAdd, Nat.reduceMul, e0, e3, e1] at hr; subst hr; (first | refine caC (hs) rfl ?_ ?_ ?_ | refine awV ?_ ?_ | refine zM ?_ ?_ | (refine zh (fun h => ?_) (fun h => ?_) <;> (try simp only [go_sem, reduceCtorEq] at h) <;> (try (exfalso; omega))))))) <;> (try omega)
  all_goals trace_state
  all_goals exact rfl
 have e1 : (s.place = 1) = False := eq_false h1
 rw [if_neg h1]
 by_cases h2 : s.place = 2
 ·have e2 : (s.place = 2) = True := eq_true h2
  rw [if_pos h2]
  by_cases hk : k < 0
  ·have ek : (k < 0) = True := eq_true hk
   rw [if_pos (.inl hk)]
   refine zE (zb _) Tryz.func96 rfl rfl (by rw [Tryz.results96]) Tryz.ntmps96 rfl fun E => ?_
   (repeat' (first | exact trivial | (with_reducible first | apply awA | apply awB | apply awD | apply awF | apply awG | apply awJ) | ((with_reducible first | apply awn | refine awQ ?_ | refine awR ?_); intro r hr; simp only [go_sem, Nat.reduceBEq, Nat.reduceLT, Nat.reduceLeDiff, Nat.reduceAdd, Nat.reduceMul, reduceCtorEq, e0, e3, e1, e2, ek] at hr; subst hr; (first | refine awV ?_ ?_ | refine zM ?_ ?_ | (refine zh (fun h => ?_) (fun h => ?_) <;> (try simp only [go_sem, reduceCtorEq] at h) <;> (try (exfalso; omega))))))) <;> (try omega)
   all_goals trace_state
   all_goals exact rfl
  ·have ek : (k < 0) = False := eq_false hk
   by_cases hg : bits .and .u64 (s.kids.fdiv (2 ^ min k.toNat 64)) 1 = 1
   ·rw [if_pos (.inr (decide_eq_true hg))]
    have eg : (bits .and .u64 (s.kids.fdiv (2 ^ min k.toNat 64)) 1 = 1) = True := eq_true hg
    refine zE (zb _) Tryz.func96 rfl rfl (by rw [Tryz.results96]) Tryz.ntmps96 rfl fun E => ?_
    (repeat' (first | exact trivial | (with_reducible first | apply awA | apply awB | apply awD | apply awF | apply awG | apply awJ) | ((with_reducible first | apply awn | refine awQ ?_ | refine awR ?_); intro r hr; simp only [go_sem, Nat.reduceBEq, Nat.reduceLT, Nat.reduceLeDiff, Nat.reduceAdd, Nat.reduceMul, reduceCtorEq, e0, e3, e1, e2, ek, eg] at hr; subst hr; (first | refine awV ?_ ?_ | refine zM ?_ ?_ | (refine zh (fun h => ?_) (fun h => ?_) <;> (try simp only [go_sem, reduceCtorEq] at h) <;> (try (exfalso; omega))))))) <;> (try omega)
    all_goals trace_state
    all_goals exact rfl
   ·rw [if_neg (by rintro (h | h); (· exact hk h); exact hg (of_decide_eq_true h))]
    have eg : (bits .and .u64 (s.kids.fdiv (2 ^ min k.toNat 64)) 1 = 1) = False := eq_false hg
    unfold za0 at hb ⊢
    refine zE (zb _) Tryz.func96 rfl rfl (by rw [Tryz.results96]) Tryz.ntmps96 rfl fun E => ?_
    (repeat' (first | exact trivial | (with_reducible first | apply awA | apply awB | apply awC | apply awD | apply awF | apply awG | apply awJ) | (refine zA (id := 11) (t := (.node [0, 1, 2, 3, 4, 5, 6] [])) (drR [] [50] []) zH (by kernel_rfl) (by kernel_rfl) (fun _ _ h => h) ?_) | (refine zB (by simp only [go_sem]; exact rfl) ?_) | (refine zD (by simp only [go_sem]; exact rfl) ?_) | refine zl ?_ | refine zq ?_ ?_ | exact zC | ((with_reducible first | apply awn | apply awo | apply awp | refine awQ ?_ | refine awR ?_); intro r hr; simp only [go_sem, Nat.reduceBEq, Nat.reduceLT, Nat.reduceLeDiff, Nat.reduceAdd, Nat.reduceMul, reduceCtorEq, e0, e3, e1, e2, ek, eg] at hr; subst hr; (first | refine caC (hb) rfl ?_ ?_ ?_ | refine awV ?_ ?_ | refine zM ?_ ?_ | (refine zh (fun h => ?_) (fun h => ?_) <;> (try simp only [go_sem, reduceCtorEq] at h) <;> (try (exfalso; omega))))))) <;> (try omega)
    all_goals trace_state
    all_goals exact rfl
 have e2 : (s.place = 2) = False := eq_false h2
 rw [if_neg h2]
 refine zE (zb _) Tryz.func96 rfl rfl (by rw [Tryz.results96]) Tryz.ntmps96 rfl fun E => ?_
 (repeat' (first | exact trivial | (with_reducible first | apply awA | apply awB | apply awC | apply awD | apply awF | apply awI) | ((with_reducible first | apply awn | refine awQ ?_ | refine awR ?_); intro r hr; simp only [go_sem, Nat.reduceBEq, Nat.reduceLT, Nat.reduceLeDiff, Nat.reduceAdd, Nat.reduceMul, e0, e3, e1, e2] at hr; subst hr; (first | refine awV ?_ ?_ | refine zM ?_ ?_ | (refine zh (fun h => ?_) (fun h => ?_) <;> (try simp only [go_sem, reduceCtorEq] at h) <;> (try (exfalso; omega))))))) <;> (try omega)
 all_goals exact rfl
end
section
open Go.RowKit
def KF (k : Int) : Int := IntKind.u64.wrap (1 * 2 ^ min k.toNat 64)
def StM.filledD (s : StM) (k : Int) : StM × Bool :=
 if s.place = 0 ∧ k = -1 ∨ s.place = 3 ∧ k ≤ 0 then (s.at_ 4, true)
 else if s.place = 1 ∧ k = -1 then (s.still, decide (s.free = 1) || decide (s.free = 2))
 else if s.place = 2 ∧ 0 ≤ k ∧ k < 64 then (({ s with kids := bits .or .u64 s.kids (KF k) } : StM).still, decide (bits .and .u64 s.kids (KF k) = 0))
 else (s.still, false)
def StM.offsetD (s : StM) (f : Int) : EfM × Bool :=
 if s.place = 2 then (both ({ s with table := IntKind.i64.wrap (s.table + 1) } : StM).still, decide (s.parts = 0) && decide (0 ≤ s.table) && decide (s.table < 64))
 else (both ({ s with table := -1 } : StM).still, decide (s.place = 1) && (decide (s.free = 1) && decide (f ≤ 4194304) || decide (s.free = 3)))
def StM.partD (s : StM) (x : InsM) : EfM × Bool :=
 if x.a = -1 then (both s.still, decide (s.place = 1) && decide (s.free = 4))
 else (both { (s.filledD x.a).1 with parts := IntKind.i64.wrap ((s.filledD x.a).1.parts + 1) }, (s.filledD x.a).2 && decide (s.place = 2) && decide (x.b = s.parts) && decide (x.b < s.table))
def VU : Nat → Int → StM → Bool → StM × Bool
 | 0, _, s, ok => (s, ok)
 | n + 1, k, s, ok => if ok = true then VU n (k + 1) (s.filledD k).1 (s.filledD k).2 else (s, ok)
def StM.endsD (s : StM) : Bool := if s.place ≠ 2 then decide (s.place = 4) || decide (s.place = 1) else decide (s.kids ≠ 0) && decide (bits .and .u64 s.kids (IntKind.u64.wrap (s.kids + 1)) = 0)
def kU (s : StM) (x : InsM) (t : Int) : EfM × Bool :=
 let nobody := decide (s.place = 0)
 if x.op = 16 then (both (s.filledD x.a).1, (s.filledD x.a).2 && decide (x.c < t))
 else if x.op = 1 ∨ x.op = 3 ∨ x.op = 4 then (both (s.filledD x.a).1, (s.filledD x.a).2)
 else if x.op = 2 then (both (VU x.b.toNat x.a s (decide (s.place = 2))).1, (VU x.b.toNat x.a s (decide (s.place = 2))).2)
 else if x.op = 5 then (both ((s.at_ 1).wth 1), nobody)
 else if x.op = 6 then (both (s.at_ 2), nobody)
 else if x.op = 7 then (⟨s.at_ 3, s.at_ 4⟩, nobody)
 else if x.op = 8 then (both (s.at_ 3), nobody)
 else if x.op = 10 then s.offsetD x.a
 else if x.op = 17 then ((s.partD x).1, (s.partD x).2 && decide (x.c < t))
 else if x.op = 11 ∨ x.op = 12 ∨ x.op = 13 ∨ x.op = 14 ∨ x.op = 15 ∨ x.op = 18 then s.rounds x
 else if x.op = 19 then (both s, true)
 else if x.op = 20 then (.zero, s.endsD)
 else (.zero, false)
def StM.takenD (s : StM) : StM × Bool :=
 if s.place = 5 then ({ s with place := 6 }, true) else ({ s with left := IntKind.i64.wrap (s.left - 1) }, decide (s.place = 6) && decide (0 ≤ IntKind.i64.wrap (s.left - 1)))
def qp (s : StM) (x : InsM) (t : Int) : EfM × Bool :=
 let wants := decide (s.place = 5)
 if x.op = 33 ∨ x.op = 35 then (if x.a = -1 then (both s.turn.1, s.turn.2) else (both s.takenD.1, s.takenD.2))
 else if x.op = 34 then (both { s with left := IntKind.i64.wrap (s.left - x.b) }, decide (s.place = 6) && decide (x.b ≤ s.left))
 else if x.op = 36 then (both s.takenD.1, s.takenD.2)
 else if x.op = 37 then (both ⟨7, 0, 0, 0, 2, 0⟩, wants)
 else if x.op = 38 then (both ⟨7, 0, 0, 0, 0, 0⟩, wants)
 else if x.op = 39 then (both ⟨6, 0, 0, 0, 0, x.a⟩, wants)
 else if x.op = 40 then (⟨⟨6, 0, 0, 0, 0, 1⟩, ⟨6, 0, 0, 0, 0, 0⟩⟩, wants)
 else if x.op = 41 then (both ⟨6, 0, 0, 0, 0, 1⟩, wants)
 else if x.op = 42 then (both s, decide (s.place = 7) || decide (s.place = 6) && !decide (x.a = -1))
 else if x.op = 43 then (both s, decide (s.place = 6) && !decide (x.a = -1) || decide (s.place = 7) && decide (x.a = -1) && decide (s.free = 2))
 else if x.op = 44 then (both s.takenD.1, s.takenD.2 && decide (x.c < t))
 else if x.op = 45 then (both s.turn.1, s.turn.2 && decide (x.c < t))
 else if x.op = 46 then (if s.place = 7 then (both s.turn.1, s.turn.2 && decide (x.c < t)) else (both s.takenD.1, s.takenD.2 && decide (x.c < t)))
 else if x.op = 47 then (⟨⟨6, 0, 0, 0, 0, 0⟩, ⟨7, 0, 0, 0, 2, 0⟩⟩, decide (s.place = 7))
 else if x.op = 19 then (both s, true)
 else (.zero, decide (x.op = 20) && decide (s.place = 6) && decide (s.left = 0))
end
section
open Go.RowKit
theorem vU (s : StM) (k : Int) (hk : -1 ≤ k ∧ k ≤ 63) : zQ Tryz.prog 86 [vSt s, vI k] (fun r => r = .tup [vSt (s.filledD k).1, vB (s.filledD k).2]) := by
 have hw : IntKind.u64.wrap k = k ∨ k < 0 := by
  by_cases h : k < 0
  ·exact .inr h
  ·left; rw [IntKind.wrap_u64]; omega
 unfold StM.filledD KF
 by_cases hA : s.place = 0 ∧ k = -1 ∨ s.place = 3 ∧ k ≤ 0
 ·rw [if_pos hA]
  rcases hA with ⟨h1, h2⟩ | ⟨h1, h2⟩
  ·have e1 : (s.place = 0) = True := eq_true h1
   have e2 : (k = -1) = True := eq_true h2
   refine zE (zb _) Tryz.func86 rfl rfl (by rw [Tryz.results86]) Tryz.ntmps86 rfl fun E => ?_
   (repeat' (first | exact trivial | (with_reducible first | apply awA | apply awB | apply awC | apply awD | apply awF | apply awG | apply awJ) | ((with_reducible first | apply awn | refine awQ ?_ | refine awR ?_); intro r hr; simp only [go_sem, Nat.reduceBEq, Nat.reduceLT, Nat.reduceLeDiff, Nat.reduceAdd, Nat.reduceMul, reduceCtorEq, e1, e2] at hr; subst hr; (first | refine awV ?_ ?_ | refine zM ?_ ?_ | (refine zh (fun h => ?_) (fun h => ?_) <;> (try simp only [go_sem, reduceCtorEq] at h) <;> (try (exfalso; omega))))))) <;> (try omega)
   all_goals exact rfl
  ·have e0 : (s.place = 0) = False := eq_false (by omega)
   have e1 : (s.place = 3) = True := eq_true h1
   have e2 : (k ≤ 0) = True := eq_true h2
   refine zE (zb _) Tryz.func86 rfl rfl (by rw [Tryz.results86]) Tryz.ntmps86 rfl fun E => ?_
   (repeat' (first | exact trivial | (with_reducible first | apply awA | apply awB | apply awD | apply awF | apply awG | apply awJ) | ((with_reducible first | apply awn | refine awQ ?_ | refine awR ?_); intro r hr; simp only [go_sem, Nat.reduceBEq, Nat.reduceLT, Nat.reduceLeDiff, Nat.reduceAdd, Nat.reduceMul, reduceCtorEq, e0, e1, e2] at hr; subst hr; (first | refine awV ?_ ?_ | refine zM ?_ ?_ | (refine zh (fun h => ?_) (fun h => ?_) <;> (try simp only [go_sem, reduceCtorEq] at h) <;> (try (exfalso; omega))))))) <;> (try omega)
   all_goals exact rfl
 rw [if_neg hA]
 by_cases hB : s.place = 1 ∧ k = -1
 ·rw [if_pos hB]
  have e0 : (s.place = 0) = False := eq_false (by omega)
  have e3 : (s.place = 3) = False := eq_false (by omega)
  have e1 : (s.place = 1) = True := eq_true hB.1
  have e2 : (k = -1) = True := eq_true hB.2
  by_cases hf : s.free = 1
  ·have e4 : (s.free = 1) = True := eq_true hf
   refine zE (zb _) Tryz.func86 rfl rfl (by rw [Tryz.results86]) Tryz.ntmps86 rfl fun E => ?_
   (repeat' (first | exact trivial | (with_reducible first | apply awA | apply awB | apply awD | apply awF | apply awG | apply awJ) | ((with_reducible first | apply awn | refine awQ ?_ | refine awR ?_); intro r hr; simp only [go_sem, Nat.reduceBEq, Nat.reduceLT, Nat.reduceLeDiff, Nat.reduceAdd, Nat.reduceMul, reduceCtorEq, e0, e1, e2, e3, e4] at hr; subst hr; (first | refine awV ?_ ?_ | refine zM ?_ ?_ | (refine zh (fun h => ?_) (fun h => ?_) <;> (try simp only [go_sem, reduceCtorEq] at h) <;> (try (exfalso; omega))))))) <;> (try omega)
   all_goals (simp only [hf, decide_true, Bool.true_or]; try exact rfl)
  ·have e4 : (s.free = 1) = False := eq_false hf
   refine zE (zb _) Tryz.func86 rfl rfl (by rw [Tryz.results86]) Tryz.ntmps86 rfl fun E => ?_
   (repeat' (first | exact trivial | (with_reducible first | apply awA | apply awB | apply awD | apply awF | apply awG | apply awJ) | ((with_reducible first | apply awn | refine awQ ?_ | refine awR ?_); intro r hr; simp only [go_sem, Nat.reduceBEq, Nat.reduceLT, Nat.reduceLeDiff, Nat.reduceAdd, Nat.reduceMul, reduceCtorEq, e0, e1, e2, e3, e4] at hr; subst hr; (first | refine awV ?_ ?_ | refine zM ?_ ?_ | (refine zh (fun h => ?_) (fun h => ?_) <;> (try simp only [go_sem, reduceCtorEq] at h) <;> (try (exfalso; omega))))))) <;> (try omega)
   all_goals (simp only [hf, decide_false, Bool.false_or]; try exact rfl)
 rw [if_neg hB]
 by_cases hC : s.place = 2 ∧ 0 ≤ k ∧ k < 64
 ·rw [if_pos hC]
  have e0 : (s.place = 0) = False := eq_false (by omega)
  have e3 : (s.place = 3) = False := eq_false (by omega)
  have e1 : (s.place = 1) = False := eq_false (by omega)
  have e2 : (s.place = 2) = True := eq_true hC.1
  have e4 : (k ≥ 0) = True := eq_true hC.2.1
  have e5 : (k < 64) = True := eq_true hC.2.2
  have hw := hw.resolve_right (by omega)
  refine zE (zb _) Tryz.func86 rfl rfl (by rw [Tryz.results86]) Tryz.ntmps86 rfl fun E => ?_
  (repeat' (first | exact trivial | (with_reducible first | apply awA | apply awB | apply awD | apply awF | apply awG | apply awJ) | ((with_reducible first | apply awn | refine awQ ?_ | refine awR ?_); intro r hr; simp only [go_sem, Nat.reduceBEq, Nat.reduceLT, Nat.reduceLeDiff, Nat.reduceAdd, Nat.reduceMul, reduceCtorEq, e0, e1, e2, e3, e4, e5, hw] at hr; subst hr; (first | refine awV ?_ ?_ | refine zM ?_ ?_ | (refine zh (fun h => ?_) (fun h => ?_) <;> (try simp only [go_sem, reduceCtorEq] at h) <;> (try (exfalso; omega))))))) <;> (try omega)
  all_goals exact rfl
 ·rw [if_neg hC]
  have cs : ((s.place = 0) = True ∧ (s.place = 3) = False ∧ (s.place = 1) = False ∧ (s.place = 2) = False ∧ (k = -1) = False) ∨ ((s.place = 0) = False ∧ (s.place = 3) = True ∧ (s.place = 1) = False ∧ (s.place = 2) = False ∧ (k ≤ 0) = False) ∨
    ((s.place = 0) = False ∧ (s.place = 3) = False ∧ (s.place = 1) = True ∧ (s.place = 2) = False ∧ (k = -1) = False) ∨ ((s.place = 0) = False ∧ (s.place = 3) = False ∧ (s.place = 1) = False ∧ (s.place = 2) = True ∧ (k ≥ 0) = False) ∨
    ((s.place = 0) = False ∧ (s.place = 3) = False ∧ (s.place = 1) = False ∧ (s.place = 2) = False ∧ ((7 : Nat) + 0 = 7) = True) := by
   rcases (by omega : s.place = 0 ∨ s.place = 3 ∨ s.place = 1 ∨ s.place = 2 ∨ ¬ s.place = 0 ∧ ¬ s.place = 3 ∧ ¬ s.place = 1 ∧ ¬ s.place = 2) with p | p | p | p | p
   ·exact .inl ⟨eq_true p, eq_false (by omega), eq_false (by omega), eq_false (by omega), eq_false (by omega)⟩
   ·exact .inr (.inl ⟨eq_false (by omega), eq_true p, eq_false (by omega), eq_false (by omega), eq_false (by omega)⟩)
   ·exact .inr (.inr (.inl ⟨eq_false (by omega), eq_false (by omega), eq_true p, eq_false (by omega), eq_false (by omega)⟩))
   ·exact .inr (.inr (.inr (.inl ⟨eq_false (by omega), eq_false (by omega), eq_false (by omega), eq_true p, eq_false (by omega)⟩)))
   ·exact .inr (.inr (.inr (.inr ⟨eq_false p.1, eq_false p.2.1, eq_false p.2.2.1, eq_false p.2.2.2, eq_true rfl⟩)))
  clear hA hB hC hw
  rcases cs with ⟨e0, e3, e1, e2, ek⟩ | ⟨e0, e3, e1, e2, ek⟩ | ⟨e0, e3, e1, e2, ek⟩ | ⟨e0, e3, e1, e2, ek⟩ | ⟨e0, e3, e1, e2, ek⟩
  all_goals refine zE (zb _) Tryz.func86 rfl rfl (by rw [Tryz.results86]) Tryz.ntmps86 rfl fun E => ?_
  all_goals (repeat' (first | exact trivial | (with_reducible first | apply awA | apply awB | apply awC | apply awD | apply awF | apply awI) | ((with_reducible first | apply awn | refine awQ ?_ | refine awR ?_); intro r hr; simp only [go_sem, Nat.reduceBEq, Nat.reduceLT, Nat.reduceLeDiff, Nat.reduceAdd, Nat.reduceMul, reduceCtorEq, e0, e1, e2, e3, ek] at hr; subst hr; (first | refine awV ?_ ?_ | refine zM ?_ ?_ | (refine zh (fun h => ?_) (fun h => ?_) <;> (try simp only [go_sem, reduceCtorEq] at h) <;> (try (exfalso; omega))))))) <;> (try omega)
  all_goals exact rfl
theorem YG (s : StM) (f : Int) : zQ Tryz.prog 87 [vSt s, vI f] (fun r => r = .tup [vSt (s.offsetD f).1.next, vB (s.offsetD f).2]) := by
 unfold StM.offsetD
 by_cases h2 : s.place = 2
 ·have e2 : (s.place = 2) = True := eq_true h2
  rw [if_pos h2]
  refine zE (zb _) Tryz.func87 rfl rfl (by rw [Tryz.results87]) Tryz.ntmps87 rfl fun E => ?_
  (repeat' (first | exact trivial | (with_reducible first | apply awA | apply awD | apply awF | apply awG) | ((with_reducible first | apply awn | refine awQ ?_ | refine awR ?_); intro r hr; simp only [go_sem, Nat.reduceBEq, Nat.reduceLT, Nat.reduceLeDiff, Nat.reduceAdd, Nat.reduceMul, e2] at hr; subst hr; (first | refine awV ?_ ?_ | refine zM ?_ ?_ | (refine zh (fun h => ?_) (fun h => ?_) <;> (try simp only [go_sem, reduceCtorEq] at h) <;> (try (exfalso; omega))))))) <;> (try omega)
  all_goals exact rfl
 ·have e2 : (s.place = 2) = False := eq_false h2
  rw [if_neg h2]
  refine zE (zb _) Tryz.func87 rfl rfl (by rw [Tryz.results87]) Tryz.ntmps87 rfl fun E => ?_
  (repeat' (first | exact trivial | (with_reducible first | apply awA | apply awC | apply awD | apply awF) | ((with_reducible first | apply awn | refine awQ ?_ | refine awR ?_); intro r hr; simp only [go_sem, Nat.reduceBEq, Nat.reduceLT, Nat.reduceLeDiff, Nat.reduceAdd, Nat.reduceMul, e2] at hr; subst hr; (first | refine awV ?_ ?_ | refine zM ?_ ?_ | (refine zh (fun h => ?_) (fun h => ?_) <;> (try simp only [go_sem, reduceCtorEq] at h) <;> (try (exfalso; omega))))))) <;> (try omega)
  all_goals exact rfl
theorem VV (s : StM) : zQ Tryz.prog 89 [vSt s] (fun r => r = vB s.endsD) := by
 unfold StM.endsD
 by_cases h2 : s.place = 2
 ·have e2 : (s.place = 2) = True := eq_true h2
  rw [if_neg (by omega)]
  refine zE (zb _) Tryz.func89 rfl rfl (by rw [Tryz.results89]) Tryz.ntmps89 rfl fun E => ?_
  (repeat' (first | exact trivial | (with_reducible first | apply awA | apply awC | apply awD | apply awF) | ((with_reducible first | apply awn | refine awQ ?_ | refine awR ?_); intro r hr; simp only [go_sem, Nat.reduceBEq, Nat.reduceLT, Nat.reduceLeDiff, Nat.reduceAdd, Nat.reduceMul, e2] at hr; subst hr; (first | refine awV ?_ ?_ | refine zM ?_ ?_ | (refine zh (fun h => ?_) (fun h => ?_) <;> (try simp only [go_sem, reduceCtorEq] at h) <;> (try (exfalso; omega))))))) <;> (try omega)
  all_goals exact rfl
 ·have e2 : (s.place = 2) = False := eq_false h2
  rw [if_pos h2]
  refine zE (zb _) Tryz.func89 rfl rfl (by rw [Tryz.results89]) Tryz.ntmps89 rfl fun E => ?_
  (repeat' (first | exact trivial | (with_reducible first | apply awA | apply awD | apply awF | apply awG) | ((with_reducible first | apply awn | refine awQ ?_ | refine awR ?_); intro r hr; simp only [go_sem, Nat.reduceBEq, Nat.reduceLT, Nat.reduceLeDiff, Nat.reduceAdd, Nat.reduceMul, e2] at hr; subst hr; (first | refine awV ?_ ?_ | refine zM ?_ ?_ | (refine zh (fun h => ?_) (fun h => ?_) <;> (try simp only [go_sem, reduceCtorEq] at h) <;> (try (exfalso; omega))))))) <;> (try omega)
  all_goals exact rfl
theorem Wb (s : StM) : zQ Tryz.prog 85 [vSt s] (fun r => r = .tup [vSt s.takenD.1, vB s.takenD.2]) := by
 unfold StM.takenD
 by_cases h5 : s.place = 5
 ·have e5 : (s.place = 5) = True := eq_true h5
  rw [if_pos h5]
  refine zE (zb _) Tryz.func85 rfl rfl (by rw [Tryz.results85]) Tryz.ntmps85 rfl fun E => ?_
  (repeat' (first | exact trivial | (with_reducible first | apply awA | apply awD | apply awF | apply awG) | ((with_reducible first | apply awn | refine awQ ?_ | refine awR ?_); intro r hr; simp only [go_sem, Nat.reduceBEq, Nat.reduceLT, Nat.reduceLeDiff, Nat.reduceAdd, Nat.reduceMul, e5] at hr; subst hr; (first | refine awV ?_ ?_ | refine zM ?_ ?_ | (refine zh (fun h => ?_) (fun h => ?_) <;> (try simp only [go_sem, reduceCtorEq] at h) <;> (try (exfalso; omega))))))) <;> (try omega)
  all_goals exact rfl
 ·have e5 : (s.place = 5) = False := eq_false h5
  rw [if_neg h5]
  by_cases h6 : s.place = 6
  ·have e6 : (s.place = 6) = True := eq_true h6
   refine zE (zb _) Tryz.func85 rfl rfl (by rw [Tryz.results85]) Tryz.ntmps85 rfl fun E => ?_
   (repeat' (first | exact trivial | (with_reducible first | apply awA | apply awC | apply awD | apply awF) | (refine zA (id := 5) (t := (.node [0, 1, 2, 3, 4, 5, 6, 7, 8, 9, 10] [])) (drR [1] [] []) zH (by kernel_rfl) (by kernel_rfl) (fun _ _ h => h) ?_) | (refine zB (by simp only [go_sem]; exact rfl) ?_) | (refine zD (by simp only [go_sem]; exact rfl) ?_) | refine zl ?_ | refine zq ?_ ?_ | exact zC | ((with_reducible first | apply awn | apply awp | refine awQ ?_ | refine awR ?_); intro r hr; simp only [go_sem, Nat.reduceBEq, Nat.reduceLT, Nat.reduceLeDiff, Nat.reduceAdd, Nat.reduceMul, reduceCtorEq, e5, e6] at hr; subst hr; (first | refine awV ?_ ?_ | refine zM ?_ ?_ | (refine zh (fun h => ?_) (fun h => ?_) <;> (try simp only [go_sem, reduceCtorEq] at h) <;> (try (exfalso; omega))))))) <;> (try omega)
   all_goals (simp only [e6, decide_true, Bool.true_and]; exact rfl)
  ·have e6 : (s.place = 6) = False := eq_false h6
   refine zE (zb _) Tryz.func85 rfl rfl (by rw [Tryz.results85]) Tryz.ntmps85 rfl fun E => ?_
   (repeat' (first | exact trivial | (with_reducible first | apply awA | apply awC | apply awD | apply awF) | (refine zA (id := 5) (t := (.node [0, 1, 2, 3, 4, 5, 6, 7, 8, 9, 10] [])) (drR [1] [] []) zH (by kernel_rfl) (by kernel_rfl) (fun _ _ h => h) ?_) | (refine zB (by simp only [go_sem]; exact rfl) ?_) | (refine zD (by simp only [go_sem]; exact rfl) ?_) | refine zl ?_ | refine zq ?_ ?_ | exact zC | ((with_reducible first | apply awn | apply awp | refine awQ ?_ | refine awR ?_); intro r hr; simp only [go_sem, Nat.reduceBEq, Nat.reduceLT, Nat.reduceLeDiff, Nat.reduceAdd, Nat.reduceMul, reduceCtorEq, e5, e6] at hr; subst hr; (first | refine awV ?_ ?_ | refine zM ?_ ?_ | (refine zh (fun h => ?_) (fun h => ?_) <;> (try simp only [go_sem, reduceCtorEq] at h) <;> (try (exfalso; omega))))))) <;> (try omega)
   all_goals (simp only [e6, decide_false, Bool.false_and]; exact rfl)
theorem YH (s : StM) : zQ Tryz.prog 83 [vSt s] (fun r => r = .tup [vSt s.turn.1, vB s.turn.2]) := by
 unfold StM.turn
 by_cases h7 : s.place = 7
 ·have e7 : (s.place = 7) = True := eq_true h7
  refine zE (zb _) Tryz.func83 rfl rfl (by rw [Tryz.results83]) Tryz.ntmps83 rfl fun E => ?_
  (repeat' (first | exact trivial | (with_reducible first | apply awA | apply awD | apply awF) | ((with_reducible first | apply awn | refine awR ?_); intro r hr; simp only [go_sem, Nat.reduceBEq, Nat.reduceLT, Nat.reduceLeDiff, Nat.reduceAdd, Nat.reduceMul, reduceCtorEq, e7] at hr; subst hr; (first | refine awV ?_ ?_ | refine zM ?_ ?_)))) <;> (try omega)
  all_goals (simp only [e7, decide_true, Bool.true_and]; exact rfl)
 ·have e7 : (s.place = 7) = False := eq_false h7
  refine zE (zb _) Tryz.func83 rfl rfl (by rw [Tryz.results83]) Tryz.ntmps83 rfl fun E => ?_
  (repeat' (first | exact trivial | (with_reducible first | apply awA | apply awD | apply awF) | ((with_reducible first | apply awn | refine awR ?_); intro r hr; simp only [go_sem, Nat.reduceBEq, Nat.reduceLT, Nat.reduceLeDiff, Nat.reduceAdd, Nat.reduceMul, reduceCtorEq, e7] at hr; subst hr; (first | refine awV ?_ ?_ | refine zM ?_ ?_)))) <;> (try omega)
  all_goals (simp only [e7, decide_false, Bool.false_and]; exact rfl)
end
section
open Go.RowKit
abbrev WC (x : InsM) : AV := .agg [vI x.op, vI x.a, vI x.b, vI x.c]
theorem Xp (s : StM) (n : Int) : zQ Tryz.prog 92 [vSt s, vI n] (fun r => r = .tup [vSt (s.take n).1, vB (s.take n).2]) := by
 unfold StM.take
 by_cases h5 : s.place = 5
 ·have e5 : (s.place = 5) = True := eq_true h5
  have e6 : (s.place = 6) = False := eq_false (by omega)
  by_cases hn : n = 1
  ·have en : (n = 1) = True := eq_true hn
   rw [if_pos ⟨h5, hn⟩]
   refine zE (zb _) Tryz.func92 rfl rfl (by rw [Tryz.results92]) Tryz.ntmps92 rfl fun E => ?_
   (repeat' (first | exact trivial | (with_reducible first | apply awA | apply awB | apply awD | apply awF | apply awG | apply awJ) | ((with_reducible first | apply awn | refine awQ ?_ | refine awR ?_); intro r hr; simp only [go_sem, Nat.reduceBEq, Nat.reduceLT, Nat.reduceLeDiff, Nat.reduceAdd, Nat.reduceMul, reduceCtorEq, e5, en] at hr; subst hr; (first | refine awV ?_ ?_ | refine zM ?_ ?_ | (refine zh (fun h => ?_) (fun h => ?_) <;> (try simp only [go_sem, reduceCtorEq] at h) <;> (try (exfalso; omega))))))) <;> (try omega)
   all_goals exact rfl
  ·have en : (n = 1) = False := eq_false hn
   rw [if_neg (fun h => hn h.2), if_neg (by omega)]
   refine zE (zb _) Tryz.func92 rfl rfl (by rw [Tryz.results92]) Tryz.ntmps92 rfl fun E => ?_
   (repeat' (first | exact trivial | (with_reducible first | apply awA | apply awB | apply awC | apply awD | apply awF | apply awI) | ((with_reducible first | apply awn | refine awQ ?_ | refine awR ?_); intro r hr; simp only [go_sem, Nat.reduceBEq, Nat.reduceLT, Nat.reduceLeDiff, Nat.reduceAdd, Nat.reduceMul, reduceCtorEq, e5, en, e6] at hr; subst hr; (first | refine awV ?_ ?_ | refine zM ?_ ?_ | (refine zh (fun h => ?_) (fun h => ?_) <;> (try simp only [go_sem, reduceCtorEq] at h) <;> (try (exfalso; omega))))))) <;> (try omega)
   all_goals exact rfl
 ·have e5 : (s.place = 5) = False := eq_false h5
  rw [if_neg (fun h => h5 h.1)]
  by_cases h6 : s.place = 6
  ·have e6 : (s.place = 6) = True := eq_true h6
   rw [if_pos h6]
   refine zE (zb _) Tryz.func92 rfl rfl (by rw [Tryz.results92]) Tryz.ntmps92 rfl fun E => ?_
   (repeat' (first | exact trivial | (with_reducible first | apply awA | apply awB | apply awD | apply awF | apply awG | apply awJ) | (refine zA (id := 5) (t := (.node [0, 1, 2, 3, 4, 5] [])) (drR [2] [] []) zH (by kernel_rfl) (by kernel_rfl) (fun _ _ h => h) ?_) | (refine zB (by simp only [go_sem]; exact rfl) ?_) | (refine zD (by simp only [go_sem]; exact rfl) ?_) | refine zl ?_ | refine zq ?_ ?_ | exact zC | ((with_reducible first | apply awn | apply awp | refine awQ ?_ | refine awR ?_); intro r hr; simp only [go_sem, Nat.reduceBEq, Nat.reduceLT, Nat.reduceLeDiff, Nat.reduceAdd, Nat.reduceMul, reduceCtorEq, e5, e6] at hr; subst hr; (first | refine awV ?_ ?_ | refine zM ?_ ?_ | (refine zh (fun h => ?_) (fun h => ?_) <;> (try simp only [go_sem, reduceCtorEq] at h) <;> (try (exfalso; omega))))))) <;> (try omega)
   all_goals exact rfl
  ·have e6 : (s.place = 6) = False := eq_false h6
   rw [if_neg h6]
   refine zE (zb _) Tryz.func92 rfl rfl (by rw [Tryz.results92]) Tryz.ntmps92 rfl fun E => ?_
   (repeat' (first | exact trivial | (with_reducible first | apply awA | apply awB | apply awC | apply awD | apply awF | apply awI) | ((with_reducible first | apply awn | refine awQ ?_ | refine awR ?_); intro r hr; simp only [go_sem, Nat.reduceBEq, Nat.reduceLT, Nat.reduceLeDiff, Nat.reduceAdd, Nat.reduceMul, reduceCtorEq, e5, e6] at hr; subst hr; (first | refine awV ?_ ?_ | refine zM ?_ ?_ | (refine zh (fun h => ?_) (fun h => ?_) <;> (try simp only [go_sem, reduceCtorEq] at h) <;> (try (exfalso; omega))))))) <;> (try omega)
   all_goals exact rfl
theorem Q6 (s : StM) : zQ Tryz.prog 93 [vSt s] (fun r => r = .tup [vSt s.turn.1, vB s.turn.2]) := by
 have hs := xz s
 refine zE (zb _) Tryz.func93 rfl rfl (by rw [Tryz.results93]) Tryz.ntmps93 rfl fun E => ?_
 (repeat' (first | exact trivial | (with_reducible first | apply awA | apply awD | apply awF) | (refine zA (id := 1) (t := (.node [0, 2, 3, 4, 1, 5, 6, 7, 8, 9, 10, 11] [])) (drR [1] [] []) zH (by kernel_rfl) (by kernel_rfl) (fun _ _ h => h) ?_) | (refine zB (by simp only [go_sem]; exact rfl) ?_) | (refine zD (by simp only [go_sem]; exact rfl) ?_) | refine zl ?_ | refine zq ?_ ?_ | exact zC | ((with_reducible first | apply awn | apply awp | refine awR ?_); intro r hr; simp only [go_sem, Nat.reduceBEq, Nat.reduceLT, Nat.reduceLeDiff, Nat.reduceAdd, Nat.reduceMul] at hr; subst hr; (first | refine caC (hs) rfl ?_ ?_ ?_ | refine awV ?_ ?_ | refine zM ?_ ?_)))) <;> (try omega)
 all_goals exact rfl
theorem Xq (s : StM) : zQ Tryz.prog 95 [vSt s] (fun r => r = vB s.over) := by
 unfold StM.over
 by_cases h1 : s.place = 1
 ·have e1 : (s.place = 1) = True := eq_true h1
  rw [if_pos (.inl h1)]
  refine zE (zb _) Tryz.func95 rfl rfl (by rw [Tryz.results95]) Tryz.ntmps95 rfl fun E => ?_
  (repeat' (first | exact trivial | (with_reducible first | apply awA | apply awB | apply awC | apply awD | apply awF | apply awG | apply awJ) | ((with_reducible first | apply awn | refine awQ ?_ | refine awR ?_); intro r hr; simp only [go_sem, Nat.reduceBEq, Nat.reduceLT, Nat.reduceLeDiff, Nat.reduceAdd, Nat.reduceMul, e1] at hr; subst hr; (first | refine awV ?_ ?_ | refine zM ?_ ?_ | (refine zh (fun h => ?_) (fun h => ?_) <;> (try simp only [go_sem, reduceCtorEq] at h) <;> (try (exfalso; omega))))))) <;> (try omega)
  all_goals exact rfl
 have e1 : (s.place = 1) = False := eq_false h1
 by_cases h4 : s.place = 4
 ·have e4 : (s.place = 4) = True := eq_true h4
  rw [if_pos (.inr h4)]
  refine zE (zb _) Tryz.func95 rfl rfl (by rw [Tryz.results95]) Tryz.ntmps95 rfl fun E => ?_
  (repeat' (first | exact trivial | (with_reducible first | apply awA | apply awB | apply awD | apply awF | apply awG | apply awJ) | ((with_reducible first | apply awn | refine awQ ?_ | refine awR ?_); intro r hr; simp only [go_sem, Nat.reduceBEq, Nat.reduceLT, Nat.reduceLeDiff, Nat.reduceAdd, Nat.reduceMul, e1, e4] at hr; subst hr; (first | refine awV ?_ ?_ | refine zM ?_ ?_ | (refine zh (fun h => ?_) (fun h => ?_) <;> (try simp only [go_sem, reduceCtorEq] at h) <;> (try (exfalso; omega))))))) <;> (try omega)
  all_goals exact rfl
 have e4 : (s.place = 4) = False := eq_false h4
 rw [if_neg (by omega)]
 by_cases h2 : s.place = 2
 ·have e2 : (s.place = 2) = True := eq_true h2
  rw [if_pos h2]
  refine zE (zb _) Tryz.func95 rfl rfl (by rw [Tryz.results95]) Tryz.ntmps95 rfl fun E => ?_
  (repeat' (first | exact trivial | (with_reducible first | apply awA | apply awB | apply awD | apply awF | apply awG | apply awJ) | ((with_reducible first | apply awn | refine awQ ?_ | refine awR ?_); intro r hr; simp only [go_sem, Nat.reduceBEq, Nat.reduceLT, Nat.reduceLeDiff, Nat.reduceAdd, Nat.reduceMul, e1, e4, e2] at hr; subst hr; (first | refine awV ?_ ?_ | refine zM ?_ ?_ | (refine zh (fun h => ?_) (fun h => ?_) <;> (try simp only [go_sem, reduceCtorEq] at h) <;> (try (exfalso; omega))))))) <;> (try omega)
  all_goals exact rfl
 have e2 : (s.place = 2) = False := eq_false h2
 rw [if_neg h2]
 by_cases h6 : s.place = 6
 ·have e6 : (s.place = 6) = True := eq_true h6
  rw [if_pos h6]
  refine zE (zb _) Tryz.func95 rfl rfl (by rw [Tryz.results95]) Tryz.ntmps95 rfl fun E => ?_
  (repeat' (first | exact trivial | (with_reducible first | apply awA | apply awB | apply awD | apply awF | apply awG | apply awJ) | ((with_reducible first | apply awn | refine awQ ?_ | refine awR ?_); intro r hr; simp only [go_sem, Nat.reduceBEq, Nat.reduceLT, Nat.reduceLeDiff, Nat.reduceAdd, Nat.reduceMul, e1, e4, e2, e6] at hr; subst hr; (first | refine awV ?_ ?_ | refine zM ?_ ?_ | (refine zh (fun h => ?_) (fun h => ?_) <;> (try simp only [go_sem, reduceCtorEq] at h) <;> (try (exfalso; omega))))))) <;> (try omega)
  all_goals exact rfl
 have e6 : (s.place = 6) = False := eq_false h6
 rw [if_neg h6]
 refine zE (zb _) Tryz.func95 rfl rfl (by rw [Tryz.results95]) Tryz.ntmps95 rfl fun E => ?_
 (repeat' (first | exact trivial | (with_reducible first | apply awA | apply awB | apply awC | apply awD | apply awF | apply awI) | ((with_reducible first | apply awn | refine awQ ?_ | refine awR ?_); intro r hr; simp only [go_sem, Nat.reduceBEq, Nat.reduceLT, Nat.reduceLeDiff, Nat.reduceAdd, Nat.reduceMul, e1, e4, e2, e6] at hr; subst hr; (first | refine awV ?_ ?_ | refine zM ?_ ?_ | (refine zh (fun h => ?_) (fun h => ?_) <;> (try simp only [go_sem, reduceCtorEq] at h) <;> (try (exfalso; omega))))))) <;> (try omega)
 all_goals exact rfl
theorem Wj (s : StM) (f : Int) : zQ Tryz.prog 100 [vSt s, vI f] (fun r => r = .tup [vEf (s.offset f).1, vB (s.offset f).2]) := by
 unfold StM.offset
 have s1 := xz { s with table := IntKind.i64.wrap (s.table + 1) }
 have s2 := xz { s with table := -1 }
 by_cases h2 : s.place = 2
 ·have e2 : (s.place = 2) = True := eq_true h2
  rw [if_pos h2]
  have b1 := yA ({ s with table := IntKind.i64.wrap (s.table + 1) } : StM).still
  refine zE (zb _) Tryz.func100 rfl rfl (by rw [Tryz.results100]) Tryz.ntmps100 rfl fun E => ?_
  (repeat' (first | exact trivial | (with_reducible first | apply awA | apply awD | apply awF | apply awG) | ((with_reducible first | apply awn | apply awo | refine awQ ?_ | refine awR ?_); intro r hr; simp only [go_sem, Nat.reduceBEq, Nat.reduceLT, Nat.reduceLeDiff, Nat.reduceAdd, Nat.reduceMul, e2, StM.still] at hr; subst hr; (first | refine caC (s1) rfl ?_ ?_ ?_ | refine caC (b1) rfl ?_ ?_ ?_ | refine awV ?_ ?_ | refine zM ?_ ?_ | (refine zh (fun h => ?_) (fun h => ?_) <;> (try simp only [go_sem, reduceCtorEq] at h) <;> (try (exfalso; omega))))))) <;> (try omega)
  all_goals exact rfl
 have e2 : (s.place = 2) = False := eq_false h2
 rw [if_neg h2]
 have b2 := yA ({ s with table := -1 } : StM).still
 refine zE (zb _) Tryz.func100 rfl rfl (by rw [Tryz.results100]) Tryz.ntmps100 rfl fun E => ?_
 (repeat' (first | exact trivial | (with_reducible first | apply awA | apply awC | apply awD | apply awF) | (refine zA (id := 7) (t := (.node [0, 3, 4, 5, 1, 2, 6, 7, 8, 9, 10] [])) (drR [2] [] []) zH (by kernel_rfl) (by kernel_rfl) (fun _ _ h => h) ?_) | (refine zB (by simp only [go_sem]; exact rfl) ?_) | (refine zD (by simp only [go_sem]; exact rfl) ?_) | refine zl ?_ | refine zq ?_ ?_ | exact zC | ((with_reducible first | apply awn | apply awp | refine awQ ?_ | refine awR ?_); intro r hr; simp only [go_sem, Nat.reduceBEq, Nat.reduceLT, Nat.reduceLeDiff, Nat.reduceAdd, Nat.reduceMul, e2, StM.still] at hr; subst hr; (first | refine caC (s2) rfl ?_ ?_ ?_ | refine caC (b2) rfl ?_ ?_ ?_ | refine awV ?_ ?_ | refine zM ?_ ?_ | (refine zh (fun h => ?_) (fun h => ?_) <;> (try simp only [go_sem, reduceCtorEq] at h) <;> (try (exfalso; omega))))))) <;> (try omega)
 all_goals exact rfl
theorem Q7 (s : StM) (x : InsM) : zQ Tryz.prog 101 [vSt s, WC x] (fun r => r = .tup [vEf (s.part x).1, vB (s.part x).2]) := by
 unfold StM.part
 have s1 := xz s
 have b1 := yA s.still
 by_cases h1 : x.a = -1
 ·have e1 : (x.a = -1) = True := eq_true h1
  rw [if_pos h1]
  refine zE (zb _) Tryz.func101 rfl rfl (by rw [Tryz.results101]) Tryz.ntmps101 rfl fun E => ?_
  (repeat' (first | exact trivial | (with_reducible first | apply awA | apply awD | apply awF | apply awG) | (refine zA (id := 2) (t := (.node [0, 3, 4, 5, 1, 2, 6, 7, 8, 9, 10, 11, 12] [])) (drR [2] [] []) zH (by kernel_rfl) (by kernel_rfl) (fun _ _ h => h) ?_) | (refine zB (by simp only [go_sem]; exact rfl) ?_) | (refine zD (by simp only [go_sem]; exact rfl) ?_) | refine zl ?_ | refine zq ?_ ?_ | exact zC | ((with_reducible first | apply awn | apply awp | refine awQ ?_ | refine awR ?_); intro r hr; simp only [go_sem, Nat.reduceBEq, Nat.reduceLT, Nat.reduceLeDiff, Nat.reduceAdd, Nat.reduceMul, e1] at hr; subst hr; (first | refine caC (s1) rfl ?_ ?_ ?_ | refine caC (b1) rfl ?_ ?_ ?_ | refine awV ?_ ?_ | refine zM ?_ ?_ | (refine zh (fun h => ?_) (fun h => ?_) <;> (try simp only [go_sem, reduceCtorEq] at h) <;> (try (exfalso; omega))))))) <;> (try omega)
  all_goals exact rfl
 have e1 : (x.a = -1) = False := eq_false h1
 rw [if_neg h1]
 have hf := jP s x.a
 generalize s.fill x.a = q at hf ⊢
 obtain ⟨f, ok⟩ := q
 have b2 := yA { f with parts := IntKind.i64.wrap (f.parts + 1) }
 refine zE (zb _) Tryz.func101 rfl rfl (by rw [Tryz.results101]) Tryz.ntmps101 rfl fun E => ?_
 cases ok
 ·(repeat' (first | exact trivial | (with_reducible first | apply awA | apply awC | apply awD | apply awF) | (refine zA (id := 5) (t := (.node [0, 2, 1, 3, 4, 5, 6, 7, 8, 9, 10, 11, 12, 13, 14, 15, 16, 17, 18, 19, 20, 21, 22, 23] [])) (drR [6, 2, 3] [] []) zH (by kernel_rfl) (by kernel_rfl) (fun _ _ h => h) ?_) | (refine zB (by simp only [go_sem]; exact rfl) ?_) | (refine zD (by simp only [go_sem]; exact rfl) ?_) | refine zl ?_ | refine zq ?_ ?_ | exact zC | ((with_reducible first | apply awn | apply awo | apply awp | refine awQ ?_ | refine awR ?_); intro r hr; simp only [go_sem, Nat.reduceBEq, Nat.reduceLT, Nat.reduceLeDiff, Nat.reduceAdd, Nat.reduceMul, reduceCtorEq, e1] at hr; subst hr; (first | refine caC (hf) rfl ?_ ?_ ?_ | refine caC (b2) rfl ?_ ?_ ?_ | refine awV ?_ ?_ | refine zM ?_ ?_ | (refine zh (fun h => ?_) (fun h => ?_) <;> (try simp only [go_sem, reduceCtorEq] at h) <;> (try (exfalso; omega))))))) <;> (try omega)
  all_goals exact rfl
 ·(repeat' (first | exact trivial | (with_reducible first | apply awA | apply awC | apply awD | apply awF) | (refine zA (id := 5) (t := (.node [0, 2, 1, 3, 4, 5, 6, 7, 8, 9, 10, 11, 12, 13, 14, 15, 16, 17, 18, 19, 20, 21, 22, 23] [])) (drR [6, 2, 3] [] []) zH (by kernel_rfl) (by kernel_rfl) (fun _ _ h => h) ?_) | (refine zB (by simp only [go_sem]; exact rfl) ?_) | (refine zD (by simp only [go_sem]; exact rfl) ?_) | refine zl ?_ | refine zq ?_ ?_ | exact zC | ((with_reducible first | apply awn | apply awo | apply awp | refine awQ ?_ | refine awR ?_); intro r hr; simp only [go_sem, Nat.reduceBEq, Nat.reduceLT, Nat.reduceLeDiff, Nat.reduceAdd, Nat.reduceMul, reduceCtorEq, e1] at hr; subst hr; (first | refine caC (hf) rfl ?_ ?_ ?_ | refine caC (b2) rfl ?_ ?_ ?_ | refine awV ?_ ?_ | refine zM ?_ ?_ | (refine zh (fun h => ?_) (fun h => ?_) <;> (try simp only [go_sem, reduceCtorEq] at h) <;> (try (exfalso; omega))))))) <;> (try omega)
  all_goals exact rfl
end
section
open Go.RowKit
theorem VW (s : StM) (x : InsM) (hk : -1 ≤ x.a ∧ x.a ≤ 63) : zQ Tryz.prog 88 [vSt s, WC x] (fun r => r = .tup [vSt (s.partD x).1.next, vB (s.partD x).2]) := by
 have hf := vU s x.a hk
 unfold StM.partD
 by_cases ha : x.a = -1
 ·have e1 : (x.a = -1) = True := eq_true ha
  rw [if_pos ha]
  by_cases h1 : s.place = 1
  ·have e2 : (s.place = 1) = True := eq_true h1
   refine zE (zb _) Tryz.func88 rfl rfl (by rw [Tryz.results88]) Tryz.ntmps88 rfl fun E => ?_
   (repeat' (first | exact trivial | (with_reducible first | apply awA | apply awD | apply awF | apply awG) | ((with_reducible first | apply awn | refine awQ ?_ | refine awR ?_); intro r hr; simp only [go_sem, Nat.reduceBEq, Nat.reduceLT, Nat.reduceLeDiff, Nat.reduceAdd, Nat.reduceMul, reduceCtorEq, e1, e2] at hr; subst hr; (first | refine awV ?_ ?_ | refine zM ?_ ?_ | (refine zh (fun h => ?_) (fun h => ?_) <;> (try simp only [go_sem, reduceCtorEq] at h) <;> (try (exfalso; omega))))))) <;> (try omega)
   all_goals (simp only [e2, decide_true, Bool.true_and]; exact rfl)
  ·have e2 : (s.place = 1) = False := eq_false h1
   refine zE (zb _) Tryz.func88 rfl rfl (by rw [Tryz.results88]) Tryz.ntmps88 rfl fun E => ?_
   (repeat' (first | exact trivial | (with_reducible first | apply awA | apply awD | apply awF | apply awG) | ((with_reducible first | apply awn | refine awQ ?_ | refine awR ?_); intro r hr; simp only [go_sem, Nat.reduceBEq, Nat.reduceLT, Nat.reduceLeDiff, Nat.reduceAdd, Nat.reduceMul, reduceCtorEq, e1, e2] at hr; subst hr; (first | refine awV ?_ ?_ | refine zM ?_ ?_ | (refine zh (fun h => ?_) (fun h => ?_) <;> (try simp only [go_sem, reduceCtorEq] at h) <;> (try (exfalso; omega))))))) <;> (try omega)
   all_goals (simp only [e2, decide_false, Bool.false_and]; exact rfl)
 ·have e1 : (x.a = -1) = False := eq_false ha
  rw [if_neg ha]
  generalize s.filledD x.a = q at hf
  obtain ⟨q1, q2⟩ := q
  refine zE (zb _) Tryz.func88 rfl rfl (by rw [Tryz.results88]) Tryz.ntmps88 rfl fun E => ?_
  (repeat' (first | exact trivial | (with_reducible first | apply awA | apply awC | apply awD | apply awF) | ((with_reducible first | apply awn | apply awo | refine awQ ?_ | refine awR ?_); intro r hr; simp only [go_sem, Nat.reduceBEq, Nat.reduceLT, Nat.reduceLeDiff, Nat.reduceAdd, Nat.reduceMul, e1] at hr; subst hr; (first | refine caC (hf) rfl ?_ ?_ ?_ | refine awV ?_ ?_ | refine zM ?_ ?_ | (refine zh (fun h => ?_) (fun h => ?_) <;> (try simp only [go_sem, reduceCtorEq] at h) <;> (try (exfalso; omega))))))) <;> (try omega)
  all_goals exact rfl
def sts (l : List StM) : List (List AV) := l.map Zu
theorem wX (l : List StM) : (sts l).length = l.length := by simp [sts]
theorem JH (l : List StM) (s : StM) : sts l ++ [[vI s.place, .v (.int .u64 s.kids), vI s.table, vI s.parts, vI s.free, vI s.left]] = sts (l ++ [s]) := by simp [sts, Zu]
def jI (n : Nat) (s : StM) : List StM := List.replicate n s
theorem qq (n : Nat) (s : StM) : (jI n s).length = n := by simp [jI]
theorem QR (n : Nat) (s : StM) : sts (jI n s) ++ [[vI s.place, .v (.int .u64 s.kids), vI s.table, vI s.parts, vI s.free, vI s.left]] = sts (jI (n + 1) s) := by
 rw [JH, jI, jI, List.replicate_succ']
theorem VX (s : StM) : sts (jI 0 s) = [] := rfl
theorem yi (s : StM) (n : Nat) (hn : n ≤ 1000000) : zQ Tryz.prog 84 [vSt s, vI n] (fun r => r = .lst 6 (sts (jI n s))) := by
 refine yh (zb _) Tryz.func84 rfl rfl (by rw [Tryz.results84]) Tryz.ntmps84 rfl fun E => ?_
 (repeat' (first | exact trivial | (with_reducible first | apply awA | apply awB | apply awF) | ((with_reducible apply awn); intro r hr; simp only [go_sem, Nat.reduceBEq, Nat.reduceLT] at hr; subst hr; (first | refine awV ?_ ?_)))) <;> (try omega)
 refine xi 5 62 6 50 (.inl (by decide)) (by simp only [go_sem, Nat.reduceBEq]) ?_
 refine zI [1, 2, 5, 6] [2, 50] (fun i : Nat => ⟨[(1, true, vI n), (2, true, .ptr 1 2 0 0), (5, true, .ref 62 6 50 0 i), (6, true, vI i)], [(2, .var [vI s.place, .v (.int .u64 s.kids), vI s.table, vI s.parts, vI s.free, vI s.left]), (50, .row 62 6 (sts (jI i s)))]⟩)
  (fun i => i ≤ n) (fun i => n - i) 0 (by simp only [AState.nilrow, VX, go_sem, Nat.reduceBEq, Nat.reduceLT] <;> exact rfl) (Nat.zero_le _) ?_
 intro i hi
 have hwi := zy (n := (i : Int) + 1) (by omega)
 have hap := QR i s
 have tl : (sts (jI i s)).take i = sts (jI i s) := List.take_of_length_le (by rw [wX, qq]; exact Nat.le_refl _)
 by_cases hlt : i < n
 ·have e1 : ((i : Int) < (n : Int)) = True := eq_true (by omega)
  (repeat' (first | exact trivial | (with_reducible first | apply awA | apply awB | apply awC | apply awF | apply awI) | ((with_reducible first | apply awn | refine awQ ?_); intro r hr; simp only [go_sem, Nat.reduceBEq, Nat.reduceLT, Nat.reduceLeDiff, Nat.reduceAdd, Nat.reduceMul, e1, hwi, hap, tl, wX, qq, Nat.le_refl] at hr; subst hr; (first | refine awV ?_ ?_ | (refine zh (fun h => ?_) (fun h => ?_) <;> (try simp only [go_sem, reduceCtorEq] at h) <;> (try (exfalso; omega))))))) <;> (try omega)
  all_goals first | omega | exact ⟨i + 1, by simp only [go_sem, Nat.reduceBEq] <;> exact rfl, hlt, by omega⟩ | trace_state
 ·have e1 : ((i : Int) < (n : Int)) = False := eq_false (by omega)
  obtain rfl : i = n := by omega
  (repeat' (first | exact trivial | (with_reducible first | apply awA | apply awD | apply awE | apply awF | apply awH | apply awK) | ((with_reducible first | apply awn | refine awQ ?_ | refine awR ?_); intro r hr; simp only [go_sem, Nat.reduceBEq, Nat.reduceLT, e1, tl, wX, qq, Nat.le_refl] at hr; subst hr; (first | refine awV ?_ ?_ | refine zM ?_ ?_ | (refine zh (fun h => ?_) (fun h => ?_) <;> (try simp only [go_sem, reduceCtorEq] at h) <;> (try (exfalso; omega))))))) <;> (try omega)
  all_goals first | exact AV.up_rfl _ | trace_state
end
section
open Go.RowKit
theorem wE {C : List InsM} {k : Nat} (h : k < C.length) : (zF C)[k]? = some [vI (zg C k).op, vI (zg C k).a, vI (zg C k).b, vI (zg C k).c] := by
 rw [qU h]
 simp [zg, List.getD, h]
def VY (C : List InsM) (k n : Nat) : List Int := (List.range n).map fun n => ((C[k + 1 + n]?).map (·.b)).getD 0
theorem jJ (C : List InsM) (k n : Nat) : (VY C k n).length = n := by simp [VY]
theorem QS {C : List InsM} {k n : Nat} (h : k + 1 + n < C.length) : v8 (VY C k n) ++ [[vI (zg C (k + 1 + n)).b]] = v8 (VY C k (n + 1)) := by
 rw [Xf, VY, VY, List.range_succ, List.map_append]
 simp [zg, List.getD, h]
theorem VZ (C : List InsM) (k : Nat) : v8 (VY C k 0) = [] := rfl
theorem xS (e : Bool) (C : List InsM) (N : List Int) (k : Nat) (hk : k < C.length) (hC : C.length ≤ 1048576) (hu : (zg C k).op = 8 ∨ (zg C k).op = 41 → 1 ≤ (zg C k).a ∧ (zg C k).a ≤ 64 ∧ k + (zg C k).a < C.length) :
  zQ Tryz.prog 47 [pG e C N, vI k] (fun r => r = .lst 1 (v8 (zO C k (zg C k)))) := by
 have gC := wE hk
 have zk : ((k : Int)).toNat = k := by omega
 have w1 := zy (n := (k : Int) + 1) (by omega)
 generalize hx : zg C k = x at gC hu
 unfold pG
 by_cases h19 : x.op = 19
 ·have e19 : (x.op = 19) = True := eq_true h19
  have hw : zO C k x = [x.b] := by unfold zO; rw [if_pos h19]
  rw [hw]
  refine yh (zb _) Tryz.func47 rfl rfl (by rw [Tryz.results47]) Tryz.ntmps47 rfl fun E => ?_
  (repeat' (first | exact trivial | (with_reducible first | apply awA | apply awB | apply awD | apply awF | apply awG | apply awJ) | ((with_reducible first | apply awn | refine awQ ?_ | refine awR ?_); intro r hr; simp only [go_sem, Nat.reduceBEq, Nat.reduceLT, Nat.reduceLeDiff, Nat.reduceAdd, Nat.reduceMul, zd, gC, zk, e19] at hr; subst hr; (first | refine awV ?_ ?_ | refine zM ?_ ?_ | (refine zh (fun h => ?_) (fun h => ?_) <;> (try simp only [go_sem, reduceCtorEq] at h) <;> (try (exfalso; omega))))))) <;> (try omega)
  all_goals first | exact AV.up_rfl _ | trace_state
 have e19 : (x.op = 19) = False := eq_false h19
 by_cases h20 : x.op = 20 ∨ x.op = 9
 ·have hw : zO C k x = [] := by unfold zO; rw [if_neg h19, if_pos h20]
  rw [hw]
  rcases h20 with h20 | h20
  ·have e20 : (x.op = 20) = True := eq_true h20
   refine yh (zb _) Tryz.func47 rfl rfl (by rw [Tryz.results47]) Tryz.ntmps47 rfl fun E => ?_
   (repeat' (first | exact trivial | (with_reducible first | apply awA | apply awB | apply awC | apply awD | apply awF | apply awG | apply awJ) | ((with_reducible first | apply awn | refine awQ ?_ | refine awR ?_); intro r hr; simp only [go_sem, Nat.reduceBEq, Nat.reduceLT, Nat.reduceLeDiff, Nat.reduceAdd, Nat.reduceMul, zd, gC, zk, e19, e20] at hr; subst hr; (first | refine awV ?_ ?_ | refine zM ?_ ?_ | (refine zh (fun h => ?_) (fun h => ?_) <;> (try simp only [go_sem, reduceCtorEq] at h) <;> (try (exfalso; omega))))))) <;> (try omega)
   all_goals first | exact AV.up_nil _ | trace_state
  ·have e20 : (x.op = 20) = False := eq_false (by omega)
   have e9 : (x.op = 9) = True := eq_true h20
   refine yh (zb _) Tryz.func47 rfl rfl (by rw [Tryz.results47]) Tryz.ntmps47 rfl fun E => ?_
   (repeat' (first | exact trivial | (with_reducible first | apply awA | apply awB | apply awD | apply awF | apply awG | apply awJ) | ((with_reducible first | apply awn | refine awQ ?_ | refine awR ?_); intro r hr; simp only [go_sem, Nat.reduceBEq, Nat.reduceLT, Nat.reduceLeDiff, Nat.reduceAdd, Nat.reduceMul, zd, gC, zk, e19, e20, e9] at hr; subst hr; (first | refine awV ?_ ?_ | refine zM ?_ ?_ | (refine zh (fun h => ?_) (fun h => ?_) <;> (try simp only [go_sem, reduceCtorEq] at h) <;> (try (exfalso; omega))))))) <;> (try omega)
   all_goals first | exact AV.up_nil _ | trace_state
 have e20 : (x.op = 20) = False := eq_false (fun g => h20 (.inl g))
 have e9 : (x.op = 9) = False := eq_false (fun g => h20 (.inr g))
 by_cases h8 : x.op = 8 ∨ x.op = 41
 ·have hw : zO C k x = (List.range x.a.toNat).map fun n => ((C[k + 1 + n]?).map (·.b)).getD 0 := by unfold zO; rw [if_neg h19, if_neg h20, if_pos h8]
  rw [hw]
  obtain ⟨a1, a2, a3⟩ := hu h8
  show zQ _ _ _ (fun r => r = .lst 1 (v8 (VY C k x.a.toNat)))
  rcases h8 with g | g
  all_goals
   refine yh (zb _) Tryz.func47 rfl rfl (by rw [Tryz.results47]) Tryz.ntmps47 rfl fun E => ?_
  all_goals (repeat' (first | exact trivial | (with_reducible first | apply awA | apply awB | apply awC | apply awF) | ((with_reducible first | apply awn | refine awQ ?_); intro r hr; simp only [go_sem, Nat.reduceBEq, Nat.reduceLT, Nat.reduceLeDiff, Nat.reduceAdd, Nat.reduceMul, zd, gC, zk, g, Int.reduceEq] at hr; subst hr; (first | refine awV ?_ ?_ | (refine zh (fun h => ?_) (fun h => ?_) <;> (try simp only [go_sem, reduceCtorEq] at h) <;> (try (exfalso; omega))))))) <;> (try omega)
  all_goals
   refine xi 6 3 1 50 (.inl (by decide)) (by simp only [go_sem, Nat.reduceBEq]) ?_
   refine zI [1, 2, 5, 6, 7] [2, 5, 50] (fun n : Nat => ⟨[(1, true, vI k), (2, true, .ptr 1 2 0 0), (5, true, .ptr 1 5 0 0), (6, true, .ref 3 1 50 0 n), (7, true, vI ((n : Int) + 1))], [(2, .var [vB e, .lst 4 (zF C), .lst 1 (v8 N)]), (5, .var [vI x.op, vI x.a, vI x.b, vI x.c]), (50, .row 3 1 (v8 (VY C k n)))]⟩)
    (fun n => (n : Int) ≤ x.a) (fun n => x.a.toNat - n) 0 (by simp only [g, AState.nilrow, VZ, Int.natCast_zero, Int.zero_add, go_sem, Nat.reduceBEq, Nat.reduceLT] <;> exact rfl) (by omega) ?_
   intro n hn
   have hwn := zy (n := (n : Int) + 1 + 1) (by omega)
   have ta : (v8 (VY C k n)).take n = v8 (VY C k n) := List.take_of_length_le (by rw [zp, jJ]; exact Nat.le_refl _)
   by_cases hlt : (n : Int) < x.a
  all_goals try
   have f1 : ((n : Int) + 1 ≤ x.a) = True := eq_true (by omega)
   have gA := wE (C := C) (k := k + 1 + n) (by omega)
   have w5 := zy (n := (k : Int) + ((n : Int) + 1)) (by omega)
   have z5 : ((k : Int) + ((n : Int) + 1)).toNat = k + 1 + n := by omega
   have hap := QS (C := C) (k := k) (n := n) (by omega)
   generalize zg C (k + 1 + n) = y at gA hap
   (repeat' (first | exact trivial | (with_reducible first | apply awA | apply awB | apply awC | apply awF | apply awI) | ((with_reducible first | apply awn | refine awQ ?_); intro r hr; simp only [go_sem, Nat.reduceBEq, Nat.reduceLT, Nat.reduceLeDiff, Nat.reduceAdd, Nat.reduceMul, zd, f1, gA, w5, z5, hap, hwn, ta, zp, jJ, g] at hr; subst hr; (first | refine awV ?_ ?_ | (refine zh (fun h => ?_) (fun h => ?_) <;> (try simp only [go_sem, reduceCtorEq] at h) <;> (try (exfalso; omega))))))) <;> (try omega)
   refine ⟨n + 1, ?_, by omega, by omega⟩
   simp only [g, Int.natCast_add, Int.cast_ofNat_Int, go_sem, Nat.reduceBEq]
   try exact rfl
  all_goals
   have f1 : ((n : Int) + 1 ≤ x.a) = False := eq_false (by omega)
   have hnn : n = x.a.toNat := by omega
   (repeat' (first | exact trivial | (with_reducible first | apply awA | apply awD | apply awE | apply awF | apply awG | apply awH | apply awJ | apply awK) | ((with_reducible first | apply awn | refine awQ ?_ | refine awR ?_); intro r hr; simp only [go_sem, Nat.reduceBEq, Nat.reduceLT, Nat.reduceLeDiff, Nat.reduceAdd, Nat.reduceMul, f1, ta, zp, jJ, g] at hr; subst hr; (first | refine awV ?_ ?_ | refine zM ?_ ?_ | (refine zh (fun h => ?_) (fun h => ?_) <;> (try simp only [go_sem, reduceCtorEq] at h) <;> (try (exfalso; omega))))))) <;> (try omega)
   rw [← hnn]
   exact AV.up_rfl _
 have e8 : (x.op = 8) = False := eq_false (fun g => h8 (.inl g))
 have e41 : (x.op = 41) = False := eq_false (fun g => h8 (.inr g))
 by_cases h2 : x.op = 7 ∨ x.op = 11 ∨ x.op = 12 ∨ x.op = 13 ∨ x.op = 14 ∨ x.op = 15 ∨ x.op = 40 ∨ x.op = 47
 ·have hw : zO C k x = [(k : Int) + 1, x.b] := by unfold zO; rw [if_neg h19, if_neg h20, if_neg h8, if_pos h2]
  rw [hw]
  rcases h2 with g | g | g | g | g | g | g | g
  all_goals
   have d7 : (x.op = 7) = (x.op = 7) := rfl
   refine yh (zb _) Tryz.func47 rfl rfl (by rw [Tryz.results47]) Tryz.ntmps47 rfl fun E => ?_
  all_goals (repeat' (first | exact trivial | (with_reducible first | apply awA | apply awB | apply awC | apply awD | apply awF | apply awG | apply awJ) | ((with_reducible first | apply awn | refine awQ ?_ | refine awR ?_); intro r hr; simp only [go_sem, Nat.reduceBEq, Nat.reduceLT, Nat.reduceLeDiff, Nat.reduceAdd, Nat.reduceMul, zd, gC, zk, w1, g, Int.reduceEq] at hr; subst hr; (first | refine awV ?_ ?_ | refine zM ?_ ?_ | (refine zh (fun h => ?_) (fun h => ?_) <;> (try simp only [go_sem, reduceCtorEq] at h) <;> (try (exfalso; omega))))))) <;> (try omega)
  all_goals first | exact AV.up_rfl _ | trace_state
 ·have hw : zO C k x = [(k : Int) + 1] := by unfold zO; rw [if_neg h19, if_neg h20, if_neg h8, if_neg h2]
  rw [hw]
  simp only [not_or] at h2
  obtain ⟨n1, n2, n3, n4, n5, n6, n7, n8⟩ := h2
  refine yh (zb _) Tryz.func47 rfl rfl (by rw [Tryz.results47]) Tryz.ntmps47 rfl fun E => ?_
  (repeat' (first | exact trivial | (with_reducible first | apply awA | apply awB | apply awC | apply awD | apply awF | apply awI) | ((with_reducible first | apply awn | refine awQ ?_ | refine awR ?_); intro r hr; simp only [go_sem, Nat.reduceBEq, Nat.reduceLT, Nat.reduceLeDiff, Nat.reduceAdd, Nat.reduceMul, zd, gC, zk, w1, e19, e20, e9, e8, e41, n1, n2, n3, n4, n5, n6, n7, n8] at hr; subst hr; (first | refine awV ?_ ?_ | refine zM ?_ ?_ | (refine zh (fun h => ?_) (fun h => ?_) <;> (try simp only [go_sem, reduceCtorEq] at h) <;> (try (exfalso; omega))))))) <;> (try omega)
  all_goals first | exact AV.up_rfl _ | trace_state
end
section
open Go.RowKit
theorem Wc (s : StM) (x : InsM) (ho : x.op = 11 ∨ x.op = 12 ∨ x.op = 13 ∨ x.op = 14 ∨ x.op = 15) : zQ Tryz.prog 90 [WC x, vSt s, vSt s.still] (fun r => r = .tup [.lst 6 (sts [(s.rounds x).1.next, (s.rounds x).1.target]), vB (s.rounds x).2]) := by
 unfold StM.rounds
 dsimp only
 by_cases h1 : s.place = 1
 ·have e1 : (s.place = 1) = True := eq_true h1
  rcases ho with g | g | g | g | g
  all_goals
   simp only [g, Int.reduceEq, if_false, if_true, e1, decide_true, Bool.true_and]
   refine zE (zb _) Tryz.func90 rfl rfl (by rw [Tryz.results90]) Tryz.ntmps90 rfl fun E => ?_
  all_goals (repeat' (first | exact trivial | (with_reducible first | apply awA | apply awB | apply awD | apply awF | apply awG | apply awJ) | (refine zA (id := 6) (t := (.node [0, 1, 3, 4, 5, 6, 7, 8, 9, 10, 2, 11, 12] [])) (drR [9, 5, 4] [] []) zH (by kernel_rfl) (by kernel_rfl) (fun _ _ h => h) ?_) | (refine zA (id := 12) (t := (.node [0, 1, 3, 4, 5, 2, 6, 7] [])) (drR [9, 5, 4] [] []) zH (by kernel_rfl) (by kernel_rfl) (fun _ _ h => h) ?_) | (refine zA (id := 15) (t := (.node [0, 1, 3, 4, 5, 2, 6, 7] [])) (drR [5, 9, 4] [] []) zH (by kernel_rfl) (by kernel_rfl) (fun _ _ h => h) ?_) | (refine zB (by simp only [go_sem]; exact rfl) ?_) | (refine zD (by simp only [go_sem]; exact rfl) ?_) | refine zl ?_ | refine zq ?_ ?_ | exact zC | ((with_reducible first | apply awn | apply awp | refine awQ ?_ | refine awR ?_); intro r hr; simp only [go_sem, Nat.reduceBEq, Nat.reduceLT, Nat.reduceLeDiff, Nat.reduceAdd, Nat.reduceMul, reduceCtorEq, e1, g, Int.reduceEq] at hr; subst hr; (first | refine awV ?_ ?_ | refine zM ?_ ?_ | (refine zh (fun h => ?_) (fun h => ?_) <;> (try simp only [go_sem, reduceCtorEq] at h) <;> (try (exfalso; omega))))))) <;> (try omega)
  all_goals first | exact rfl | trace_state
 ·have e1 : (s.place = 1) = False := eq_false h1
  rcases ho with g | g | g | g | g
  all_goals
   simp only [g, Int.reduceEq, if_false, if_true, e1, decide_false, Bool.false_and]
   refine zE (zb _) Tryz.func90 rfl rfl (by rw [Tryz.results90]) Tryz.ntmps90 rfl fun E => ?_
  all_goals (repeat' (first | exact trivial | (with_reducible first | apply awA | apply awB | apply awD | apply awF | apply awG | apply awJ) | (refine zA (id := 6) (t := (.node [0, 1, 3, 4, 5, 6, 7, 8, 9, 10, 2, 11, 12] [])) (drR [9, 5, 4] [] []) zH (by kernel_rfl) (by kernel_rfl) (fun _ _ h => h) ?_) | (refine zA (id := 12) (t := (.node [0, 1, 3, 4, 5, 2, 6, 7] [])) (drR [9, 5, 4] [] []) zH (by kernel_rfl) (by kernel_rfl) (fun _ _ h => h) ?_) | (refine zA (id := 15) (t := (.node [0, 1, 3, 4, 5, 2, 6, 7] [])) (drR [5, 9, 4] [] []) zH (by kernel_rfl) (by kernel_rfl) (fun _ _ h => h) ?_) | (refine zB (by simp only [go_sem]; exact rfl) ?_) | (refine zD (by simp only [go_sem]; exact rfl) ?_) | refine zl ?_ | refine zq ?_ ?_ | exact zC | ((with_reducible first | apply awn | apply awp | refine awQ ?_ | refine awR ?_); intro r hr; simp only [go_sem, Nat.reduceBEq, Nat.reduceLT, Nat.reduceLeDiff, Nat.reduceAdd, Nat.reduceMul, reduceCtorEq, e1, g, Int.reduceEq] at hr; subst hr; (first | refine awV ?_ ?_ | refine zM ?_ ?_ | (refine zh (fun h => ?_) (fun h => ?_) <;> (try simp only [go_sem, reduceCtorEq] at h) <;> (try (exfalso; omega))))))) <;> (try omega)
  all_goals first | exact rfl | trace_state
theorem YI (s : StM) (x : InsM) (ho : x.op = 18) : zQ Tryz.prog 90 [WC x, vSt s, vSt s.still] (fun r => r = .tup [.lst 6 (sts [s.still]), vB (s.rounds x).2]) := by
 unfold StM.rounds
 dsimp only
 by_cases ha : x.a = -1
 ·have ea : (x.a = -1) = True := eq_true ha
  by_cases h1 : s.place = 1
  ·have e1 : (s.place = 1) = True := eq_true h1
   simp only [ho, Int.reduceEq, if_false, e1, ea, ne_eq, not_true_eq_false, decide_true, decide_false, Bool.true_and, Bool.false_and, Bool.or_false]
   refine zE (zb _) Tryz.func90 rfl rfl (by rw [Tryz.results90]) Tryz.ntmps90 rfl fun E => ?_
   (repeat' (first | exact trivial | (with_reducible first | apply awA | apply awB | apply awD | apply awF | apply awG | apply awJ) | ((with_reducible first | apply awn | refine awQ ?_ | refine awR ?_); intro r hr; simp only [go_sem, Nat.reduceBEq, Nat.reduceLT, Nat.reduceLeDiff, Nat.reduceAdd, Nat.reduceMul, reduceCtorEq, e1, ea, ho, Int.reduceEq] at hr; subst hr; (first | refine awV ?_ ?_ | refine zM ?_ ?_ | (refine zh (fun h => ?_) (fun h => ?_) <;> (try simp only [go_sem, reduceCtorEq] at h) <;> (try (exfalso; omega))))))) <;> (try omega)
   all_goals first | exact rfl | trace_state
  ·have e1 : (s.place = 1) = False := eq_false h1
   simp only [ho, Int.reduceEq, if_false, e1, ea, ne_eq, not_true_eq_false, decide_true, decide_false, Bool.false_and, Bool.and_false, Bool.or_false]
   refine zE (zb _) Tryz.func90 rfl rfl (by rw [Tryz.results90]) Tryz.ntmps90 rfl fun E => ?_
   (repeat' (first | exact trivial | (with_reducible first | apply awA | apply awB | apply awD | apply awF | apply awG | apply awJ) | ((with_reducible first | apply awn | refine awQ ?_ | refine awR ?_); intro r hr; simp only [go_sem, Nat.reduceBEq, Nat.reduceLT, Nat.reduceLeDiff, Nat.reduceAdd, Nat.reduceMul, reduceCtorEq, e1, ea, ho, Int.reduceEq] at hr; subst hr; (first | refine awV ?_ ?_ | refine zM ?_ ?_ | (refine zh (fun h => ?_) (fun h => ?_) <;> (try simp only [go_sem, reduceCtorEq] at h) <;> (try (exfalso; omega))))))) <;> (try omega)
   all_goals first | exact rfl | trace_state
 ·have ea : (x.a = -1) = False := eq_false ha
  by_cases h1 : s.place = 1
  ·have e1 : (s.place = 1) = True := eq_true h1
   have e2 : (s.place = 2) = False := eq_false (by omega)
   simp only [ho, Int.reduceEq, if_false, e1, e2, ea, ne_eq, not_false_eq_true, decide_true, decide_false, Bool.true_and, Bool.false_and, Bool.and_false, Bool.or_false]
   refine zE (zb _) Tryz.func90 rfl rfl (by rw [Tryz.results90]) Tryz.ntmps90 rfl fun E => ?_
   (repeat' (first | exact trivial | (with_reducible first | apply awA | apply awB | apply awC | apply awD | apply awF | apply awG | apply awJ) | (refine zA (id := 22) (t := (.node [0, 2, 3, 4, 5, 6, 7, 8, 9, 10, 11, 1, 12, 13] [])) (drR [5, 4, 3] [] []) zH (by kernel_rfl) (by kernel_rfl) (fun _ _ h => h) ?_) | (refine zB (by simp only [go_sem]; exact rfl) ?_) | (refine zD (by simp only [go_sem]; exact rfl) ?_) | refine zl ?_ | refine zq ?_ ?_ | exact zC | ((with_reducible first | apply awn | apply awp | refine awQ ?_ | refine awR ?_); intro r hr; simp only [go_sem, Nat.reduceBEq, Nat.reduceLT, Nat.reduceLeDiff, Nat.reduceAdd, Nat.reduceMul, reduceCtorEq, e1, e2, ea, ho, Int.reduceEq] at hr; subst hr; (first | refine awV ?_ ?_ | refine zM ?_ ?_ | (refine zh (fun h => ?_) (fun h => ?_) <;> (try simp only [go_sem, reduceCtorEq] at h) <;> (try (exfalso; omega))))))) <;> (try omega)
   all_goals first | exact rfl | trace_state
  ·have e1 : (s.place = 1) = False := eq_false h1
   by_cases h2 : s.place = 2
   ·have e2 : (s.place = 2) = True := eq_true h2
    simp only [ho, Int.reduceEq, if_false, e1, e2, ea, ne_eq, not_false_eq_true, decide_true, decide_false, Bool.true_and, Bool.false_and, Bool.and_false, Bool.false_or]
    refine zE (zb _) Tryz.func90 rfl rfl (by rw [Tryz.results90]) Tryz.ntmps90 rfl fun E => ?_
    (repeat' (first | exact trivial | (with_reducible first | apply awA | apply awB | apply awC | apply awD | apply awF | apply awG | apply awJ) | (refine zA (id := 22) (t := (.node [0, 2, 3, 4, 5, 6, 7, 8, 9, 10, 11, 1, 12, 13] [])) (drR [5, 4, 3] [] []) zH (by kernel_rfl) (by kernel_rfl) (fun _ _ h => h) ?_) | (refine zB (by simp only [go_sem]; exact rfl) ?_) | (refine zD (by simp only [go_sem]; exact rfl) ?_) | refine zl ?_ | refine zq ?_ ?_ | exact zC | ((with_reducible first | apply awn | apply awp | refine awQ ?_ | refine awR ?_); intro r hr; simp only [go_sem, Nat.reduceBEq, Nat.reduceLT, Nat.reduceLeDiff, Nat.reduceAdd, Nat.reduceMul, reduceCtorEq, e1, e2, ea, ho, Int.reduceEq] at hr; subst hr; (first | refine awV ?_ ?_ | refine zM ?_ ?_ | (refine zh (fun h => ?_) (fun h => ?_) <;> (try simp only [go_sem, reduceCtorEq] at h) <;> (try (exfalso; omega))))))) <;> (try omega)
    all_goals first | exact rfl | trace_state
   ·have e2 : (s.place = 2) = False := eq_false h2
    simp only [ho, Int.reduceEq, if_false, e1, e2, ea, ne_eq, not_false_eq_true, decide_true, decide_false, Bool.false_and, Bool.and_false, Bool.or_false]
    refine zE (zb _) Tryz.func90 rfl rfl (by rw [Tryz.results90]) Tryz.ntmps90 rfl fun E => ?_
    (repeat' (first | exact trivial | (with_reducible first | apply awA | apply awB | apply awC | apply awD | apply awF | apply awG | apply awJ) | (refine zA (id := 22) (t := (.node [0, 2, 3, 4, 5, 6, 7, 8, 9, 10, 11, 1, 12, 13] [])) (drR [5, 4, 3] [] []) zH (by kernel_rfl) (by kernel_rfl) (fun _ _ h => h) ?_) | (refine zB (by simp only [go_sem]; exact rfl) ?_) | (refine zD (by simp only [go_sem]; exact rfl) ?_) | refine zl ?_ | refine zq ?_ ?_ | exact zC | ((with_reducible first | apply awn | apply awp | refine awQ ?_ | refine awR ?_); intro r hr; simp only [go_sem, Nat.reduceBEq, Nat.reduceLT, Nat.reduceLeDiff, Nat.reduceAdd, Nat.reduceMul, reduceCtorEq, e1, e2, ea, ho, Int.reduceEq] at hr; subst hr; (first | refine awV ?_ ?_ | refine zM ?_ ?_ | (refine zh (fun h => ?_) (fun h => ?_) <;> (try simp only [go_sem, reduceCtorEq] at h) <;> (try (exfalso; omega))))))) <;> (try omega)
    all_goals first | exact rfl | trace_state
end
section
open Go.RowKit
def qr (x : InsM) (E : EfM) (n : Nat) : List StM := if vD x = true then jI n E.next else [E.next, E.target].take n
theorem wY {x : InsM} {E : EfM} {n : Nat} (h : x.op = 8 ∨ x.op = 41) : qr x E n = jI n E.next := by
 have : vD x = true := by unfold vD; rcases h with h | h <;> simp [h]
 unfold qr
 rw [if_pos this]
theorem yI {x : InsM} {E : EfM} {n : Nat} (h : ¬ (x.op = 8 ∨ x.op = 41)) : qr x E n = [E.next, E.target].take n := by
 have : vD x = false := by unfold vD; simp only [not_or] at h; simp [h.1, h.2]
 unfold qr
 rw [this, if_neg (by decide)]
def qt (x : InsM) : Prop := x.op = 7 ∨ x.op = 11 ∨ x.op = 12 ∨ x.op = 13 ∨ x.op = 14 ∨ x.op = 15 ∨ x.op = 40 ∨ x.op = 47
theorem vn {C : List InsM} {k : Nat} (h : qt (zg C k)) : (zO C k (zg C k)).length = 2 := by
 unfold qt at h
 unfold zO
 rw [if_neg (by omega), if_neg (by omega), if_neg (by omega), if_pos h]
 rfl
theorem wZ {C : List InsM} {k : Nat} (h : (zg C k).op = 8 ∨ (zg C k).op = 41) : (zO C k (zg C k)).length = (zg C k).a.toNat := by
 unfold zO
 rw [if_neg (by omega), if_neg (by omega), if_pos h]
 simp
theorem w7 {C : List InsM} {k : Nat} (h : (zg C k).op = 20 ∨ (zg C k).op = 9) : (zO C k (zg C k)).length = 0 := by
 unfold zO
 rw [if_neg (by omega), if_pos h]
 rfl
theorem vo {C : List InsM} {k : Nat} (h1 : ¬ qt (zg C k)) (h2 : ¬ ((zg C k).op = 8 ∨ (zg C k).op = 41)) (h3 : ¬ ((zg C k).op = 20 ∨ (zg C k).op = 9)) : (zO C k (zg C k)).length = 1 := by
 unfold qt at h1
 unfold zO
 by_cases h : (zg C k).op = 19
 ·rw [if_pos h]; rfl
 ·rw [if_neg h, if_neg h3, if_neg h2, if_neg h1]; rfl
structure FormI (e : Bool) (C : List InsM) (k : Nat) : Prop where
 lt : k < C.length
 arms : (zg C k).op = 8 ∨ (zg C k).op = 41 → 1 ≤ (zg C k).a ∧ (zg C k).a ≤ 64 ∧ k + (zg C k).a < C.length
 de : e = false → 1 ≤ (zg C k).op ∧ (zg C k).op ≤ 20
 en : e = true → (zg C k).op = 9 ∨ (zg C k).op = 19 ∨ (zg C k).op = 20 ∨ 33 ≤ (zg C k).op ∧ (zg C k).op ≤ 47
 kid : (zg C k).op = 16 ∨ (zg C k).op = 1 ∨ (zg C k).op = 3 ∨ (zg C k).op = 4 ∨ (zg C k).op = 17 → -1 ≤ (zg C k).a ∧ (zg C k).a ≤ 63
 run : (zg C k).op = 2 → 0 ≤ (zg C k).a ∧ 0 ≤ (zg C k).b ∧ (zg C k).a + (zg C k).b ≤ 64
def ul (x : InsM) (E : EfM) : Prop := (¬ qt x → E.target = E.next) ∧ (x.op = 20 ∨ x.op = 9 → E = .zero)
theorem ul.both_ {x : InsM} (s : StM) (h : ¬ (x.op = 20 ∨ x.op = 9)) : ul x (both s) := ⟨fun _ => rfl, fun g => absurd g h⟩
theorem ul.zero (x : InsM) : ul x .zero := ⟨fun _ => rfl, fun _ => rfl⟩
theorem ul.two {x : InsM} (E : EfM) (h : qt x) : ul x E := ⟨fun g => absurd h g, fun g => by unfold qt at h; omega⟩
theorem zK {x : InsM} {p : Prop} [Decidable p] {a b : EfM × Bool} (ha : p → ul x a.1) (hb : ¬ p → ul x b.1) : ul x (if p then a else b).1 := by
 by_cases h : p
 ·rw [if_pos h]; exact ha h
 ·rw [if_neg h]; exact hb h
theorem V0 (s : StM) (x : InsM) (t : Int) : ul x (kU s x t).1 := by
 unfold kU
 dsimp only
 refine zK (fun h => .both_ _ (by omega)) fun _ => ?_
 refine zK (fun h => .both_ _ (by omega)) fun _ => ?_
 refine zK (fun h => .both_ _ (by omega)) fun _ => ?_
 refine zK (fun h => .both_ _ (by omega)) fun _ => ?_
 refine zK (fun h => .both_ _ (by omega)) fun _ => ?_
 refine zK (fun h => .two _ (.inl h)) fun _ => ?_
 refine zK (fun h => .both_ _ (by omega)) fun _ => ?_
 refine zK (fun h => ?_) fun _ => ?_
 ·unfold StM.offsetD
  exact zK (fun _ => .both_ _ (by omega)) fun _ => .both_ _ (by omega)
 refine zK (fun h => ?_) fun _ => ?_
 ·unfold StM.partD
  exact zK (a := (_, _)) (b := (_, _)) (fun _ => .both_ _ (by omega)) fun _ => .both_ _ (by omega)
 refine zK (fun h => ?_) fun _ => ?_
 ·unfold StM.rounds
  dsimp only
  refine zK (fun h => .two _ (by unfold qt; omega)) fun _ => ?_
  refine zK (fun h => .two _ (by unfold qt; omega)) fun _ => ?_
  refine zK (fun h => .two _ (by unfold qt; omega)) fun _ => ?_
  refine zK (fun h => .two _ (by unfold qt; omega)) fun _ => ?_
  refine zK (fun h => .two _ (by unfold qt; omega)) fun _ => ?_
  exact .both_ _ (by omega)
 refine zK (fun h => .both_ _ (by omega)) fun _ => ?_
 exact zK (fun _ => .zero _) fun _ => .zero _
theorem V1 (s : StM) (x : InsM) (t : Int) : ul x (qp s x t).1 := by
 unfold qp
 dsimp only
 refine zK (fun h => zK (fun _ => .both_ _ (by omega)) fun _ => .both_ _ (by omega)) fun _ => ?_
 refine zK (fun h => .both_ _ (by omega)) fun _ => ?_
 refine zK (fun h => .both_ _ (by omega)) fun _ => ?_
 refine zK (fun h => .both_ _ (by omega)) fun _ => ?_
 refine zK (fun h => .both_ _ (by omega)) fun _ => ?_
 refine zK (fun h => .both_ _ (by omega)) fun _ => ?_
 refine zK (fun h => .two _ (by unfold qt; omega)) fun _ => ?_
 refine zK (fun h => .both_ _ (by omega)) fun _ => ?_
 refine zK (fun h => .both_ _ (by omega)) fun _ => ?_
 refine zK (fun h => .both_ _ (by omega)) fun _ => ?_
 refine zK (fun h => .both_ _ (by omega)) fun _ => ?_
 refine zK (fun h => .both_ _ (by omega)) fun _ => ?_
 refine zK (fun h => zK (fun _ => .both_ _ (by omega)) fun _ => .both_ _ (by omega)) fun _ => ?_
 refine zK (fun h => .two _ (by unfold qt; omega)) fun _ => ?_
 exact zK (fun h => .both_ _ (by omega)) fun _ => .zero _
theorem zaF {a b : EfM} (h1 : a.next = b.next) (h2 : a.target = b.target) : a = b := by
 obtain ⟨a1, a2⟩ := a
 obtain ⟨b1, b2⟩ := b
 cases h1
 cases h2
 rfl
theorem QT {e : Bool} {C : List InsM} {k : Nat} (hx : FormI e C k) {E E' : EfM} (h : ul (zg C k) E) (h' : ul (zg C k) E') :
  qr (zg C k) E (zO C k (zg C k)).length = qr (zg C k) E' (zO C k (zg C k)).length ↔ E = E' := by
 refine ⟨fun g => ?_, fun g => by rw [g]⟩
 by_cases h2 : qt (zg C k)
 ·rw [vn h2, yI (by unfold qt at h2; omega), yI (by unfold qt at h2; omega)] at g
  injection g with g1 g
  injection g with g2 _
  exact zaF g1 g2
 by_cases h0 : (zg C k).op = 20 ∨ (zg C k).op = 9
 ·rw [h.2 h0, h'.2 h0]
 have key : E.next = E'.next → E = E' := fun q => zaF q (by rw [h.1 h2, h'.1 h2, q])
 by_cases ha : (zg C k).op = 8 ∨ (zg C k).op = 41
 ·have := hx.arms ha
  rw [wZ ha, wY ha, wY ha] at g
  obtain ⟨m, hm⟩ : ∃ m, (zg C k).a.toNat = m + 1 := ⟨(zg C k).a.toNat - 1, by omega⟩
  rw [hm, jI, jI, List.replicate_succ, List.replicate_succ] at g
  injection g with g _
  exact key g
 ·rw [vo h2 ha h0, yI ha, yI ha] at g
  injection g with g _
  exact key g
end
section
open Go.RowKit
theorem ZA (C : List InsM) (N : List Int) (k : Nat) (hC : C.length ≤ 1048576) (hx : FormI false C k) (h2 : (zg C k).op = 2) (s : StM) (t : Int) :
  zQ Tryz.prog 72 [pG false C N, vI k, vSt s, vI t] (fun r => r = .tup [.lst 6 (sts (qr (zg C k) (kU s (zg C k) t).1 (zO C k (zg C k)).length)), vB (kU s (zg C k) t).2]) := by
 have hk := hx.lt
 have hw := xS false C N k hk hC hx.arms
 have gC := wE hk
 have zk : ((k : Int)).toNat = k := by omega
 have hop := hx.de rfl
 have hkid := hx.kid
 have hrun := hx.run
 have harm := hx.arms
 have l1 := vo (C := C) (k := k)
 have l2 := vn (C := C) (k := k)
 have l8 := wZ (C := C) (k := k)
 have l0 := w7 (C := C) (k := k)
 generalize zO C k (zg C k) = ws at hw l1 l2 l8 l0 ⊢
 clear hx
 generalize zg C k = x at gC hop hkid hrun harm l1 l2 l8 l0 h2 ⊢
 unfold qt at l1 l2
 obtain ⟨op, a, b, c⟩ := x
 dsimp only at h2 hop hkid hrun harm l1 l2 l8 l0 gC
 unfold pG at hw ⊢
 have one : ∀ E : EfM, sts (qr ⟨op, a, b, c⟩ E 1) = sts (jI 1 E.next) := fun E => by
  unfold qr
  split <;> rfl
 unfold kU
 dsimp only
 subst h2
 have hl := l1 (by omega) (by omega) (by omega)
 obtain ⟨r1, r2, r3⟩ := hrun rfl
 rw [hl]
 simp only [Int.reduceEq, or_false, if_true, if_false, one]
 obtain ⟨m, rfl⟩ : ∃ m : Nat, b = m := ⟨b.toNat, by omega⟩
 generalize hR : VU (m : Int).toNat a s (decide (s.place = 2)) = R
 rw [Int.toNat_natCast] at hR
 refine yh (zb _) Tryz.func72 rfl rfl (by rw [Tryz.results72]) Tryz.ntmps72 rfl fun E => ?_
 (repeat' (first | exact trivial | (with_reducible first | apply awA | apply awB | apply awF) | ((with_reducible first | apply awn | apply awo | refine awQ ?_); intro r hr; simp only [go_sem, Nat.reduceBEq, Nat.reduceLT, Nat.reduceLeDiff, Nat.reduceAdd, Nat.reduceMul, zd, gC, zk, zp, hl, Int.cast_ofNat_Int, Int.reduceEq] at hr; subst hr; (first | refine caC (hw) rfl ?_ ?_ ?_ | refine awV ?_ ?_ | (refine zh (fun h => ?_) (fun h => ?_) <;> (try simp only [go_sem, reduceCtorEq] at h) <;> (try (exfalso; omega))))))) <;> (try omega)
 refine zI [10, 11, 15, 16, 17] [10, 16] (fun q : Nat × StM × Bool => ⟨[(10, true, .ptr 1 10 0 0), (11, true, vI 1), (15, true, vB q.2.2), (16, true, .ptr 1 16 0 0), (17, true, vI q.1)], [(10, .var [vI 2, vI a, vI m, vI c]), (16, .var [vI q.2.1.place, .v (.int .u64 q.2.1.kids), vI q.2.1.table, vI q.2.1.parts, vI q.2.1.free, vI q.2.1.left])]⟩)
  (fun q => q.1 ≤ m ∧ VU (m - q.1) (a + q.1) q.2.1 q.2.2 = R) (fun q => m - q.1) (0, s, decide (s.place = 2)) (by simp only [go_sem, Nat.reduceBEq] <;> exact rfl) ⟨Nat.zero_le _, by simpa using hR⟩ ?_
 intro ⟨i, f, ok⟩ ⟨hi, hq⟩
 dsimp only at hi hq ⊢
 have hwi := zy (n := (i : Int) + 1) (by omega)
 have hwa := zy (n := a + (i : Int)) (by omega)
 by_cases hlt : i < m
 ·have e1 : ((i : Int) < (m : Int)) = True := eq_true (by omega)
  rw [show m - i = (m - (i + 1)) + 1 by omega] at hq
  unfold VU at hq
  cases ok with
  | true =>
   rw [if_pos rfl] at hq
   have hf := vU f (a + i) (by omega)
   generalize f.filledD (a + i) = q at hf hq
   obtain ⟨q1, q2⟩ := q
   (repeat' (first | exact trivial | (with_reducible first | apply awA | apply awB | apply awC | apply awF | apply awI) | ((with_reducible first | apply awn | apply awo | refine awQ ?_); intro r hr; simp only [go_sem, Nat.reduceBEq, Nat.reduceLT, Nat.reduceLeDiff, Nat.reduceAdd, Nat.reduceMul, reduceCtorEq, e1, hwi, hwa] at hr; subst hr; (first | refine caC (hf) rfl ?_ ?_ ?_ | refine awV ?_ ?_ | (refine zh (fun h => ?_) (fun h => ?_) <;> (try simp only [go_sem, reduceCtorEq] at h) <;> (try (exfalso; omega))))))) <;> (try omega)
   refine ⟨(i + 1, q1, q2), ?_, ⟨hlt, by rw [Int.natCast_add]; rw [← Int.add_assoc]; exact hq⟩, by show m - (i + 1) < m - i; omega⟩
   simp only [go_sem, Nat.reduceBEq]
   try exact rfl
  | false =>
   rw [if_neg (by decide)] at hq
   subst hq
   have hs := yi f 1 (by decide)
   (repeat' (first | exact trivial | (with_reducible first | apply awA | apply awD | apply awE | apply awF | apply awG | apply awH | apply awJ | apply awK) | ((with_reducible first | apply awn | apply awo | refine awQ ?_ | refine awR ?_); intro r hr; simp only [go_sem, Nat.reduceBEq, Nat.reduceLT, Nat.reduceLeDiff, Nat.reduceAdd, Nat.reduceMul, reduceCtorEq, e1] at hr; subst hr; (first | refine caC (hs) rfl ?_ ?_ ?_ | refine awV ?_ ?_ | refine zM ?_ ?_ | (refine zh (fun h => ?_) (fun h => ?_) <;> (try simp only [go_sem, reduceCtorEq] at h) <;> (try (exfalso; omega))))))) <;> (try omega)
   all_goals first | exact AV.up_rfl _ | trace_state
 ·have e1 : ((i : Int) < (m : Int)) = False := eq_false (by omega)
  rw [show m - i = 0 by omega] at hq
  unfold VU at hq
  subst hq
  have hs := yi f 1 (by decide)
  (repeat' (first | exact trivial | (with_reducible first | apply awA | apply awD | apply awE | apply awF | apply awG | apply awH | apply awJ | apply awK) | ((with_reducible first | apply awn | apply awo | refine awQ ?_ | refine awR ?_); intro r hr; simp only [go_sem, Nat.reduceBEq, Nat.reduceLT, Nat.reduceLeDiff, Nat.reduceAdd, Nat.reduceMul, reduceCtorEq, e1] at hr; subst hr; (first | refine caC (hs) rfl ?_ ?_ ?_ | refine awV ?_ ?_ | refine zM ?_ ?_ | (refine zh (fun h => ?_) (fun h => ?_) <;> (try simp only [go_sem, reduceCtorEq] at h) <;> (try (exfalso; omega))))))) <;> (try omega)
  all_goals first | exact AV.up_rfl _ | trace_state
end
end Go.Proofs.YtjeplogcfedmeaaGreat

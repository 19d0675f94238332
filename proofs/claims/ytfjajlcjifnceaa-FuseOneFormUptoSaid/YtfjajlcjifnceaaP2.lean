import Derived.Laws.MakeOwn
import Derived.MapKept
import Derived.Deep.Upon
import Derived.Test.YtfjajlcjifnceaaP1
set_option linter.all false
set_option maxRecDepth 100000
set_option maxHeartbeats 8000000
namespace Go.Proofs.Ytfjajlcjifnceaa
section
open Go.RowKit
section
variable {P : Program} {T : Nat → Option TyD} {E : Env} {s : AState} {tm : Array Value} {w w' : World} {β β' : Nat → Option Nat} {F : Nat → Prop}
def vd (s : AState) : AV → Option (List (List AV))
 | .lst _ xs => some xs
 | .ref _ _ d off len =>
  match lk s.ob d with
  | some (.row _ _ xs) => some ((xs.take (off + len)).drop off)
  | _ => none
 | .v (.slice none 0 0) => some []
 | _ => none
theorem zcg {k i j : Nat} (hj : j < k) : (i * k + j) / k = i := by
 rw [Nat.mul_comm, Nat.mul_add_div (by omega), Nat.div_eq_of_lt hj, Nat.add_zero]
theorem J7 {k i j : Nat} (hj : j < k) : (i * k + j) % k = j := by
 rw [Nat.mul_comm, Nat.mul_add_mod, Nat.mod_eq_of_lt hj]
theorem Ya {m k q : Nat} (hk : 0 < k) (hq : q < m * k) : q / k < m ∧ q % k < k ∧ q / k * k + q % k = q :=
 ⟨Nat.div_lt_of_lt_mul (by rw [Nat.mul_comm]; exact hq), Nat.mod_lt _ hk, by rw [Nat.mul_comm]; exact Nat.div_add_mod q k⟩
def v5 (g : Nat → Nat → Value) (n k : Nat) : List Value := (List.range (n * k)).map fun q => g (q / k) (q % k)
theorem vf (g : Nat → Nat → Value) (n k : Nat) : (v5 g n k).length = n * k := by simp [v5]
theorem Uu (g : Nat → Nat → Value) (n k : Nat) {i j : Nat} (hi : i < n) (hj : j < k) : (v5 g n k)[i * k + j]? = some (g i j) := by
 have hlt : i * k + j < n * k := by
  have : (i + 1) * k ≤ n * k := Nat.mul_le_mul_right k hi
  rw [Nat.add_mul] at this
  omega
 rw [v5, List.getElem?_map, List.getElem?_range hlt, Option.map_some, zcg hj, J7 hj]
theorem Uv (g : Nat → Nat → Value) (n k : Nat) {u : Value} (hu : u ∈ v5 g n k) : ∃ i j, i < n ∧ j < k ∧ u = g i j := by
 obtain ⟨q, hq, rfl⟩ := List.mem_map.1 hu
 rw [List.mem_range] at hq
 have hk : 0 < k := by
  rcases Nat.eq_zero_or_pos k with h | h
  ·subst h; simp at hq
  ·exact h
 obtain ⟨h1, h2, _⟩ := Ya hk hq
 exact ⟨_, _, h1, h2, rfl⟩
theorem Yb (g : Nat → Nat → Value) (n k : Nat) {q : Nat} {u : Value} (hu : (v5 g n k)[q]? = some u) : q / k < n ∧ q % k < k ∧ q / k * k + q % k = q ∧ u = g (q / k) (q % k) := by
 have hq : q < n * k := by
  rcases Nat.lt_or_ge q (v5 g n k).length with h | h
  ·rwa [vf] at h
  ·rw [List.getElem?_eq_none h] at hu; cases hu
 have hk : 0 < k := by
  rcases Nat.eq_zero_or_pos k with h | h
  ·subst h; simp at hq
  ·exact h
 obtain ⟨h1, h2, h3⟩ := Ya hk hq
 rw [v5, List.getElem?_map, List.getElem?_range hq] at hu
 injection hu with hu
 exact ⟨h1, h2, h3, hu.symm⟩
structure Elems (F : Nat → Prop) (w : World) (k : Nat) (ys : List (List AV)) (v : Value) where
 ex : ∃ A n c g, v = .slice A n c ∧ n = ys.length ∧ Row w w.heap.size A (v5 g n k) ∧ (∀ i j, i < n → j < k → (g i j).oneCell' = true) ∧ (∀ cs ∈ ys, cs.length = k) ∧
  ∀ (i j : Nat) (cs : List AV) (u : AV), ys[i]? = some cs → cs[j]? = some u → SVR F w u (g i j)
def AV.width : AV → Nat → Bool
 | .lst k _, n => k == n
 | .ref _ k _ _ _, n => k == n
 | .v (.slice none 0 0), _ => true
 | _, _ => false
theorem KV (hs : SRel E s tm w β) {a : AV} {v : Value} {ys : List (List AV)} {k : Nat} (h : AVR (FF E β w) β w a v) (he : vd s a = some ys) (hw : a.width k = true)
  (hlen : ∀ t k' d off len t' k'' xs, a = .ref t k' d off len → lk s.ob d = some (.row t' k'' xs) → k'' = k' ∧ off + len ≤ xs.length) : Elems (FF E β w) w k ys v := by
 cases a with
 | lst k' xs =>
  simp only [AV.width, beq_iff_eq] at hw
  subst hw
  simp only [vd, Option.some.injEq] at he
  subst he
  cases h with
  | s h =>
  cases h with
  | @lst _ _ A n c g g1 g2 g3 g4 g5 g6 g7 =>
   refine ⟨A, n, c, g, rfl, g1, fun hn => ?_, g6, g4, g7⟩
   rw [vf] at hn
   have hn0 : 0 < n := Nat.pos_of_mul_pos_right hn
   obtain ⟨b, off, hA, hF, hc⟩ := g5 hn0
   refine ⟨b, off, hA, hF.1, fun q u hu => ?_⟩
   obtain ⟨h1, h2, h3, rfl⟩ := Yb g n k' hu
   rw [← hc _ _ h1 h2, h3]
 | ref t k' d off len =>
  simp only [AV.width, beq_iff_eq] at hw
  subst hw
  simp only [vd] at he
  cases hob : lk s.ob d with
  | none => rw [hob] at he; cases he
  | some o =>
   rw [hob] at he
   cases o with
   | row t' k'' xs =>
    simp only [Option.some.injEq] at he
    subst he
    obtain ⟨rfl, hl⟩ := hlen _ _ _ _ _ _ _ _ rfl hob
    obtain ⟨hk, hrow⟩ := hs.ob d _ hob
    have hlen' : ((xs.take (off + len)).drop off).length = len := by rw [List.length_drop, List.length_take]; omega
    have hkk : ∀ cs ∈ (xs.take (off + len)).drop off, cs.length = k'' := fun cs hcs => hk cs (List.mem_of_mem_take (List.mem_of_mem_drop hcs))
    have empty : ∀ (A : Option Addr), len = 0 → Elems (FF E β w) w k'' ((xs.take (off + len)).drop off) (.slice A 0 0) := fun A h0 => by
     subst h0
     have hz : (xs.take (off + 0)).drop off = [] := List.eq_nil_of_length_eq_zero hlen'
     rw [hz]
     exact ⟨A, 0, 0, fun _ _ => .nilFunc, rfl, rfl, fun hn => by simp [v5] at hn, fun i j hi => by omega, fun cs hcs => (by cases hcs), fun i j cs u hc => by simp at hc⟩
    cases h with
    | s h => cases h
    | nil => exact empty none rfl
    | empty => exact empty _ rfl
    | @ref _ _ _ _ _ c b A h1 h2 h3 h4 h5 =>
     subst h4
     rcases hrow with rfl | ⟨b', arr, hb', harr, hsz, hc⟩
     ·simp at hl
      obtain ⟨rfl, rfl⟩ := hl
      exact ⟨_, 0, c, fun _ _ => .nilFunc, rfl, by simp, fun hn => by simp [v5] at hn, fun i j hi => by omega, fun cs hcs => (by simp at hcs), fun i j cs u hc => by simp at hc⟩
     ·rw [h1] at hb'
      injection hb' with hb'
      subst hb'
      have hall : ∀ i j, i < len → j < k'' → ∃ x, arr[(off + i) * k'' + j]? = some x ∧ ∀ u cs, xs[off + i]? = some cs → cs[j]? = some u → SVR (FF E β w) w u x := fun i j hi hj => by
       have hlt : off + i < xs.length := by omega
       have hlj : j < (xs[off + i]).length := by rw [hk _ (List.getElem_mem hlt)]; exact hj
       obtain ⟨x, hx, hr⟩ := hc (off + i) j xs[off + i] (xs[off + i])[j] (List.getElem?_eq_getElem hlt) (List.getElem?_eq_getElem hlj)
       exact ⟨x, hx, fun u cs h1 h2 => by
        rw [List.getElem?_eq_getElem hlt] at h1
        injection h1 with h1
        subst h1
        rw [List.getElem?_eq_getElem hlj] at h2
        injection h2 with h2
        subst h2
        exact hr⟩
      have get : ∀ i cs, ((xs.take (off + len)).drop off)[i]? = some cs → i < len ∧ xs[off + i]? = some cs := fun i cs hcs => by
       have hi : i < len := by
        rw [← hlen']
        rcases Nat.lt_or_ge i ((xs.take (off + len)).drop off).length with h | h
        ·exact h
        ·rw [List.getElem?_eq_none h] at hcs; cases hcs
       rw [List.getElem?_drop, List.getElem?_take_of_lt (by omega)] at hcs
       exact ⟨hi, hcs⟩
      refine ⟨_, len, c, fun i j => (arr[(off + i) * k'' + j]?).getD undef, rfl, hlen'.symm, fun hn => ⟨b, off * k'', rfl, (hs.rng d b h1).2, fun q u hu => ?_⟩, fun i j hi hj => ?_, hkk, fun i j cs u hcs hu => ?_⟩
      ·obtain ⟨g1, g2, g3, rfl⟩ := Yb _ len k'' hu
       obtain ⟨x, hx, _⟩ := hall _ _ g1 g2
       rw [cell_of_row w b _ arr t (0, 0) (by obtain ⟨arr', e1, _⟩ := h5; rw [harr] at e1; injection e1 with e1; injection e1 with e1 e2; rw [harr, e2])]
       rw [hx, show off * k'' + q = (off + q / k'') * k'' + q % k'' by rw [Nat.add_mul]; omega, hx]
       rfl
      ·obtain ⟨x, hx, hr⟩ := hall i j hi hj
       have hlt : off + i < xs.length := by omega
       have hlj : j < (xs[off + i]).length := by rw [hk _ (List.getElem_mem hlt)]; exact hj
       have := hr _ _ (List.getElem?_eq_getElem hlt) (List.getElem?_eq_getElem hlj)
       show ((arr[(off + i) * k'' + j]?).getD undef).oneCell' = true
       rw [hx]
       exact this.one
      ·obtain ⟨hi, hcs'⟩ := get i cs hcs
       have hj : j < k'' := by
        rw [← hkk cs (List.mem_of_getElem? hcs)]
        rcases Nat.lt_or_ge j cs.length with h | h
        ·exact h
        ·rw [List.getElem?_eq_none h] at hu; cases hu
       obtain ⟨x, hx, hr⟩ := hall i j hi hj
       show SVR (FF E β w) w u ((arr[(off + i) * k'' + j]?).getD undef)
       rw [hx]
       exact hr u cs hcs' hu
   | var cs => cases he
   | mapo es => cases he
   | mapr clk es => cases he
   | iter e' ok si sn => cases he
   | mapl t' clk es q => cases he
 | v x =>
  have hx : x = .slice none 0 0 := by
   unfold vd at he
   split at he <;> first | (cases ‹AV.v x = _› <;> rfl) | cases he
  subst hx
  simp only [vd, Option.some.injEq] at he
  subst he
  cases h with
  | s h =>
  cases h with
  | v h => exact ⟨none, 0, 0, fun _ _ => .nilFunc, rfl, rfl, fun hn => by simp [v5] at hn, fun i j hi => by omega, fun cs hcs => (by cases hcs), fun i j cs u hc => by simp at hc⟩
 | _ => simp [vd] at he
def jC (s : AState) (e k dst : Nat) : AV → Option (Nat × List (List AV) × Prop)
 | .ref t k' d off n =>
  match lk s.ob d with
  | some (.row t' k'' xs) => some (d, xs.take n, t = e ∧ t' = e ∧ k' = k ∧ k'' = k ∧ off = 0 ∧ n ≤ xs.length)
  | _ => none
 | .v (.slice none 0 0) => some (dst, [], True)
 | _ => none
def zde (s : AState) : AV → Prop
 | .ref _ k' d off len =>
  match lk s.ob d with
  | some (.row _ k'' xs) => k'' = k' ∧ off + len ≤ xs.length
  | _ => True
 | _ => True
def qT (T : Nat → Option TyD) (s : AState) (t dst : Nat) (a b : AV) : Option (Prop × AState × AV) :=
 match T t with
 | some ⟨_, _, _, .slice e⟩ =>
  match T e with
  | some de =>
   match jC s e de.size dst a, vd s b with
   | some (d, xs, p), some ys =>
    some (YZ d ∧ p ∧ b.width de.size = true ∧ zde s b ∧ 0 < de.size ∧ 0 < de.bytes ∧ (xs ++ ys).length * de.bytes ≤ 140737488355328,
     { fr := (s.drop d).fr, ob := (d, .row e de.size (xs ++ ys)) :: (s.drop d).ob }, .ref e de.size d 0 (xs ++ ys).length)
   | _, _ => none
  | none => none
 | _ => none
theorem Xg (hT : TOK P T) (hs : SRel E s tm w β) {t dst : Nat} {a b r : AV} {p : Prop} {s' : AState} (h : qT T s t dst a b = some (p, s', r)) (hp : p) {x y : Value}
  (hx : AVR (FF E β w) β w a x) (hy : AVR (FF E β w) β w b y) (ty : Nat) :
  ∃ v w' β', (Builtin.append_ #[t, t] ty #[x, y]).run P w = .ok v w' ∧ SRel E s' tm w' β' ∧ AVR (FF E β' w') β' w' r v ∧
   (∀ e b, b < w.heap.size → β' e = some b → β e = some b) ∧ xz (fun b => ∃ t' k' d off n, a = .ref t' k' d off n ∧ β d = some b) w w' := by
 unfold qT at h
 split at h
 case h_2 => cases h
 rename_i e hd
 split at h
 case h_2 => cases h
 rename_i de he
 split at h
 case h_2 => cases h
 rename_i d xs q ys hha hel
 injection h with h
 injection h with h1 h2
 injection h2 with h2 h3
 subst h1
 subst h2
 subst h3
 obtain ⟨hdo, hq, hwid, hin, hk0, hb0, hbytes⟩ := hp
 have hu := yR hT hd rfl
 obtain ⟨⟨i, z, hi, hsz, hby, hz, hzc⟩, hzl, _, _⟩ := hT e de he
 have hzs : z.cells.size = de.size := by rw [hzc]; simp [hzl]
 have hlen : (xs ++ ys).length ≤ 140737488355328 := Nat.le_trans (Nat.le_mul_of_pos_right _ hb0) hbytes
 obtain ⟨A, m, c, g, rfl, hm, hrow, hone, hyk, hyr⟩ := (KV hs hy hel hwid fun t k' d off len t' k'' xs ha hl => by subst ha; simp only [zde, hl] at hin; exact hin).ex
 obtain ⟨vals, n, hn, hxk, hown, hvals, hblk⟩ : ∃ (vals : List Value) (n : Nat), n = xs.length ∧ (∀ cs ∈ xs, cs.length = de.size) ∧ w.ownsRow 0 e de.size x n vals ∧
   (∀ (i j : Nat) (cs : List AV) (u : AV), xs[i]? = some cs → cs[j]? = some u → ∃ z, vals[i * de.size + j]? = some z ∧ SVR (FF E β w) w u z) ∧ ∀ b, x.ownBlock = some b → β d = some b ∧ ∃ t' k' d off n, a = .ref t' k' d off n ∧ β d = some b := by
  cases a with
  | ref t' k' d' off n =>
   simp only [jC] at hha
   cases hob : lk s.ob d' with
   | none => rw [hob] at hha; cases hha
   | some o =>
    rw [hob] at hha
    cases o with
    | var cs => cases hha
    | mapo es => cases hha
    | mapr clk es => cases hha
    | iter e' ok si sn => cases hha
    | mapl t2 clk es q2 => cases hha
    | row t'' k'' xs0 =>
     simp only [Option.some.injEq, Prod.mk.injEq] at hha
     obtain ⟨rfl, rfl, rfl⟩ := hha
     obtain ⟨rfl, rfl, rfl, rfl, rfl, hnl⟩ := hq
     obtain ⟨hkk, hr⟩ := hs.ob d' _ hob
     have hxk : ∀ cs ∈ xs0.take n, cs.length = de.size := fun cs hcs => hkk cs (List.mem_of_mem_take hcs)
     cases hx with
     | s h => cases h
     | nil => exact ⟨[], 0, by simp, hxk, World.ownsRow_nil w 0 _ de.size, fun i j cs u hc => by simp at hc, fun b hb => by cases hb⟩
     | empty h => omega
     | @ref _ _ _ _ _ c0 b0 A0 g1 g2 g3 g4 g5 =>
      subst g4
      obtain ⟨arr, harr, hasz⟩ := g5
      rw [Nat.zero_add] at hasz
      rw [Nat.zero_mul] 
      have hvl : (arr.toList.take (n * de.size)).length = n * de.size := by
       rw [List.length_take, Array.length_toList, hasz]
       exact Nat.min_eq_left (Nat.mul_le_mul_right _ g2)
      refine ⟨arr.toList.take (n * de.size), n, by rw [List.length_take]; omega, hxk, ⟨hvl, .inr ⟨b0, c0, arr, rfl, Nat.zero_le _, harr, g2, g3, hasz, rfl⟩⟩, fun i j cs u hc hu' => ?_, fun b hb => by
       simp only [Value.ownBlock, Option.some.injEq] at hb; subst hb; exact ⟨g1, _, _, _, _, _, rfl, g1⟩⟩
      have hin' : i < n := by
       rcases Nat.lt_or_ge i (xs0.take n).length with h | h
       ·rw [List.length_take] at h; omega
       ·rw [List.getElem?_eq_none h] at hc; cases hc
      have hj : j < de.size := by
       rw [← hxk cs (List.mem_of_getElem? hc)]
       rcases Nat.lt_or_ge j cs.length with h | h
       ·exact h
       ·rw [List.getElem?_eq_none h] at hu'; cases hu'
      rw [List.getElem?_take_of_lt hin'] at hc
      rcases hr with rfl | ⟨b', arr', e1, e2, e3, e4⟩
      ·simp at hc
      ·rw [g1] at e1
       injection e1 with e1
       subst e1
       rw [harr] at e2
       injection e2 with e2
       injection e2 with e2 _
       subst e2
       obtain ⟨z', hz', hr'⟩ := e4 i j cs u hc hu'
       have hlt : i * de.size + j < n * de.size := by
        have : (i + 1) * de.size ≤ n * de.size := Nat.mul_le_mul_right _ hin'
        rw [Nat.add_mul] at this
        omega
       exact ⟨z', by rw [List.getElem?_take_of_lt hlt]; simpa using hz', hr'⟩
  | v x' =>
   have hx' : x' = .slice none 0 0 := by
    unfold jC at hha
    split at hha <;> first | (cases ‹AV.v x' = _› <;> rfl) | cases hha
   subst hx'
   simp only [jC, Option.some.injEq, Prod.mk.injEq] at hha
   obtain ⟨rfl, rfl, _⟩ := hha
   cases hx with
   | s h =>
   cases h with
   | v h => exact ⟨[], 0, rfl, fun cs hcs => (by cases hcs), World.ownsRow_nil w 0 e de.size, fun i j cs u hc => by simp at hc, fun b hb => by cases hb⟩
  | _ => simp [jC] at hha
 subst hn
 rw [List.length_append] at hlen hbytes
 obtain ⟨v', w', hrun, hown', hgr, hob'⟩ := jq (P := P) w 0 t ty e i z de.size de.bytes hu hi hz hsz hby hzs hk0 x xs.length vals hown w.heap.size A m c (v5 g m de.size) hrow (vf g m de.size)
  (fun u hu' => by obtain ⟨i', j', h1, h2, rfl⟩ := Uv g m de.size hu'; exact hone i' j' h1 h2) (by simp only [maxLen]; omega) (by rw [hm]; exact hbytes) (Nat.zero_le _)
 have hblk' : ∀ b, v'.ownBlock = some b → β d = some b ∨ w.heap.size ≤ b ∧ b < w'.heap.size := fun b hb => by
  have hlt := (hown'.lt b hb).2
  rcases hob' with h | h
  ·exact .inl (hblk b (h ▸ hb)).1
  ·rw [hb] at h; injection h with h; exact .inr ⟨by omega, hlt⟩
 have hkeep : Keeps (fun b => β d = some b) w w' := ⟨hgr.os, hgr.tape, hgr.output, hgr.size, fun b hb hn => hgr.block b hb fun h => hn (hblk b h.symm).1⟩
 have hS := hs.turn (β' := upd β d v'.ownBlock) d hdo (fun e he => zS β _ he) (fun b hb => by rw [ya] at hb; exact hblk' b hb) hkeep
 have hF : ∀ b, FF E β w b → FF E (upd β d v'.ownBlock) w' b := fun b ⟨h1, h2, h3⟩ => ⟨Nat.lt_of_lt_of_le h1 hgr.size, h2, fun f hf => by
  by_cases hfd : f = d
  ·subst hfd
   rw [ya] at hf
   rcases hblk' b hf with h | h
   ·exact h3 f h
   ·omega
  ·rw [zS β _ hfd] at hf; exact h3 f hf⟩
 have hFw : ∀ b, FF E β w b → w'.heap[b]? = w.heap[b]? := fun b hb => hkeep.block b hb.1 (hb.2.2 d)
 have hlen2 : (xs ++ ys).length = xs.length + m := by rw [List.length_append, hm]
 have hcase : (v' = .slice none 0 0 ∧ xs.length + m = 0) ∨ ∃ b cap cur, v' = .slice (some ⟨b, 0, none⟩) (xs.length + m) cap ∧ w'.heap[b]? = some (.cells cur e (0, 0)) ∧ xs.length + m ≤ cap ∧ cap ≤ maxLen ∧ cur.size = cap * de.size ∧
   cur.toList.take ((xs.length + m) * de.size) = vals ++ v5 g m de.size := by
  rcases hown'.2 with ⟨h1, h2⟩ | ⟨b, cap, cur, h1, _, h2, h3, h4, h5, h6⟩
  ·exact .inl ⟨h1, h2⟩
  ·exact .inr ⟨b, cap, cur, h1, h2, h3, h4, h5, h6⟩
 have hvl : vals.length = xs.length * de.size := hown.1
 refine ⟨v', w', upd β d v'.ownBlock, hrun, hS.add d _ ⟨fun cs hcs => ?_, ?_⟩, ?_, fun e' b hb he' => ?_, ⟨hgr.size, fun b hb hn => hgr.block b hb fun h => hn (hblk b h.symm).2⟩⟩
 ·rcases List.mem_append.1 hcs with h | h
  ·exact hxk cs h
  ·exact hyk cs h
 ·rcases hcase with ⟨_, h0⟩ | ⟨b, cap, cur, rfl, h2, h3, h4, h5, h6⟩
  ·exact .inl (List.eq_nil_of_length_eq_zero (by omega))
  ·refine .inr ⟨b, cur, by rw [ya]; rfl, h2, by rw [hlen2, h5]; exact Nat.mul_le_mul_right _ h3, fun i' j' cs u hcs hu' => ?_⟩
   have hj : j' < de.size := by
    have hl : cs.length = de.size := by
     rcases List.mem_append.1 (List.mem_of_getElem? hcs) with h | h
     ·exact hxk cs h
     ·exact hyk cs h
    rw [← hl]
    rcases Nat.lt_or_ge j' cs.length with h | h
    ·exact h
    ·rw [List.getElem?_eq_none h] at hu'; cases hu'
   have hi' : i' < xs.length + m := by
    rw [← hlen2]
    rcases Nat.lt_or_ge i' (xs ++ ys).length with h | h
    ·exact h
    ·rw [List.getElem?_eq_none h] at hcs; cases hcs
   have hlt : i' * de.size + j' < (xs.length + m) * de.size := by
    have : (i' + 1) * de.size ≤ (xs.length + m) * de.size := Nat.mul_le_mul_right _ hi'
    rw [Nat.add_mul] at this
    omega
   have hcur : cur[i' * de.size + j']? = (vals ++ v5 g m de.size)[i' * de.size + j']? := by
    rw [← h6, List.getElem?_take_of_lt hlt]; simp
   rw [hcur]
   by_cases hix : i' < xs.length
   ·rw [List.getElem?_append_left hix] at hcs
    obtain ⟨z', hz', hr'⟩ := hvals i' j' cs u hcs hu'
    have hltv : i' * de.size + j' < vals.length := by
     rcases Nat.lt_or_ge (i' * de.size + j') vals.length with h | h
     ·exact h
     ·rw [List.getElem?_eq_none h] at hz'; cases hz'
    exact ⟨z', by rw [List.getElem?_append_left hltv]; exact hz', hr'.mono hF hFw⟩
   ·rw [List.getElem?_append_right (by omega)] at hcs
    have hr' := hyr (i' - xs.length) j' cs u hcs hu'
    have hge : vals.length ≤ i' * de.size + j' := by
     rw [hvl]
     have : xs.length * de.size ≤ i' * de.size := Nat.mul_le_mul_right _ (by omega)
     omega
    refine ⟨g (i' - xs.length) j', ?_, hr'.mono hF hFw⟩
    rw [List.getElem?_append_right hge, hvl]
    rw [show i' * de.size + j' - xs.length * de.size = (i' - xs.length) * de.size + j' by
     rw [Nat.sub_mul]
     have : xs.length * de.size ≤ i' * de.size := Nat.mul_le_mul_right _ (by omega)
     omega]
    exact Uu g m de.size (by omega) hj
 ·rcases hcase with ⟨rfl, h0⟩ | ⟨b, cap, cur, rfl, h2, h3, h4, h5, h6⟩
  ·rw [show (xs ++ ys).length = 0 by omega]; exact .nil
  ·rw [hlen2]
   exact .ref (by rw [ya]; rfl) h3 h4 (by rw [Nat.zero_mul]) ⟨cur, h2, by rw [Nat.zero_add]; exact h5⟩
 ·by_cases hed : e' = d
  ·subst hed
   rw [ya] at he'
   rcases hblk' b he' with h | h
   ·exact h
   ·omega
  ·rw [zS β _ hed] at he'; exact he'
end
end
section
open Go.RowKit
section
variable {P : Program} {T : Nat → Option TyD} {E : Env} {s : AState} {tm : Array Value} {w w' : World} {β β' : Nat → Option Nat} {F : Nat → Prop} {X : Nat → Prop}
def jD (cs : List AV) : List (Nat × Nat × AV) → Option (Prop × List AV)
 | [] => some (True, cs)
 | (off, n, a) :: ps =>
  match a.cells1 with
  | some ns =>
   match jD (ZR cs off ns) ps with
   | some (p, r) => some ((ns.length = n ∧ off + n ≤ cs.length) ∧ p, r)
   | none => none
  | none => none
structure CellsR (R : AV → Value → Prop) (cs : List AV) (vs : Array Value) : Prop where
 size : vs.size = cs.length
 one : ∀ (i : Nat) (u : Value), vs[i]? = some u → u.oneCell' = true
 rel : ∀ (j : Nat) (u : AV), cs[j]? = some u → ∃ x, vs[j]? = some x ∧ R u x
theorem KW (off : Nat) : ∀ (l : List Value) (j : Nat) (cs : Array Value),
  (l.zipIdx j).foldl (fun cs (c, j) => cs.setIfInBounds (off + j) c) cs = l.zipIdx.foldl (fun cs (c, i) => cs.setIfInBounds (off + (j + i)) c) cs := by
 intro l
 induction l with
 | nil => intro j cs; rfl
 | cons x l ih =>
  intro j cs
  simp only [List.zipIdx_cons, List.foldl_cons, Nat.add_zero, Nat.zero_add]
  rw [ih (j + 1)]
  have : ∀ (l : List Value) (n : Nat) (cs : Array Value), (l.zipIdx (n + 1)).foldl (fun cs (c, i) => cs.setIfInBounds (off + (j + i)) c) cs = (l.zipIdx n).foldl (fun cs (c, i) => cs.setIfInBounds (off + (j + 1 + i)) c) cs := by
   intro l
   induction l with
   | nil => intro n cs; rfl
   | cons y l ih => intro n cs; simp only [List.zipIdx_cons, List.foldl_cons, ih]; congr 2; omega
  rw [← this l 0]
theorem X2 (off : Nat) : ∀ (l : List Value) (cs : Array Value), off + l.length ≤ cs.size →
  (l.zipIdx.foldl (fun cs (c, i) => cs.setIfInBounds (off + i) c) cs).size = cs.size ∧
  ∀ i, (l.zipIdx.foldl (fun cs (c, i) => cs.setIfInBounds (off + i) c) cs)[i]? = if off ≤ i ∧ i < off + l.length then l[i - off]? else cs[i]? := by
 intro l
 induction l generalizing off with
 | nil => intro cs _; exact ⟨rfl, fun i => by rw [if_neg (by simp only [List.length_nil]; omega)]; rfl⟩
 | cons x l ih =>
  intro cs h
  simp only [List.length_cons] at h
  have hstep : ((x :: l).zipIdx.foldl (fun cs (c, i) => cs.setIfInBounds (off + i) c) cs) = (l.zipIdx.foldl (fun cs (c, i) => cs.setIfInBounds (off + 1 + i) c) (cs.setIfInBounds off x)) := by
   simp only [List.zipIdx_cons, List.foldl_cons, Nat.add_zero, Nat.zero_add]
   have := KW off l 1 (cs.setIfInBounds off x)
   rw [this]
   congr 1
   funext a p
   obtain ⟨c, i⟩ := p
   show a.setIfInBounds (off + (1 + i)) c = a.setIfInBounds (off + 1 + i) c
   rw [← Nat.add_assoc]
  rw [hstep]
  obtain ⟨h1, h2⟩ := ih (off + 1) (cs.setIfInBounds off x) (by simp; omega)
  refine ⟨by rw [h1]; simp, fun i => ?_⟩
  rw [h2 i]
  simp only [List.length_cons]
  by_cases h3 : off + 1 ≤ i ∧ i < off + 1 + l.length
  ·rw [if_pos h3, if_pos (by omega), show i - off = (i - (off + 1)) + 1 by omega, List.getElem?_cons_succ]
  ·rw [if_neg h3]
   by_cases h4 : i = off
   ·subst h4
    rw [if_pos (by omega), Nat.sub_self]
    have hlt : i < cs.size := by omega
    simp [hlt]
   ·rw [if_neg (by omega), Array.getElem?_setIfInBounds_ne (fun h => h4 h.symm)]
theorem CellsR.fill {R : AV → Value → Prop} {cs : List AV} {vs : Array Value} (h : CellsR R cs vs) {v : Value} {ns : List AV} {off : Nat}
  (h1 : v.cells.size = ns.length) (h2 : ∀ (i : Nat) (u : Value), v.cells[i]? = some u → u.oneCell' = true) (h3 : ∀ (j : Nat) (u : AV), ns[j]? = some u → ∃ x, v.cells[j]? = some x ∧ R u x) (hoff : off + ns.length ≤ cs.length) :
  CellsR R (ZR cs off ns) (v.cells.toList.zipIdx.foldl (fun cs (c, j) => cs.setIfInBounds (off + j) c) vs) := by
 obtain ⟨g1, g2⟩ := X2 off v.cells.toList vs (by rw [h.size]; simpa [h1] using hoff)
 have hl : v.cells.toList.length = ns.length := by simpa using h1
 rw [hl] at g2
 refine ⟨by rw [g1, x6]; exact h.size, fun i u hu => ?_, fun j u hu => ?_⟩
 ·rw [g2 i] at hu
  split at hu
  ·exact h2 _ u (by simpa using hu)
  ·exact h.one i u hu
 ·rw [uA _ _ _ _ hoff] at hu
  rw [g2 j]
  split at hu
  ·rename_i hj; rw [if_pos hj]; obtain ⟨x, hx, hr⟩ := h3 _ u hu; exact ⟨x, by simpa using hx, hr⟩
  ·rename_i hj; rw [if_neg hj]; exact h.rel j u hu
theorem Uw {place : Nat → Option (Nat × Nat)} : ∀ (ps : List (Nat × Nat × AV)) (qs : List (Nat × Value)) {cs r : List AV} {vs : Array Value} {p : Prop},
  CellsR (AVR F β w) cs vs → jD cs ps = some (p, r) → p → ps.length = qs.length → (∀ (i : Nat) (q : Nat × Nat × AV) (z : Nat × Value), ps[i]? = some q → qs[i]? = some z → place z.1 = some (q.1, q.2.1) ∧ AVR F β w q.2.2 z.2) →
  ∃ vs', Instr.fill place vs qs = some vs' ∧ CellsR (AVR F β w) r vs' := by
 intro ps
 induction ps with
 | nil =>
  intro qs cs r vs p hc hf _ hl _
  cases qs with
  | nil => simp only [jD, Option.some.injEq, Prod.mk.injEq] at hf; obtain ⟨_, rfl⟩ := hf; exact ⟨vs, rfl, hc⟩
  | cons => simp at hl
 | cons q ps ih =>
  intro qs cs r vs p hc hf hp hl hall
  cases qs with
  | nil => simp at hl
  | cons z qs =>
   obtain ⟨off, n, a⟩ := q
   obtain ⟨zi, zv⟩ := z
   simp only [jD] at hf
   split at hf
   case h_2 => cases hf
   rename_i ns hns
   split at hf
   case h_2 => cases hf
   rename_i p' r' hf'
   simp only [Option.some.injEq, Prod.mk.injEq] at hf
   obtain ⟨rfl, rfl⟩ := hf
   obtain ⟨⟨rfl, hoff⟩, hp'⟩ := hp
   obtain ⟨hpl, hr⟩ := hall 0 _ _ rfl rfl
   obtain ⟨c1, c2, c3⟩ := uw hr hns
   have hstep := hc.fill c1 c2 c3 hoff
   obtain ⟨vs', h1, h2⟩ := ih qs hstep hf' hp' (by simpa using hl) (fun i q z h1 h2 => hall (i + 1) q z (by simpa using h1) (by simpa using h2))
   refine ⟨vs', ?_, h2⟩
   have hle : off + zv.cells.size ≤ vs.size := by rw [c1, hc.size]; exact hoff
   simp only [Instr.fill, hpl]
   rw [if_neg (by
    simp only [Bool.or_eq_true, decide_eq_true_eq, not_or]
    exact ⟨by simpa using c1, by show ¬ (vs.size < off + zv.cells.size); omega⟩), ← h1]
   congr 1
   rw [← Array.foldl_toList, Array.toList_zipIdx]
def qc (T : Nat → Option TyD) (fs : List (Nat × Nat)) (f : Operand → AV) : List (Nat × Operand) → Option (List (Nat × Nat × AV))
 | [] => some []
 | (i, x) :: ps =>
  match fs[i]? with
  | some (off, ft) =>
   match T ft, qc T fs f ps with
   | some d, some r => some ((off, d.size, f x) :: r)
   | _, _ => none
  | none => none
def zch (T : Nat → Option TyD) : List (Nat × Nat) → Bool
 | [] => true
 | (_, ft) :: fs => (T ft).isSome && zch T fs
def Zd (T : Nat → Option TyD) (t : Nat) (f : Operand → AV) (ps : List (Nat × Operand)) : Option (Prop × AV) :=
 match T t with
 | some ⟨_, _, zero, .strct fs _⟩ =>
  match qc T fs f ps with
  | some qs =>
   match jD (zero.map AV.v) qs with
   | some (p, r) => some (zch T fs = true ∧ p, .agg r)
   | none => none
  | none => none
 | _ => none
theorem Vi (hT : TOK P T) : ∀ (l : List Field) (fs : List (Nat × Nat)), l.map (fun f => (f.offset, f.type)) = fs → zch T fs = true →
  ∃ out : List (Nat × Nat), (∀ w, (l.mapM (fun f => do pure (f.offset, ← sizeOf f.type) : Field → Sem (Nat × Nat))).run P w = .ok out w) ∧ out.length = fs.length ∧
   ∀ (i : Nat) (off ft : Nat) (d : TyD), fs[i]? = some (off, ft) → T ft = some d → out[i]? = some (off, d.size) := by
 intro l
 induction l with
 | nil => intro fs hfs _; subst hfs; exact ⟨[], fun w => rfl, rfl, fun i off ft d h => by simp at h⟩
 | cons x l ih =>
  intro fs hfs hall
  subst hfs
  simp only [List.map_cons, zch, Bool.and_eq_true] at hall
  obtain ⟨h1, h2⟩ := hall
  obtain ⟨out, ho1, ho2, ho3⟩ := ih _ rfl h2
  obtain ⟨d, hd⟩ := Option.isSome_iff_exists.1 h1
  refine ⟨(x.offset, d.size) :: out, fun w => ?_, by simp [ho2], fun i off ft d' hi hd' => ?_⟩
  ·rw [List.mapM_cons]
   have h0 := xq hT hd w
   have h9 := ho1 w
   simp only [Sem.run_bind, h0, h9, Result.andThen_ok, Sem.run_pure]
  ·cases i with
   | zero =>
    simp only [List.map_cons, List.getElem?_cons_zero, Option.some.injEq, Prod.mk.injEq] at hi
    obtain ⟨rfl, rfl⟩ := hi
    rw [hd] at hd'
    injection hd' with hd'
    subst hd'
    rfl
   | succ i => exact ho3 i off ft d' (by simpa using hi) hd'
theorem KX {fs : List (Nat × Nat)} {f : Operand → AV} : ∀ (ps : List (Nat × Operand)) (qs : List (Nat × Nat × AV)), qc T fs f ps = some qs →
  qs.length = ps.length ∧ ∀ (i : Nat) (q : Nat × Nat × AV) (z : Nat × Operand), qs[i]? = some q → ps[i]? = some z → (∃ ft d, fs[z.1]? = some (q.1, ft) ∧ T ft = some d ∧ q.2.1 = d.size) ∧ q.2.2 = f z.2 := by
 intro ps
 induction ps with
 | nil => intro qs h; simp only [qc, Option.some.injEq] at h; subst h; exact ⟨rfl, fun i q z h => by simp at h⟩
 | cons p ps ih =>
  intro qs h
  obtain ⟨i, x⟩ := p
  simp only [qc] at h
  split at h
  case h_2 => cases h
  rename_i off ft hft
  split at h
  case h_2 => cases h
  rename_i d r hd hr
  simp only [Option.some.injEq] at h
  subst h
  obtain ⟨h1, h2⟩ := ih r hr
  refine ⟨by simp [h1], fun j q z hq hz => ?_⟩
  cases j with
  | zero =>
   simp only [List.getElem?_cons_zero, Option.some.injEq] at hq hz
   subst hq
   subst hz
   exact ⟨⟨ft, d, hft, hd, rfl⟩, rfl⟩
  | succ j => exact h2 j q z (by simpa using hq) (by simpa using hz)
theorem Vj (hT : TOK P T) {t : Nat} {d : TyD} (h : T t = some d) : CellsR (AVR F β w) (d.zero.map AV.v) d.zero.toArray := by
 obtain ⟨_, _, hf, _⟩ := hT t d h
 have hfc := qb (F := F) (w := w) hf
 exact ⟨by simp, hfc.1, fun j u hu => by obtain ⟨x, hx, h⟩ := hfc.2 j u hu; exact ⟨x, hx, .s h⟩⟩
theorem Vk (hT : TOK P T) {t : Nat} {f : Operand → AV} {g : Operand → Value} {ps : Array (Nat × Operand)} {r : AV} {p : Prop} (h : Zd T t f ps.toList = some (p, r)) (hp : p)
  (hfg : ∀ z ∈ ps.toList, AVR F β w (f z.2) (g z.2)) :
  ∃ v, AVR F β w r v ∧ ∀ w', xz X w w' → (Instr.build t (ps.map fun (i, x) => (i, g x))).run P w' = .ok v w' := by
 unfold Zd at h
 split at h
 case h_2 => cases h
 rename_i sz by' zero fs cmp hd
 split at h
 case h_2 => cases h
 rename_i qs hqs
 split at h
 case h_2 => cases h
 rename_i p' r' hfill
 simp only [Option.some.injEq, Prod.mk.injEq] at h
 obtain ⟨rfl, rfl⟩ := h
 obtain ⟨hall, hp'⟩ := hp
 obtain ⟨fields, hu, hfl⟩ := Xf hT hd
 obtain ⟨out, ho1, ho2, ho3⟩ := Vi hT _ _ hfl hall
 obtain ⟨hl, hqz⟩ := KX _ _ hqs
 have hz := Vj (F := F) (β := β) (w := w) hT hd
 obtain ⟨vs', hf1, hf2⟩ := Uw (place := (out.toArray[·]?)) qs ((ps.map fun (i, x) => (i, g x)).toList) hz hfill hp' (by simpa using hl) (fun i q z hq hz => by
  rw [Array.toList_map, List.getElem?_map] at hz
  cases hps : ps.toList[i]? with
  | none => rw [hps] at hz; cases hz
  | some z' =>
   rw [hps] at hz
   injection hz with hz
   subst hz
   obtain ⟨⟨ft, d, g1, g2, g3⟩, g4⟩ := hqz i q z' hq hps
   refine ⟨?_, ?_⟩
   ·have := ho3 z'.1 q.1 ft d g1 g2
    rw [g3]
    simpa using this
   ·rw [g4]; exact hfg z' (List.mem_of_getElem? hps))
 refine ⟨.agg vs', .agg hf2.size hf2.one (fun i c u hc hu => ?_), fun w' _ => ?_⟩
 ·obtain ⟨x, hx, hr⟩ := hf2.rel i c hc
  rw [hx] at hu
  injection hu with hu
  subst hu
  exact hr
 ·obtain ⟨z, hz1, hz2⟩ := Ul hT hd w'
  have hmap : (fields.mapM (fun f => do pure (f.offset, ← sizeOf f.type) : Field → Sem (Nat × Nat))).run P w' = .ok out.toArray w' := by
   rw [Array.mapM_eq_mapM_toList, Sem.run_map, ho1 w']
   rfl
  simp only [Instr.build, Sem.run_bind, hz1, Result.andThen_ok, run_underlying hu, hmap]
  have hz3 : z.cells = zero.toArray := hz2
  rw [hz3, hf1]
  rfl
end
end
section
open Go.RowKit Go.MapKept
section
variable {P : Program} {T : Nat → Option TyD} {E : Env} {s : AState} {tm : Array Value} {w w' : World} {β β' : Nat → Option Nat} {F : Nat → Prop}
theorem v6 {d e b m : Nat} (h : upd β d (some m) e = some b) (hb : b < m) : β e = some b := by
 by_cases hed : e = d
 ·subst hed; rw [ya] at h; injection h with h; omega
 ·rw [zS β _ hed] at h; exact h
structure RowR (R : AV → Value → Prop) (k : Nat) (xs : List (List AV)) (vs : Array Value) : Prop where
 size : vs.size = xs.length * k
 wid : ∀ cs ∈ xs, cs.length = k
 one : ∀ (i : Nat) (u : Value), vs[i]? = some u → u.oneCell' = true
 rel : ∀ (i j : Nat) (cs : List AV) (u : AV), xs[i]? = some cs → cs[j]? = some u → ∃ x, vs[i * k + j]? = some x ∧ R u x
theorem zE {α : Type} {l : List α} {i : Nat} {x : α} (h : l[i]? = some x) : i < l.length := by
 rcases Nat.lt_or_ge i l.length with h' | h'
 ·exact h'
 ·rw [List.getElem?_eq_none h'] at h; cases h
theorem RowR.obj {d : Nat} {t k : Nat} {xs : List (List AV)} {vs : Array Value} (h : RowR (SVR F w) k xs vs) {b : Nat} (hd : β d = some b) (hb : w'.heap[b]? = some (.cells vs t (0, 0))) {F' : Nat → Prop} (hF : ∀ b, F b → F' b) (hw : ∀ b, F b → w'.heap[b]? = w.heap[b]?) :
  xW F' β w' d (.row t k xs) :=
 ⟨h.wid, .inr ⟨b, vs, hd, hb, by rw [h.size]; exact Nat.le_refl _, fun i j cs u hc hu => by
  obtain ⟨x, hx, hr⟩ := h.rel i j cs u hc hu
  exact ⟨x, hx, hr.mono hF hw⟩⟩⟩
theorem RowR.lst {k : Nat} {xs : List (List AV)} {vs : Array Value} {t : Nat} (h : RowR (SVR F w) k xs vs) {b : Nat} {F' : Nat → Prop} (hb : w'.heap[b]? = some (.cells vs t (0, 0))) (hF : ∀ b, F b → F' b) (hw : ∀ b, F b → w'.heap[b]? = w.heap[b]?) (hb' : F' b) (hm : xs.length ≤ maxLen) :
  SVR F' w' (.lst k xs) (.slice (some ⟨b, 0, none⟩) xs.length xs.length) := by
 have get : ∀ i j, i < xs.length → j < k → ∃ x, vs[i * k + j]? = some x ∧ x.oneCell' = true := fun i j hi hj => by
  have hl : i * k + j < vs.size := by
   rw [h.size]
   have : (i + 1) * k ≤ xs.length * k := Nat.mul_le_mul_right k hi
   rw [Nat.add_mul] at this
   omega
  exact ⟨vs[i * k + j], Array.getElem?_eq_getElem hl, h.one _ _ (Array.getElem?_eq_getElem hl)⟩
 refine .lst (fun i j => (vs[i * k + j]?).getD undef) rfl (Nat.le_refl _) hm h.wid (fun _ => ⟨b, 0, rfl, hb', fun i j hi hj => ?_⟩) (fun i j hi hj => ?_) fun i j cs u hc hu => ?_
 ·obtain ⟨x, hx, _⟩ := get i j hi hj
  rw [Nat.zero_add, cell_of_row w' b _ vs t (0, 0) hb, hx]; rfl
 ·obtain ⟨x, hx, ho⟩ := get i j hi hj
  show ((vs[i * k + j]?).getD undef).oneCell' = true
  rw [hx]; exact ho
 ·obtain ⟨x, hx, hr⟩ := h.rel i j cs u hc hu
  show SVR F' w' u ((vs[i * k + j]?).getD undef)
  rw [hx]; exact hr.mono hF hw
def Vl (k : Nat) (xs : List (List AV)) : List (Nat × AV) → Option (Prop × List (List AV))
 | [] => some (True, xs)
 | (i, a) :: ps =>
  match a.cells1 with
  | some cs =>
   match Vl k (xs.set i cs) ps with
   | some (p, r) => some ((i < xs.length ∧ KU cs = true ∧ cs.length = k) ∧ p, r)
   | none => none
  | none => none
theorem RowR.fill {R : AV → Value → Prop} {k : Nat} {xs : List (List AV)} {vs : Array Value} (h : RowR R k xs vs) {v : Value} {ns : List AV} {i : Nat} (hi : i < xs.length) (hn : ns.length = k)
  (h1 : v.cells.size = ns.length) (h2 : ∀ (i : Nat) (u : Value), v.cells[i]? = some u → u.oneCell' = true) (h3 : ∀ (j : Nat) (u : AV), ns[j]? = some u → ∃ x, v.cells[j]? = some x ∧ R u x) :
  RowR R k (xs.set i ns) (v.cells.toList.zipIdx.foldl (fun cs (c, j) => cs.setIfInBounds (i * k + j) c) vs) := by
 have hl : v.cells.toList.length = k := by simpa [h1] using hn
 have hroom : i * k + k ≤ vs.size := by
  rw [h.size]
  have : (i + 1) * k ≤ xs.length * k := Nat.mul_le_mul_right k hi
  rw [Nat.add_mul] at this
  omega
 obtain ⟨g1, g2⟩ := X2 (i * k) v.cells.toList vs (by omega)
 rw [hl] at g2
 refine ⟨by rw [g1, h.size, List.length_set], fun cs hcs => ?_, fun q u hu => ?_, fun q j cs u hcs hu => ?_⟩
 ·rcases List.mem_or_eq_of_mem_set hcs with h' | rfl
  ·exact h.wid _ h'
  ·exact hn
 ·rw [g2 q] at hu
  split at hu
  ·exact h2 _ u (by simpa using hu)
  ·exact h.one q u hu
 ·rw [g2 (q * k + j)]
  by_cases hq : q = i
  ·subst hq
   rw [List.getElem?_set_self hi] at hcs
   injection hcs with hcs
   subst hcs
   have hj := zE hu
   obtain ⟨x, hx, hr⟩ := h3 j u hu
   rw [if_pos (by omega), show q * k + j - q * k = j by omega]
   exact ⟨x, by simpa using hx, hr⟩
  ·rw [List.getElem?_set_ne (Ne.symm hq)] at hcs
   have hj : j < k := by rw [← h.wid cs (List.mem_of_getElem? hcs)]; exact zE hu
   rw [if_neg (by
    rcases Nat.lt_or_gt_of_ne hq with h' | h'
    ·have : (q + 1) * k ≤ i * k := Nat.mul_le_mul_right k h'
     rw [Nat.add_mul] at this
     omega
    ·have : (i + 1) * k ≤ q * k := Nat.mul_le_mul_right k h'
     rw [Nat.add_mul] at this
     omega)]
   exact h.rel q j cs u hcs hu
theorem KY {k : Nat} : ∀ (ps : List (Nat × AV)) (qs : List (Nat × Value)) {xs r : List (List AV)} {vs : Array Value} {p : Prop},
  RowR (SVR F w) k xs vs → Vl k xs ps = some (p, r) → p → ps.length = qs.length → (∀ (i : Nat) (q : Nat × AV) (z : Nat × Value), ps[i]? = some q → qs[i]? = some z → z.1 = q.1 ∧ AVR F β w q.2 z.2) →
  ∃ vs', Instr.fill (fun i => some (i * k, k)) vs qs = some vs' ∧ RowR (SVR F w) k r vs' ∧ r.length = xs.length := by
 intro ps
 induction ps with
 | nil =>
  intro qs xs r vs p hc hf _ hl _
  cases qs with
  | nil => simp only [Vl, Option.some.injEq, Prod.mk.injEq] at hf; obtain ⟨_, rfl⟩ := hf; exact ⟨vs, rfl, hc, rfl⟩
  | cons => simp at hl
 | cons q ps ih =>
  intro qs xs r vs p hc hf hp hl hall
  cases qs with
  | nil => simp at hl
  | cons z qs =>
   obtain ⟨i, a⟩ := q
   obtain ⟨zi, zv⟩ := z
   simp only [Vl] at hf
   split at hf
   case h_2 => cases hf
   rename_i ns hns
   split at hf
   case h_2 => cases hf
   rename_i p' r' hf'
   simp only [Option.some.injEq, Prod.mk.injEq] at hf
   obtain ⟨rfl, rfl⟩ := hf
   obtain ⟨⟨hi, hS, hk⟩, hp'⟩ := hp
   obtain ⟨hpl, hr⟩ := hall 0 _ _ rfl rfl
   dsimp only at hpl hr
   subst hpl
   obtain ⟨c1, c2, c3⟩ := uw hr hns
   have hstep := hc.fill hi hk c1 c2 (fun j u hu => by
    obtain ⟨x, hx, h⟩ := c3 j u hu
    exact ⟨x, hx, h.sealed (Zb hS u (List.mem_of_getElem? hu))⟩)
   obtain ⟨vs', h1, h2, h3⟩ := ih qs hstep hf' hp' (by simpa using hl) (fun i q z h1 h2 => hall (i + 1) q z (by simpa using h1) (by simpa using h2))
   refine ⟨vs', ?_, h2, by rw [h3, List.length_set]⟩
   have hle : zi * k + zv.cells.size ≤ vs.size := by
    rw [c1, hk, hc.size]
    have : (zi + 1) * k ≤ xs.length * k := Nat.mul_le_mul_right k hi
    rw [Nat.add_mul] at this
    omega
   simp only [Instr.fill]
   rw [if_neg (by
    simp only [Bool.or_eq_true, decide_eq_true_eq, not_or]
    exact ⟨by simp [c1, hk], by show ¬ (vs.size < zi * k + zv.cells.size); omega⟩), ← h1]
   congr 1
   rw [← Array.foldl_toList, Array.toList_zipIdx]
theorem Yc (hT : TOK P T) {e : Nat} {d : TyD} (he : T e = some d) (n : Nat) : RowR (SVR F w) d.size (List.replicate n (d.zero.map AV.v)) ((Array.range (n * d.size)).map (d.zero.toArray[· % d.zero.toArray.size]!)) := by
 obtain ⟨_, hl, hf, _⟩ := hT e d he
 have hfc := qb (F := F) (w := w) hf
 have hidx : ∀ q, q < n * d.size → ∃ z, d.zero[q % d.size]? = some z ∧ d.zero.toArray[q % d.zero.toArray.size]! = z := fun q hq => by
  have hk : 0 < d.size := by
   rcases Nat.eq_zero_or_pos d.size with h | h
   ·rw [h] at hq; omega
   ·exact h
  have hlt : q % d.size < d.zero.length := by rw [hl]; exact Nat.mod_lt _ hk
  refine ⟨d.zero[q % d.size], List.getElem?_eq_getElem hlt, ?_⟩
  simp only [List.size_toArray, hl]
  rw [getElem!_def, List.getElem?_toArray, List.getElem?_eq_getElem hlt]
 refine ⟨by simp, fun cs hcs => ?_, fun i u hu => ?_, fun i j cs u hcs hu => ?_⟩
 ·rw [List.eq_of_mem_replicate hcs]; simp [hl]
 ·rw [Array.getElem?_map] at hu
  cases hq : (Array.range (n * d.size))[i]? with
  | none => rw [hq] at hu; cases hu
  | some q =>
   rw [hq] at hu
   injection hu with hu
   have hqn : q < n * d.size := by have := Array.mem_of_getElem? hq; simpa using this
   obtain ⟨z, hz, he'⟩ := hidx q hqn
   rw [← hu]
   show (d.zero.toArray[q % d.zero.toArray.size]!).oneCell' = true
   rw [he']
   exact w9 (hf z (List.mem_of_getElem? hz))
 ·have hi := zE hcs
  rw [List.length_replicate] at hi
  have hcs' := List.eq_of_mem_replicate (List.mem_of_getElem? hcs)
  subst hcs'
  have hj := zE hu
  rw [List.length_map, hl] at hj
  have hlt : i * d.size + j < n * d.size := by
   have : (i + 1) * d.size ≤ n * d.size := Nat.mul_le_mul_right _ hi
   rw [Nat.add_mul] at this
   omega
  obtain ⟨z, hz, he'⟩ := hidx _ hlt
  rw [J7 hj] at hz
  obtain ⟨x, hx, hr⟩ := hfc.2 j u hu
  rw [List.getElem?_toArray, hz] at hx
  injection hx with hx
  subst hx
  refine ⟨z, ?_, hr⟩
  rw [Array.getElem?_map, Array.getElem?_eq_getElem (by simpa using hlt)]
  simp only [Array.getElem_range, Option.map_some]
  rw [he']
def Xh (T : Nat → Option TyD) (t len : Nat) (f : Operand → AV) (ps : List (Nat × Operand)) : Option (Prop × Nat × Nat × List (List AV)) :=
 match T t with
 | some ⟨_, _, _, .slice e⟩ =>
  match T e with
  | some d =>
   match Vl d.size (List.replicate len (d.zero.map AV.v)) (ps.map fun p => (p.1, f p.2)) with
   | some (p, xs) => some (len * d.size ≤ 16777216 ∧ len ≤ 16777216 ∧ p, e, d.size, xs)
   | none => none
  | none => none
 | _ => none
theorem Yd (hT : TOK P T) {t len : Nat} {f : Operand → AV} {g : Operand → Value} {ps : Array (Nat × Operand)} {p : Prop} {e k : Nat} {xs : List (List AV)} (h : Xh T t len f ps.toList = some (p, e, k, xs)) (hp : p)
  (hfg : ∀ z ∈ ps.toList, AVR F β w (f z.2) (g z.2)) :
  ∃ vs, RowR (SVR F w) k xs vs ∧ xs.length = len ∧ len ≤ 16777216 ∧ (Instr.buildSlice t len (ps.map fun (i, x) => (i, g x))).run P w = .ok (.slice (some ⟨w.heap.size, 0, none⟩) len len) (w.alloc (.cells vs e)) := by
 unfold Xh at h
 split at h
 case h_2 => cases h
 rename_i e' hd
 split at h
 case h_2 => cases h
 rename_i d he
 split at h
 case h_2 => cases h
 rename_i q xs' hx
 simp only [Option.some.injEq, Prod.mk.injEq] at h
 obtain ⟨rfl, rfl, rfl, rfl⟩ := h
 obtain ⟨hsz, hlen, hq⟩ := hp
 have hu := yR hT hd rfl
 obtain ⟨vs', h1, h2, h3⟩ := KY (β := β) _ (ps.map fun (i, x) => (i, g x)).toList (Yc (F := F) (w := w) hT he len) hx hq (by simp) (fun i q z hq hz => by
  rw [List.getElem?_map] at hq
  rw [Array.toList_map, List.getElem?_map] at hz
  cases hps : ps.toList[i]? with
  | none => rw [hps] at hq; cases hq
  | some p' =>
   rw [hps] at hq hz
   injection hq with hq
   injection hz with hz
   subst hq
   subst hz
   exact ⟨rfl, hfg p' (List.mem_of_getElem? hps)⟩)
 refine ⟨vs', h2, by rw [h3, List.length_replicate], hlen, ?_⟩
 obtain ⟨z, hz1, hz2⟩ := Ul hT he w
 have h24 : ¬ (16777216 < len * d.size) := by omega
 by_cases h0 : len * d.size = 0
 ·rw [h0, Array.range_zero', Array.map_empty] at h1
  simp only [Instr.buildSlice, Sem.run_bind, run_underlying hu, Result.andThen_ok, xq hT he, Nat.reducePow, gt_iff_lt, if_false, Sem.run_pure, h0, if_true, Array.range_zero', Array.map_empty, h1, newRow, run_newObj, Nat.not_lt_zero]
  rfl
 ·simp only [Instr.buildSlice, Sem.run_bind, run_underlying hu, Result.andThen_ok, xq hT he, Nat.reducePow, gt_iff_lt, h24, if_false, Sem.run_pure, h0, hz1, hz2, h1, newRow, run_newObj]
  rfl
theorem Vm (hT : TOK P T) (hs : SRel E s tm w β) {t len : Nat} {f : Operand → AV} {g : Operand → Value} {ps : Array (Nat × Operand)} {p : Prop} {e k : Nat} {xs : List (List AV)} (h : Xh T t len f ps.toList = some (p, e, k, xs)) (hp : p)
  (hfg : ∀ z ∈ ps.toList, AVR (FF E β w) β w (f z.2) (g z.2)) :
  ∃ v w', (Instr.buildSlice t len (ps.map fun (i, x) => (i, g x))).run P w = .ok v w' ∧ SRel E s tm w' β ∧ AVR (FF E β w') β w' (.lst k xs) v ∧ Below w.heap.size w w' := by
 obtain ⟨vs, h1, rfl, h3, h4⟩ := Yd hT h hp hfg
 have hb : Below w.heap.size w (w.alloc (.cells vs e)) := (Below.refl _ _).alloc (Nat.le_refl _) _
 refine ⟨_, _, h4, hs.ext hb, .s (h1.lst (heap_alloc_new w _) (fun b hb' => ⟨by have := hb'.1; simp; omega, hb'.2⟩) (fun b hb' => hb.block b hb'.1) ⟨by simp, .inr (.inl hs.old.size), fun d hd => by have := (hs.rng d _ hd).2; omega⟩ (by simp only [maxLen]; omega)), hb⟩
def AState.row (d t k : Nat) (xs : List (List AV)) (s : AState) : AState := { fr := (s.drop d).fr, ob := (d, .row t k xs) :: (s.drop d).ob }
theorem SRel.newRow (hs : SRel E s tm w β) (d t : Nat) (hdo : YZ d) {k : Nat} {xs : List (List AV)} {vs : Array Value} (h : RowR (SVR (FF E β w) w) k xs vs) :
  SRel E (s.row d t k xs) tm (w.alloc (.cells vs t)) (upd β d (some w.heap.size)) :=
 (hs.new d hdo _).add d _ (h.obj (ya _ _ _) (heap_alloc_new w _) (fun _ hb => Z8 hb) (fun b hb => Below.heap_alloc w _ b hb.1))
theorem za2 (hT : TOK P T) (hs : SRel E s tm w β) (d : Nat) (hdo : YZ d) {t len : Nat} {f : Operand → AV} {g : Operand → Value} {ps : Array (Nat × Operand)} {p : Prop} {e k : Nat} {xs : List (List AV)} (h : Xh T t len f ps.toList = some (p, e, k, xs)) (hp : p)
  (hfg : ∀ z ∈ ps.toList, AVR (FF E β w) β w (f z.2) (g z.2)) :
  ∃ v w' β', (Instr.buildSlice t len (ps.map fun (i, x) => (i, g x))).run P w = .ok v w' ∧ SRel E (s.row d e k xs) tm w' β' ∧ AVR (FF E β' w') β' w' (.ref e k d 0 len) v ∧ Below w.heap.size w w' ∧ (∀ e b, b < w.heap.size → β' e = some b → β e = some b) := by
 obtain ⟨vs, h1, rfl, h3, h4⟩ := Yd hT h hp hfg
 refine ⟨_, _, upd β d (some w.heap.size), h4, hs.newRow d e hdo h1, .ref (ya _ _ _) (Nat.le_refl _) (by simp only [maxLen]; omega) (by rw [Nat.zero_mul]) ⟨vs, heap_alloc_new w _, by rw [Nat.zero_add]; exact h1.size⟩, (Below.refl _ _).alloc (Nat.le_refl _) _, fun e b hb he => v6 he hb⟩
def X3 (T : Nat → Option TyD) (s : AState) (t dst : Nat) (l c : AV) : Option (Prop × AState × AV) :=
 match T t, l, c with
 | some ⟨_, _, _, .slice e⟩, .v (.int _ n), .v (.int _ m) =>
  match T e with
  | some d => some (YZ dst ∧ 0 ≤ n ∧ n ≤ m ∧ (d.bytes : Int) * m ≤ 281474976710656 ∧ m ≤ 9223372036854775807, s.row dst e d.size (List.replicate n.toNat (d.zero.map AV.v)), .ref e d.size dst 0 n.toNat)
  | none => none
 | _, _, _ => none
theorem Ux (hT : TOK P T) (hs : SRel E s tm w β) {t dst : Nat} {l c r : AV} {p : Prop} {s' : AState} (h : X3 T s t dst l c = some (p, s', r)) (hp : p) {x y : Value}
  (hx : AVR (FF E β w) β w l x) (hy : AVR (FF E β w) β w c y) :
  ∃ v w' β', (Instr.makeSlice t x y).run P w = .ok v w' ∧ SRel E s' tm w' β' ∧ AVR (FF E β' w') β' w' r v ∧ Below w.heap.size w w' ∧ (∀ e b, b < w.heap.size → β' e = some b → β e = some b) := by
 unfold X3 at h
 split at h
 case h_2 => cases h
 rename_i e kn n km m hd
 split at h
 case h_2 => cases h
 rename_i d he
 simp only [Option.some.injEq, Prod.mk.injEq] at h
 obtain ⟨rfl, rfl, rfl⟩ := h
 obtain ⟨hdo, h0, h1, h2, h3⟩ := hp
 have hu := yR hT hd rfl
 obtain ⟨⟨i, z, hi, hsz, hby, hz, hzc⟩, hzl, _, _⟩ := hT e d he
 cases hx with | s hx => cases hx with | v hx =>
 cases hy with | s hy => cases hy with | v hy =>
 have hrun := run_make (P := P) w t e i z hu hi hz kn km n m h0 h1 (by rw [hby]; exact h2) h3
 have hrow := Yc (F := FF E β w) (w := w) hT he m.toNat
 have hmc : madeCells z.cells (m.toNat * i.size) = (Array.range (m.toNat * d.size)).map (d.zero.toArray[· % d.zero.toArray.size]!) := by rw [madeCells, hzc, hsz]
 rw [hmc] at hrun
 refine ⟨_, _, upd β dst (some w.heap.size), hrun, ?_, .ref (ya _ _ _) (by omega) (by simp only [maxLen]; omega) (by rw [Nat.zero_mul]) ⟨_, heap_alloc_new w _, by rw [Nat.zero_add]; simp⟩, (Below.refl _ _).alloc (Nat.le_refl _) _, fun e b hb he => v6 he hb⟩
 refine (hs.new dst hdo _).add dst _ ⟨fun cs hcs => ?_, .inr ⟨_, _, ya _ _ _, heap_alloc_new w _, ?_, fun i' j cs u hcs hu' => ?_⟩⟩
 ·rw [List.eq_of_mem_replicate hcs]; simp [hzl]
 ·rw [List.length_replicate, hrow.size, List.length_replicate]; exact Nat.mul_le_mul_right _ (by omega)
 ·have hi' := zE hcs
  rw [List.length_replicate] at hi'
  obtain ⟨x, hx, hr⟩ := hrow.rel i' j cs u (by rw [List.getElem?_replicate, if_pos (by omega), ← List.eq_of_mem_replicate (List.mem_of_getElem? hcs)]) hu'
  exact ⟨x, hx, hr.mono (fun _ hb => Z8 hb) (fun b hb => Below.heap_alloc w _ b hb.1)⟩
def Uy (c : Bool) : AObj := bif c then .mapr 0 [] else .mapo []
theorem Vn (hs : SRel E s tm w β) (d t : Nat) (hdo : YZ d) (c : Bool) :
  ∃ v w' β', (Instr.makeMap t none).run P w = .ok v w' ∧ SRel E { fr := (s.drop d).fr, ob := (d, Uy c) :: (s.drop d).ob } tm w' β' ∧ AVR (FF E β' w') β' w' (.map d) v ∧ Below w.heap.size w w' ∧ (∀ e b, b < w.heap.size → β' e = some b → β e = some b) := by
 refine ⟨_, w.alloc (.map #[] 0), upd β d (some w.heap.size), by simp [Instr.makeMap], (hs.new d hdo _).add d _ ?_, .map (ya _ _ _), (Below.refl _ _).alloc (Nat.le_refl _) _, fun e b hb he => v6 he hb⟩
 cases c with
 | false => exact ⟨_, #[], 0, ya _ _ _, heap_alloc_new w _, rfl, fun i e m h => by simp at h⟩
 | true => exact ⟨_, #[], ya _ _ _, heap_alloc_new w _, rfl, fun i e m h => by simp at h⟩
def jm : AV → Value → Bool
 | .v (.int _ a), .int _ b => decide (b = a)
 | .v (.string a), .string b => decide (b = a)
 | _, _ => false
def J8 (k : Value) (v : AV) : List (AV × AV) → List (AV × AV)
 | [] => [(.v k, v)]
 | (k', v') :: es => bif jm k' k then (.v k, v) :: es else (k', v') :: J8 k v es
def Ze : Sh → AV → Bool
 | .int k, .v (.int k' _) => decide (k = k')
 | .str, .v (.string _) => true
 | _, _ => false
def KZ (T : Nat → Option TyD) (s : AState) (t : Nat) (m k x : AV) : Option (Prop × AState) :=
 match T t, m, k with
 | some ⟨_, _, _, .map kt _⟩, .map o, .v kv =>
  match T kt, lk s.ob o with
  | some d, some (.mapo es) => some (Ze d.sh (.v kv) = true ∧ (∀ e ∈ es, Ze d.sh e.1 = true) ∧ KU [x] = true, { fr := s.fr, ob := (o, .mapo (J8 kv x es)) :: rmo o s.ob })
  | _, _ => none
 | _, _, _ => none
theorem kq (hT : TOK P T) {kt : Nat} {d : TyD} (h : T kt = some d) {a : AV} (ha : Ze d.sh a = true) :
  (∃ k n, P.underlying kt = some (.int k) ∧ d.sh = .int k ∧ a = .v (.int k n)) ∨ ∃ x, P.underlying kt = some .string ∧ d.sh = .str ∧ a = .v (.string x) := by
 unfold Ze at ha
 split at ha
 ·rename_i k k' n hsh
  simp only [decide_eq_true_eq] at ha
  subst ha
  exact .inl ⟨k, n, ji hT h hsh, hsh, rfl⟩
 ·rename_i x hsh
  exact .inr ⟨x, Z5 hT h hsh, hsh, rfl⟩
 ·cases ha
theorem K0 {kd : TypeDesc} {kv : Value} {sh : Sh} (hsame : ∀ a x, Ze sh a = true → SVR F w a x → Instr.sameNow kd kv x = some (jm a kv)) :
  ∀ (es : List (AV × AV)) (ms : List MapEntry) (i : Nat), es.length = ms.length → (∀ e ∈ es, Ze sh e.1 = true) → (∀ (i : Nat) (e : AV × AV) (m : MapEntry), es[i]? = some e → ms[i]? = some m → SVR F w e.1 m.key ∧ SVR F w e.2 m.val) →
  (∃ q e m, es[q]? = some e ∧ ms[q]? = some m ∧ jm e.1 kv = true ∧ (∀ x, J8 kv x es = es.set q (.v kv, x)) ∧ Instr.findNow kd kv ms i = some (some (i + q, m.val))) ∨
  (∀ x, J8 kv x es = es ++ [(.v kv, x)]) ∧ Instr.findNow kd kv ms i = some none := by
 intro es
 induction es with
 | nil =>
  intro ms i hl _ _
  cases ms with
  | nil => exact .inr ⟨fun x => rfl, rfl⟩
  | cons => simp at hl
 | cons e es ih =>
  intro ms i hl hk hr
  cases ms with
  | nil => simp at hl
  | cons m ms =>
   obtain ⟨ke, ve⟩ := e
   have h0 := hr 0 _ _ rfl rfl
   have hs0 := hsame ke m.key (hk (ke, ve) (by simp)) h0.1
   cases hke : jm ke kv with
   | true =>
    rw [hke] at hs0
    exact .inl ⟨0, _, _, rfl, rfl, hke, fun x => by simp [J8, hke], by simp [Instr.findNow, hs0]⟩
   | false =>
    rw [hke] at hs0
    rcases ih ms (i + 1) (by simpa using hl) (fun e he => hk e (by simp [he])) (fun i e m h1 h2 => hr (i + 1) e m (by simpa using h1) (by simpa using h2)) with ⟨q, e, m', h1, h2, h3, h4, h5⟩ | ⟨h4, h5⟩
    ·exact .inl ⟨q + 1, e, m', by simpa using h1, by simpa using h2, h3, fun x => by simp [J8, hke, h4 x], by simp [Instr.findNow, hs0, h5]; omega⟩
    ·exact .inr ⟨fun x => by simp [J8, hke, h4 x], by simp [Instr.findNow, hs0, h5]⟩
theorem K2 (hT : TOK P T) (hs : SRel E s tm w β) {t : Nat} {m k x : AV} {p : Prop} {s' : AState} (h : KZ T s t m k x = some (p, s')) (hp : p) {mv kv' xv : Value}
  (hm : AVR (FF E β w) β w m mv) (hk : AVR (FF E β w) β w k kv') (hx : AVR (FF E β w) β w x xv) :
  ∃ w', (Instr.mapUpdate t mv kv' xv).run P w = .ok () w' ∧ SRel E s' tm w' β ∧ ∃ o, m = .map o ∧ xz (fun b => β o = some b) w w' := by
 unfold KZ at h
 split at h
 case h_2 => cases h
 rename_i kt et o kv hd
 split at h
 case h_2 => cases h
 rename_i d es hkt hob
 simp only [Option.some.injEq, Prod.mk.injEq] at h
 obtain ⟨rfl, rfl⟩ := h
 obtain ⟨hkey, hkeys, hS⟩ := hp
 have hu := kl hT hd rfl
 have hkv : kv' = kv ∧ uO kv = true := by cases hk with | s hk => cases hk with | v hf => exact ⟨rfl, hf⟩
 obtain ⟨e1, hflat⟩ := hkv
 clear hk
 rw [e1]
 clear e1 kv'
 cases hm with
 | s h => cases h
 | @map _ b hb =>
  obtain ⟨b', arr, clk, hb', harr, hsz, hrel⟩ := hs.ob o _ hob
  rw [hb] at hb'
  injection hb' with hb'
  subst hb'
  have hxs : SVR (FF E β w) w x xv := hx.sealed (Zb hS x (by simp))
  obtain ⟨kd, hkd, hisk, hsame, hbits⟩ : ∃ kd, P.underlying kt = some kd ∧ IsKey kd kv ∧ (∀ a x, Ze d.sh a = true → SVR (FF E β w) w a x → Instr.sameNow kd kv x = some (jm a kv)) ∧
    (∀ a x, Ze d.sh a = true → SVR (FF E β w) w a x → jm a kv = true → x = kv) := by
   rcases kq hT hkt hkey with ⟨ik, n, h1, h2, h3⟩ | ⟨str, h1, h2, h3⟩
   ·injection h3 with h3
    subst h3
    refine ⟨_, h1, rfl, fun a x ha hax => ?_, fun a x ha hax he => ?_⟩
    ·rcases kq hT hkt ha with ⟨ik', n', g1, g2, rfl⟩ | ⟨_, _, g2, _⟩
     ·rw [h2] at g2
      injection g2 with g2
      subst g2
      cases hax
      simp [Instr.sameNow, jm, ko]
     ·rw [h2] at g2; cases g2
    ·rcases kq hT hkt ha with ⟨ik', n', g1, g2, rfl⟩ | ⟨_, _, g2, _⟩
     ·rw [h2] at g2
      injection g2 with g2
      subst g2
      cases hax
      simp only [jm, decide_eq_true_eq] at he
      rw [he]
     ·rw [h2] at g2; cases g2
   ·injection h3 with h3
    subst h3
    refine ⟨_, h1, trivial, fun a x ha hax => ?_, fun a x ha hax he => ?_⟩
    ·rcases kq hT hkt ha with ⟨_, _, _, g2, _⟩ | ⟨x', g1, g2, rfl⟩
     ·rw [h2] at g2; cases g2
     ·cases hax
      simp only [Instr.sameNow, jm]
      rw [beq_toListBytes, Um]
    ·rcases kq hT hkt ha with ⟨_, _, _, g2, _⟩ | ⟨x', g1, g2, rfl⟩
     ·rw [h2] at g2; cases g2
     ·cases hax
      simp only [jm, decide_eq_true_eq] at he
      rw [he]
  have hcheck := run_checkKey (P := P) (w := w) hkd hisk false 9999
  have hget := yu (P := P) harr (fun _ _ _ h => by cases h)
  have hset : ∀ o' : Obj, (∀ c t f, o' ≠ .cells c t f) → (setObj b o').run P w = .ok () { w with heap := w.heap.setIfInBounds b o' } := fun o' _ => by
   simp [setObj, Sem.run, harr]
  have hlt : b < w.heap.size := (hs.rng o b hb).2
  have fin : ∀ (arr' : Array MapEntry) (clk' : Nat) (es' : List (AV × AV)), arr'.size = es'.length →
    (∀ (i : Nat) (e : AV × AV) (m : MapEntry), es'[i]? = some e → arr'[i]? = some m → SVR (FF E β w) w e.1 m.key ∧ SVR (FF E β w) w e.2 m.val) →
    SRel E { fr := s.fr, ob := (o, .mapo es') :: rmo o s.ob } tm { w with heap := w.heap.setIfInBounds b (.map arr' clk') } β ∧ ∃ o', AV.map o = .map o' ∧ xz (fun b => β o' = some b) w { w with heap := w.heap.setIfInBounds b (.map arr' clk') } := fun arr' clk' es' h1 h2 => by
   have hnew : ({ w with heap := w.heap.setIfInBounds b (.map arr' clk') } : World).heap[b]? = some (.map arr' clk') := by simp [hlt]
   have hoth : ∀ c, c ≠ b → ({ w with heap := w.heap.setIfInBounds b (.map arr' clk') } : World).heap[c]? = w.heap[c]? := fun c hc => Array.getElem?_setIfInBounds_ne (fun h => hc h.symm)
   have hK : Keeps (fun c => β o = some c) w { w with heap := w.heap.setIfInBounds b (.map arr' clk') } := ⟨rfl, rfl, rfl, by simp, fun c _ hc => hoth c fun h => hc (by rw [h]; exact hb)⟩
   have hS := hs.content o hK (fun c te n hc' ⟨a', e1, _⟩ => by rw [hb] at hc'; injection hc' with hc'; subst hc'; rw [harr] at e1; cases e1)
   have hF : ∀ c, FF E β w c → FF E β { w with heap := w.heap.setIfInBounds b (.map arr' clk') } c := fun c ⟨h1, h2, h3⟩ => ⟨by simpa using h1, h2, h3⟩
   have hFw : ∀ c, FF E β w c → ({ w with heap := w.heap.setIfInBounds b (.map arr' clk') } : World).heap[c]? = w.heap[c]? := fun c hc => hK.block c hc.1 (hc.2.2 o)
   exact ⟨hS.add o _ ⟨b, arr', clk', hb, hnew, h1, fun i e m he hm => ⟨(h2 i e m he hm).1.mono hF hFw, (h2 i e m he hm).2.mono hF hFw⟩⟩, o, rfl, ⟨hK.size, fun c hc hn => hK.block c hc hn⟩⟩
  rcases K0 (F := FF E β w) (w := w) hsame es arr.toList 0 (by simpa using hsz.symm) hkeys (fun i e m h1 h2 => hrel i e m h1 (by simpa using h2)) with ⟨q, e, me, h1, h2, h3, h4, h5⟩ | ⟨h4, h5⟩
  ·have hq2 : arr[q]? = some me := by simpa using h2
   have hqs : q < arr.size := (Array.getElem?_eq_some_iff.1 hq2).1
   have hkme := hrel q e me h1 hq2
   have hbits' := hbits e.1 me.key (hkeys e (List.mem_of_getElem? h1)) hkme.1 h3
   refine ⟨_, ?_, fin (arr.modify q fun e => { e with key := kv, val := xv }) clk _ (by simp [h4, hsz]) (fun i e' m' he hm' => ?_)⟩
   ·simp only [Instr.mapUpdate, Sem.run_bind, run_underlying hu, Result.andThen_ok, hget, hcheck, run_findKey hkd h5, Nat.zero_add, hq2, Option.map_some, Option.getD_some, hbits', run_keyThatStays hisk]
    exact hset _ (fun _ _ _ h => by cases h)
   ·rw [h4, List.getElem?_set] at he
    rw [Array.getElem?_modify] at hm'
    by_cases hiq : q = i
    ·subst hiq
     rw [if_pos rfl, if_pos (by omega)] at he
     rw [if_pos rfl, hq2] at hm'
     injection he with he
     injection hm' with hm'
     subst he
     subst hm'
     exact ⟨.v hflat, hxs⟩
    ·rw [if_neg hiq] at he
     rw [if_neg hiq] at hm'
     exact hrel i e' m' he hm'
  ·refine ⟨_, ?_, fin (arr.push { key := kv, val := xv, born := clk }) (clk + 1) _ (by simp [h4, hsz]) (fun i e' m' he hm' => ?_)⟩
   ·simp only [Instr.mapUpdate, Sem.run_bind, run_underlying hu, Result.andThen_ok, hget, hcheck, run_findKey hkd h5]
    exact hset _ (fun _ _ _ h => by cases h)
   ·rw [h4] at he
    rw [Array.getElem?_push] at hm'
    by_cases hi : i < es.length
    ·rw [List.getElem?_append_left hi] at he
     rw [if_neg (by omega)] at hm'
     exact hrel i e' m' he hm'
    ·rw [List.getElem?_append_right (by omega)] at he
     have hie : i = es.length := by have := zE he; simp at this; omega
     subst hie
     rw [Nat.sub_self] at he
     rw [if_pos hsz.symm] at hm'
     injection hm' with hm'
     simp only [List.getElem?_cons_zero, Option.some.injEq] at he
     subst he
     subst hm'
     exact ⟨.v hflat, hxs⟩
end
end
section
open Go.RowKit
def eqV : Sh → Value → Value → Option Bool
  | .int _, .int k a, .int k' b => if k = k' then some (decide (a = b)) else none
  | .bool, .bool a, .bool b => some (a == b)
  | .str, .string a, .string b => some (decide (a = b))
  | _, _, _ => none
def eqL (T : Nat → Option TyD) : Nat → List (Nat × Nat) → List AV → List AV → Option Bool
  | _, [], [], [] => some true
  | i, (off, ft) :: fs, .v a :: as', .v b :: bs =>
    bif off == i then
      match T ft with
      | some d =>
        match eqV d.sh a b, eqL T (i + 1) fs as' bs with
        | some e, some r => some (e && r)
        | _, _ => none
      | none => none
    else none
  | _, _, _, _ => none
def eqA (T : Nat → Option TyD) (o : BinOp) (t : Nat) (xs ys : List AV) : Option (Prop × AV) :=
  match T t with
  | some ⟨_, _, _, .strct fs true⟩ =>
    match o, eqL T 0 fs xs ys with
    | .eql, some e => some (True, .v (.bool e))
    | .neq, some e => some (True, .v (.bool !e))
    | _, _ => none
  | _ => none
def zb5 (T : Nat → Option TyD) (o : BinOp) (t : Nat) : Option (Prop × AV) :=
  match T t, o with
  | some ⟨_, _, _, .ptr _⟩, .eql => some (True, .v (.bool false))
  | some ⟨_, _, _, .ptr _⟩, .neq => some (True, .v (.bool true))
  | _, _ => none
theorem V9 {P : Program} {T : Nat → Option TyD} (hT : TOK P T) {o : BinOp} {t : Nat} {r : AV} {p : Prop} (h : zb5 T o t = some (p, r)) (a : Addr) {F : Nat → Prop} {β : Nat → Option Nat} {w : World} (X Y : Operand) :
    ∃ z, AVR F β w r z ∧ ∀ w', (do eqGuard o t X Y (.pointer (some a)) (.pointer none); binOp o t (.pointer (some a)) (.pointer none) : Sem Value).run P w' = .ok z w' := by
  unfold zb5 at h
  split at h
  · rename_i e hd
    simp only [Option.some.injEq, Prod.mk.injEq] at h
    obtain ⟨_, rfl⟩ := h
    have hu := KO hT hd rfl
    exact ⟨.bool false, .s (.v rfl), fun w' => by simp [eqGuard, run_eql_pointer_nil w' t (some a) (by rw [Program.pointee, hu])]⟩
  · rename_i e hd
    simp only [Option.some.injEq, Prod.mk.injEq] at h
    obtain ⟨_, rfl⟩ := h
    have hu := KO hT hd rfl
    exact ⟨.bool true, .s (.v rfl), fun w' => by simp [eqGuard, run_neq_pointer_nil w' t (some a) (by rw [Program.pointee, hu])]⟩
  · cases h
def zc8 (T : Nat → Option TyD) (o : BinOp) (t : Nat) (x y : AV) : Option (Prop × AV) :=
  match x, y with
  | .v a, .v b =>
    match KP o a b with
    | some (p, r) => some (p, .v r)
    | none =>
      match T t with
      | some ⟨_, _, _, .bool⟩ =>
        match Un o a b with
        | some r => some (True, .v r)
        | none => none
      | some ⟨_, _, _, .ptr _⟩ =>
        match o, a, b with
        | .eql, .pointer none, .pointer none => some (True, .v (.bool true))
        | .neq, .pointer none, .pointer none => some (True, .v (.bool false))
        | _, _, _ => none
      | _ => none
  | .agg xs, .agg ys => eqA T o t xs ys
  | .ptr _ _ _ _, .v (.pointer none) => zb5 T o t
  | .elt _ _ _ _, .v (.pointer none) => zb5 T o t
  | _, _ => none
def mmA (b : Builtin) (x y : AV) : Option (Prop × AV) :=
  match b, x, y with
  | .min, .v (.int k a), .v (.int _ c) => some (True, .v (.int k (min a c)))
  | .max, .v (.int k a), .v (.int _ c) => some (True, .v (.int k (max a c)))
  | _, _, _ => none
def zdb : AV → Option (Prop × AV)
  | .ptr k d i j => some (True, .ptr k d i j)
  | .elt k xs i j => some (True, .elt k xs i j)
  | _ => none
def qR (T : Nat → Option TyD) (s : AState) : Call → Option (Prop × AV)
  | ⟨.builtin .len, ⟨[x]⟩, ⟨[t]⟩⟩ => KR T s t (s.ev x)
  | ⟨.builtin .min, ⟨[x, y]⟩, _⟩ => mmA .min (s.ev x) (s.ev y)
  | ⟨.builtin .max, ⟨[x, y]⟩, _⟩ => mmA .max (s.ev x) (s.ev y)
  | _ => none
def qq (T : Nat → Option TyD) (s : AState) : Op → Option (Prop × AV)
  | .move x => some (True, s.ev x)
  | .assign x => some (True, s.ev x)
  | .binOp o t x y _ => zc8 T o t (s.ev x) (s.ev y)
  | .unOp o _ x =>
    match s.ev x with
    | .v a =>
      match unV o a with
      | some r => some (True, .v r)
      | none => none
    | _ => none
  | .convert a b x => XZ T a b (s.ev x)
  | .load t x => vV T s t (s.ev x)
  | .fieldAddr t x f => wL T t f (s.ev x)
  | .field t x f => j9 T t f (s.ev x)
  | .indexAddr t x i => wM T t (s.ev x) (s.ev i)
  | .index t x i => Za T t (s.ev x) (s.ev i)
  | .extract x i => uv (s.ev x) i
  | .slice t x lo hi none => j7 T t (s.ev x) (lo.map s.ev) (hi.map s.ev)
  | .build t ps => Zd T t s.ev ps.toList
  | .nilCheck x => zdb (s.ev x)
  | .call c => qR T s c
  | .makeInterface t x =>
    match T t with
    | some d => bif d.sh.isIface then none else some (True, .ifc t (s.ev x))
    | none => none
  | .makeFunc (.func f) fs cs => bif fs.toList.isEmpty then some (f < 1000000, .fn f (cs.toList.map s.ev)) else bif cs.toList.isEmpty then some (True, .fn (f + 1000000) (fs.toList.map s.ev)) else none
  | .typeAssert x _ t false =>
    match T t, s.ev x with
    | some d, .ifc t' a => bif d.sh.isIface then none else some (t = t', a)
    | _, _ => none
  | _ => none
section
variable {P : Program} {T : Nat → Option TyD} {E : Env} {s : AState} {tm : Array Value} {w w' : World} {β β' : Nat → Option Nat} {F : Nat → Prop} {X : Nat → Prop}
theorem Ua (hT : TOK P T) {t : Nat} {d : TyD} (h : T t = some d) {a b : Value} {e : Bool} (he : eqV d.sh a b = some e) (n : Nat) (w' : World) : (Op.equalIn (n + 1) t a b).run P w' = .ok e w' := by
  unfold eqV at he
  split at he
  · rename_i k k1 x k2 y hsh
    split at he
    · rename_i hk
      subst hk
      injection he with he
      subst he
      simp [Op.equalIn, run_underlying (ji hT h hsh), ko]
    · cases he
  · rename_i hsh
    injection he with he
    subst he
    simp [Op.equalIn, run_underlying (J6 hT h hsh)]
  · rename_i hsh
    injection he with he
    subst he
    simp only [Op.equalIn, Sem.run_bind, run_underlying (Z5 hT h hsh), Result.andThen_ok, Sem.run_pure]
    rw [beq_toListBytes, Um]
  · cases he
theorem jx (hT : TOK P T) {t : Nat} {d : TyD} (h : T t = some d) {a b : Value} {e : Bool} (he : eqV d.sh a b = some e) (w' : World) : (isAgg t).run P w' = .ok false w' := by
  rw [Vd hT h]
  unfold eqV at he
  split at he <;> first | (rename_i hsh; rw [hsh]; rfl) | cases he
theorem zaI (hT : TOK P T) {xs ys : List AV} {vs us : Array Value} (hv : ∀ (i : Nat) (c : AV) (u : Value), xs[i]? = some c → vs[i]? = some u → AVR F β w c u) (hu : ∀ (i : Nat) (c : AV) (u : Value), ys[i]? = some c → us[i]? = some u → AVR F β w c u)
    (lv : vs.size = xs.length) (lu : us.size = ys.length) : ∀ (l : List Field) (fs : List (Nat × Nat)) (i : Nat) (as' bs : List AV) (e : Bool), l.map (fun f => (f.offset, f.type)) = fs → (∀ f ∈ l, f.name ≠ "_") → eqL T i fs as' bs = some e →
    as' = xs.drop i → bs = ys.drop i → ∀ w', (Op.eqFields 9999 vs us l).run P w' = .ok e w' := by
  intro l
  induction l with
  | nil =>
    intro fs i as' bs e hfs _ he _ _ w'
    subst hfs
    cases as' <;> cases bs <;> simp only [List.map_nil, eqL, Option.some.injEq, reduceCtorEq] at he
    subst he
    rfl
  | cons f l ih =>
    intro fs i as' bs e hfs hn he ha hb w'
    subst hfs
    rw [List.map_cons] at he
    cases as' with
    | nil => simp [eqL] at he
    | cons a as' =>
      cases bs with
      | nil => cases a <;> simp [eqL] at he
      | cons b bs =>
        cases a <;> cases b <;> simp only [eqL, reduceCtorEq] at he
        rename_i x y
        cases hoi : f.offset == i with
        | false => rw [hoi] at he; cases he
        | true =>
          rw [hoi] at he
          have hoi' : f.offset = i := by simpa using hoi
          simp only [cond_true] at he
          split at he
          case h_2 => cases he
          rename_i d hd
          split at he
          case h_2 => cases he
          rename_i e1 e2 h1 h2
          injection he with he
          subst he
          have hxi : xs[i]? = some (.v x) := by
            have := congrArg (fun l => l[0]?) ha
            simp only [List.getElem?_cons_zero, List.getElem?_drop, Nat.add_zero] at this
            exact this.symm
          have hyi : ys[i]? = some (.v y) := by
            have := congrArg (fun l => l[0]?) hb
            simp only [List.getElem?_cons_zero, List.getElem?_drop, Nat.add_zero] at this
            exact this.symm
          have hvi : vs[i]? = some x := by
            have hlt : i < vs.size := by rw [lv]; exact zE hxi
            have := hv i _ vs[i] hxi (Array.getElem?_eq_getElem hlt)
            cases this with | s h => cases h; rw [Array.getElem?_eq_getElem hlt]
          have hui : us[i]? = some y := by
            have hlt : i < us.size := by rw [lu]; exact zE hyi
            have := hu i _ us[i] hyi (Array.getElem?_eq_getElem hlt)
            cases this with | s h => cases h; rw [Array.getElem?_eq_getElem hlt]
          have hpart : ∀ (zs : Array Value) (z : Value), zs[i]? = some z → (part f.type zs f.offset).run P w' = .ok z w' := fun zs z hz => by
            rw [hoi']
            simp [part, jx hT hd h1 w', hz]
          have hrest := ih _ (i + 1) as' bs e2 rfl (fun g hg => hn g (by simp [hg])) h2 (by
            have := congrArg List.tail ha
            simpa [List.tail_drop] using this) (by
            have := congrArg List.tail hb
            simpa [List.tail_drop] using this) w'
          rw [Op.eqFields, if_pos (hn f (by simp))]
          simp only [Sem.run_bind, hpart vs x hvi, hpart us y hui, Result.andThen_ok, Ua hT hd h1 9998 w']
          cases e1 with
          | true => simpa using hrest
          | false => rfl
theorem zb6 (hT : TOK P T) {o : BinOp} {t : Nat} {xs ys : List AV} {r : AV} {p : Prop} (h : eqA T o t xs ys = some (p, r)) {u v : Value} (hx : AVR F β w (.agg xs) u) (hy : AVR F β w (.agg ys) v) (X Y : Operand) :
    ∃ z, AVR F β w r z ∧ ∀ w', (do eqGuard o t X Y u v; binOp o t u v : Sem Value).run P w' = .ok z w' := by
  obtain ⟨vs, rfl, lv, _, hv⟩ := x5 hx
  obtain ⟨us, rfl, lu, _, hu⟩ := x5 hy
  unfold eqA at h
  split at h
  case h_2 => cases h
  rename_i fs hd
  obtain ⟨fields, hun, hfl, hcmp⟩ := (hT t _ hd).2.2.2
  obtain ⟨c1, c2, c3⟩ := hcmp rfl
  have hfo : P.fieldsOf t = fields := by simp [Program.fieldsOf, hun]
  have hg : ∀ w', (eqGuard o t X Y (.agg vs) (.agg us)).run P w' = .ok () w' := fun w' => by
    unfold eqGuard
    cases o <;> simp [c2]
  have heq : ∀ e, eqL T 0 fs xs ys = some e → ∀ w', (Op.equalIn 10000 t (.agg vs) (.agg us)).run P w' = .ok e w' := fun e he w' => by
    rw [run_equalIn_struct w' 9999 t vs us (by rw [hfo]; exact hun) c1, hfo]
    exact zaI hT hv hu lv lu fields.toList fs 0 xs ys e hfl c3 he rfl rfl w'
  split at h
  · rename_i e he
    simp only [Option.some.injEq, Prod.mk.injEq] at h
    obtain ⟨_, rfl⟩ := h
    exact ⟨_, .s (.v rfl), fun w' => by rw [Sem.run_bind, hg w', Result.andThen_ok, run_eql_struct, heq e he w', Result.andThen_ok]⟩
  · rename_i e he
    simp only [Option.some.injEq, Prod.mk.injEq] at h
    obtain ⟨_, rfl⟩ := h
    exact ⟨_, .s (.v rfl), fun w' => by rw [Sem.run_bind, hg w', Result.andThen_ok, run_neq_struct, heq e he w', Result.andThen_ok]⟩
  · cases h
theorem zaJ (hT : TOK P T) {o : BinOp} {t : Nat} {x y r : AV} {p : Prop} (h : zc8 T o t x y = some (p, r)) (hp : p) {u v : Value} (hx : AVR F β w x u) (hy : AVR F β w y v) (X Y : Operand) :
    ∃ z, AVR F β w r z ∧ ∀ w', (do eqGuard o t X Y u v; binOp o t u v : Sem Value).run P w' = .ok z w' := by
  unfold zc8 at h
  split at h
  case h_5 => cases h
  case h_2 => exact zb6 hT h hx hy X Y
  case h_3 =>
    cases hx with
    | s hx => cases hx
    | ptr hb => cases hy with | s hy => cases hy with | v _ => exact V9 hT h _ X Y
  case h_4 =>
    cases hx with
    | s hx => cases hx
    | elt => cases hy with | s hy => cases hy with | v _ => exact V9 hT h _ X Y
  rename_i a b
  cases hx with | s hx => cases hx with | v fa =>
  cases hy with | s hy => cases hy with | v fb =>
  split at h
  · rename_i q z hb
    simp only [Option.some.injEq, Prod.mk.injEq] at h
    obtain ⟨rfl, rfl⟩ := h
    refine ⟨z, .s (.v ?_), fun w' => KQ hb hp t X Y w'⟩
    cases u <;> cases v <;> simp only [KP, reduceCtorEq] at hb <;> cases o <;> simp only [Option.some.injEq, Prod.mk.injEq, reduceCtorEq] at hb <;> obtain ⟨_, rfl⟩ := hb <;> rfl
  · split at h
    case h_3 => cases h
    case h_2 =>
      rename_i hd
      split at h
      · simp only [Option.some.injEq, Prod.mk.injEq] at h
        obtain ⟨_, rfl⟩ := h
        have hu := KO hT hd rfl
        exact ⟨.bool true, .s (.v rfl), fun w' => by simp [eqGuard, run_eql_pointer_nil w' t none (by rw [Program.pointee, hu])]⟩
      · simp only [Option.some.injEq, Prod.mk.injEq] at h
        obtain ⟨_, rfl⟩ := h
        have hu := KO hT hd rfl
        exact ⟨.bool false, .s (.v rfl), fun w' => by simp [eqGuard, run_neq_pointer_nil w' t none (by rw [Program.pointee, hu])]⟩
      · cases h
    rename_i hd
    split at h
    case h_2 => cases h
    rename_i z hz
    simp only [Option.some.injEq, Prod.mk.injEq] at h
    obtain ⟨rfl, rfl⟩ := h
    refine ⟨z, .s (.v ?_), fun w' => Uo hz t (J6 hT hd rfl) X Y w'⟩
    unfold Un at hz
    split at hz <;> first | (injection hz with hz; subst hz; rfl) | cases hz
theorem zaK (a b : Int) : (if b < a then b else a) = min a b := by rw [Int.min_def]; split <;> split <;> omega
theorem zaL (a b : Int) : (if b > a then b else a) = max a b := by rw [Int.max_def]; split <;> split <;> omega
theorem ZW {ρ : Operand → Value} {x : Operand} {t : Nat} {dst : Option Tmp} {ty : Nat} {pos : String} {aft : Array Edge} {gd : Option (Nat × Bool)} {u : Value} (h : (Builtin.len_ #[t] ty #[ρ x]).run P w = .ok u w) :
    (execOp ρ ⟨dst, .call ⟨.builtin .len, ⟨[x]⟩, ⟨[t]⟩⟩, ty, pos, aft, gd⟩).run P w = .ok (.value u) w := by
  simp [execOp, resolve, invoke, builtin, h]
def j5 : AV → List Nat
  | .ptr _ o _ _ => [o]
  | .map o => [o]
  | _ => []
def Ub (s : AState) : Op → List Nat
  | .load _ x => j5 (s.ev x)
  | .call ⟨.builtin .len, ⟨[x]⟩, _⟩ => j5 (s.ev x)
  | _ => []
theorem Uc (hT : TOK P T) (hs : SRel E s tm w β) {o : Oper} {r : AV} {p : Prop} (h : qq T s o.op = some (p, r)) (hp : p) {a : Act} (ha : a.tmps = tm) (hg : o.op.operands.toList.all s.gd = true)
    (hXF : ∀ b, FF E β w b → ¬ X b) (hXo : ∀ d b, d ∈ Ub s o.op → β d = some b → ¬ X b) :
    ∃ v, AVR (FF E β w) β w r v ∧ ∀ w', xz X w w' → (execOp a.eval o).run P w' = .ok (.value v) w' := by
  have hall : ∀ x ∈ o.op.operands.toList, AVR (FF E β w) β w (s.ev x) (a.eval x) := fun x hx => hs.ev x (List.all_eq_true.1 hg x hx) ha
  obtain ⟨dst, op, ty, pos, aft, gd⟩ := o
  dsimp only at h hall hXo
  cases op <;> simp only [qq, reduceCtorEq] at h
  case move x =>
    simp only [Option.some.injEq, Prod.mk.injEq] at h
    obtain ⟨_, rfl⟩ := h
    exact ⟨_, hall x (by simp [Op.operands]), fun w' _ => by simp [execOp]⟩
  case assign x =>
    simp only [Option.some.injEq, Prod.mk.injEq] at h
    obtain ⟨_, rfl⟩ := h
    exact ⟨_, hall x (by simp [Op.operands]), fun w' _ => by simp [execOp]⟩
  case binOp o t x y yt =>
    obtain ⟨z, h1, h2⟩ := zaJ hT h hp (hall x (by simp [Op.operands])) (hall y (by simp [Op.operands])) x y
    exact ⟨z, h1, fun w' _ => by simp only [execOp]; rw [Sem.run_bind, h2 w']; rfl⟩
  case unOp o t x =>
    have hx := hall x (by simp [Op.operands])
    generalize s.ev x = ax at h hx
    split at h
    case h_2 => cases h
    rename_i b
    split at h
    case h_2 => cases h
    rename_i z hz
    simp only [Option.some.injEq, Prod.mk.injEq] at h
    obtain ⟨_, rfl⟩ := h
    generalize hu : a.eval x = u at hx
    cases hx with | s hx => cases hx with | v fx =>
    refine ⟨z, .s (.v ?_), fun w' _ => by simp [execOp, hu, za0 hz w']⟩
    unfold unV at hz
    split at hz <;> first | (injection hz with hz; subst hz; rfl) | cases hz
  case convert a' b x =>
    obtain ⟨z, h1, h2⟩ := Uq (X := X) hT h hp hXF (hall x (by simp [Op.operands]))
    exact ⟨z, h1, fun w' he => by simp [execOp, h2 w' he]⟩
  case load t x =>
    obtain ⟨z, h1, h2⟩ := uu (X := X) hT hs h hp hXF (fun k d i j b he hb => hXo d b (by simp only [Ub, he, j5, List.mem_singleton]) hb) (hall x (by simp [Op.operands]))
    exact ⟨z, h1, fun w' he => by simp [execOp, h2 w' he]⟩
  case fieldAddr t x f =>
    obtain ⟨z, h1, h2⟩ := jk (X := X) hT h hp (hall x (by simp [Op.operands]))
    exact ⟨z, h1, fun w' he => by simp [execOp, h2 w' he]⟩
  case field t x f =>
    obtain ⟨z, h1, h2⟩ := Vf (X := X) hT h hp (hall x (by simp [Op.operands]))
    exact ⟨z, h1, fun w' he => by simp [execOp, h2 w' he]⟩
  case indexAddr t x i =>
    obtain ⟨z, h1, h2⟩ := jl (X := X) hT h hp (hall x (by simp [Op.operands])) (hall i (by simp [Op.operands]))
    exact ⟨z, h1, fun w' he => by simp [execOp, h2 w' he]⟩
  case index t x i =>
    obtain ⟨z, h1, h2⟩ := Vg (X := X) hT h hp (hall x (by simp [Op.operands])) (hall i (by simp [Op.operands]))
    exact ⟨z, h1, fun w' he => by simp [execOp, h2 w' he]⟩
  case extract x i =>
    obtain ⟨z, h1, h2⟩ := Z7 (P := P) (X := X) h (hall x (by simp [Op.operands]))
    exact ⟨z, h1, fun w' he => by simp [execOp, h2 w' he]⟩
  case makeInterface t x =>
    split at h
    case h_2 => cases h
    rename_i d hd
    cases hi : d.sh.isIface with
    | true => rw [hi] at h; cases h
    | false =>
      rw [hi] at h
      simp only [cond_false, Option.some.injEq, Prod.mk.injEq] at h
      obtain ⟨_, rfl⟩ := h
      refine ⟨.iface t (a.eval x), .ifc (hall x (by simp [Op.operands])), fun w' _ => ?_⟩
      obtain ⟨ds, hu, hni⟩ := zce hT hd hi
      simp only [execOp, Instr.makeInterface, Sem.run_bind, run_underlying hu, Result.andThen_ok]
      cases ds <;> first | rfl | exact absurd rfl (hni _)
  case makeFunc fn fs cs =>
    cases fn with
    | func f =>
      simp only at h
      have empt : ∀ {l : Array Operand}, l.toList.isEmpty = true → l = #[] := fun {l} h => by
        cases l with | mk l => cases l with
        | nil => rfl
        | cons _ _ => simp at h
      cases hf : fs.toList.isEmpty with
      | false =>
        rw [hf] at h
        cases hf2 : cs.toList.isEmpty with
        | false => rw [hf2] at h; cases h
        | true =>
          rw [hf2] at h
          simp only [cond_true, cond_false, Option.some.injEq, Prod.mk.injEq] at h
          obtain ⟨_, rfl⟩ := h
          have hcs := empt hf2
          subst hcs
          refine ⟨.func (.func f) (fs.map a.eval) #[], .fn (.inr ⟨rfl, rfl, rfl⟩) (by simp) (fun i c u hc hu => ?_), fun w' _ => by simp [execOp, Instr.makeFunc]⟩
          rw [List.getElem?_map] at hc
          rw [Array.getElem?_map] at hu
          cases hz : fs[i]? with
          | none => rw [hz] at hu; cases hu
          | some z =>
            have hz' : fs.toList[i]? = some z := by simpa using hz
            rw [hz'] at hc
            rw [hz] at hu
            injection hc with hc
            injection hu with hu
            subst hc
            subst hu
            exact hall z (by simpa [Op.operands] using List.mem_of_getElem? hz')
      | true =>
        rw [hf] at h
        simp only [cond_true, Option.some.injEq, Prod.mk.injEq] at h
        obtain ⟨rfl, rfl⟩ := h
        have hfs := empt hf
        subst hfs
        refine ⟨.func (.func f) #[] (cs.map a.eval), .fn (.inl ⟨rfl, hp, rfl, rfl⟩) (by simp) (fun i c u hc hu => ?_), fun w' _ => by simp [execOp, Instr.makeFunc]⟩
        rw [List.getElem?_map] at hc
        rw [Array.getElem?_map] at hu
        cases hz : cs[i]? with
        | none => rw [hz] at hu; cases hu
        | some z =>
          have hz' : cs.toList[i]? = some z := by simpa using hz
          rw [hz'] at hc
          rw [hz] at hu
          injection hc with hc
          injection hu with hu
          subst hc
          subst hu
          exact hall z (by simpa [Op.operands] using List.mem_of_getElem? hz')
    | _ => simp at h
  case typeAssert x xt t ok =>
    cases ok with
    | true => simp [qq] at h
    | false =>
      have hx := hall x (by simp [Op.operands])
      simp only [qq] at h
      generalize s.ev x = ax at h hx
      cases hd : T t with
      | none => rw [hd] at h; simp at h
      | some d =>
      cases ax with
      | ifc t' y =>
        rw [hd] at h
        simp only at h
        cases hi : d.sh.isIface with
        | true => rw [hi] at h; cases h
        | false =>
          rw [hi] at h
          simp only [cond_false, Option.some.injEq, Prod.mk.injEq] at h
          obtain ⟨rfl, rfl⟩ := h
          subst hp
          generalize hu : a.eval x = u at hx
          cases hx with
          | s hx => cases hx
          | @ifc _ _ v hv =>
            refine ⟨v, hv, fun w' _ => ?_⟩
            obtain ⟨ds, hud, hni⟩ := zce hT hd hi
            simp only [execOp, hu, Instr.typeAssert, Sem.run_bind, run_underlying hud, Result.andThen_ok]
            cases ds <;> first | (simp; done) | exact absurd rfl (hni _)
      | _ => rw [hd] at h; simp at h
  case slice t x lo hi mx =>
    cases mx with
    | some m => simp at h
    | none =>
      have hl : ∀ b, (lo.map s.ev) = some b → ∃ v, (lo.map a.eval) = some v ∧ AVR (FF E β w) β w b v := fun b hb => by
        cases lo with
        | none => cases hb
        | some l => injection hb with hb; subst hb; exact ⟨_, rfl, hall l (by simp [Op.operands])⟩
      have hh : ∀ b, (hi.map s.ev) = some b → ∃ v, (hi.map a.eval) = some v ∧ AVR (FF E β w) β w b v := fun b hb => by
        cases hi with
        | none => cases hb
        | some l => injection hb with hb; subst hb; exact ⟨_, rfl, hall l (by simp [Op.operands])⟩
      obtain ⟨z, h1, h2⟩ := Ve (X := X) hT h hp (hall x (by simp [Op.operands])) hl (fun h => by cases lo <;> first | rfl | cases h) hh (fun h => by cases hi <;> first | rfl | cases h)
      exact ⟨z, h1, fun w' he => by
        have := h2 w' he
        cases lo <;> cases hi <;> simp [execOp] <;> simp_all⟩
  case build t ps =>
    obtain ⟨z, h1, h2⟩ := Vk (X := X) hT (g := a.eval) h hp (fun z hz => hall z.2 (by simp only [Op.operands]; exact List.mem_map_of_mem (f := fun p : Nat × Operand => p.2) hz))
    exact ⟨z, h1, fun w' he => by simp only [execOp]; rw [Sem.run_bind, h2 w' he]; rfl⟩
  case nilCheck x =>
    have hx := hall x (by simp [Op.operands])
    generalize s.ev x = ax at h hx
    unfold zdb at h
    split at h
    · simp only [Option.some.injEq, Prod.mk.injEq] at h
      obtain ⟨_, rfl⟩ := h
      generalize hu : a.eval x = u at hx
      cases hx with
      | s h => cases h
      | ptr hb => exact ⟨_, .ptr hb, fun w' _ => by simp [execOp, hu]⟩
    · simp only [Option.some.injEq, Prod.mk.injEq] at h
      obtain ⟨_, rfl⟩ := h
      generalize hu : a.eval x = u at hx
      cases hx with
      | s h => cases h
      | elt g h1 h2 h3 h4 h5 => exact ⟨_, .elt g h1 h2 h3 h4 h5, fun w' _ => by simp [execOp, hu]⟩
    · cases h
  case call c =>
    unfold qR at h
    split at h
    all_goals first
      | cases h; done
      | (rename_i x t
         obtain ⟨z, h1, h2⟩ := KS (X := X) hT hs h (fun d b he hb => hXo d b (by simp only [Ub, he, j5, List.mem_singleton]) hb) (hall x (by simp [Op.operands, Call.operands])) ty
         exact ⟨z, h1, fun w' he => ZW (h2 w' he)⟩)
      | (rename_i x y _
         have hx := hall x (by simp [Op.operands, Call.operands])
         have hy := hall y (by simp [Op.operands, Call.operands])
         generalize s.ev x = ax at h hx
         generalize s.ev y = ay at h hy
         unfold mmA at h
         split at h
         all_goals first
           | cases h; done
           | contradiction
           | (simp only [Option.some.injEq, Prod.mk.injEq] at h
              obtain ⟨_, rfl⟩ := h
              generalize hu : a.eval x = u at hx
              generalize hv : a.eval y = v at hy
              cases hx with | s hx => cases hx with | v fx =>
              cases hy with | s hy => cases hy with | v fy =>
              refine ⟨_, .s (.v rfl), fun w' _ => ?_⟩
              simp [execOp, resolve, invoke, builtin, hu, hv, Builtin.min_, Builtin.max_, Builtin.min2, Builtin.max2, zaK, zaL]))
end
end
section
open Go.RowKit
def AV.frz (d t k : Nat) (xs : List (List AV)) : AV → AV
 | .agg cs => .agg (frzL d t k xs cs)
 | .tup cs => .tup (frzL d t k xs cs)
 | .ref t' k' e off len => bif e == d then (if t' = t ∧ k' = k ∧ off + len ≤ xs.length then .lst k ((xs.take (off + len)).drop off) else .dead) else .ref t' k' e off len
 | .rfx t' k' e off len ext => bif e == d then .dead else .rfx t' k' e off len ext
 | .ptr k' e i j => bif e == d then .dead else .ptr k' e i j
 | .map e => bif e == d then .dead else .map e
 | .v x => .v x
 | .lst k xs => .lst k xs
 | .lsx k xs ys => .lsx k xs ys
 | .elt k xs i j => .elt k xs i j
 | .slen n => .slen n
 | .fn f cs => .fn f (frzL d t k xs cs)
 | .ifc t' a => .ifc t' (a.frz d t k xs)
 | .dead => .dead
where
 frzL (d t k : Nat) (xs : List (List AV)) : List AV → List AV
 | [] => []
 | c :: cs => c.frz d t k xs :: frzL d t k xs cs
theorem AV.frzL_eq (d t k : Nat) (xs : List (List AV)) (cs : List AV) : AV.frz.frzL d t k xs cs = cs.map (AV.frz d t k xs) := by
 induction cs with
 | nil => simp [AV.frz.frzL]
 | cons c cs ih => simp [AV.frz.frzL, ih]
def AObj.frz (d t k : Nat) (xs : List (List AV)) : AObj → AObj
 | .row t' k' ys => .row t' k' ys
 | .var cs => .var (AV.frz.frzL d t k xs cs)
 | .mapo es => .mapo es
 | .mapr clk es => .mapr clk (mapM (AV.frz d t k xs) es)
 | .iter e ok s q => .iter e (ok && !(e == d)) s q
 | .mapl t clk es h => bif decide (d < 20000) then .mapl t clk es h else .row 0 0 []
def AState.frz (s : AState) (d t k : Nat) (xs : List (List AV)) : AState := { fr := s.fr.map fun p => (p.1, p.2.1, p.2.2.frz d t k xs), ob := (rm d s.ob).map fun p => (p.1, p.2.frz d t k xs) }
section
variable {P : Program} {T : Nat → Option TyD} {E : Env} {s s' : AState} {tm : Array Value} {w : World} {β : Nat → Option Nat} {F F' : Nat → Prop} {n : Nat} {Q : Exit → AState → Prop}
theorem qU (off k' : Nat) (xs : List (List AV)) (A : Option Addr) (w : World) : SVR F' w (.lst k' ((xs.take (off + 0)).drop off)) (.slice A 0 0) := by
 have hz : (xs.take (off + 0)).drop off = [] := List.eq_nil_of_length_eq_zero (by rw [List.length_drop, List.length_take]; omega)
 rw [hz]
 exact .lst (fun _ _ => .nilFunc) rfl (Nat.le_refl _) (by decide) (fun cs hcs => by cases hcs) (fun h => by omega) (fun i j hi => by omega) fun i j cs u hc => by simp at hc
theorem za3 {t k d off len : Nat} {xs : List (List AV)} {v : Value} (h : AVR F β w (.ref t k d off len) v) (hrow : xW F β w d (.row t k xs)) (hl : off + len ≤ xs.length) (hF : ∀ b, F b → F' b) (hβ : ∀ b, β d = some b → F' b)
  {β1 : Nat → Option Nat} : AVR F' β1 w (.lst k ((xs.take (off + len)).drop off)) v := by
 cases h with
 | s h => cases h
 | nil => exact .s (qU _ _ _ _ _)
 | empty h1 => exact .s (qU _ _ _ _ _)
 | @ref _ _ _ _ _ c b A h1 h2 h3 h4 h5 =>
  obtain ⟨hk, hrow⟩ := hrow
  have hlen : ((xs.take (off + len)).drop off).length = len := by rw [List.length_drop, List.length_take]; omega
  have hkk : ∀ cs ∈ (xs.take (off + len)).drop off, cs.length = k := fun cs hcs => hk cs (List.mem_of_mem_take (List.mem_of_mem_drop hcs))
  subst h4
  rcases hrow with rfl | ⟨b', arr, hb', harr, hsz, hc⟩
  ·simp only [List.length_nil] at hl
   have hl0 : len = 0 := by omega
   subst hl0
   exact .s (.lst (fun _ _ => .nilFunc) hlen.symm h2 h3 (fun cs hcs => hkk cs hcs) (fun h => by omega) (fun i j hi => by omega) fun i j cs u hc => by simp at hc)
  ·rw [h1] at hb'
   injection hb' with hb'
   subst hb'
   have get : ∀ i cs, ((xs.take (off + len)).drop off)[i]? = some cs → i < len ∧ xs[off + i]? = some cs := fun i cs hcs => by
    have hi : i < len := by rw [← hlen]; exact zE hcs
    rw [List.getElem?_drop, List.getElem?_take_of_lt (by omega)] at hcs
    exact ⟨hi, hcs⟩
   have hall : ∀ i j, i < len → j < k → ∃ x, arr[(off + i) * k + j]? = some x ∧ x.oneCell' = true := fun i j hi hj => by
    have hlt : off + i < xs.length := by omega
    have hlj : j < (xs[off + i]).length := by rw [hk _ (List.getElem_mem hlt)]; exact hj
    obtain ⟨x, hx, hr⟩ := hc (off + i) j xs[off + i] (xs[off + i])[j] (List.getElem?_eq_getElem hlt) (List.getElem?_eq_getElem hlj)
    exact ⟨x, hx, hr.one⟩
   refine .s (.lst (fun i j => (arr[(off + i) * k + j]?).getD undef) hlen.symm h2 h3 hkk (fun _ => ⟨b, off * k, rfl, hβ b h1, fun i j hi hj => ?_⟩) (fun i j hi hj => ?_) fun i j cs u hcs hu => ?_)
   ·obtain ⟨x, hx, _⟩ := hall i j hi hj
    rw [cell_of_row w b _ arr t (0, 0) harr, show off * k + (i * k + j) = (off + i) * k + j by rw [Nat.add_mul]; omega, hx]
    rfl
   ·obtain ⟨x, hx, ho⟩ := hall i j hi hj
    show ((arr[(off + i) * k + j]?).getD undef).oneCell' = true
    rw [hx]; exact ho
   ·obtain ⟨hi, hcs'⟩ := get i cs hcs
    obtain ⟨x, hx, hr⟩ := hc (off + i) j cs u hcs' hu
    show SVR F' w u ((arr[(off + i) * k + j]?).getD undef)
    rw [hx]; exact hr.mono hF (fun _ _ => rfl)
theorem AVR.frz {d t k : Nat} {xs : List (List AV)} {a : AV} {v : Value} (h : AVR F β w a v) (hrow : xW F β w d (.row t k xs)) (hF : ∀ b, F b → F' b) (hβ : ∀ b, β d = some b → F' b) : AVR F' (upd β d none) w (a.frz d t k xs) v := by
 induction h with
 | s h =>
  cases h with
  | v h => exact .s (.v h)
  | lst g h1 h2 h3 h4 h5 h6 h7 => exact .s ((SVR.lst g h1 h2 h3 h4 h5 h6 h7).mono hF fun _ _ => rfl)
  | lsx h => exact .s ((SVR.lsx h).mono hF fun _ _ => rfl)
 | agg h1 h2 _ ih =>
  simp only [AV.frz, AV.frzL_eq]
  exact .agg (by simpa using h1) h2 (AVR.map_list ih)
 | tup h1 _ ih =>
  simp only [AV.frz, AV.frzL_eq]
  exact .tup (by simpa using h1) (AVR.map_list ih)
 | @nil t' k' e off =>
  by_cases he : e = d
  ·simp only [AV.frz, zO he]
   split
   ·rename_i h; obtain ⟨rfl, rfl, hl⟩ := h; exact .s (qU _ _ _ _ _)
   ·exact .dead
  ·simp only [AV.frz, zK he]; exact .nil
 | @ref t' k' e off len c b A h1 h2 h3 h5 h6 =>
  by_cases he : e = d
  ·simp only [AV.frz, zO he]
   subst he
   split
   ·rename_i h; obtain ⟨rfl, rfl, hl⟩ := h; exact za3 (.ref h1 h2 h3 h5 h6) hrow hl hF hβ
   ·exact .dead
  ·simp only [AV.frz, zK he]
   exact .ref ((zS β _ he).trans h1) h2 h3 h5 h6
 | @empty t' k' e off A h1 =>
  by_cases he : e = d
  ·simp only [AV.frz, zO he]
   split
   ·rename_i h; obtain ⟨rfl, rfl, hl⟩ := h; exact .s (qU _ _ _ _ _)
   ·exact .dead
  ·simp only [AV.frz, zK he]; exact .empty h1
 | @rfx t' k' e off len ext c A h ih =>
  by_cases he : e = d
  ·simp only [AV.frz, zO he]; exact .dead
  ·simp only [AV.frz, zK he] at ih ⊢; exact .rfx ih
 | @ptr k' e i j b h1 =>
  by_cases he : e = d
  ·simp only [AV.frz, zO he]; exact .dead
  ·simp only [AV.frz, zK he]; exact .ptr ((zS β _ he).trans h1)
 | elt g h1 h2 h3 h4 h5 =>
  simp only [AV.frz]
  exact .elt g (hF _ h1) h2 h3 h4 (fun i j cs u hc hu => (h5 i j cs u hc hu).mono hF fun _ _ => rfl)
 | @map e b h1 =>
  by_cases he : e = d
  ·simp only [AV.frz, zO he]; exact .dead
  ·simp only [AV.frz, zK he]; exact .map ((zS β _ he).trans h1)
 | slen => exact .slen
 | fn h0 h1 _ ih =>
  simp only [AV.frz, AV.frzL_eq]
  exact .fn h0 (by simpa using h1) (AVR.map_list ih)
 | ifc _ ih => exact .ifc ih
 | dead => exact .dead
theorem xW.frz {d e t k : Nat} {xs : List (List AV)} {o : AObj} (h : xW F β w e o) (he : e ≠ d) (hrow : xW F β w d (.row t k xs)) (hF : ∀ b, F b → F' b) (hβ : ∀ b, β d = some b → F' b) : xW F' (upd β d none) w e (o.frz d t k xs) := by
 cases o with
 | row t' k' ys =>
  refine ⟨h.1, h.2.imp id fun ⟨b, arr, g1, g2, g3, g4⟩ => ⟨b, arr, (zS β _ he).trans g1, g2, g3, fun i j cs u hc hu => ?_⟩⟩
  obtain ⟨x, hx, hr⟩ := g4 i j cs u hc hu
  exact ⟨x, hx, hr.mono hF fun _ _ => rfl⟩
 | var cs =>
  obtain ⟨b, arr, t', g1, g2, g3, g4⟩ := h
  refine ⟨b, arr, t', (zS β _ he).trans g1, g2, by simpa [AV.frzL_eq] using g3, fun j u hu => ?_⟩
  rw [AV.frzL_eq, List.getElem?_map] at hu
  cases hc : cs[j]? with
  | none => rw [hc] at hu; cases hu
  | some c =>
   rw [hc] at hu; injection hu with hu; subst hu
   obtain ⟨x, hx, hr, ho⟩ := g4 j c hc
   exact ⟨x, hx, hr.frz hrow hF hβ, ho⟩
 | mapo es =>
  obtain ⟨b, arr, clk, g1, g2, g3, g4⟩ := h
  exact ⟨b, arr, clk, (zS β _ he).trans g1, g2, g3, fun i e m hi hm => ⟨(g4 i e m hi hm).1.mono hF fun _ _ => rfl, (g4 i e m hi hm).2.mono hF fun _ _ => rfl⟩⟩
 | mapr clk es =>
  obtain ⟨b, arr, g1, g2, g3, g4⟩ := h
  refine ⟨b, arr, (zS β _ he).trans g1, g2, by rw [ul]; exact g3, fun i e' m hi hm => ?_⟩
  obtain ⟨e0, he0, rfl⟩ := um hi
  obtain ⟨k1, k2, k3⟩ := g4 i e0 m he0 hm
  exact ⟨k1, k2.mono hF fun _ _ => rfl, k3.frz hrow hF hβ⟩
 | mapl t2 clk es q =>
  obtain ⟨b, arr, h1, h2, h3, h4⟩ := h
  simp only [AObj.frz]
  by_cases hd : d < 20000
  ·rw [decide_eq_true hd]
   exact ⟨b, arr, (zS β _ he).trans h1, h2, h3, fun i x m hx hm => ⟨(h4 i x m hx hm).1, (h4 i x m hx hm).2.1, fun hq => ((h4 i x m hx hm).2.2 hq).step (fun c hc => (zS β _ (jv hd)).trans hc) fun c hc => rfl⟩⟩
  ·rw [decide_eq_false hd]
   exact ⟨fun cs h => (by cases h), .inl rfl⟩
 | iter e' ok since seen =>
  obtain ⟨r, b, last, h1, h2, h3⟩ := h
  refine ⟨r, b, last, (zS β _ he).trans h1, h2, fun hok => ?_⟩
  simp only [Bool.and_eq_true, Bool.not_eq_true', beq_eq_false_iff_ne] at hok
  exact (zS β _ hok.2).trans (h3 hok.1)
theorem SRel.frz (hs : SRel E s tm w β) {d t k : Nat} {xs : List (List AV)} (hd : d < 10000 ∨ 15000 ≤ d) (ho : lk s.ob d = some (.row t k xs)) : SRel E (s.frz d t k xs) tm w (upd β d none) := by
 have hrow := hs.ob d _ ho
 have hup : ∀ e b, upd β d none e = some b → e ≠ d ∧ β e = some b := fun e b h => by
  by_cases he : e = d
  ·subst he; rw [ya] at h; cases h
  ·rw [zS β _ he] at h; exact ⟨he, h⟩
 have hF : ∀ b, FF E β w b → FF E (upd β d none) w b := fun b ⟨h1, h2, h3⟩ => ⟨h1, h2, fun e he => h3 e (hup e b he).2⟩
 have hβ : ∀ b, β d = some b → FF E (upd β d none) w b := fun b hb => by
  have := hs.rng d b hb
  exact ⟨this.2, .inr (this.1.imp id fun h => ⟨d, h⟩), fun e he => (hup e b he).1 (hs.inj e d b (hup e b he).2 hb)⟩
 have hfr : ∀ u, lk (s.frz d t k xs).fr u = (lk s.fr u).map fun p => (p.1, p.2.frz d t k xs) := fun u => uo (fun p : Bool × AV => (p.1, p.2.frz d t k xs)) s.fr u
 refine ⟨fun a b c ha hb => hs.inj a b c (hup _ _ ha).2 (hup _ _ hb).2, fun e b h => hs.rng e b (hup e b h).2, hs.old, fun e o h => ?_, fun u g a h hg => ?_, fun u a h => ?_, fun e b he h => ?_, hs.fs⟩
 ·have h' : lk ((rm d s.ob).map fun p => (p.1, p.2.frz d t k xs)) e = some o := h
  rw [uo (fun o : AObj => o.frz d t k xs), ZV] at h'
  by_cases he : e = d
  ·rw [zO he] at h'; cases h'
  ·rw [zK he] at h'
   cases hl : lk s.ob e with
   | none => rw [hl] at h'; cases h'
   | some o' => rw [hl] at h'; injection h' with h'; subst h'; exact (hs.ob e o' hl).frz he hrow hF hβ
 ·rw [hfr] at h
  cases hl : lk s.fr u with
  | none => rw [hl] at h; cases h
  | some p =>
   obtain ⟨g', a'⟩ := p
   rw [hl] at h
   injection h with h
   injection h with h1 h2
   subst h1; subst h2
   exact (hs.fr u _ a' hl hg).frz hrow hF hβ
 ·rw [hfr] at h
  cases hl : lk s.fr u with
  | none => rw [hl] at h; cases h
  | some p =>
   obtain ⟨g', a'⟩ := p
   rw [hl] at h
   injection h with h
   injection h with h1 h2
   subst h1; subst h2
   exact hs.un u a' hl
 ·have hne : e ≠ d := fun hed => by subst hed; have := E.hβ e b h; omega
  rw [zS β _ hne]; exact hs.fx e b he h
def AState.say (s : AState) (t : Nat) (b : AV) : AState := { s with fr := (t, true, b) :: s.fr }
theorem SRel.say (hs : SRel E s tm w β) {t : Nat} {x y : AV} (ht : lk s.fr t = some (true, x)) (hu : ∀ F β w v, AVR F β w x v → AVR F β w y v) : SRel E (s.say t y) tm w β := by
 refine ⟨hs.inj, hs.rng, hs.old, hs.ob, fun u g z hz hg => ?_, fun u z hz => ?_, hs.fx, hs.fs⟩
 ·have hz' : lk ((t, true, y) :: s.fr) u = some (g, z) := hz
  rw [yg] at hz'
  by_cases he : t = u
  ·rw [zO he] at hz'
   injection hz' with hz'
   injection hz' with _ hz'
   subst hz'
   subst he
   exact hu _ _ _ _ (hs.fr t _ _ ht rfl)
  ·rw [zK he] at hz'
   exact hs.fr u g z hz' hg
 ·have hz' : lk ((t, true, y) :: s.fr) u = some (false, z) := hz
  rw [yg] at hz'
  by_cases he : t = u
  ·rw [zO he] at hz'
   injection hz' with hz'
   injection hz' with hz' _
   cases hz'
  ·rw [zK he] at hz'
   exact hs.un u z hz'
theorem zci (k : Nat) (xs : List (List AV)) : ∀ F β w x, AVR F β w (.lst k xs) x → AVR F β w (.lsx k xs []) x := fun F β w x h => by
 cases h with
 | s h => exact .s h.lst_lsx
end
end
section
open Go.RowKit
def Uz (_ : Nat → Option TyD) (_ : AState) (t : Nat) (_ _ : AV) : Option (Prop × AState × AV) := match t with | 0 => none | _ + 1 => none
section
variable {P : Program} {T : Nat → Option TyD} {E : Env} {s : AState} {tm : Array Value} {w : World} {β : Nat → Option Nat}
theorem UA (_ : TOK P T) (_ : SRel E s tm w β) {t : Nat} {a b r : AV} {p : Prop} {s' : AState} (h : Uz T s t a b = some (p, s', r)) (_ : p) {x y : Value}
    (_ : AVR (FF E β w) β w a x) (_ : AVR (FF E β w) β w b y) (ty : Nat) :
    ∃ v w' β', (Builtin.append_ #[t, t] ty #[x, y]).run P w = .ok v w' ∧ SRel E s' tm w' β' ∧ AVR (FF E β' w') β' w' r v ∧
      (∀ e b, b < w.heap.size → β' e = some b → β e = some b) ∧ xz (fun b => ∃ t' k' d off n, a = .ref t' k' d off n ∧ β d = some b) w w' := by cases t <;> cases h
end
end
section
open Go.RowKit
section
variable {P : Program} {T : Nat → Option TyD} {E : Env} {s : AState} {tm : Array Value} {w w' : World} {β β' : Nat → Option Nat} {F : Nat → Prop}
def Zf (_ : Nat → Option TyD) (t _ : Nat) (_ : Operand → AV) (_ : List (Nat × Operand)) : Option (Prop × Nat × Nat × List AV) := match t with | 0 => none | _ + 1 => none
theorem UB (_ : TOK P T) (_ : SRel E s tm w β) (d : Nat) (_ : YZ d) {t len : Nat} {f : Operand → AV} {g : Operand → Value} {ps : Array (Nat × Operand)} {p : Prop} {e k : Nat} {cs : List AV} (h : Zf T t len f ps.toList = some (p, e, k, cs)) (_ : p)
    (_ : ∀ z ∈ ps.toList, AVR (FF E β w) β w (f z.2) (g z.2)) :
    ∃ v w' β', (Instr.buildSlice t len (ps.map fun (i, x) => (i, g x))).run P w = .ok v w' ∧ SRel E (s.var d cs) tm w' β' ∧ AVR (FF E β' w') β' w' (.ref e k d 0 1) v ∧ Below w.heap.size w w' ∧ (∀ e b, b < w.heap.size → β' e = some b → β e = some b) := by cases t <;> cases h
def za4 (_ : AState) (_ _ _ : Nat) (_ : AV) : Option (Nat × Nat × List AV × Prop) := none
def v7 (_ : Nat → Option TyD) (_ : AState) (_ dst : Nat) (_ _ : AV) : Option (Prop × AState × AV) := match dst with | 0 => none | _ + 1 => none
theorem jn (_ : TOK P T) (_ : SRel E s tm w β) {t dst : Nat} {a b r : AV} {p : Prop} {s' : AState} (h : v7 T s t dst a b = some (p, s', r)) (_ : p) {x y : Value}
    (_ : AVR (FF E β w) β w a x) (_ : AVR (FF E β w) β w b y) (ty : Nat) :
    ∃ v w' β', (Builtin.append_ #[t, t] ty #[x, y]).run P w = .ok v w' ∧ SRel E s' tm w' β' ∧ AVR (FF E β' w') β' w' r v ∧
      (∀ e b, b < w.heap.size → β' e = some b → β e = some b) ∧ xz (fun b => ∃ t' k' d off n, a = .ref t' k' d off n ∧ β d = some b) w w' := by cases dst <;> cases h
end
end
end Go.Proofs.Ytfjajlcjifnceaa

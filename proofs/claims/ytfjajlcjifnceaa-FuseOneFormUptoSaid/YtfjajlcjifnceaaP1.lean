import Derived.Test.YtfjajlcjifnceaaProg
import Derived.WalkKit
import Derived.WalkSpells
import Derived.WalkLawsBesides
import Derived.Lib.Hide
import Derived.Deep.LoopGhost
import Derived.Deep.QuietTactic
import Derived.BigQuiet
import Derived.Laws.StructEq
import Derived.Maps.AppendAt
import Derived.Deep.AppendLies
import Derived.RegionTactic
import Derived.Deep.RegionLaw
import Derived.OwnWalk
set_option linter.all false
set_option maxRecDepth 100000
set_option maxHeartbeats 8000000
namespace Go.Proofs.Ytfjajlcjifnceaa
section
open Go.RowKit
def I64 (n : Int) : Prop := -9223372036854775808 ≤ n ∧ n ≤ 9223372036854775807
def Row (w : World) (B : Nat) (A : Option Addr) (xs : List Value) : Prop :=
 0 < xs.length → ∃ b off, A = some ⟨b, off, none⟩ ∧ b < B ∧ ∀ k u, xs[k]? = some u → w.cell? ⟨b, off + k, none⟩ = some u
section
variable {w w' : World} {B B' : Nat} {A : Option Addr} {xs : List Value}
theorem Row.ints {k : IntKind} {zs : List Int} (h : Row w B A (zs.map (Value.int k))) (hn : 0 < zs.length) :
  ∃ b off, A = some ⟨b, off, none⟩ ∧ b < B ∧ ∀ j, j < zs.length → w.cell? ⟨b, off + j, none⟩ = some (.int k (zs.getD j 0)) := by
 obtain ⟨b, off, e, hb, hc⟩ := h (by simpa using hn)
 refine ⟨b, off, e, hb, fun j hj => hc j _ ?_⟩
 rw [List.getElem?_map, List.getElem?_eq_getElem hj]
 simp [List.getD_eq_getElem?_getD, List.getElem?_eq_getElem hj]
end
section
variable {w w' : World} {g : Nat} {t : TypeId} {cs : List Value}
end
def setRow (w : World) (b o : Nat) : List Value → World
 | [] => w
 | v :: vs => setRow (w.setCell ⟨b, o, none⟩ v) b (o + 1) vs
theorem Row.conv {P : Program} {w : World} {B : Nat} {A : Option Addr} {zs : List Int} (h : Row w B A (zs.map (Value.int .u8))) (src e dst : TypeId) (hs : P.underlying src = some (.slice e)) (he : P.underlying e = some (.int .u8))
  (hd : P.underlying dst = some .string) (n c : Nat) (hn : n = zs.length) : (convert src dst (.slice A n c)).run P w = .ok (.string (strOfNums zs)) w := by
 subst hn
 rcases Nat.eq_zero_or_pos zs.length with h0 | h0
 ·have hz : zs = [] := List.eq_nil_of_length_eq_zero h0
  subst hz
  rw [List.length_nil, run_convert_bytes_string w src dst e _ 0 c hs he hd]
  rcases A with _ | a
  ·simp [Conv.bytesToString]; rfl
  ·have hl : (loadCells a 0).run P w = .ok #[] w := by
    have := run_loadCells_list (P := P) w a [] (fun j v hj => by simp at hj)
    simpa using this
   rw [run_bytesToString w _ 0 c [] hl]; rfl
 ·obtain ⟨b, off, rfl, _, hc⟩ := h.ints h0
  exact run_convert_bytes_arg w src e hs he b off _ c zs rfl hc dst hd
end
section
open Go.RowKit
def uO : Value → Bool
 | .bool _ | .int .. | .string _ | .nilFunc | .nilIface => true
 | .pointer none | .map none => true
 | .slice none 0 0 => true
 | .func (.func _) first cap => first.size == 0 && cap.size == 0
 | _ => false
def glo : Nat → Option (List Value) := fun _ => none
structure FOK (F : Nat → Prop) (w : World) : Prop where
 lt : ∀ b, F b → b < w.heap.size
 gl : ∀ g vs, glo g = some vs → F g ∧ ∀ (j : Nat) (x : Value), vs[j]? = some x → uO x = true ∧ w.cell? ⟨g, j, none⟩ = some x
theorem Qs (w : World) : FOK (fun b => b < w.heap.size) w := ⟨fun _ h => h, fun g vs h => by cases h⟩
end
section
open Go.RowKit
inductive AV where
 | v (x : Value)
 | agg (cs : List AV)
 | tup (cs : List AV)
 | lst (k : Nat) (xs : List (List AV))
 | lsx (k : Nat) (xs ys : List (List AV))
 | ref (t k d off len : Nat)
 | rfx (t k d off len ext : Nat)
 | ptr (k d i j : Nat)
 | elt (k : Nat) (xs : List (List AV)) (i j : Nat)
 | map (d : Nat)
 | slen (n : Nat)
 | fn (f : Nat) (cs : List AV)
 | ifc (t : Nat) (a : AV)
 | dead
deriving Inhabited
theorem w9 {x : Value} (h : uO x = true) : x.oneCell' = true := by
 cases x <;> first | rfl | (simp [uO] at h)
inductive SVR (F : Nat → Prop) (w : World) : AV → Value → Prop
 | v {x : Value} : uO x = true → SVR F w (.v x) x
 | lst {k : Nat} {xs : List (List AV)} {A : Option Addr} {n c : Nat} (g : Nat → Nat → Value) :
   n = xs.length → n ≤ c → c ≤ maxLen → (∀ cs ∈ xs, cs.length = k) →
   (0 < n → ∃ b off, A = some ⟨b, off, none⟩ ∧ F b ∧ ∀ i j, i < n → j < k → w.cell? ⟨b, off + (i * k + j), none⟩ = some (g i j)) →
   (∀ i j, i < n → j < k → (g i j).oneCell' = true) →
   (∀ (i j : Nat) (cs : List AV) (u : AV), xs[i]? = some cs → cs[j]? = some u → SVR F w u (g i j)) → SVR F w (.lst k xs) (.slice A n c)
 | lsx {k : Nat} {xs ys : List (List AV)} {A : Option Addr} {c : Nat} : SVR F w (.lst k (xs ++ ys)) (.slice A (xs.length + ys.length) c) → SVR F w (.lsx k xs ys) (.slice A xs.length c)
def Shp (w : World) (b t n : Nat) : Prop := ∃ arr, w.heap[b]? = some (.cells arr t (0, 0)) ∧ arr.size = n
inductive AVR (F : Nat → Prop) (β : Nat → Option Nat) (w : World) : AV → Value → Prop
 | s {a : AV} {x : Value} : SVR F w a x → AVR F β w a x
 | agg {cs : List AV} {vs : Array Value} : vs.size = cs.length → (∀ (i : Nat) (u : Value), vs[i]? = some u → u.oneCell' = true) →
   (∀ (i : Nat) (c : AV) (u : Value), cs[i]? = some c → vs[i]? = some u → AVR F β w c u) → AVR F β w (.agg cs) (.agg vs)
 | tup {cs : List AV} {vs : Array Value} : vs.size = cs.length → (∀ (i : Nat) (c : AV) (u : Value), cs[i]? = some c → vs[i]? = some u → AVR F β w c u) → AVR F β w (.tup cs) (.tuple vs)
 | nil {t k d off : Nat} : AVR F β w (.ref t k d off 0) (.slice none 0 0)
 | ref {t k d off len c b : Nat} {A : Option Addr} : β d = some b → len ≤ c → c ≤ maxLen → A = some ⟨b, off * k, none⟩ → Shp w b t ((off + c) * k) → AVR F β w (.ref t k d off len) (.slice A len c)
 | empty {t k d off : Nat} {A : Addr} : 0 < off → AVR F β w (.ref t k d off 0) (.slice (some A) 0 0)
 | rfx {t k d off len ext c : Nat} {A : Addr} : AVR F β w (.ref t k d off (len + ext)) (.slice (some A) (len + ext) c) → AVR F β w (.rfx t k d off len ext) (.slice (some A) len c)
 | ptr {k d i j b : Nat} : β d = some b → AVR F β w (.ptr k d i j) (.pointer (some ⟨b, i * k + j, none⟩))
 | elt {k : Nat} {xs : List (List AV)} {i j b off : Nat} (g : Nat → Nat → Value) :
   F b → (∀ cs ∈ xs, cs.length = k) → (∀ i j, i < xs.length → j < k → w.cell? ⟨b, off + (i * k + j), none⟩ = some (g i j)) → (∀ i j, i < xs.length → j < k → (g i j).oneCell' = true) →
   (∀ (i j : Nat) (cs : List AV) (u : AV), xs[i]? = some cs → cs[j]? = some u → SVR F w u (g i j)) → AVR F β w (.elt k xs i j) (.pointer (some ⟨b, off + (i * k + j), none⟩))
 | map {d b : Nat} : β d = some b → AVR F β w (.map d) (.map (some b))
 | slen {n c : Nat} {A : Option Addr} : AVR F β w (.slen n) (.slice A n c)
 | fn {f g : Nat} {cs : List AV} {vs xs ys : Array Value} : (f = g ∧ f < 1000000 ∧ xs = #[] ∧ ys = vs ∨ f = g + 1000000 ∧ xs = vs ∧ ys = #[]) → vs.size = cs.length → (∀ (i : Nat) (c : AV) (u : Value), cs[i]? = some c → vs[i]? = some u → AVR F β w c u) → AVR F β w (.fn f cs) (.func (.func g) xs ys)
 | ifc {t : Nat} {a : AV} {x : Value} : AVR F β w a x → AVR F β w (.ifc t a) (.iface t x)
 | dead {x : Value} : AVR F β w .dead x
theorem SVR.mono {F F' : Nat → Prop} {w w' : World} {a : AV} {x : Value} (h : SVR F w a x) (hF : ∀ b, F b → F' b) (hw : ∀ b, F b → w'.heap[b]? = w.heap[b]?) : SVR F' w' a x := by
 induction h with
 | v h => exact .v h
 | lst g h1 h2 h3 h4 h5 h6 _ ih =>
  refine .lst g h1 h2 h3 h4 (fun hn => ?_) h6 ih
  obtain ⟨b, off, hA, hb, hc⟩ := h5 hn
  exact ⟨b, off, hA, hF b hb, fun i j hi hj => (World.cell?_of_block (a := ⟨b, off + (i * _ + j), none⟩) (hw b hb)).trans (hc i j hi hj)⟩
 | lsx _ ih => exact .lsx ih
theorem SVR.one {F : Nat → Prop} {w : World} {a : AV} {x : Value} (h : SVR F w a x) : x.oneCell' = true := by
 cases h with
 | v h => exact w9 h
 | lst => rfl
 | lsx => rfl
theorem SVR.lsx_lst {F : Nat → Prop} {w : World} {k : Nat} {xs ys : List (List AV)} {x : Value} (h : SVR F w (.lsx k xs ys) x) : SVR F w (.lst k xs) x := by
 cases h with
 | lsx h =>
 cases h with
 | lst g h1 h2 h3 h4 h5 h6 h7 =>
  refine .lst g rfl (by omega) h3 (fun cs hcs => h4 cs (List.mem_append_left _ hcs)) (fun hn => ?_) (fun i j hi hj => h6 i j (by omega) hj) fun i j cs u hc hu => h7 i j cs u ?_ hu
  ·obtain ⟨b, off, hA, hF, hcell⟩ := h5 (by omega)
   exact ⟨b, off, hA, hF, fun i j hi hj => hcell i j (by omega) hj⟩
  ·have hi : i < xs.length := by
    rcases Nat.lt_or_ge i xs.length with h | h
    ·exact h
    ·rw [List.getElem?_eq_none h] at hc; cases hc
   rw [List.getElem?_append_left hi]; exact hc
theorem SVR.lst_lsx {F : Nat → Prop} {w : World} {k : Nat} {xs : List (List AV)} {x : Value} (h : SVR F w (.lst k xs) x) : SVR F w (.lsx k xs []) x := by
 cases h with
 | lst g h1 h2 h3 h4 h5 h6 h7 =>
  subst h1
  exact .lsx (by rw [List.append_nil, List.length_nil, Nat.add_zero]; exact .lst g rfl h2 h3 h4 h5 h6 h7)
def AV.kill (d : Nat) : AV → AV
 | .agg cs => .agg (killL d cs)
 | .tup cs => .tup (killL d cs)
 | .ref t k e off len => bif e == d then .slen len else .ref t k e off len
 | .rfx t k e off len ext => bif e == d then .slen len else .rfx t k e off len ext
 | .ptr k e i j => bif e == d then .dead else .ptr k e i j
 | .map e => bif e == d then .dead else .map e
 | .v x => .v x
 | .lst k xs => .lst k xs
 | .lsx k xs ys => .lsx k xs ys
 | .elt k xs i j => .elt k xs i j
 | .slen n => .slen n
 | .fn f cs => .fn f (killL d cs)
 | .ifc t a => .ifc t (a.kill d)
 | .dead => .dead
where
 killL (d : Nat) : List AV → List AV
 | [] => []
 | c :: cs => c.kill d :: killL d cs
theorem AV.killL_eq (d : Nat) (cs : List AV) : AV.kill.killL d cs = cs.map (AV.kill d) := by
 induction cs with
 | nil => simp [AV.kill.killL]
 | cons c cs ih => simp [AV.kill.killL, ih]
theorem zK {α : Type} {e d : Nat} (h : e ≠ d) (a b : α) : (bif e == d then a else b) = b := by
 have : (e == d) = false := by simpa using h
 rw [this]; rfl
theorem zO {α : Type} {e d : Nat} (h : e = d) (a b : α) : (bif e == d then a else b) = a := by
 have : (e == d) = true := by simpa using h
 rw [this]; rfl
section
variable {F F' : Nat → Prop} {β β' : Nat → Option Nat} {w w' : World}
theorem AVR.map_list {f : AV → AV} {cs : List AV} {vs : Array Value} (ih : ∀ (i : Nat) (c : AV) (u : Value), cs[i]? = some c → vs[i]? = some u → AVR F' β' w' (f c) u) :
  ∀ (i : Nat) (c : AV) (u : Value), (cs.map f)[i]? = some c → vs[i]? = some u → AVR F' β' w' c u := fun i c u hc hu => by
 rw [List.getElem?_map] at hc
 cases hci : cs[i]? with
 | none => rw [hci] at hc; cases hc
 | some c' => rw [hci] at hc; injection hc with hc; subst hc; exact ih i c' u hci hu
theorem AVR.kill {a : AV} {x : Value} (d : Nat) (h : AVR F β w a x)
  (hF : ∀ b, F b → F' b) (hw : ∀ b, F b → w'.heap[b]? = w.heap[b]?) (hβ : ∀ e, e ≠ d → β' e = β e) (hs : ∀ e b t n, e ≠ d → β e = some b → Shp w b t n → Shp w' b t n) :
  AVR F' β' w' (a.kill d) x := by
 induction h with
 | s h =>
  cases h with
  | v h => exact .s (.v h)
  | lst g h1 h2 h3 h4 h5 h6 h7 => exact .s ((SVR.lst g h1 h2 h3 h4 h5 h6 h7).mono hF hw)
  | lsx h => exact .s ((SVR.lsx h).mono hF hw)
 | agg h1 h2 _ ih =>
  simp only [AV.kill, AV.killL_eq]
  exact .agg (by simpa using h1) h2 (AVR.map_list ih)
 | tup h1 _ ih =>
  simp only [AV.kill, AV.killL_eq]
  exact .tup (by simpa using h1) (AVR.map_list ih)
 | @nil t k e off =>
  by_cases he : e = d
  ·simp only [AV.kill, zO he]; exact .slen
  ·simp only [AV.kill, zK he]; exact .nil
 | @ref t k e off len c b A h1 h2 h3 h5 h6 =>
  by_cases he : e = d
  ·simp only [AV.kill, zO he]; exact .slen
  ·simp only [AV.kill, zK he]
   exact .ref ((hβ e he).trans h1) h2 h3 h5 (hs e b t _ he h1 h6)
 | @empty t k e off A h1 =>
  by_cases he : e = d
  ·simp only [AV.kill, zO he]; exact .slen
  ·simp only [AV.kill, zK he]; exact .empty h1
 | @rfx t k e off len ext c A h ih =>
  by_cases he : e = d
  ·simp only [AV.kill, zO he]; exact .slen
  ·simp only [AV.kill, zK he] at ih ⊢; exact .rfx ih
 | @ptr k e i j b h1 =>
  by_cases he : e = d
  ·simp only [AV.kill, zO he]; exact .dead
  ·simp only [AV.kill, zK he]; exact .ptr ((hβ e he).trans h1)
 | elt g h1 h2 h3 h4 h5 =>
  simp only [AV.kill]
  exact .elt g (hF _ h1) h2 (fun i j hi hj => (World.cell?_of_block (a := ⟨_, _, none⟩) (hw _ h1)).trans (h3 i j hi hj)) h4 (fun i j cs u hc hu => (h5 i j cs u hc hu).mono hF hw)
 | @map e b h1 =>
  by_cases he : e = d
  ·simp only [AV.kill, zO he]; exact .dead
  ·simp only [AV.kill, zK he]; exact .map ((hβ e he).trans h1)
 | slen => exact .slen
 | fn h0 h1 _ ih =>
  simp only [AV.kill, AV.killL_eq]
  exact .fn h0 (by simpa using h1) (AVR.map_list ih)
 | ifc _ ih => exact .ifc ih
 | dead => exact .dead
theorem AVR.mono {a : AV} {x : Value} (h : AVR F β w a x) (hF : ∀ b, F b → F' b) (hw : ∀ b, F b → w'.heap[b]? = w.heap[b]?) (hβ : ∀ e b, β e = some b → β' e = some b)
  (hs : ∀ e b t n, β e = some b → Shp w b t n → Shp w' b t n) : AVR F' β' w' a x := by
 induction h with
 | s h => exact .s (h.mono hF hw)
 | agg h1 h2 _ ih => exact .agg h1 h2 ih
 | tup h1 _ ih => exact .tup h1 ih
 | nil => exact .nil
 | ref h1 h2 h3 h5 h6 => exact .ref (hβ _ _ h1) h2 h3 h5 (hs _ _ _ _ h1 h6)
 | empty h1 => exact .empty h1
 | rfx _ ih => exact .rfx ih
 | ptr h1 => exact .ptr (hβ _ _ h1)
 | elt g h1 h2 h3 h4 h5 => exact .elt g (hF _ h1) h2 (fun i j hi hj => (World.cell?_of_block (a := ⟨_, _, none⟩) (hw _ h1)).trans (h3 i j hi hj)) h4 (fun i j cs u hc hu => (h5 i j cs u hc hu).mono hF hw)
 | map h1 => exact .map (hβ _ _ h1)
 | slen => exact .slen
 | fn h0 h1 _ ih => exact .fn h0 h1 ih
 | ifc _ ih => exact .ifc ih
 | dead => exact .dead
end
theorem AVR.rfx_ref {F : Nat → Prop} {β : Nat → Option Nat} {w : World} {t k d off len ext : Nat} {v : Value} (h : AVR F β w (.rfx t k d off len ext) v) : AVR F β w (.ref t k d off len) v := by
 cases h with
 | s h => cases h
 | @rfx _ _ _ _ _ _ c A h =>
  generalize hz : len + ext = z at h
  generalize hA : (Value.slice (some A) z c) = u at h
  cases h with
  | s h => cases h
  | nil => cases hA
  | empty h1 =>
   injection hA with g1 g2 g3
   injection g1 with g1
   subst g1 g3
   have : len = 0 := by omega
   subst this
   exact .empty h1
  | ref h1 h2 h3 h4 h5 =>
   injection hA with g1 g2 g3
   subst g3
   subst g1
   exact .ref h1 (by omega) h3 h4 h5
def kn (d i : Nat) : Nat := d + 20000 * (i + 1)
inductive AObj where
 | row (t k : Nat) (xs : List (List AV))
 | var (cs : List AV)
 | mapo (es : List (AV × AV))
 | mapr (clk : Nat) (es : List (Nat × AV × AV))
 | mapl (t clk : Nat) (es : List (Nat × Int × List Int)) (h : Option Nat)
 | iter (e : Nat) (ok : Bool) (since : Nat) (seen : List Nat)
deriving Inhabited
def mapM (f : AV → AV) : List (Nat × AV × AV) → List (Nat × AV × AV)
 | [] => []
 | (b, k, v) :: es => (b, k, f v) :: mapM f es
theorem Y6 (f : AV → AV) (es : List (Nat × AV × AV)) : mapM f es = es.map fun e => (e.1, e.2.1, f e.2.2) := by
 induction es with
 | nil => rfl
 | cons e es ih => obtain ⟨b, k, v⟩ := e; simp [mapM, ih]
theorem ul (f : AV → AV) (es : List (Nat × AV × AV)) : (mapM f es).length = es.length := by rw [Y6, List.length_map]
theorem um {f : AV → AV} {es : List (Nat × AV × AV)} {i : Nat} {e : Nat × AV × AV} (h : (mapM f es)[i]? = some e) : ∃ e', es[i]? = some e' ∧ e = (e'.1, e'.2.1, f e'.2.2) := by
 rw [Y6, List.getElem?_map] at h
 cases hc : es[i]? with
 | none => rw [hc] at h; cases h
 | some e' => rw [hc] at h; injection h with h; exact ⟨e', rfl, h.symm⟩
def AObj.kill (d : Nat) : AObj → AObj
 | .row t k xs => .row t k xs
 | .var cs => .var (AV.kill.killL d cs)
 | .mapo es => .mapo es
 | .mapr clk es => .mapr clk (mapM (AV.kill d) es)
 | .iter e ok s q => .iter e (ok && !(e == d)) s q
 | .mapl t clk es h => bif decide (d < 20000) then .mapl t clk es h else .row 0 0 []
def zaH (β : Nat → Option Nat) (w : World) (t n : Nat) (l : List Int) (v : Value) : Prop :=
 ∃ bi c ai, β n = some bi ∧ v = .slice (some ⟨bi, 0, none⟩) l.length c ∧ l.length ≤ c ∧ c ≤ maxLen ∧ w.heap[bi]? = some (.cells ai t (0, 0)) ∧ ai.size = c ∧ ∀ (j : Nat) (z : Int), l[j]? = some z → ai[j]? = some (.int .i64 z)
theorem zaH.step {β β' : Nat → Option Nat} {w w' : World} {t n : Nat} {l : List Int} {v : Value} (h : zaH β w t n l v) (hβ : ∀ b, β n = some b → β' n = some b) (hw : ∀ b, β n = some b → w'.heap[b]? = w.heap[b]?) : zaH β' w' t n l v := by
 obtain ⟨bi, c, ai, h1, h2, h3, h4, h5, h6, h7⟩ := h
 exact ⟨bi, c, ai, hβ _ h1, h2, h3, h4, (hw _ h1).trans h5, h6, h7⟩
def xW (F : Nat → Prop) (β : Nat → Option Nat) (w : World) (d : Nat) : AObj → Prop
 | .row t k xs => (∀ cs ∈ xs, cs.length = k) ∧ (xs = [] ∨ ∃ b arr, β d = some b ∧ w.heap[b]? = some (.cells arr t (0, 0)) ∧ xs.length * k ≤ arr.size ∧
   ∀ (i j : Nat) (cs : List AV) (u : AV), xs[i]? = some cs → cs[j]? = some u → ∃ x, arr[i * k + j]? = some x ∧ SVR F w u x)
 | .var cs => ∃ b arr t, β d = some b ∧ w.heap[b]? = some (.cells arr t (0, 0)) ∧ cs.length ≤ arr.size ∧
   ∀ (j : Nat) (u : AV), cs[j]? = some u → ∃ x, arr[j]? = some x ∧ AVR F β w u x ∧ x.oneCell' = true
 | .mapo es => ∃ b arr clk, β d = some b ∧ w.heap[b]? = some (.map arr clk) ∧ arr.size = es.length ∧
   ∀ (i : Nat) (e : AV × AV) (m : MapEntry), es[i]? = some e → arr[i]? = some m → SVR F w e.1 m.key ∧ SVR F w e.2 m.val
 | .mapr clk es => ∃ b arr, β d = some b ∧ w.heap[b]? = some (.map arr clk) ∧ arr.size = es.length ∧
   ∀ (i : Nat) (e : Nat × AV × AV) (m : MapEntry), es[i]? = some e → arr[i]? = some m → m.born = e.1 ∧ SVR F w e.2.1 m.key ∧ AVR F β w e.2.2 m.val
 | .mapl t clk es h => ∃ b arr, β d = some b ∧ w.heap[b]? = some (.map arr clk) ∧ arr.size = es.length ∧
   ∀ (i : Nat) (e : Nat × Int × List Int) (m : MapEntry), es[i]? = some e → arr[i]? = some m → m.born = e.1 ∧ m.key = .int .i64 e.2.1 ∧ (h ≠ some i → zaH β w t (kn d i) e.2.2 m.val)
 | .iter e ok since seen => ∃ r b, ∃ _ : Nat, β d = some r ∧ w.heap[r]? = some (.mapIter (some b) since seen.toArray since) ∧ (ok = true → β e = some b)
def lk {α : Type} : List (Nat × α) → Nat → Option α
 | [], _ => none
 | (k, a) :: l, t => bif k == t then some a else lk l t
theorem yg {α : Type} (k : Nat) (a : α) (l : List (Nat × α)) (t : Nat) : lk ((k, a) :: l) t = bif k == t then some a else lk l t := rfl
theorem uo {α β : Type} (f : α → β) (l : List (Nat × α)) (t : Nat) : lk (l.map fun p => (p.1, f p.2)) t = (lk l t).map f := by
 induction l with
 | nil => rfl
 | cons p l ih => rw [List.map_cons, yg]; obtain ⟨k, a⟩ := p; rw [yg]; cases h : k == t <;> simp [ih]
def rm {α : Type} (d : Nat) : List (Nat × α) → List (Nat × α)
 | [] => []
 | (k, a) :: l => bif k == d then rm d l else (k, a) :: rm d l
theorem J2 {α : Type} {d : Nat} {p : Nat × α} : ∀ {l : List (Nat × α)}, p ∈ rm d l → p ∈ l
 | [], h => h
 | (k, a) :: l, h => by
  unfold rm at h
  cases hk : k == d with
  | true => rw [hk] at h; exact .tail _ (J2 h)
  | false =>
   rw [hk] at h
   rcases List.mem_cons.1 h with h | h
   ·rw [h]; exact .head _
   ·exact .tail _ (J2 h)
theorem ZV {α : Type} (d : Nat) (l : List (Nat × α)) (t : Nat) : lk (rm d l) t = bif t == d then none else lk l t := by
 induction l with
 | nil => cases h : t == d <;> rfl
 | cons p l ih =>
  obtain ⟨k, a⟩ := p
  simp only [rm, yg]
  by_cases hk : k = d
  ·subst hk
   rw [zO rfl, ih]
   by_cases ht : t = k
   ·rw [zO ht, zO ht]
   ·rw [zK ht, zK ht, zK (Ne.symm ht)]
  ·rw [zK hk, yg, ih]
   by_cases hkt : k = t
   ·subst hkt; rw [zO rfl, zK hk, zO rfl]
   ·rw [zK hkt, zK hkt]
theorem jv {d i e : Nat} (h : e < 20000) : kn d i ≠ e := by unfold kn; omega
def AObj.loose : AObj → AObj
 | .row t k xs => .row t k xs
 | .var cs => .var cs
 | .mapo es => .mapo es
 | .mapr clk es => .mapr clk es
 | .mapl .. => .row 0 0 []
 | .iter e ok s q => .iter e ok s q
def rmo (d : Nat) (l : List (Nat × AObj)) : List (Nat × AObj) := bif decide (d < 20000) then rm d l else (rm d l).map fun p => (p.1, p.2.loose)
structure AState where
 fr : List (Nat × Bool × AV)
 ob : List (Nat × AObj)
deriving Inhabited
def YZ (d : Nat) : Prop := d < 10000 ∨ 15000 ≤ d
structure Env where
 w0 : World
 F0 : Nat → Prop
 β0 : Nat → Option Nat
 hβ : ∀ d b, β0 d = some b → 10000 ≤ d ∧ d < 20000
 fok : FOK F0 w0
 hF : ∀ d b, β0 d = some b → ¬ F0 b
def Env.X (E : Env) (b : Nat) : Prop := ∃ d, E.β0 d = some b
def FF (E : Env) (β : Nat → Option Nat) (w : World) (b : Nat) : Prop := b < w.heap.size ∧ (E.F0 b ∨ E.w0.heap.size ≤ b ∨ E.X b) ∧ ∀ d, β d ≠ some b
structure Keeps (X : Nat → Prop) (w w' : World) : Prop where
 os : w'.os = w.os
 tape : w'.tape = w.tape
 output : w'.output = w.output
 size : w.heap.size ≤ w'.heap.size
 block : ∀ b, b < w.heap.size → ¬ X b → w'.heap[b]? = w.heap[b]?
theorem Keeps.refl (X : Nat → Prop) (w : World) : Keeps X w w := ⟨rfl, rfl, rfl, Nat.le_refl _, fun _ _ _ => rfl⟩
theorem Keeps.trans {X Y : Nat → Prop} {a b c : World} (h : Keeps X a b) (k : Keeps Y b c) (hXY : ∀ n, n < a.heap.size → Y n → X n) : Keeps X a c :=
 ⟨k.os.trans h.os, k.tape.trans h.tape, k.output.trans h.output, Nat.le_trans h.size k.size, fun n hn hx => (k.block n (Nat.lt_of_lt_of_le hn h.size) (fun hy => hx (hXY n hn hy))).trans (h.block n hn hx)⟩
theorem Keeps.below {X : Nat → Prop} {w w' : World} (h : Keeps X w w') (hX : ∀ b, ¬ X b) : Below w.heap.size w w' := ⟨h.os, h.tape, h.output, h.size, fun b hb => h.block b hb (hX b)⟩
theorem Keeps.of_below {w w' : World} (X : Nat → Prop) (h : Below w.heap.size w w') : Keeps X w w' := ⟨h.os, h.tape, h.output, h.size, fun b hb _ => h.block b hb⟩
structure SRel (E : Env) (s : AState) (tm : Array Value) (w : World) (β : Nat → Option Nat) : Prop where
 inj : ∀ d e b, β d = some b → β e = some b → d = e
 rng : ∀ d b, β d = some b → (E.w0.heap.size ≤ b ∨ E.β0 d = some b) ∧ b < w.heap.size
 old : Keeps E.X E.w0 w
 ob : ∀ d o, lk s.ob d = some o → xW (FF E β w) β w d o
 fr : ∀ t g a, lk s.fr t = some (g, a) → g = true → AVR (FF E β w) β w a (tm.getD t undef)
 un : ∀ t a, lk s.fr t = some (false, a) → tm.getD t undef = undef
 fx : ∀ d b, d < 15000 → E.β0 d = some b → β d = some b
 fs : ∀ d b t n, d < 15000 → E.β0 d = some b → Shp E.w0 b t n → Shp w b t n
theorem SRel.glo {E : Env} {s : AState} {tm : Array Value} {w : World} {β : Nat → Option Nat} (hs : SRel E s tm w β) : FOK (FF E β w) w :=
 ⟨fun _ h => h.1, fun g vs h => by
  obtain ⟨h1, h2⟩ := E.fok.gl g vs h
  have h3 := E.fok.lt g h1
  refine ⟨⟨Nat.lt_of_lt_of_le h3 hs.old.size, .inl h1, fun d hd => ?_⟩, fun j x hx => ⟨(h2 j x hx).1, ?_⟩⟩
  ·rcases (hs.rng d g hd).1 with h | h
   ·omega
   ·exact E.hF d g h h1
  ·exact (World.cell?_of_block (a := ⟨g, j, none⟩) (hs.old.block g h3 fun ⟨d, hd⟩ => E.hF d g hd h1)).trans (h2 j x hx).2⟩
end
section
open Go.RowKit
inductive Sh where
 | int (k : IntKind) | bool | str
 | slice (e : Nat) | ptr (e : Nat)
 | strct (fs : List (Nat × Nat)) (cmp : Bool)
 | map (k e : Nat) | arr (n e : Nat) | fn | iface
structure TyD where
 size : Nat
 bytes : Nat
 zero : List Value
 sh : Sh
def zdc (P : Program) (t : Nat) : Sh → Prop
 | .int k => P.underlying t = some (.int k)
 | .bool => P.underlying t = some .bool
 | .str => P.underlying t = some .string
 | .slice e => P.underlying t = some (.slice e)
 | .ptr e => P.underlying t = some (.pointer e)
 | .strct fs cmp => ∃ fields : Array Field, P.underlying t = some (.struct fields) ∧ fields.toList.map (fun f => (f.offset, f.type)) = fs ∧
   (cmp = true → P.stoodInHeld t = false ∧ P.eqGuardType P.depth t = false ∧ ∀ f ∈ fields.toList, f.name ≠ "_")
 | .map k e => P.underlying t = some (.map k e)
 | .arr n e => P.underlying t = some (.array n e)
 | .fn => ∃ a b c, P.underlying t = some (.func a b c)
 | .iface => ∃ a, P.underlying t = some (.interface a)
def TOK (P : Program) (T : Nat → Option TyD) : Prop := ∀ t d, T t = some d →
 (∃ i z, P.info? t = some i ∧ i.size = d.size ∧ i.bytes = d.bytes ∧ i.zero = some z ∧ z.cells = d.zero.toArray) ∧ d.zero.length = d.size ∧ (∀ z ∈ d.zero, uO z = true) ∧ zdc P t d.sh
def Sh.agg : Sh → Bool
 | .strct .. | .arr .. => true
 | _ => false
def Sh.isIface : Sh → Bool
 | .iface => true
 | _ => false
section
variable {P : Program} {T : Nat → Option TyD} (hT : TOK P T) {t : Nat} {d : TyD} (h : T t = some d) (w : World)
include hT h
theorem xq : (sizeOf t).run P w = .ok d.size w := by
 obtain ⟨⟨i, z, hi, hs, _⟩, _⟩ := hT t d h
 simp [sizeOf, typeInfo, hi, hs]
theorem Ul : ∃ z, (zeroValue t).run P w = .ok z w ∧ z.cells = d.zero.toArray := by
 obtain ⟨⟨i, z, hi, _, _, hz, hc⟩, _⟩ := hT t d h
 exact ⟨z, by simp [zeroValue, typeInfo, hi, hz], hc⟩
theorem yR {e : Nat} (hs : d.sh = .slice e) : P.underlying t = some (.slice e) := by have := (hT t d h).2.2.2; rw [hs] at this; exact this
theorem ji {k : IntKind} (hs : d.sh = .int k) : P.underlying t = some (.int k) := by have := (hT t d h).2.2.2; rw [hs] at this; exact this
theorem J6 (hs : d.sh = .bool) : P.underlying t = some .bool := by have := (hT t d h).2.2.2; rw [hs] at this; exact this
theorem Z5 (hs : d.sh = .str) : P.underlying t = some .string := by have := (hT t d h).2.2.2; rw [hs] at this; exact this
theorem kl {k e : Nat} (hs : d.sh = .map k e) : P.underlying t = some (.map k e) := by have := (hT t d h).2.2.2; rw [hs] at this; exact this
theorem KO {e : Nat} (hs : d.sh = .ptr e) : P.underlying t = some (.pointer e) := by have := (hT t d h).2.2.2; rw [hs] at this; exact this
theorem zaY {n e : Nat} (hs : d.sh = .arr n e) : P.underlying t = some (.array n e) := by have := (hT t d h).2.2.2; rw [hs] at this; exact this
theorem zce (hs : d.sh.isIface = false) : ∃ ds, P.underlying t = some ds ∧ ∀ a, ds ≠ .interface a := by
 have hk := (hT t d h).2.2.2
 generalize d.sh = sh at hk hs
 cases sh <;> simp only [zdc] at hk
 case strct => obtain ⟨f, hu, _⟩ := hk; exact ⟨_, hu, fun _ h => by cases h⟩
 case fn => obtain ⟨a, b, c, hu⟩ := hk; exact ⟨_, hu, fun _ h => by cases h⟩
 case iface => cases hs
 all_goals exact ⟨_, hk, fun _ h => by cases h⟩
theorem Vd : (isAgg t).run P w = .ok d.sh.agg w := by
 have hk := (hT t d h).2.2.2
 generalize d.sh = sh at hk
 cases sh <;> simp only [zdc] at hk
 case strct => obtain ⟨f, hu, _⟩ := hk; simp [isAgg, run_underlying hu, Sh.agg]
 case fn => obtain ⟨a, b, c, hu⟩ := hk; simp [isAgg, run_underlying hu, Sh.agg]
 case iface => obtain ⟨a, hu⟩ := hk; simp [isAgg, run_underlying hu, Sh.agg]
 all_goals simp [isAgg, run_underlying hk, Sh.agg]
end
theorem Um (a b : ByteArray) : (a.toList == b.toList) = decide (a = b) := by
 rw [Bool.eq_iff_iff, beq_iff_eq, decide_eq_true_eq, ByteArray.toList_eq, ByteArray.toList_eq]
 constructor
 ·intro h; exact ByteArray.ext (Array.ext' h)
 ·intro h; rw [h]
theorem ko (a b : Int) : (a == b) = decide (a = b) := by rw [Bool.eq_iff_iff]; simp
theorem zaZ (a b : Int) : (a != b) = decide (a ≠ b) := by rw [Bool.eq_iff_iff]; simp
def KP : BinOp → Value → Value → Option (Prop × Value)
 | op, .int k a, .int k' b =>
  match op with
  | .shl => some (0 ≤ b, .int k (k.wrap (a * 2 ^ (min b.toNat k.bits))))
  | .shr => some (0 ≤ b, .int k (a.fdiv (2 ^ (min b.toNat k.bits))))
  | .add => some (k = k', .int k (k.wrap (a + b)))
  | .sub => some (k = k', .int k (k.wrap (a - b)))
  | .mul => some (k = k', .int k (k.wrap (a * b)))
  | .quo => some (k = k' ∧ b ≠ 0, .int k (k.wrap (a.tdiv b)))
  | .rem => some (k = k' ∧ b ≠ 0, .int k (a.tmod b))
  | .and => some (k = k', .int k (bits .and k a b))
  | .or => some (k = k', .int k (bits .or k a b))
  | .xor => some (k = k', .int k (bits .xor k a b))
  | .andNot => some (k = k', .int k (bits .andNot k a b))
  | .eql => some (k = k', .bool (decide (a = b)))
  | .neq => some (k = k', .bool (decide (a ≠ b)))
  | .lss => some (k = k', .bool (decide (a < b)))
  | .leq => some (k = k', .bool (decide (a ≤ b)))
  | .gtr => some (k = k', .bool (decide (b < a)))
  | .geq => some (k = k', .bool (decide (b ≤ a)))
 | op, .string a, .string b =>
  match op with
  | .add => some (((a.size + b.size : Nat) : Int) ≤ 9223372036854775807, .string (a ++ b))
  | .eql => some (True, .bool (decide (a = b)))
  | .neq => some (True, .bool (decide (a ≠ b)))
  | .lss => some (True, .bool (Op.bytesLess a.toList b.toList))
  | _ => none
 | _, _, _ => none
theorem KQ {P : Program} {op : BinOp} {x y r : Value} {p : Prop} (h : KP op x y = some (p, r)) (hp : p) (t : Nat) (X Y : Operand) (w : World) :
  (do eqGuard op t X Y x y; binOp op t x y : Sem Value).run P w = .ok r w := by
 cases x with
 | int k a =>
  cases y with
  | int k' b =>
   have hg : (eqGuard op t X Y (.int k a) (.int k' b)).run P w = .ok () w := by unfold eqGuard; cases op <;> simp
   rw [Sem.run_bind, hg, Result.andThen_ok]
   cases op <;> simp only [KP, Option.some.injEq, Prod.mk.injEq] at h <;> obtain ⟨rfl, rfl⟩ := h
   case shl => simp [binOp, Op.shift, Int.not_lt.2 hp]
   case shr => simp [binOp, Op.shift, Int.not_lt.2 hp]
   case quo => obtain ⟨rfl, h0⟩ := hp; simp [binOp, Op.intDiv, h0]
   case rem => obtain ⟨rfl, h0⟩ := hp; simp [binOp, Op.intDiv, h0]
   all_goals (subst hp; simp [binOp, Op.intArith, Op.intCmp, Op.intBits, bits, ko, zaZ])
  | _ => simp [KP] at h
 | string a =>
  cases y with
  | string b =>
   have hg : (eqGuard op t X Y (.string a) (.string b)).run P w = .ok () w := by unfold eqGuard; cases op <;> simp
   rw [Sem.run_bind, hg, Result.andThen_ok]
   cases op <;> simp only [KP, Option.some.injEq, Prod.mk.injEq, reduceCtorEq] at h
   case add =>
    obtain ⟨rfl, rfl⟩ := h
    simp [binOp, Op.stringOp]
    have : IntKind.i64.max = 9223372036854775807 := rfl
    omega
   all_goals (obtain ⟨rfl, rfl⟩ := h; simp [binOp, Op.stringOp, Um])
  | _ => simp [KP] at h
 | _ => simp [KP] at h
def Un : BinOp → Value → Value → Option Value
 | .eql, .bool a, .bool b => some (.bool (a == b))
 | .neq, .bool a, .bool b => some (.bool (!(a == b)))
 | _, _, _ => none
theorem Uo {P : Program} {op : BinOp} {x y r : Value} (h : Un op x y = some r) (t : Nat) (ht : P.underlying t = some .bool) (X Y : Operand) (w : World) :
  (do eqGuard op t X Y x y; binOp op t x y : Sem Value).run P w = .ok r w := by
 unfold Un at h
 split at h <;> first | (injection h with h; subst h; simp [eqGuard, run_eql_bool w t _ _ ht, run_neq_bool w t _ _ ht]) | cases h
def unV : UnOp → Value → Option Value
 | .neg, .int k n => some (.int k (k.wrap (0 - n)))
 | .xor, .int k n => some (.int k (bits .xor k (if k.signed then -1 else k.max) n))
 | .not, .bool b => some (.bool !b)
 | _, _ => none
theorem za0 {P : Program} {op : UnOp} {x r : Value} (h : unV op x = some r) (w : World) : (Op.unary op x).run P w = .ok r w := by
 unfold unV at h
 split at h <;> first | (injection h with h; subst h; simp [Op.unary, Op.intArith, Op.intBits, bits]) | cases h
end
section
open Go.RowKit
def xz (X : Nat → Prop) (w w' : World) : Prop := w.heap.size ≤ w'.heap.size ∧ ∀ b, b < w.heap.size → ¬ X b → w'.heap[b]? = w.heap[b]?
theorem xz.refl (X : Nat → Prop) (w : World) : xz X w w := ⟨Nat.le_refl _, fun _ _ _ => rfl⟩
theorem xz.trans {X Y : Nat → Prop} {a b c : World} (h : xz X a b) (k : xz Y b c) (hXY : ∀ n, n < a.heap.size → Y n → X n) : xz X a c :=
 ⟨Nat.le_trans h.1 k.1, fun n hn hx => (k.2 n (Nat.lt_of_lt_of_le hn h.1) (fun hy => hx (hXY n hn hy))).trans (h.2 n hn hx)⟩
theorem xz.cell {X : Nat → Prop} {w w' : World} (h : xz X w w') {a : Addr} {v : Value} (hX : ¬ X a.block) (hc : w.cell? a = some v) : w'.cell? a = some v :=
 (World.cell?_of_block (h.2 a.block (World.block_lt_of_cell? w a hc) hX)).trans hc
theorem xz.heap {X : Nat → Prop} {w w' : World} (h : xz X w w') {b : Nat} {o : Obj} (hX : ¬ X b) (hc : w.heap[b]? = some o) : w'.heap[b]? = some o :=
 (h.2 b (Array.getElem?_eq_some_iff.1 hc).1 hX).trans hc
def noX : Nat → Prop := fun _ => False
theorem wK (b : Nat) : ¬ noX b := id
def rd (cs : List AV) (j n : Nat) (g : Bool) : AV := bif g then .agg ((cs.drop j).take n) else (cs[j]?).getD .dead
section
variable {P : Program} {T : Nat → Option TyD}
theorem Z6 {α : Type} [Inhabited α] {n : Nat} {p : Nat → α → Prop} (h : ∀ i, i < n → ∃ a, p i a) : ∃ f : Nat → α, ∀ i, i < n → p i (f i) := by
 classical
 refine ⟨fun i => if hi : i < n then (h i hi).choose else default, fun i hi => ?_⟩
 simp only [hi, dif_pos]
 exact (h i hi).choose_spec
theorem wo (b off j : Nat) : (⟨b, off, none⟩ : Addr).add j = ⟨b, off + j, none⟩ := by
 unfold Addr.add; by_cases h : j = 0 <;> simp [h]
theorem Xe {F : Nat → Prop} {β : Nat → Option Nat} {w : World} (hT : TOK P T) {t : Nat} {d : TyD} (h : T t = some d) (b off : Nat) (cs : List AV) (j : Nat) (hj : j + d.size ≤ cs.length) (h0 : 0 < d.size) (f : Nat → Value)
  (h1 : ∀ m, m < d.size → (f m).oneCell' = true) (hr : ∀ m u, m < d.size → cs[j + m]? = some u → AVR F β w u (f m)) :
  ∃ v, AVR F β w (rd cs j d.size d.sh.agg) v ∧ ∀ w', (∀ m, m < d.size → w'.cell? ⟨b, off + m, none⟩ = some (f m)) → (loadVar t ⟨b, off, none⟩).run P w' = .ok v w' := by
 by_cases hg : d.sh.agg = true
 ·refine ⟨.agg ((List.range d.size).map f).toArray, ?_, fun w' hc => ?_⟩
  ·rw [rd, hg]
   refine .agg (by simp; omega) (fun i u hu => ?_) fun i c u hc hu => ?_
   ·rw [List.getElem?_toArray, List.getElem?_map] at hu
    cases hr' : (List.range d.size)[i]? with
    | none => rw [hr'] at hu; cases hu
    | some q => rw [hr'] at hu; injection hu with hu; subst hu; exact h1 q (by have := List.mem_of_getElem? hr'; simpa using this)
   rw [List.getElem?_take] at hc
   split at hc
   ·rename_i hi
    rw [List.getElem?_drop] at hc
    rw [List.getElem?_toArray, List.getElem?_map, List.getElem?_range hi] at hu
    injection hu with hu
    subst hu
    exact hr i c hi hc
   ·cases hc
  ·have hl := run_loadCells (P := P) w' ⟨b, off, none⟩ d.size f (fun m hm => by rw [wo]; exact hc m hm)
   simp [loadVar, Vd hT h w', hg, xq hT h w', hl]
 ·have hg' : d.sh.agg = false := by simpa using hg
  refine ⟨f 0, ?_, fun w' hc => ?_⟩
  ·rw [rd, hg']
   have hlt : j < cs.length := by omega
   have := hr 0 cs[j] h0 (by simp [List.getElem?_eq_getElem hlt])
   simpa [List.getElem?_eq_getElem hlt] using this
  ·have := hc 0 h0
   rw [Nat.add_zero] at this
   simp [loadVar, Vd hT h w', hg', this]
def vV (T : Nat → Option TyD) (s : AState) (t : Nat) (a : AV) : Option (Prop × AV) :=
 match T t with
 | none => none
 | some d =>
  match a with
  | .ptr k o i j =>
   match lk s.ob o with
   | some (.row _ k' xs) => (xs[i]?).map fun cs => (k = k' ∧ j + d.size ≤ k ∧ 0 < d.size, rd cs j d.size d.sh.agg)
   | some (.var cs) => bif i == 0 then some (j + d.size ≤ cs.length ∧ 0 < d.size, rd cs j d.size d.sh.agg) else some (i * k + j + d.size ≤ cs.length ∧ 0 < d.size, rd cs (i * k + j) d.size d.sh.agg)
   | _ => none
  | .elt k xs i j => (xs[i]?).map fun cs => (j + d.size ≤ k ∧ 0 < d.size, rd cs j d.size d.sh.agg)
  | _ => none
variable {E : Env} {s : AState} {tm : Array Value} {w : World} {β : Nat → Option Nat} {X : Nat → Prop}
theorem uu (hT : TOK P T) (hs : SRel E s tm w β) {t : Nat} {a r : AV} {p : Prop} (h : vV T s t a = some (p, r)) (hp : p) (hXF : ∀ b, FF E β w b → ¬ X b) (hXo : ∀ k o i j b, a = .ptr k o i j → β o = some b → ¬ X b) {x : Value} (hx : AVR (FF E β w) β w a x) :
  ∃ v, AVR (FF E β w) β w r v ∧ ∀ w', xz X w w' → (Instr.loadAt t x).run P w' = .ok v w' := by
 unfold vV at h
 split at h
 ·cases h
 rename_i d hd
 split at h
 ·rename_i k o i j
  split at h
  ·rename_i t' k' xs hob
   cases hcs : xs[i]? with
   | none => rw [hcs] at h; cases h
   | some cs =>
    rw [hcs, Option.map_some] at h
    injection h with h
    injection h with h1 h2
    subst h1
    subst h2
    obtain ⟨rfl, hj, h0⟩ := hp
    cases hx with
    | s h => cases h
    | ptr hb =>
     rename_i b
     obtain ⟨hk, rfl | ⟨b', arr, hb', harr, hsz, hc⟩⟩ := hs.ob o _ hob
     ·simp at hcs
     rw [hb] at hb'
     injection hb' with hb'
     subst hb'
     have hlen := hk cs (List.mem_of_getElem? hcs)
     obtain ⟨f, hf⟩ := Z6 (n := d.size) (p := fun m (v : Value) => arr[i * k + (j + m)]? = some v ∧ v.oneCell' = true ∧ ∀ u, cs[j + m]? = some u → AVR (FF E β w) β w u v) (fun m hm => by
      have hlt : j + m < cs.length := by omega
      obtain ⟨v, hv, hr⟩ := hc i (j + m) cs cs[j + m] hcs (List.getElem?_eq_getElem hlt)
      exact ⟨v, hv, hr.one, fun u hu => by rw [List.getElem?_eq_getElem hlt] at hu; injection hu with hu; subst hu; exact .s hr⟩)
     obtain ⟨v, h1, h2⟩ := Xe (F := FF E β w) (β := β) (w := w) hT hd b (i * k + j) cs j (by omega) h0 f (fun m hm => (hf m hm).2.1) (fun m u hm hu => (hf m hm).2.2 u hu)
     refine ⟨v, h1, fun w' he => ?_⟩
     simp only [Instr.loadAt, Instr.sureAddr, Sem.run_bind, Sem.run_pure, Result.andThen_ok]
     refine h2 w' fun m hm => ?_
     rw [cell_of_row w' b _ arr t' (0, 0) (he.heap (hXo _ _ _ _ b rfl hb) harr), Nat.add_assoc]
     exact (hf m hm).1
  ·rename_i cs hob
   have gen : ∀ jj, i * k + j = jj → some (jj + d.size ≤ cs.length ∧ 0 < d.size, rd cs jj d.size d.sh.agg) = some (p, r) → ∃ v, AVR (FF E β w) β w r v ∧ ∀ w', xz X w w' → (Instr.loadAt t x).run P w' = .ok v w' := by
    clear h
    intro jj hjj h
    injection h with h
    injection h with h1 h2
    subst h1
    subst h2
    obtain ⟨hj, h0⟩ := hp
    cases hx with
    | s h => cases h
    | ptr hb =>
     rename_i b
     obtain ⟨b', arr, t', hb', harr, hsz, hc⟩ := hs.ob o _ hob
     rw [hb] at hb'
     injection hb' with hb'
     subst hb'
     obtain ⟨f, hf⟩ := Z6 (n := d.size) (p := fun m (v : Value) => arr[jj + m]? = some v ∧ v.oneCell' = true ∧ ∀ u, cs[jj + m]? = some u → AVR (FF E β w) β w u v) (fun m hm => by
      have hlt : jj + m < cs.length := by omega
      obtain ⟨v, hv, hr, ho⟩ := hc (jj + m) cs[jj + m] (List.getElem?_eq_getElem hlt)
      exact ⟨v, hv, ho, fun u hu => by rw [List.getElem?_eq_getElem hlt] at hu; injection hu with hu; subst hu; exact hr⟩)
     obtain ⟨v, h1, h2⟩ := Xe (F := FF E β w) (β := β) (w := w) hT hd b (i * k + j) cs jj (by omega) h0 f (fun m hm => (hf m hm).2.1) (fun m u hm hu => (hf m hm).2.2 u hu)
     refine ⟨v, h1, fun w' he => ?_⟩
     simp only [Instr.loadAt, Instr.sureAddr, Sem.run_bind, Sem.run_pure, Result.andThen_ok]
     refine h2 w' fun m hm => ?_
     rw [cell_of_row w' b _ arr t' (0, 0) (he.heap (hXo _ _ _ _ b rfl hb) harr), hjj]
     exact (hf m hm).1
   by_cases hi0 : i = 0
   ·subst hi0
    rw [zO rfl] at h
    exact gen j (by rw [Nat.zero_mul, Nat.zero_add]) h
   ·rw [zK hi0] at h
    exact gen _ rfl h
  ·cases h
 ·rename_i k xs i j
  cases hcs : xs[i]? with
  | none => rw [hcs] at h; cases h
  | some cs =>
   rw [hcs, Option.map_some] at h
   injection h with h
   injection h with h1 h2
   subst h1
   subst h2
   obtain ⟨hj, h0⟩ := hp
   cases hx with
   | s h => cases h
   | @elt _ _ _ _ b off g hF hk hcell ho hr =>
    have hlen := hk cs (List.mem_of_getElem? hcs)
    have hi : i < xs.length := by
     rcases Nat.lt_or_ge i xs.length with h | h
     ·exact h
     ·rw [List.getElem?_eq_none h] at hcs; cases hcs
    obtain ⟨v, h1, h2⟩ := Xe (F := FF E β w) (β := β) (w := w) hT hd b (off + (i * k + j)) cs j (by omega) h0 (fun m => g i (j + m)) (fun m hm => ho i (j + m) hi (by omega)) (fun m u _ hu => .s (hr i (j + m) cs u hcs hu))
    refine ⟨v, h1, fun w' he => ?_⟩
    simp only [Instr.loadAt, Instr.sureAddr, Sem.run_bind, Sem.run_pure, Result.andThen_ok]
    refine h2 w' fun m hm => ?_
    have := he.cell (hXF b hF) (hcell i (j + m) hi (by omega))
    rw [← this]
    congr 2
    omega
 ·cases h
def wL (T : Nat → Option TyD) (t f : Nat) (a : AV) : Option (Prop × AV) :=
 match T t with
 | some ⟨_, _, _, .strct fs _⟩ =>
  match fs[f]? with
  | some (off, ft) =>
   match T ft with
   | some d =>
    match a with
    | .ptr k o i j => some (0 < d.size, .ptr k o i (j + off))
    | .elt k xs i j => some (0 < d.size, .elt k xs i (j + off))
    | _ => none
   | none => none
  | none => none
 | _ => none
theorem Xf (hT : TOK P T) {t : Nat} {a b : Nat} {z : List Value} {fs : List (Nat × Nat)} {c : Bool} (h : T t = some ⟨a, b, z, .strct fs c⟩) :
  ∃ fields : Array Field, P.underlying t = some (.struct fields) ∧ fields.toList.map (fun f => (f.offset, f.type)) = fs := by
 obtain ⟨fields, h1, h2, _⟩ := (hT t _ h).2.2.2
 exact ⟨fields, h1, h2⟩
theorem XY {fields : Array Field} {fs : List (Nat × Nat)} (h : fields.toList.map (fun f => (f.offset, f.type)) = fs) {i off ft : Nat} (hi : fs[i]? = some (off, ft)) :
  ∃ f, fields[i]? = some f ∧ f.offset = off ∧ f.type = ft := by
 subst h
 rw [List.getElem?_map] at hi
 cases hf : fields.toList[i]? with
 | none => rw [hf] at hi; cases hi
 | some f => rw [hf] at hi; injection hi with hi; injection hi with h1 h2; exact ⟨f, by simpa using hf, h1, h2⟩
theorem jk (hT : TOK P T) {t f : Nat} {a r : AV} {p : Prop} (h : wL T t f a = some (p, r)) (hp : p) {F : Nat → Prop} {x : Value} (hx : AVR F β w a x) :
  ∃ v, AVR F β w r v ∧ ∀ w', xz X w w' → (Instr.fieldAt t x f).run P w' = .ok v w' := by
 unfold wL at h
 split at h
 case h_2 => cases h
 rename_i hd
 split at h
 case h_2 => cases h
 rename_i off ft hfs
 split at h
 case h_2 => cases h
 rename_i d hft
 obtain ⟨fields, hu, hfl⟩ := Xf hT hd
 obtain ⟨fl, hg, ho, hty⟩ := XY hfl hfs
 have place : ∀ (b o : Nat) (w' : World), 0 < d.size → (Instr.fieldAt t (.pointer (some ⟨b, o, none⟩)) f).run P w' = .ok (.pointer (some ⟨b, o + off, none⟩)) w' := fun b o w' h0 => by
  have h0' : d.size ≠ 0 := by omega
  simp [Instr.fieldAt, run_underlying hu, hg, Instr.sureAddr, fieldPlace, hty, xq hT hft, h0', ho, wo]
 split at h
 ·injection h with h
  injection h with h1 h2
  subst h1
  subst h2
  cases hx with
  | s h => cases h
  | ptr hb => exact ⟨_, .ptr hb, fun w' _ => by rw [place _ _ _ hp, Nat.add_assoc]⟩
 ·injection h with h
  injection h with h1 h2
  subst h1
  subst h2
  cases hx with
  | s h => cases h
  | elt g h1 h2 h3 h4 h5 => exact ⟨_, .elt g h1 h2 h3 h4 h5, fun w' _ => by rw [place _ _ _ hp, Nat.add_assoc, Nat.add_assoc]⟩
 ·cases h
def wM (T : Nat → Option TyD) (t : Nat) (a i : AV) : Option (Prop × AV) :=
 match i with
 | .v (.int _ n) =>
  match T t with
  | some ⟨_, _, _, .slice e⟩ =>
   match T e with
   | some d =>
    match a with
    | .lst k xs => some (k = d.size ∧ 0 ≤ n ∧ n < (xs.length : Int), .elt k xs n.toNat 0)
    | .lsx k xs _ => some (k = d.size ∧ 0 ≤ n ∧ n < (xs.length : Int), .elt k xs n.toNat 0)
    | .ref _ k o off len => some (k = d.size ∧ 0 ≤ n ∧ n < (len : Int), .ptr k o (off + n.toNat) 0)
    | .rfx _ k o off len _ => some (k = d.size ∧ 0 ≤ n ∧ n < (len : Int), .ptr k o (off + n.toNat) 0)
    | _ => none
   | none => none
  | some ⟨_, _, _, .arr m e⟩ =>
   match T e with
   | some d =>
    match a with
    | .ptr k o i' j => some (0 ≤ n ∧ n < (m : Int) ∧ 1 < m, .ptr k o i' (j + n.toNat * d.size))
    | .elt k xs i' j => some (0 ≤ n ∧ n < (m : Int) ∧ 1 < m, .elt k xs i' (j + n.toNat * d.size))
    | _ => none
   | none => none
  | _ => none
 | _ => none
theorem jl (hT : TOK P T) {t : Nat} {a i r : AV} {p : Prop} (h : wM T t a i = some (p, r)) (hp : p) {F : Nat → Prop} {x y : Value} (hx : AVR F β w a x) (hy : AVR F β w i y) :
  ∃ v, AVR F β w r v ∧ ∀ w', xz X w w' → (Instr.indexAt t x y).run P w' = .ok v w' := by
 unfold wM at h
 split at h
 case h_2 => cases h
 rename_i ik n
 cases hy with
 | s hy =>
 cases hy
 split at h
 ·rename_i e hd
  have hu := yR hT hd rfl
  split at h
  case h_2 => cases h
  rename_i d he
  have place : ∀ (b o len c : Nat) (w' : World), 0 ≤ n → n < (len : Int) → (Instr.indexAt t (.slice (some ⟨b, o, none⟩) len c) (.int ik n)).run P w' = .ok (.pointer (some ⟨b, o + n.toNat * d.size, none⟩)) w' := fun b o len c w' h0 h1 => by
   simp [Instr.indexAt, asIntOf, run_underlying hu, h0, h1, xq hT he, wo]
  split at h
  ·injection h with h
   injection h with h1 h2
   subst h1
   subst h2
   obtain ⟨rfl, h0, hl⟩ := hp
   cases hx with
   | s hx =>
   cases hx with
   | lst g h1 h2 h3 h4 h5 h6 h7 =>
    obtain ⟨b, off, rfl, hb, hc⟩ := h5 (by omega)
    subst h1
    exact ⟨_, .elt g hb h4 (fun i j => hc i j) h6 h7, fun w' _ => by rw [place _ _ _ _ _ h0 hl]; rfl⟩
  ·injection h with h
   injection h with h1 h2
   subst h1
   subst h2
   obtain ⟨rfl, h0, hl⟩ := hp
   cases hx with
   | s hx =>
   replace hx := hx.lsx_lst
   cases hx with
   | lst g h1 h2 h3 h4 h5 h6 h7 =>
    obtain ⟨b, off, rfl, hb, hc⟩ := h5 (by omega)
    subst h1
    exact ⟨_, .elt g hb h4 (fun i j => hc i j) h6 h7, fun w' _ => by rw [place _ _ _ _ _ h0 hl]; rfl⟩
  ·injection h with h
   injection h with h1 h2
   subst h1
   subst h2
   obtain ⟨rfl, h0, hl⟩ := hp
   cases hx with
   | s hx => cases hx
   | nil => omega
   | empty => omega
   | ref h1 h2 h3 h4 h5 =>
    subst h4
    exact ⟨_, .ptr h1, fun w' _ => by rw [place _ _ _ _ _ h0 hl, Nat.add_mul]; rfl⟩
  ·injection h with h
   injection h with h1 h2
   subst h1
   subst h2
   obtain ⟨rfl, h0, hl⟩ := hp
   replace hx := hx.rfx_ref
   cases hx with
   | s hx => cases hx
   | nil => omega
   | empty => omega
   | ref h1 h2 h3 h4 h5 =>
    subst h4
    exact ⟨_, .ptr h1, fun w' _ => by rw [place _ _ _ _ _ h0 hl, Nat.add_mul]; rfl⟩
  ·cases h
 ·rename_i m e hd
  have hu := zaY hT hd rfl
  split at h
  case h_2 => cases h
  rename_i d he
  have place : ∀ (b o : Nat) (w' : World), 0 ≤ n → n < (m : Int) → 1 < m → (Instr.indexAt t (.pointer (some ⟨b, o, none⟩)) (.int ik n)).run P w' = .ok (.pointer (some ⟨b, o + n.toNat * d.size, none⟩)) w' := fun b o w' h0 h1 hm => by
   simp [Instr.indexAt, asIntOf, run_underlying hu, h0, h1, xq hT he, wo, Instr.sureAddr]
  split at h
  ·injection h with h
   injection h with h1 h2
   subst h1
   subst h2
   obtain ⟨h0, hl, hm⟩ := hp
   cases hx with
   | s h => cases h
   | ptr hb => exact ⟨_, .ptr hb, fun w' _ => by rw [place _ _ _ h0 hl hm, Nat.add_assoc]⟩
  ·injection h with h
   injection h with h1 h2
   subst h1
   subst h2
   obtain ⟨h0, hl, hm⟩ := hp
   cases hx with
   | s h => cases h
   | elt g h1 h2 h3 h4 h5 => exact ⟨_, .elt g h1 h2 h3 h4 h5, fun w' _ => by rw [place _ _ _ h0 hl hm, Nat.add_assoc, Nat.add_assoc]⟩
  ·cases h
 ·cases h
end
end
section
open Go.RowKit
section
variable {P : Program} {T : Nat → Option TyD} {E : Env} {s : AState} {tm : Array Value} {w : World} {β : Nat → Option Nat} {F : Nat → Prop} {X : Nat → Prop}
def wN (o : Option AV) (z : Int) : Option Int :=
 match o with
 | none => some z
 | some (.v (.int _ n)) => some n
 | _ => none
theorem xe (b : Bool) (len cap : Nat) {lo hi : Option AV} {x y : Option Value} {l h : Int} (hl : wN lo 0 = some l) (hh : wN hi len = some h)
  (hx : ∀ a, lo = some a → ∃ v, x = some v ∧ AVR F β w a v) (hx' : lo = none → x = none) (hy : ∀ a, hi = some a → ∃ v, y = some v ∧ AVR F β w a v) (hy' : hi = none → y = none)
  (h0 : 0 ≤ l) (h1 : l ≤ h) (h2 : h ≤ (cap : Int)) (_ : len ≤ cap) (w' : World) :
  (Instr.sliceBounds b len cap x y none).run P w' = .ok (l.toNat, h.toNat, cap) w' := by
 have hX : (lo = none ∧ x = none ∧ l = 0) ∨ ∃ k, x = some (.int k l) := by
  cases lo with
  | none => simp only [wN, Option.some.injEq] at hl; exact .inl ⟨rfl, hx' rfl, hl.symm⟩
  | some a =>
   obtain ⟨v, rfl, hv⟩ := hx a rfl
   unfold wN at hl
   split at hl
   ·cases ‹some a = none›
   ·rename_i k n hn
    injection hn with hn
    subst hn
    injection hl with hl
    subst hl
    cases hv with | s hv => cases hv; exact .inr ⟨k, rfl⟩
   ·cases hl
 have hY : (hi = none ∧ y = none ∧ h = len) ∨ ∃ k, y = some (.int k h) := by
  cases hi with
  | none => simp only [wN, Option.some.injEq] at hh; exact .inl ⟨rfl, hy' rfl, hh.symm⟩
  | some a =>
   obtain ⟨v, rfl, hv⟩ := hy a rfl
   unfold wN at hh
   split at hh
   ·cases ‹some a = none›
   ·rename_i k n hn
    injection hn with hn
    subst hn
    injection hh with hh
    subst hh
    cases hv with | s hv => cases hv; exact .inr ⟨k, rfl⟩
   ·cases hh
 rcases hX with ⟨_, rfl, rfl⟩ | ⟨k, rfl⟩ <;> rcases hY with ⟨_, rfl, rfl⟩ | ⟨k', rfl⟩ <;> simp [Instr.sliceBounds, Instr.sliceBound, asIntOf] <;> (repeat' split) <;> simp_all <;> omega
def j7 (T : Nat → Option TyD) (t : Nat) (a : AV) (lo hi : Option AV) : Option (Prop × AV) :=
 match T t with
 | none => none
 | some d =>
  match a with
  | .v (.string x) =>
   match d.sh, wN lo 0, wN hi x.size with
   | .str, some l, some h => some (0 ≤ l ∧ l ≤ h ∧ h ≤ (x.size : Int), .v (.string (x.extract l.toNat h.toNat)))
   | _, _, _ => none
  | .lst k xs =>
   match d.sh, wN lo 0, wN hi xs.length with
   | .slice e, some l, some h =>
    match T e with
    | some de => some (k = de.size ∧ 0 ≤ l ∧ l ≤ h ∧ h ≤ (xs.length : Int), .lst k ((xs.take h.toNat).drop l.toNat))
    | none => none
   | _, _, _ => none
  | .lsx k xs ys =>
   match d.sh, wN lo 0, wN hi xs.length with
   | .slice e, some l, some h =>
    match T e with
    | some de => some (k = de.size ∧ 0 ≤ l ∧ l ≤ h ∧ h ≤ ((xs ++ ys).length : Int), .lsx k (((xs ++ ys).take h.toNat).drop l.toNat) ((xs ++ ys).drop h.toNat))
    | none => none
   | _, _, _ => none
  | .ref te k o off len =>
   match d.sh, wN lo 0, wN hi len with
   | .slice e, some l, some h =>
    match T e with
    | some de => some (k = de.size ∧ 0 ≤ l ∧ l ≤ h ∧ h ≤ (len : Int), .ref te k o (off + l.toNat) (h.toNat - l.toNat))
    | none => none
   | _, _, _ => none
  | .rfx te k o off len ext =>
   match d.sh, wN lo 0, wN hi len with
   | .slice e, some l, some h =>
    match T e with
    | some de => some (k = de.size ∧ 0 ≤ l ∧ l ≤ h ∧ h ≤ ((len + ext : Nat) : Int) ∧ l < ((len + ext : Nat) : Int), .rfx te k o (off + l.toNat) (h.toNat - l.toNat) (len + ext - h.toNat))
    | none => none
   | _, _, _ => none
  | .v (.slice none 0 0) =>
   match d.sh, wN lo 0, wN hi 0 with
   | .slice e, some l, some h =>
    match T e with
    | some _ => some (l = 0 ∧ h = 0, .v (.slice none 0 0))
    | none => none
   | _, _, _ => none
  | _ => none
theorem j8 {α : Type} (zs : List α) {l h : Nat} (h1 : l ≤ h) (h2 : h ≤ zs.length) : (zs.take h).drop l ++ zs.drop h = zs.drop l := by
 have e := List.drop_append_of_le_length (l₁ := zs.take h) (l₂ := zs.drop h) (i := l) (by rw [List.length_take]; omega)
 rw [← e, List.take_append_drop]
theorem za1 {F : Nat → Prop} {k : Nat} {xs : List (List AV)} {A : Option Addr} {n c l h : Nat} (hv : SVR F w (.lst k xs) (.slice A n c)) (h1 : l ≤ h) (h2 : h ≤ xs.length) :
  SVR F w (.lst k ((xs.take h).drop l)) (.slice (if c = l then A else A.map (·.add (l * k))) (h - l) (c - l)) := by
 cases hv with
 | lst g g1 g2 g3 g4 g5 g6 g7 =>
 subst g1
 refine .lst (fun i j => g (i + l) j) ?_ (by omega) (by omega) (fun cs hcs => g4 cs (List.mem_of_mem_take (List.mem_of_mem_drop hcs))) (fun hn => ?_) (fun i j hi hj => g6 _ _ (by omega) hj) fun i j cs u hc hu => ?_
 ·rw [List.length_drop, List.length_take]; omega
 ·obtain ⟨b, off, rfl, hF, hcell⟩ := g5 (by omega)
  rw [if_neg (by omega)]
  refine ⟨b, off + l * k, by simp [wo], hF, fun i j hi hj => ?_⟩
  rw [← hcell (i + l) j (by omega) hj]
  congr 2
  rw [Nat.add_mul]
  omega
 ·rw [List.getElem?_drop, List.getElem?_take] at hc
  split at hc
  ·exact g7 (i + l) j cs u (by rw [← hc, Nat.add_comm]) hu
  ·cases hc
theorem Ve (hT : TOK P T) {t : Nat} {a r : AV} {lo hi : Option AV} {p : Prop} (hh : j7 T t a lo hi = some (p, r)) (hp : p) {v : Value} (hv : AVR F β w a v) {x y : Option Value}
  (hx : ∀ a, lo = some a → ∃ v, x = some v ∧ AVR F β w a v) (hx' : lo = none → x = none) (hy : ∀ a, hi = some a → ∃ v, y = some v ∧ AVR F β w a v) (hy' : hi = none → y = none) :
  ∃ u, AVR F β w r u ∧ ∀ w', xz X w w' → (Instr.sliceAt t v x y none).run P w' = .ok u w' := by
 unfold j7 at hh
 split at hh
 ·cases hh
 rename_i d hd
 split at hh
 ·split at hh
  ·rename_i st _ _ l h hsh hl hh'
   have hu := Z5 hT hd hsh
   injection hh with hh
   injection hh with h1 h2
   subst h1
   subst h2
   obtain ⟨h0, h1, h2⟩ := hp
   cases hv with
   | s hv =>
   cases hv with
   | v hv =>
   refine ⟨_, .s (.v rfl), fun w' _ => ?_⟩
   have hb := xe (P := P) false _ _ hl hh' hx hx' hy hy' h0 h1 h2 (Nat.le_refl _) w'
   simp [Instr.sliceAt, Instr.slice, run_underlying hu, hb]
  ·cases hh
 ·split at hh
  ·rename_i k xs _ _ _ e l h hsh hl hh'
   have hu := yR hT hd hsh
   split at hh
   case h_2 => cases hh
   rename_i de he
   injection hh with hh
   injection hh with h1 h2
   subst h1
   subst h2
   obtain ⟨hk, h0, h1, h2⟩ := hp
   cases hv with
   | s hv =>
   cases hv with
   | @lst _ _ A n c g g1 g2 g3 g4 g5 g6 g7 =>
   subst g1
   have hb : ∀ w', _ := fun w' => xe (P := P) true xs.length c hl hh' hx hx' hy hy' h0 h1 (by omega) g2 w'
   refine ⟨.slice (if c = l.toNat then A else A.map (·.add (l.toNat * de.size))) (h.toNat - l.toNat) (c - l.toNat), ?_, fun w' _ => ?_⟩
   ·refine .s (.lst (fun i j => g (i + l.toNat) j) ?_ (by omega) (by omega) (fun cs hcs => g4 cs (List.mem_of_mem_take (List.mem_of_mem_drop hcs))) (fun hn => ?_) (fun i j hi hj => g6 _ _ (by omega) hj) fun i j cs u hc hu => ?_)
    ·rw [List.length_drop, List.length_take]; omega
    ·obtain ⟨b, off, rfl, hF, hcell⟩ := g5 (by omega)
     rw [if_neg (by omega)]
     refine ⟨b, off + l.toNat * de.size, by simp [wo], hF, fun i j hi hj => ?_⟩
     rw [← hcell (i + l.toNat) j (by omega) hj]
     congr 2
     rw [Nat.add_mul, hk]
     omega
    ·rw [List.getElem?_drop, List.getElem?_take] at hc
     split at hc
     ·exact g7 (i + l.toNat) j cs u (by rw [← hc, Nat.add_comm]) hu
     ·cases hc
   ·simp [Instr.sliceAt, Instr.slice, run_underlying hu, hb w', xq hT he]
  ·cases hh
 ·split at hh
  ·rename_i k xs ys _ _ _ e l h hsh hl hh'
   have hu := yR hT hd hsh
   split at hh
   case h_2 => cases hh
   rename_i de he
   injection hh with hh
   injection hh with h1 h2
   subst h1
   subst h2
   obtain ⟨hk, h0, h1, h2⟩ := hp
   rw [List.length_append] at h2
   cases hv with
   | s hv =>
   cases hv with
   | @lsx _ _ _ A c hv =>
   have hcap : xs.length + ys.length ≤ c := by cases hv; omega
   have hb : ∀ w', _ := fun w' => xe (P := P) true xs.length c hl hh' hx hx' hy hy' h0 h1 (by omega) (by omega) w'
   have hq := za1 (w := w) (l := l.toNat) (h := (xs ++ ys).length) hv (by rw [List.length_append]; omega) (Nat.le_refl _)
   have hn1 : (((xs ++ ys).take h.toNat).drop l.toNat).length = h.toNat - l.toNat := by rw [List.length_drop, List.length_take, List.length_append]; omega
   refine ⟨.slice (if c = l.toNat then A else A.map (·.add (l.toNat * de.size))) (h.toNat - l.toNat) (c - l.toNat), ?_, fun w' _ => ?_⟩
   ·rw [← hn1]
    refine .s (.lsx ?_)
    have e1 : ((xs ++ ys).take h.toNat).drop l.toNat ++ (xs ++ ys).drop h.toNat = (xs ++ ys).drop l.toNat := j8 _ (by omega) (by rw [List.length_append]; omega)
    have e2 : (((xs ++ ys).take h.toNat).drop l.toNat).length + ((xs ++ ys).drop h.toNat).length = (xs ++ ys).length - l.toNat := by rw [hn1, List.length_drop, List.length_append]; omega
    rw [e1, e2, ← hk]
    rw [List.take_of_length_le (Nat.le_refl _)] at hq
    exact hq
   ·simp [Instr.sliceAt, Instr.slice, run_underlying hu, hb w', xq hT he]
  ·cases hh
 ·split at hh
  ·rename_i te k o off len _ _ _ e l h hsh hl hh'
   have hu := yR hT hd hsh
   split at hh
   case h_2 => cases hh
   rename_i de he
   injection hh with hh
   injection hh with h1 h2
   subst h1
   subst h2
   obtain ⟨hk, h0, h1, h2⟩ := hp
   cases hv with
   | s hv => cases hv
   | nil =>
    have hl0 : l = 0 := by omega
    have hh0 : h = 0 := by omega
    subst hl0
    subst hh0
    refine ⟨.slice none 0 0, .nil, fun w' _ => ?_⟩
    have hb := xe (P := P) true 0 0 hl hh' hx hx' hy hy' h0 h1 (by omega) (Nat.le_refl _) w'
    simp [Instr.sliceAt, Instr.slice, run_underlying hu, hb, xq hT he]
   | @empty _ _ _ _ A hoff =>
    have hl0 : l = 0 := by omega
    have hh0 : h = 0 := by omega
    subst hl0
    subst hh0
    refine ⟨.slice (some A) 0 0, .empty (by omega), fun w' _ => ?_⟩
    have hb := xe (P := P) true 0 0 hl hh' hx hx' hy hy' h0 h1 (by omega) (Nat.le_refl _) w'
    simp [Instr.sliceAt, Instr.slice, run_underlying hu, hb, xq hT he]
   | @ref _ _ _ _ _ c b A g1 g2 g3 g4 g5 =>
    subst g4
    have hb : ∀ w', _ := fun w' => xe (P := P) true len c hl hh' hx hx' hy hy' h0 h1 (by omega) g2 w'
    refine ⟨.slice (if c = l.toNat then some ⟨b, off * k, none⟩ else some ⟨b, (off + l.toNat) * k, none⟩) (h.toNat - l.toNat) (c - l.toNat), ?_, fun w' _ => ?_⟩
    ·by_cases hc : c = l.toNat
     ·by_cases hl0 : l.toNat = 0
      ·rw [if_pos hc, hl0, Nat.add_zero, Nat.sub_zero, Nat.sub_zero]
       exact .ref g1 (by omega) g3 rfl g5
      ·rw [if_pos hc, show h.toNat - l.toNat = 0 by omega, show c - l.toNat = 0 by omega]
       exact .empty (by omega)
     ·rw [if_neg hc]
      exact .ref g1 (by omega) (by omega) rfl (by rw [show off + l.toNat + (c - l.toNat) = off + c by omega]; exact g5)
    ·simp only [Instr.sliceAt, Instr.slice, run_underlying hu, hb w', xq hT he, Sem.run_bind, Result.andThen_ok, Sem.run_pure]
     by_cases hc : c = l.toNat
     ·simp [hc]
     ·simp [hc, wo, Nat.add_mul, hk]
  ·cases hh
 ·split at hh
  ·rename_i te k o off len ext _ _ _ e l h hsh hl hh'
   have hu := yR hT hd hsh
   split at hh
   case h_2 => cases hh
   rename_i de he
   injection hh with hh
   injection hh with h1 h2
   subst h1
   subst h2
   obtain ⟨hk, h0, h1, h2, h3⟩ := hp
   cases hv with
   | s hv => cases hv
   | @rfx _ _ _ _ _ _ c A hv =>
   generalize hz : len + ext = z at hv h2 h3
   generalize hA : (Value.slice (some A) z c) = u at hv
   cases hv with
   | s hv => cases hv
   | nil => cases hA
   | empty => injection hA with g1 g2 g3; omega
   | @ref _ _ _ _ _ c' b A' g1 g2 g3 g4 g5 =>
    injection hA with q1 q2 q3
    subst q3
    rw [g4] at q1
    injection q1 with q1
    subst q1
    have hb : ∀ w', _ := fun w' => xe (P := P) true len c hl hh' hx hx' hy hy' h0 h1 (by omega) (by omega) w'
    have hlc : c ≠ l.toNat := by omega
    refine ⟨.slice (some ⟨b, (off + l.toNat) * k, none⟩) (h.toNat - l.toNat) (c - l.toNat), ?_, fun w' _ => ?_⟩
    ·refine .rfx (.ref g1 (by omega) (by omega) rfl ?_)
     rw [show off + l.toNat + (c - l.toNat) = off + c by omega]; exact g5
    ·simp [Instr.sliceAt, Instr.slice, run_underlying hu, hb w', xq hT he, hlc, wo, Nat.add_mul, hk]
  ·cases hh
 ·split at hh
  ·rename_i _ _ _ e l h hsh hl hh'
   have hu := yR hT hd hsh
   split at hh
   case h_2 => cases hh
   rename_i de he
   injection hh with hh
   injection hh with h1 h2
   subst h1
   subst h2
   obtain ⟨rfl, rfl⟩ := hp
   cases hv with
   | s hv =>
   cases hv with
   | v hv =>
   refine ⟨_, .s (.v rfl), fun w' _ => ?_⟩
   have hb := xe (P := P) true 0 0 hl hh' hx hx' hy hy' (Int.le_refl _) (Int.le_refl _) (by omega) (Nat.le_refl _) w'
   simp [Instr.sliceAt, Instr.slice, run_underlying hu, hb, xq hT he]
  ·cases hh
 ·cases hh
def KR (T : Nat → Option TyD) (s : AState) (t : Nat) (a : AV) : Option (Prop × AV) :=
 match T t with
 | none => none
 | some d =>
  match d.sh, a with
  | .slice _, .lst _ xs => some (True, .v (.int .i64 xs.length))
  | .slice _, .lsx _ xs _ => some (True, .v (.int .i64 xs.length))
  | .slice _, .ref _ _ _ _ len => some (True, .v (.int .i64 len))
  | .slice _, .rfx _ _ _ _ len _ => some (True, .v (.int .i64 len))
  | .slice _, .slen len => some (True, .v (.int .i64 len))
  | .slice _, .v (.slice none 0 0) => some (True, .v (.int .i64 0))
  | .str, .v (.string x) => some (True, .v (.int .i64 x.size))
  | .map _ _, .map o =>
   match lk s.ob o with
   | some (.mapo es) => some (True, .v (.int .i64 es.length))
   | _ => none
  | .map _ _, .v (.map none) => some (True, .v (.int .i64 0))
  | .arr n _, _ => some (True, .v (.int .i64 n))
  | _, _ => none
theorem yu {w : World} {b : Nat} {o : Obj} (h : w.heap[b]? = some o) (hc : ∀ c t f, o ≠ .cells c t f) : (getObj b).run P w = .ok o w := by
 cases o <;> first | exact absurd rfl (hc _ _ _) | simp [getObj, Sem.run, h]
theorem KS (hT : TOK P T) (hs : SRel E s tm w β) {t : Nat} {a r : AV} {p : Prop} (hh : KR T s t a = some (p, r)) (hXo : ∀ o b, a = .map o → β o = some b → ¬ X b) {v : Value} (hv : AVR (FF E β w) β w a v) (ty : Nat) :
  ∃ u, AVR (FF E β w) β w r u ∧ ∀ w', xz X w w' → (Builtin.len_ #[t] ty #[v]).run P w' = .ok u w' := by
 unfold KR at hh
 split at hh
 ·cases hh
 rename_i d hd
 split at hh
 ·rename_i hsh
  have hu := yR hT hd hsh
  injection hh with hh
  injection hh with h1 h2
  subst h2
  cases hv with
  | s hv =>
  cases hv with
  | lst g g1 => subst g1; exact ⟨_, .s (.v rfl), fun w' _ => by simp [Builtin.len_, run_underlying hu, goInt]⟩
 ·rename_i hsh
  have hu := yR hT hd hsh
  injection hh with hh
  injection hh with h1 h2
  subst h2
  cases hv with
  | s hv =>
  replace hv := hv.lsx_lst
  cases hv with
  | lst g g1 => subst g1; exact ⟨_, .s (.v rfl), fun w' _ => by simp [Builtin.len_, run_underlying hu, goInt]⟩
 ·rename_i hsh
  have hu := yR hT hd hsh
  injection hh with hh
  injection hh with h1 h2
  subst h2
  cases hv with
  | s hv => cases hv
  | nil => exact ⟨_, .s (.v rfl), fun w' _ => by simp [Builtin.len_, run_underlying hu, goInt]⟩
  | empty => exact ⟨_, .s (.v rfl), fun w' _ => by simp [Builtin.len_, run_underlying hu, goInt]⟩
  | ref => exact ⟨_, .s (.v rfl), fun w' _ => by simp [Builtin.len_, run_underlying hu, goInt]⟩
 ·rename_i hsh
  have hu := yR hT hd hsh
  injection hh with hh
  injection hh with h1 h2
  subst h2
  replace hv := hv.rfx_ref
  cases hv with
  | s hv => cases hv
  | nil => exact ⟨_, .s (.v rfl), fun w' _ => by simp [Builtin.len_, run_underlying hu, goInt]⟩
  | empty => exact ⟨_, .s (.v rfl), fun w' _ => by simp [Builtin.len_, run_underlying hu, goInt]⟩
  | ref => exact ⟨_, .s (.v rfl), fun w' _ => by simp [Builtin.len_, run_underlying hu, goInt]⟩
 ·rename_i hsh
  have hu := yR hT hd hsh
  injection hh with hh
  injection hh with h1 h2
  subst h2
  cases hv with
  | s hv => cases hv
  | slen => exact ⟨_, .s (.v rfl), fun w' _ => by simp [Builtin.len_, run_underlying hu, goInt]⟩
 ·rename_i hsh
  have hu := yR hT hd hsh
  injection hh with hh
  injection hh with h1 h2
  subst h2
  cases hv with
  | s hv =>
  cases hv with
  | v hv => exact ⟨_, .s (.v rfl), fun w' _ => by simp [Builtin.len_, run_underlying hu, goInt]⟩
 ·rename_i hsh
  have hu := Z5 hT hd hsh
  injection hh with hh
  injection hh with h1 h2
  subst h2
  cases hv with
  | s hv =>
  cases hv with
  | v hv => exact ⟨_, .s (.v rfl), fun w' _ => by simp [Builtin.len_, run_underlying hu, goInt]⟩
 ·rename_i hsh
  have hu := kl hT hd hsh
  split at hh
  ·rename_i es hob
   injection hh with hh
   injection hh with h1 h2
   subst h2
   cases hv with
   | s hv => cases hv
   | map hb =>
    obtain ⟨b', arr, clk, hb', harr, hsz, _⟩ := hs.ob _ _ hob
    rw [hb] at hb'
    injection hb' with hb'
    subst hb'
    refine ⟨_, .s (.v rfl), fun w' he => ?_⟩
    have := yu (P := P) (he.heap (hXo _ _ rfl hb) harr) (fun _ _ _ h => by cases h)
    simp [Builtin.len_, run_underlying hu, goInt, this, hsz]
  ·cases hh
 ·rename_i hsh
  have hu := kl hT hd hsh
  injection hh with hh
  injection hh with h1 h2
  subst h2
  cases hv with
  | s hv =>
  cases hv with
  | v hv => exact ⟨_, .s (.v rfl), fun w' _ => by simp [Builtin.len_, run_underlying hu, goInt]⟩
 ·rename_i hsh
  have hu := zaY hT hd hsh
  injection hh with hh
  injection hh with h1 h2
  subst h2
  exact ⟨_, .s (.v rfl), fun w' _ => by simp [Builtin.len_, run_underlying hu, goInt]⟩
 ·cases hh
def jB (xs : List (List AV)) : List Int := xs.map fun cs => match cs with | [.v (.int _ n)] => n | _ => 0
def zdd (xs : List (List AV)) : Prop := ∀ cs ∈ xs, ∃ n, cs = [.v (.int .u8 n)]
def XZ (T : Nat → Option TyD) (src dst : Nat) (a : AV) : Option (Prop × AV) :=
 match T src, T dst with
 | some ds, some dd =>
  match ds.sh, dd.sh, a with
  | .int _, .int k, .v (.int _ n) => some (True, .v (.int k (k.wrap n)))
  | .str, .str, .v (.string x) => some (True, .v (.string x))
  | .slice e, .str, .lst 1 xs =>
   match T e with
   | some ⟨_, _, _, .int .u8⟩ => some (zdd xs, .v (.string (strOfNums (jB xs))))
   | _ => none
  | _, _, _ => none
 | _, _ => none
theorem Uq (hT : TOK P T) {src dst : Nat} {a r : AV} {p : Prop} (hh : XZ T src dst a = some (p, r)) (hp : p) (hXF : ∀ b, F b → ¬ X b) {v : Value} (hv : AVR F β w a v) :
  ∃ u, AVR F β w r u ∧ ∀ w', xz X w w' → (convert src dst v).run P w' = .ok u w' := by
 unfold XZ at hh
 split at hh
 case h_2 => cases hh
 rename_i ds dd hds hdd
 split at hh
 ·rename_i k0 k _ n h1 h2
  injection hh with hh
  injection hh with h3 h4
  subst h4
  have hu1 := ji hT hds h1
  have hu2 := ji hT hdd h2
  cases hv with
  | s hv =>
  cases hv with
  | v hv => exact ⟨_, .s (.v rfl), fun w' _ => by simp [convert, run_underlying hu1, run_underlying hu2, Conv.intToInt]⟩
 ·rename_i x h1 h2
  injection hh with hh
  injection hh with h3 h4
  subst h4
  have hu1 := Z5 hT hds h1
  have hu2 := Z5 hT hdd h2
  cases hv with
  | s hv =>
  cases hv with
  | v hv => exact ⟨_, .s (.v rfl), fun w' _ => by simp [convert, run_underlying hu1, run_underlying hu2]⟩
 ·rename_i e xs h1 h2
  split at hh
  ·rename_i he
   injection hh with hh
   injection hh with h3 h4
   subst h3
   subst h4
   have hu1 := yR hT hds h1
   have hu2 := Z5 hT hdd h2
   have hue := ji hT he rfl
   cases hv with
   | s hv =>
   cases hv with
   | @lst _ _ A n c g g1 g2 g3 g4 g5 g6 g7 =>
   subst g1
   refine ⟨_, .s (.v rfl), fun w' he' => ?_⟩
   rcases Nat.eq_zero_or_pos xs.length with h0 | h0
   ·have hz : xs = [] := List.eq_nil_of_length_eq_zero h0
    subst hz
    have hr : Row w' 0 A (([] : List Int).map (Value.int .u8)) := fun h => by simp at h
    simpa [jB] using hr.conv (P := P) src e dst hu1 hue hu2 0 c rfl
   ·obtain ⟨b, off, rfl, hb, hc⟩ := g5 h0
    refine run_convert_bytes_arg w' src e hu1 hue b off xs.length c (jB xs) (by simp [jB]) (fun j hj => ?_) dst hu2
    have hjl : j < xs.length := by simpa [jB] using hj
    have hx := g7 j 0 xs[j]
    obtain ⟨m, hm⟩ := hp xs[j] (List.getElem_mem hjl)
    have hx := hx (.v (.int .u8 m)) (List.getElem?_eq_getElem hjl) (by rw [hm]; rfl)
    have hcell := he'.cell (hXF b hb) (hc j 0 hjl (by decide))
    rw [Nat.mul_one, Nat.add_zero] at hcell
    rw [hcell]
    cases hx' : g j 0 <;> rw [hx'] at hx <;> cases hx
    simp [jB, List.getElem?_eq_getElem hjl, hm]
  ·cases hh
 ·cases hh
def j9 (T : Nat → Option TyD) (t f : Nat) (a : AV) : Option (Prop × AV) :=
 match T t with
 | some ⟨_, _, _, .strct fs _⟩ =>
  match fs[f]? with
  | some (off, ft) =>
   match T ft with
   | some d =>
    match a with
    | .agg cs => some (off + d.size ≤ cs.length ∧ 0 < d.size, rd cs off d.size d.sh.agg)
    | _ => none
   | none => none
  | none => none
 | _ => none
theorem Ur (hT : TOK P T) {t : Nat} {d : TyD} (h : T t = some d) {cs : List AV} {vs : Array Value} (hl : vs.size = cs.length) (h1 : ∀ (i : Nat) (u : Value), vs[i]? = some u → u.oneCell' = true) (hr : ∀ (i : Nat) (c : AV) (u : Value), cs[i]? = some c → vs[i]? = some u → AVR F β w c u)
  (off : Nat) (ho : off + d.size ≤ cs.length) (h0 : 0 < d.size) : ∃ u, AVR F β w (rd cs off d.size d.sh.agg) u ∧ ∀ w', (part t vs off).run P w' = .ok u w' := by
 by_cases hg : d.sh.agg = true
 ·refine ⟨.agg (vs.extract off (off + d.size)), ?_, fun w' => by simp [part, Vd hT h w', hg, xq hT h w']⟩
  rw [rd, hg]
  refine .agg (by simp; omega) (fun i u hu => ?_) fun i c u hc hu => ?_
  ·rw [Array.getElem?_extract] at hu
   split at hu
   ·exact h1 _ u hu
   ·cases hu
  rw [List.getElem?_take] at hc
  split at hc
  ·rw [List.getElem?_drop] at hc
   rw [Array.getElem?_extract] at hu
   split at hu
   ·exact hr _ c u hc hu
   ·cases hu
  ·cases hc
 ·have hg' : d.sh.agg = false := by simpa using hg
  have hlt : off < vs.size := by omega
  refine ⟨vs[off], ?_, fun w' => by simp [part, Vd hT h w', hg', Array.getElem?_eq_getElem hlt]⟩
  rw [rd, hg']
  have hlt' : off < cs.length := by omega
  simpa [List.getElem?_eq_getElem hlt'] using hr off _ _ (List.getElem?_eq_getElem hlt') (Array.getElem?_eq_getElem hlt)
theorem x5 {cs : List AV} {v : Value} (hv : AVR F β w (.agg cs) v) : ∃ vs, v = .agg vs ∧ vs.size = cs.length ∧ (∀ (i : Nat) (u : Value), vs[i]? = some u → u.oneCell' = true) ∧ ∀ (i : Nat) (c : AV) (u : Value), cs[i]? = some c → vs[i]? = some u → AVR F β w c u := by
 cases hv with
 | s h => cases h
 | agg h1 h2 h3 => exact ⟨_, rfl, h1, h2, h3⟩
theorem Vf (hT : TOK P T) {t f : Nat} {a r : AV} {p : Prop} (hh : j9 T t f a = some (p, r)) (hp : p) {v : Value} (hv : AVR F β w a v) :
  ∃ u, AVR F β w r u ∧ ∀ w', xz X w w' → (Instr.field t v f).run P w' = .ok u w' := by
 unfold j9 at hh
 split at hh
 case h_2 => cases hh
 rename_i hd
 split at hh
 case h_2 => cases hh
 rename_i off ft hfs
 split at hh
 case h_2 => cases hh
 rename_i d hft
 obtain ⟨fields, hu, hfl⟩ := Xf hT hd
 obtain ⟨fl, hg, rfl, rfl⟩ := XY hfl hfs
 split at hh
 ·injection hh with hh
  injection hh with h1 h2
  subst h1
  subst h2
  obtain ⟨vs, rfl, hl, ho, hr⟩ := x5 hv
  obtain ⟨u, h1, h2⟩ := Ur hT hft hl ho hr fl.offset hp.1 hp.2
  exact ⟨u, h1, fun w' _ => by simp [Instr.field, run_underlying hu, hg, asAgg, h2]⟩
 ·cases hh
def bAt (x : ByteArray) (n : Nat) : Int := (((x.data.toList)[n]?).getD 0).toNat
def Za (T : Nat → Option TyD) (t : Nat) (a i : AV) : Option (Prop × AV) :=
 match i with
 | .v (.int _ n) =>
  match T t with
  | some ⟨_, _, _, .str⟩ =>
   match a with
   | .v (.string x) => some (0 ≤ n ∧ n < (x.size : Int), .v (.int .u8 (bAt x n.toNat)))
   | _ => none
  | some ⟨_, _, _, .arr m e⟩ =>
   match T e, a with
   | some d, .agg cs => some (0 ≤ n ∧ n < (m : Int) ∧ n.toNat * d.size + d.size ≤ cs.length ∧ 0 < d.size, rd cs (n.toNat * d.size) d.size d.sh.agg)
   | _, _ => none
  | _ => none
 | _ => none
theorem Vg (hT : TOK P T) {t : Nat} {a i r : AV} {p : Prop} (hh : Za T t a i = some (p, r)) (hp : p) {v y : Value} (hv : AVR F β w a v) (hy : AVR F β w i y) :
  ∃ u, AVR F β w r u ∧ ∀ w', xz X w w' → (Instr.index t v y).run P w' = .ok u w' := by
 unfold Za at hh
 split at hh
 case h_2 => cases hh
 rename_i ik n
 cases hy with
 | s hy =>
 cases hy
 split at hh
 ·rename_i hd
  have hu := Z5 hT hd rfl
  split at hh
  ·rename_i x
   injection hh with hh
   injection hh with h1 h2
   subst h1
   subst h2
   obtain ⟨h0, h1⟩ := hp
   cases hv with
   | s hv =>
   cases hv with
   | v hv =>
   refine ⟨_, .s (.v rfl), fun w' _ => ?_⟩
   have hlt : n.toNat < x.size := by omega
   have hlt' : n.toNat < x.data.toList.length := by simpa using hlt
   have hb : x[n.toNat]? = some (x.data.toList[n.toNat]) := by
    rw [getElem?_pos x n.toNat hlt]; rfl
   simp [Instr.index, asIntOf, run_underlying hu, h0, hb, bAt, List.getElem?_eq_getElem hlt']
  ·cases hh
 ·rename_i m e hd
  have hu := zaY hT hd rfl
  split at hh
  ·rename_i d cs he
   injection hh with hh
   injection hh with h1 h2
   subst h1
   subst h2
   obtain ⟨h0, h1, h2, h3⟩ := hp
   obtain ⟨vs, rfl, hl, ho, hr⟩ := x5 hv
   obtain ⟨u, g1, g2⟩ := Ur hT he hl ho hr (n.toNat * d.size) h2 h3
   exact ⟨u, g1, fun w' _ => by simp [Instr.index, asIntOf, run_underlying hu, h0, h1, xq hT he w', g2]⟩
  ·cases hh
 ·cases hh
def uv (a : AV) (i : Nat) : Option (Prop × AV) :=
 match a with
 | .tup cs => (cs[i]?).map fun c => (True, c)
 | _ => none
theorem Z7 {a r : AV} {i : Nat} {p : Prop} (hh : uv a i = some (p, r)) {v : Value} (hv : AVR F β w a v) :
  ∃ u, AVR F β w r u ∧ ∀ w', xz X w w' → (Instr.extract v i).run P w' = .ok u w' := by
 unfold uv at hh
 split at hh
 ·rename_i cs
  cases hc : cs[i]? with
  | none => rw [hc] at hh; cases hh
  | some c =>
   rw [hc, Option.map_some] at hh
   injection hh with hh
   injection hh with h1 h2
   subst h2
   cases hv with
   | s h => cases h
   | tup h1 h2 =>
    rename_i vs
    have hi : i < cs.length := by
     rcases Nat.lt_or_ge i cs.length with h | h
     ·exact h
     ·rw [List.getElem?_eq_none h] at hc; cases hc
    have hi' : i < vs.size := by omega
    exact ⟨vs[i], h2 i c _ hc (Array.getElem?_eq_getElem hi'), fun w' _ => by simp [Instr.extract, Array.getElem?_eq_getElem hi']⟩
 ·cases hh
end
end
section
open Go.RowKit
section
variable {P : Program} (w : World)
theorem qh (base : Nat) (t ty e : TypeId) (i : TypeInfo) (size : Nat) (ht : P.underlying t = some (.slice e)) (hi : P.info? e = some i)
  (v : Value) (n : Nat) (xs : List Value) (hown : w.ownsRow base e size v n xs) (c : Nat) : (Builtin.append_ #[t, t] ty #[v, .slice none 0 c]).run P w = .ok v w := by
 rcases hown.2 with ⟨rfl, rfl⟩ | ⟨g, cap, cur, rfl, _, _, hnc, _⟩
 ·simp [Builtin.append_, run_underlying ht, sizeOf, typeInfo, hi, Builtin.lenOf, Builtin.firstCells]
 ·simp [Builtin.append_, run_underlying ht, sizeOf, typeInfo, hi, Builtin.lenOf, Builtin.firstCells, hnc, storeCells]
theorem jq (base : Nat) (t ty e : TypeId) (i : TypeInfo) (z : Value) (size bytes : Nat) (ht : P.underlying t = some (.slice e)) (hi : P.info? e = some i) (hz : i.zero = some z)
  (hsize : i.size = size) (hby : i.bytes = bytes) (hzs : z.cells.size = size) (hsz : 0 < size)
  (v : Value) (n : Nat) (xs : List Value) (hown : w.ownsRow base e size v n xs)
  (B : Nat) (A : Option Addr) (m c : Nat) (news : List Value) (hr : Row w B A news) (hl : news.length = m * size) (h1 : ∀ u ∈ news, u.oneCell' = true)
  (h63 : n + m ≤ maxLen) (hbytes : (n + m) * bytes ≤ 140737488355328) (hbase : base ≤ w.heap.size) :
  ∃ v' w', (Builtin.append_ #[t, t] ty #[v, .slice A m c]).run P w = .ok v' w' ∧ w'.ownsRow base e size v' (n + m) (xs ++ news) ∧ w.grownBy w' v.ownBlock ∧
   (v'.ownBlock = v.ownBlock ∨ v'.ownBlock = some w.heap.size) := by
 have hz0 : news = [] → m = 0 := fun h => by
  subst h
  rcases Nat.eq_zero_or_pos m with h0 | h0
  ·exact h0
  ·have := Nat.mul_pos h0 hsz; simp at hl; omega
 rcases A with _ | ad
 ·have hn : news = [] := by
   rcases news with _ | ⟨x, l⟩
   ·rfl
   ·obtain ⟨b, off, h, _⟩ := hr (by simp)
    cases h
  have hm := hz0 hn
  subst hm
  subst hn
  exact ⟨v, w, qh w base t ty e i size ht hi v n xs hown c, by simpa using hown, World.grownBy.refl w _, .inl rfl⟩
 ·have hcells : ∀ j u, news[j]? = some u → w.cell? (ad.add j) = some u := by
   intro j u hu
   have hj : 0 < news.length := by
    rcases Nat.eq_zero_or_pos news.length with h0 | h0
    ·rw [List.eq_nil_of_length_eq_zero h0] at hu; simp at hu
    ·exact h0
   obtain ⟨b, off, h, _, hc⟩ := hr hj
   injection h with h
   subst h
   have hplain : (⟨b, off, none⟩ : Addr).add j = ⟨b, off + j, none⟩ := by unfold Addr.add; split <;> simp_all
   rw [hplain]
   exact hc j u hu
  obtain ⟨v', w', hrun, h2, h3, _, h5⟩ := run_append_own_at (P := P) w base t ty e i z size bytes ht hi hz hsize hby hzs hsz v n xs hown ad m c news hl hcells h1 h63 hbytes hbase
  exact ⟨v', w', hrun, h2, h3, h5⟩
end
end
section
open Go.RowKit
section
variable {P : Program} {T : Nat → Option TyD} {E : Env} {s : AState} {tm : Array Value} {w w' : World} {β β' : Nat → Option Nat} {F : Nat → Prop}
theorem Shp.of_heap {b t n : Nat} (h : Shp w b t n) (he : w'.heap[b]? = w.heap[b]?) : Shp w' b t n := by
 obtain ⟨arr, h1, h2⟩ := h
 exact ⟨arr, he.trans h1, h2⟩
theorem xW.step {F F' : Nat → Prop} {e d : Nat} {o : AObj} (h : xW F β w e o) (hne : e ≠ d) (hF : ∀ b, F b → F' b) (hw : ∀ b, F b → w'.heap[b]? = w.heap[b]?) (hβ : ∀ e, e ≠ d → β' e = β e)
  (hb : ∀ e b, e ≠ d → β e = some b → w'.heap[b]? = w.heap[b]?) : xW F' β' w' e (o.kill d) := by
 cases o with
 | row t k xs =>
  obtain ⟨hk, h⟩ := h
  refine ⟨hk, ?_⟩
  rcases h with h | ⟨b, arr, h1, h2, h3, h4⟩
  ·exact .inl h
  ·exact .inr ⟨b, arr, (hβ e hne).trans h1, (hb e b hne h1).trans h2, h3, fun i j cs u hc hu => by
    obtain ⟨x, hx, hr⟩ := h4 i j cs u hc hu
    exact ⟨x, hx, hr.mono hF hw⟩⟩
 | var cs =>
  obtain ⟨b, arr, t, h1, h2, h3, h4⟩ := h
  refine ⟨b, arr, t, (hβ e hne).trans h1, (hb e b hne h1).trans h2, by simpa [AV.killL_eq] using h3, fun j u hu => ?_⟩
  rw [AV.killL_eq, List.getElem?_map] at hu
  cases hc : cs[j]? with
  | none => rw [hc] at hu; cases hu
  | some u' =>
   rw [hc] at hu
   injection hu with hu
   subst hu
   obtain ⟨x, hx, hr, ho⟩ := h4 j u' hc
   exact ⟨x, hx, hr.kill d hF hw hβ (fun e b t n he hb' hs => hs.of_heap (hb e b he hb')), ho⟩
 | mapo es =>
  obtain ⟨b, arr, clk, h1, h2, h3, h4⟩ := h
  exact ⟨b, arr, clk, (hβ e hne).trans h1, (hb e b hne h1).trans h2, h3, fun i e m he hm => ⟨(h4 i e m he hm).1.mono hF hw, (h4 i e m he hm).2.mono hF hw⟩⟩
 | mapr clk es =>
  obtain ⟨b, arr, h1, h2, h3, h4⟩ := h
  refine ⟨b, arr, (hβ e hne).trans h1, (hb e b hne h1).trans h2, by rw [ul]; exact h3, fun i e' m he hm => ?_⟩
  obtain ⟨e0, he0, rfl⟩ := um he
  obtain ⟨g1, g2, g3⟩ := h4 i e0 m he0 hm
  exact ⟨g1, g2.mono hF hw, g3.kill d hF hw hβ (fun e b t n he hb' hs => hs.of_heap (hb e b he hb'))⟩
 | mapl t clk es q =>
  obtain ⟨b, arr, h1, h2, h3, h4⟩ := h
  simp only [AObj.kill]
  by_cases hd : d < 20000
  ·rw [decide_eq_true hd]
   exact ⟨b, arr, (hβ e hne).trans h1, (hb e b hne h1).trans h2, h3, fun i x m hx hm => ⟨(h4 i x m hx hm).1, (h4 i x m hx hm).2.1, fun hq => ((h4 i x m hx hm).2.2 hq).step (fun c hc => (hβ _ (jv hd)).trans hc) fun c hc => hb _ c (jv hd) hc⟩⟩
  ·rw [decide_eq_false hd]
   exact ⟨fun cs h => (by cases h), .inl rfl⟩
 | iter e' ok since seen =>
  obtain ⟨r, b, last, h1, h2, h3⟩ := h
  refine ⟨r, b, last, (hβ e hne).trans h1, (hb e r hne h1).trans h2, fun hok => ?_⟩
  simp only [Bool.and_eq_true, Bool.not_eq_true', beq_eq_false_iff_ne] at hok
  exact (hβ e' hok.2).trans (h3 hok.1)
def AState.drop (d : Nat) (s : AState) : AState := { fr := s.fr.map fun p => (p.1, p.2.1, p.2.2.kill d), ob := (rm d s.ob).map fun p => (p.1, p.2.kill d) }
theorem vH (d t : Nat) (s : AState) : lk (s.drop d).fr t = (lk s.fr t).map fun p => (p.1, p.2.kill d) := uo (fun p : Bool × AV => (p.1, p.2.kill d)) s.fr t
theorem qa (d t : Nat) (s : AState) : lk (s.drop d).ob t = (bif t == d then none else lk s.ob t).map fun o => o.kill d := by
 unfold AState.drop; rw [uo (fun o : AObj => o.kill d), ZV]
theorem SRel.turn (hs : SRel E s tm w β) (d : Nat) (hdo : YZ d) (hβ : ∀ e, e ≠ d → β' e = β e) (hd : ∀ b, β' d = some b → β d = some b ∨ w.heap.size ≤ b ∧ b < w'.heap.size)
  (hk : Keeps (fun b => β d = some b) w w') : SRel E (s.drop d) tm w' β' := by
 have hsz := hk.size
 have wl : ∀ b, b < w.heap.size → β d ≠ some b → w'.heap[b]? = w.heap[b]? := fun b hb hn => hk.block b hb hn
 have hF : ∀ b, FF E β w b → FF E β' w' b := fun b ⟨h1, h2, h3⟩ => ⟨by omega, h2, fun e he => by
  by_cases hed : e = d
  ·subst hed
   rcases hd b he with h | h
   ·exact h3 e h
   ·omega
  ·rw [hβ e hed] at he; exact h3 e he⟩
 have hFw : ∀ b, FF E β w b → w'.heap[b]? = w.heap[b]? := fun b ⟨h1, _, h3⟩ => wl b h1 (h3 d)
 have hBw : ∀ e b, e ≠ d → β e = some b → w'.heap[b]? = w.heap[b]? := fun e b he hb => wl b (hs.rng e b hb).2 fun h => he (hs.inj e d b hb h)
 refine ⟨fun e f b h1 h2 => ?_, fun e b h => ?_, ?_, fun e o ho => ?_, fun t g a ht hg => ?_, fun t a ht => ?_, fun e b hlt he => ?_, fun e b t n hlt he hsh => ?_⟩
 ·by_cases he : e = d
  ·by_cases hf : f = d
   ·rw [he, hf]
   ·subst he
    rw [hβ f hf] at h2
    rcases hd b h1 with h | h
    ·exact hs.inj e f b h h2
    ·have := (hs.rng f b h2).2; omega
  ·by_cases hf : f = d
   ·subst hf
    rw [hβ e he] at h1
    rcases hd b h2 with h | h
    ·exact hs.inj e f b h1 h
    ·have := (hs.rng e b h1).2; omega
   ·rw [hβ e he] at h1
    rw [hβ f hf] at h2
    exact hs.inj e f b h1 h2
 ·by_cases he : e = d
  ·subst he
   rcases hd b h with h' | h'
   ·have := hs.rng e b h'; exact ⟨this.1, by omega⟩
   ·exact ⟨.inl (Nat.le_trans hs.old.size h'.1), h'.2⟩
  ·rw [hβ e he] at h
   have := hs.rng e b h; exact ⟨this.1, by omega⟩
 ·refine hs.old.trans hk fun n hn hb => ?_
  rcases (hs.rng d n hb).1 with h | h
  ·omega
  ·exact ⟨d, h⟩
 ·rw [qa] at ho
  by_cases he : e = d
  ·rw [zO he] at ho; cases ho
  ·rw [zK he] at ho
   cases hl : lk s.ob e with
   | none => rw [hl] at ho; cases ho
   | some o' =>
    rw [hl] at ho
    injection ho with ho
    subst ho
    exact (hs.ob e o' hl).step he hF hFw hβ hBw
 ·rw [vH] at ht
  cases hl : lk s.fr t with
  | none => rw [hl] at ht; cases ht
  | some p =>
   obtain ⟨g', a'⟩ := p
   rw [hl] at ht
   injection ht with ht
   injection ht with h1 h2
   subst h1
   subst h2
   exact (hs.fr t g' a' hl hg).kill d hF hFw hβ fun e b t n he hb hsh => hsh.of_heap (hBw e b he hb)
 ·rw [vH] at ht
  cases hl : lk s.fr t with
  | none => rw [hl] at ht; cases ht
  | some p =>
   obtain ⟨g', a'⟩ := p
   rw [hl] at ht
   injection ht with ht
   injection ht with h1 h2
   subst h1
   exact hs.un t a' hl
 ·have h1 := E.hβ e b he
  rw [hβ e (by rintro rfl; rcases hdo with h | h <;> omega)]; exact hs.fx e b hlt he
 ·have h1 := E.hβ e b he
  have hed : e ≠ d := by rintro rfl; rcases hdo with h | h <;> omega
  exact (hs.fs e b t n hlt he hsh).of_heap (hBw e b hed (hs.fx e b hlt he))
theorem SRel.ext (hs : SRel E s tm w β) (hk : Below w.heap.size w w') : SRel E s tm w' β := by
 have hF : ∀ b, FF E β w b → FF E β w' b := fun b ⟨h1, h2, h3⟩ => ⟨Nat.lt_of_lt_of_le h1 hk.size, h2, h3⟩
 have hFw : ∀ b, FF E β w b → w'.heap[b]? = w.heap[b]? := fun b h => hk.block b h.1
 have hBw : ∀ e b, β e = some b → w'.heap[b]? = w.heap[b]? := fun e b hb => hk.block b (hs.rng e b hb).2
 refine ⟨hs.inj, fun e b h => ⟨(hs.rng e b h).1, Nat.lt_of_lt_of_le (hs.rng e b h).2 hk.size⟩, hs.old.trans (Keeps.of_below (fun _ => False) hk) (fun _ _ h => h.elim), fun e o ho => ?_, fun t g a ht hg => ?_, hs.un, hs.fx, fun e b t n hlt he hsh => (hs.fs e b t n hlt he hsh).of_heap (hBw e b (hs.fx e b hlt he))⟩
 ·have h := hs.ob e o ho
  cases o with
  | row t k xs =>
   obtain ⟨hk', h⟩ := h
   refine ⟨hk', ?_⟩
   rcases h with h | ⟨b, arr, h1, h2, h3, h4⟩
   ·exact .inl h
   ·exact .inr ⟨b, arr, h1, (hBw e b h1).trans h2, h3, fun i j cs u hc hu => by
     obtain ⟨x, hx, hr⟩ := h4 i j cs u hc hu
     exact ⟨x, hx, hr.mono hF hFw⟩⟩
  | var cs =>
   obtain ⟨b, arr, t, h1, h2, h3, h4⟩ := h
   exact ⟨b, arr, t, h1, (hBw e b h1).trans h2, h3, fun j u hu => by
    obtain ⟨x, hx, hr, ho⟩ := h4 j u hu
    exact ⟨x, hx, hr.mono hF hFw (fun _ _ h => h) (fun e b t n hb hs => hs.of_heap (hBw e b hb)), ho⟩⟩
  | mapo es =>
   obtain ⟨b, arr, clk, h1, h2, h3, h4⟩ := h
   exact ⟨b, arr, clk, h1, (hBw e b h1).trans h2, h3, fun i e m he hm => ⟨(h4 i e m he hm).1.mono hF hFw, (h4 i e m he hm).2.mono hF hFw⟩⟩
  | mapr clk es =>
   obtain ⟨b, arr, h1, h2, h3, h4⟩ := h
   exact ⟨b, arr, h1, (hBw e b h1).trans h2, h3, fun i e m he hm => by
    obtain ⟨g1, g2, g3⟩ := h4 i e m he hm
    exact ⟨g1, g2.mono hF hFw, g3.mono hF hFw (fun _ _ h => h) (fun e b t n hb hs => hs.of_heap (hBw e b hb))⟩⟩
  | mapl t clk es q =>
   obtain ⟨b, arr, h1, h2, h3, h4⟩ := h
   exact ⟨b, arr, h1, (hBw e b h1).trans h2, h3, fun i x m hx hm => ⟨(h4 i x m hx hm).1, (h4 i x m hx hm).2.1, fun hq => ((h4 i x m hx hm).2.2 hq).step (fun c hc => hc) fun c hc => hBw _ c hc⟩⟩
  | iter e' ok since seen =>
   obtain ⟨r, b, last, h1, h2, h3⟩ := h
   exact ⟨r, b, last, h1, (hBw e r h1).trans h2, h3⟩
 ·exact (hs.fr t g a ht hg).mono hF hFw (fun _ _ h => h) fun e b t n hb hs => hs.of_heap (hBw e b hb)
theorem SRel.content (hs : SRel E s tm w β) (d : Nat) (hk : Keeps (fun b => β d = some b) w w') (hsh : ∀ b t n, β d = some b → Shp w b t n → Shp w' b t n) :
  SRel E { s with ob := rmo d s.ob } tm w' β := by
 have hsz := hk.size
 have wl : ∀ b, b < w.heap.size → β d ≠ some b → w'.heap[b]? = w.heap[b]? := fun b hb hn => hk.block b hb hn
 have hF : ∀ b, FF E β w b → FF E β w' b := fun b ⟨h1, h2, h3⟩ => ⟨by omega, h2, h3⟩
 have hFw : ∀ b, FF E β w b → w'.heap[b]? = w.heap[b]? := fun b ⟨h1, _, h3⟩ => wl b h1 (h3 d)
 have hBw : ∀ e b, e ≠ d → β e = some b → w'.heap[b]? = w.heap[b]? := fun e b he hb => wl b (hs.rng e b hb).2 fun h => he (hs.inj e d b hb h)
 have hSh : ∀ e b t n, β e = some b → Shp w b t n → Shp w' b t n := fun e b t n hb h => by
  by_cases he : e = d
  ·subst he; exact hsh b t n hb h
  ·exact h.of_heap (hBw e b he hb)
 refine ⟨hs.inj, fun e b h => ⟨(hs.rng e b h).1, by have := (hs.rng e b h).2; omega⟩, hs.old.trans hk fun n hn hb => ?_, fun e o ho => ?_, fun t g a ht hg => (hs.fr t g a ht hg).mono hF hFw (fun _ _ h => h) hSh, hs.un, hs.fx, fun e b t n hlt he hsh => hSh e b t n (hs.fx e b hlt he) (hs.fs e b t n hlt he hsh)⟩
 ·rcases (hs.rng d n hb).1 with h | h
  ·omega
  ·exact ⟨d, h⟩
 ·have key : e ≠ d ∧ ∃ o0, lk s.ob e = some o0 ∧ (d < 20000 ∧ o = o0 ∨ o = o0.loose) := by
   have ho' : lk (rmo d s.ob) e = some o := ho
   unfold rmo at ho'
   by_cases hd : d < 20000
   ·rw [decide_eq_true hd, cond_true, ZV] at ho'
    by_cases he : e = d
    ·rw [zO he] at ho'; cases ho'
    ·rw [zK he] at ho'; exact ⟨he, o, ho', .inl ⟨hd, rfl⟩⟩
   ·rw [decide_eq_false hd, cond_false, uo, ZV] at ho'
    by_cases he : e = d
    ·rw [zO he] at ho'; cases ho'
    ·rw [zK he] at ho'
     cases hl : lk s.ob e with
     | none => rw [hl] at ho'; cases ho'
     | some o0 => rw [hl] at ho'; injection ho' with ho'; exact ⟨he, o0, rfl, .inr ho'.symm⟩
  obtain ⟨he, o0, ho', hoo⟩ := key
  have h := hs.ob e o0 ho'
  have hl : (d < 20000 ∨ ∀ t clk es q, o0 ≠ .mapl t clk es q) ∧ o = o0 ∨ o = .row 0 0 [] := by
   rcases hoo with ⟨h1, h2⟩ | h2
   ·exact .inl ⟨.inl h1, h2⟩
   ·cases o0 with
    | mapl t clk es q => exact .inr h2
    | _ => exact .inl ⟨.inr (fun _ _ _ _ h => (by cases h)), h2⟩
  rcases hl with ⟨hl, rfl⟩ | rfl
  ·clear hoo
   cases o with
   | row t k xs =>
    obtain ⟨hk', h⟩ := h
    refine ⟨hk', ?_⟩
    rcases h with h | ⟨b, arr, h1, h2, h3, h4⟩
    ·exact .inl h
    ·exact .inr ⟨b, arr, h1, (hBw e b he h1).trans h2, h3, fun i j cs u hc hu => by
      obtain ⟨x, hx, hr⟩ := h4 i j cs u hc hu
      exact ⟨x, hx, hr.mono hF hFw⟩⟩
   | var cs =>
    obtain ⟨b, arr, t, h1, h2, h3, h4⟩ := h
    exact ⟨b, arr, t, h1, (hBw e b he h1).trans h2, h3, fun j u hu => by
     obtain ⟨x, hx, hr, ho⟩ := h4 j u hu
     exact ⟨x, hx, hr.mono hF hFw (fun _ _ h => h) hSh, ho⟩⟩
   | mapo es =>
    obtain ⟨b, arr, clk, h1, h2, h3, h4⟩ := h
    exact ⟨b, arr, clk, h1, (hBw e b he h1).trans h2, h3, fun i e m he hm => ⟨(h4 i e m he hm).1.mono hF hFw, (h4 i e m he hm).2.mono hF hFw⟩⟩
   | mapr clk es =>
    obtain ⟨b, arr, h1, h2, h3, h4⟩ := h
    exact ⟨b, arr, h1, (hBw e b he h1).trans h2, h3, fun i e m he hm => by
     obtain ⟨g1, g2, g3⟩ := h4 i e m he hm
     exact ⟨g1, g2.mono hF hFw, g3.mono hF hFw (fun _ _ h => h) hSh⟩⟩
   | mapl t clk es q =>
    have hd : d < 20000 := hl.resolve_right fun h => h t clk es q rfl
    obtain ⟨b, arr, h1, h2, h3, h4⟩ := h
    exact ⟨b, arr, h1, (hBw e b he h1).trans h2, h3, fun i x m hx hm => ⟨(h4 i x m hx hm).1, (h4 i x m hx hm).2.1, fun hq => ((h4 i x m hx hm).2.2 hq).step (fun c hc => hc) fun c hc => hBw _ c (jv hd) hc⟩⟩
   | iter e' ok since seen =>
    obtain ⟨r, b, last, h1, h2, h3⟩ := h
    exact ⟨r, b, last, h1, (hBw e r he h1).trans h2, h3⟩
  ·exact ⟨fun cs h => (by cases h), .inl rfl⟩
theorem SRel.add (hs : SRel E s tm w β) (d : Nat) (o : AObj) (ho : xW (FF E β w) β w d o) : SRel E { s with ob := (d, o) :: s.ob } tm w β :=
 ⟨hs.inj, hs.rng, hs.old, fun e o' h => by
  have h' : lk ((d, o) :: s.ob) e = some o' := h
  rw [yg] at h'
  by_cases he : d = e
  ·rw [zO he] at h'; injection h' with h'; subst h'; subst he; exact ho
  ·rw [zK he] at h'; exact hs.ob e o' h', hs.fr, hs.un, hs.fx, hs.fs⟩
def AState.put (s : AState) (dst : Option Nat) (g : Bool) (a : AV) : AState :=
 match dst with
 | some t => { s with fr := (t, g, a) :: s.fr }
 | none => s
theorem SRel.put (hs : SRel E s tm w β) (t : Nat) (g : Bool) (a : AV) {v : Value} (ht : t < tm.size) (hv : g = true → AVR (FF E β w) β w a v) (hu : g = false → v = undef) :
  SRel E { s with fr := (t, g, a) :: s.fr } (tm.setIfInBounds t v) w β :=
 ⟨hs.inj, hs.rng, hs.old, hs.ob, fun t' g' a' h hg => by
  have h' : lk ((t, g, a) :: s.fr) t' = some (g', a') := h
  rw [yg] at h'
  by_cases he : t = t'
  ·rw [zO he] at h'
   injection h' with h'
   injection h' with h1 h2
   subst h1
   subst h2
   subst he
   have : (tm.setIfInBounds t v).getD t undef = v := by simp [Array.getD, ht]
   rw [this]
   exact hv hg
  ·rw [zK he] at h'
   have : (tm.setIfInBounds t v).getD t' undef = tm.getD t' undef := by simp [Array.getElem?_setIfInBounds_ne he]
   rw [this]
   exact hs.fr t' g' a' h' hg, fun t' a' h => by
  have h' : lk ((t, g, a) :: s.fr) t' = some (false, a') := h
  rw [yg] at h'
  by_cases he : t = t'
  ·rw [zO he] at h'
   injection h' with h'
   injection h' with h1 h2
   subst he
   have : (tm.setIfInBounds t v).getD t undef = v := by simp [Array.getD, ht]
   rw [this]
   exact hu h1
  ·rw [zK he] at h'
   have : (tm.setIfInBounds t v).getD t' undef = tm.getD t' undef := by simp [Array.getElem?_setIfInBounds_ne he]
   rw [this]
   exact hs.un t' a' h', hs.fx, hs.fs⟩
theorem SRel.weaken (hs : SRel E s tm w β) {s' : AState} (h1 : ∀ t g a, lk s'.fr t = some (g, a) → lk s.fr t = some (g, a)) (h2 : ∀ d o, lk s'.ob d = some o → lk s.ob d = some o) : SRel E s' tm w β :=
 ⟨hs.inj, hs.rng, hs.old, fun d o h => hs.ob d o (h2 d o h), fun t g a h hg => hs.fr t g a (h1 t g a h) hg, fun t a h => hs.un t a (h1 t false a h), hs.fx, hs.fs⟩
def AState.ev (s : AState) : Operand → AV
 | .tmp t => match lk s.fr t with
  | some p => p.2
  | none => .dead
 | .const x => bif uO x then .v x else .dead
 | .func f => .v (.func (.func f) #[] #[])
 | .global g => match glo g with
  | some vs => .elt vs.length [vs.map AV.v] 0 0
  | none => .dead
def AState.gd (s : AState) : Operand → Bool
 | .tmp t => match lk s.fr t with
  | some p => p.1
  | none => true
 | _ => true
theorem SRel.ev (hs : SRel E s tm w β) (x : Operand) (hg : s.gd x = true) {a : Act} (ha : a.tmps = tm) : AVR (FF E β w) β w (s.ev x) (a.eval x) := by
 cases x with
 | tmp t =>
  simp only [AState.gd] at hg
  simp only [AState.ev, Act.eval, ha]
  cases h : lk s.fr t with
  | none => exact .dead
  | some p => obtain ⟨g, av⟩ := p; rw [h] at hg; exact hs.fr t g av h hg
 | const v =>
  simp only [AState.ev, Act.eval]
  cases h : uO v with
  | true => exact .s (.v h)
  | false => exact .dead
 | func f => exact .s (.v rfl)
 | global g =>
  simp only [AState.ev, Act.eval]
  split
  ·rename_i vs hg
   obtain ⟨h1, h2⟩ := hs.glo.gl g vs hg
   have h3 : ∀ j, j < vs.length → w.cell? ⟨g, j, none⟩ = some ((vs[j]?).getD undef) := fun j hj => by
    rw [(h2 j vs[j] (List.getElem?_eq_getElem hj)).2, List.getElem?_eq_getElem hj]; rfl
   have h4 : (Value.pointer (some ⟨g, 0, none⟩)) = .pointer (some ⟨g, 0 + (0 * vs.length + 0), none⟩) := by simp
   rw [h4]
   refine .elt (fun _ j => (vs[j]?).getD undef) h1 (fun cs hcs => by rw [List.mem_singleton] at hcs; subst hcs; simp) (fun i j hi hj => ?_) (fun i j hi hj => ?_) fun i j cs u hc hu => ?_
   ·have : i = 0 := by simpa using hi
    subst this
    rw [Nat.zero_mul, Nat.zero_add, Nat.zero_add]; exact h3 j hj
   ·rw [List.getElem?_eq_getElem hj]
    exact w9 (h2 j vs[j] (List.getElem?_eq_getElem hj)).1
   ·have hi : i = 0 := by
     rcases Nat.eq_zero_or_pos i with h | h
     ·exact h
     ·rw [List.getElem?_eq_none (by simp; omega)] at hc; cases hc
    subst hi
    simp only [List.getElem?_cons_zero, Option.some.injEq] at hc
    subst hc
    rw [List.getElem?_map] at hu
    cases hx : vs[j]? with
    | none => rw [hx] at hu; cases hu
    | some x => rw [hx] at hu; injection hu with hu; subst hu; exact .v (h2 j x hx).1
  ·exact .dead
end
end
section
open Go.RowKit
section
variable {P : Program} {T : Nat → Option TyD} {E : Env} {s : AState} {tm : Array Value} {w w' : World} {β β' : Nat → Option Nat} {F : Nat → Prop}
def AV.cells1 : AV → Option (List AV)
 | .agg cs => some cs
 | .tup _ => none
 | .dead => none
 | a => some [a]
theorem Us {v : Value} (h : v.oneCell' = true) : v.cells = #[v] := by cases v <;> first | rfl | (simp [Value.oneCell'] at h)
def AV.cell1 : AV → Bool
 | .agg _ | .tup _ | .dead => false
 | _ => true
theorem AVR.one {a : AV} {v : Value} (h : AVR F β w a v) (hc : a.cell1 = true) : v.oneCell' = true := by
 cases h with
 | s h => exact h.one
 | agg => cases hc
 | tup => cases hc
 | dead => cases hc
 | _ => rfl
theorem uw {a : AV} {v : Value} {cs : List AV} (h : AVR F β w a v) (hc : a.cells1 = some cs) :
  v.cells.size = cs.length ∧ (∀ (i : Nat) (u : Value), v.cells[i]? = some u → u.oneCell' = true) ∧ ∀ (j : Nat) (u : AV), cs[j]? = some u → ∃ x, v.cells[j]? = some x ∧ AVR F β w u x := by
 have single : a.cell1 = true → v.cells.size = [a].length ∧ (∀ (i : Nat) (u : Value), v.cells[i]? = some u → u.oneCell' = true) ∧ ∀ (j : Nat) (u : AV), [a][j]? = some u → ∃ x, v.cells[j]? = some x ∧ AVR F β w u x := fun h1 => by
  have ho := h.one h1
  rw [Us ho]
  refine ⟨rfl, fun i u hu => ?_, fun j u hu => ?_⟩
  ·cases i with
   | zero => simp at hu; subst hu; exact ho
   | succ i => simp at hu
  ·cases j with
   | zero => simp at hu; subst hu; exact ⟨v, by simp, h⟩
   | succ j => simp at hu
 cases a with
 | agg as' =>
  simp only [AV.cells1, Option.some.injEq] at hc
  subst hc
  obtain ⟨vs, rfl, hl, ho, hr⟩ := x5 h
  refine ⟨hl, ho, fun j u hu => ?_⟩
  have hj : j < as'.length := by
   rcases Nat.lt_or_ge j as'.length with h | h
   ·exact h
   ·rw [List.getElem?_eq_none h] at hu; cases hu
  have hj' : j < vs.size := by omega
  exact ⟨vs[j], Array.getElem?_eq_getElem hj', hr j u _ hu (Array.getElem?_eq_getElem hj')⟩
 | tup => simp [AV.cells1] at hc
 | dead => simp [AV.cells1] at hc
 | _ => simp only [AV.cells1, Option.some.injEq] at hc; subst hc; exact single rfl
def upd (β : Nat → Option Nat) (d : Nat) (b : Option Nat) : Nat → Option Nat := fun e => if e = d then b else β e
theorem ya (β : Nat → Option Nat) (d : Nat) (b : Option Nat) : upd β d b d = b := by simp [upd]
theorem zS (β : Nat → Option Nat) {d e : Nat} (b : Option Nat) (h : e ≠ d) : upd β d b e = β e := by simp [upd, h]
theorem SRel.new (hs : SRel E s tm w β) (d : Nat) (hdo : YZ d) (o : Obj) : SRel E (s.drop d) tm (w.alloc o) (upd β d (some w.heap.size)) :=
 hs.turn d hdo (fun e he => zS β _ he) (fun b hb => by rw [ya] at hb; injection hb with hb; subst hb; exact .inr ⟨Nat.le_refl _, by simp⟩)
  (Keeps.of_below _ ((Below.refl _ _).alloc (Nat.le_refl _) o))
theorem Z8 {b d : Nat} {o : Obj} (h : FF E β w b) : FF E (upd β d (some w.heap.size)) (w.alloc o) b :=
 ⟨by have := h.1; simp; omega, h.2.1, fun e he => by
  by_cases hed : e = d
  ·subst hed; rw [ya] at he; injection he with he; have := h.1; omega
  ·rw [zS β _ hed] at he; exact h.2.2 e he⟩
theorem AVR.new {a : AV} {v : Value} {d : Nat} {o : Obj} (hs : SRel E s tm w β) (h : AVR (FF E β w) β w a v) : AVR (FF E (upd β d (some w.heap.size)) (w.alloc o)) (upd β d (some w.heap.size)) (w.alloc o) (a.kill d) v :=
 h.kill d (fun _ hb => Z8 hb) (fun b hb => Below.heap_alloc w o b hb.1) (fun _ he => zS β _ he) (fun e b _ _ _ hb hsh => hsh.of_heap (Below.heap_alloc w o b (hs.rng e b hb).2))
def AState.var (d : Nat) (cs : List AV) (s : AState) : AState := { fr := (s.drop d).fr, ob := (d, .var (AV.kill.killL d cs)) :: (s.drop d).ob }
theorem SRel.newVar (hs : SRel E s tm w β) (d t : Nat) (hdo : YZ d) {cs : List AV} {vs : Array Value} (hl : vs.size = cs.length) (ho : ∀ (i : Nat) (u : Value), vs[i]? = some u → u.oneCell' = true)
  (hr : ∀ (j : Nat) (u : AV), cs[j]? = some u → ∃ x, vs[j]? = some x ∧ AVR (FF E β w) β w u x) :
  SRel E (s.var d cs) tm (w.alloc (.cells vs t)) (upd β d (some w.heap.size)) := by
 refine (hs.new d hdo (.cells vs t)).add d (.var (AV.kill.killL d cs)) ⟨w.heap.size, vs, t, ya _ _ _, heap_alloc_new w _, by rw [AV.killL_eq, List.length_map]; omega, fun j u hu => ?_⟩
 rw [AV.killL_eq, List.getElem?_map] at hu
 cases hc : cs[j]? with
 | none => rw [hc] at hu; cases hu
 | some u' =>
  rw [hc] at hu
  injection hu with hu
  subst hu
  obtain ⟨x, hx, h⟩ := hr j u' hc
  exact ⟨x, hx, AVR.new hs h, ho j x hx⟩
theorem qb {zs : List Value} (h : ∀ z ∈ zs, uO z = true) : (∀ (i : Nat) (u : Value), zs.toArray[i]? = some u → u.oneCell' = true) ∧ ∀ (j : Nat) (u : AV), (zs.map AV.v)[j]? = some u → ∃ x, zs.toArray[j]? = some x ∧ SVR F w u x := by
 refine ⟨fun i u hu => w9 (h u (List.mem_of_getElem? (by simpa using hu))), fun j u hu => ?_⟩
 rw [List.getElem?_map] at hu
 cases hz : zs[j]? with
 | none => rw [hz] at hu; cases hu
 | some z => rw [hz] at hu; injection hu with hu; subst hu; exact ⟨z, by simpa using hz, .v (h z (List.mem_of_getElem? hz))⟩
theorem KT (hT : TOK P T) (hs : SRel E s tm w β) (d : Nat) (hdo : YZ d) {t : Nat} {td : TyD} (h : T t = some td) :
  ∃ v w', (Instr.alloc t true (.tuple #[])).run P w = .ok v w' ∧ SRel E (s.var d (td.zero.map AV.v)) tm w' (upd β d (some w.heap.size)) ∧ AVR (FF E (upd β d (some w.heap.size)) w') (upd β d (some w.heap.size)) w' (.ptr 1 d 0 0) v ∧ Below w.heap.size w w' := by
 obtain ⟨z, hz, hc⟩ := Ul hT h w
 obtain ⟨_, hl, hf, _⟩ := hT t td h
 have hfc := qb (F := FF E β w) (w := w) hf
 refine ⟨.pointer (some ⟨w.heap.size, 0, none⟩), w.alloc (.cells td.zero.toArray t), by simp [Instr.alloc, hz, newVar, newRow, hc], ?_, .ptr (ya _ _ _), (Below.refl _ _).alloc (Nat.le_refl _) _⟩
 exact hs.newVar d t hdo (by simp) hfc.1 fun j u hu => by
  obtain ⟨x, hx, h⟩ := hfc.2 j u hu
  exact ⟨x, hx, .s h⟩
theorem zcf (hs : SRel E s tm w β) (d t : Nat) (hdo : YZ d) {a : AV} {x : Value} {cs : List AV} (ha : AVR (FF E β w) β w a x) (hc : a.cells1 = some cs) :
  ∃ v w', (Instr.box t x).run P w = .ok v w' ∧ SRel E (s.var d cs) tm w' (upd β d (some w.heap.size)) ∧ AVR (FF E (upd β d (some w.heap.size)) w') (upd β d (some w.heap.size)) w' (.ptr 1 d 0 0) v ∧ Below w.heap.size w w' := by
 obtain ⟨h1, h2, h3⟩ := uw ha hc
 exact ⟨.pointer (some ⟨w.heap.size, 0, none⟩), w.alloc (.cells x.cells t), by simp [Instr.box, newVar, newRow], hs.newVar d t hdo h1 h2 h3, .ptr (ya _ _ _), (Below.refl _ _).alloc (Nat.le_refl _) _⟩
def KU : List AV → Bool
 | [] => true
 | .v _ :: cs => KU cs
 | .lst _ _ :: cs => KU cs
 | .lsx _ _ _ :: cs => KU cs
 | _ :: _ => false
theorem Zb {cs : List AV} (h : KU cs = true) : ∀ a ∈ cs, (∃ x, a = .v x) ∨ (∃ k xs, a = .lst k xs) ∨ ∃ k xs ys, a = .lsx k xs ys := by
 induction cs with
 | nil => intro a ha; cases ha
 | cons c cs ih =>
  intro a ha
  cases c <;> simp only [KU, Bool.false_eq_true] at h
  all_goals
   rcases List.mem_cons.1 ha with rfl | ha
   ·first | exact .inl ⟨_, rfl⟩ | exact .inr (.inl ⟨_, _, rfl⟩) | exact .inr (.inr ⟨_, _, _, rfl⟩)
   ·exact ih h a ha
theorem AVR.sealed {a : AV} {v : Value} (h : AVR F β w a v) (ha : (∃ x, a = .v x) ∨ (∃ k xs, a = .lst k xs) ∨ ∃ k xs ys, a = .lsx k xs ys) : SVR F w a v := by
 rcases ha with ⟨x, rfl⟩ | ⟨k, xs, rfl⟩ | ⟨k, xs, ys, rfl⟩
 ·cases h with | s h => exact h
 ·cases h with | s h => exact h
 ·cases h with | s h => exact h
def ZR : List AV → Nat → List AV → List AV
 | [], _, _ => []
 | c :: cs, 0, [] => c :: cs
 | _ :: cs, 0, n :: ns => n :: ZR cs 0 ns
 | c :: cs, j + 1, ns => c :: ZR cs j ns
theorem x6 : ∀ (cs : List AV) (j : Nat) (ns : List AV), (ZR cs j ns).length = cs.length
 | [], _, _ => rfl
 | _ :: _, 0, [] => rfl
 | _ :: cs, 0, _ :: ns => by simp [ZR, x6 cs 0 ns]
 | _ :: cs, j + 1, ns => by simp [ZR, x6 cs j ns]
theorem uA : ∀ (cs : List AV) (j : Nat) (ns : List AV) (i : Nat), j + ns.length ≤ cs.length → (ZR cs j ns)[i]? = if j ≤ i ∧ i < j + ns.length then ns[i - j]? else cs[i]?
 | [], j, ns, i, h => by
  have : ns.length = 0 := by simp only [List.length_nil] at h; omega
  rw [if_neg (by omega)]; rfl
 | c :: cs, 0, [], i, _ => by simp [ZR]
 | c :: cs, 0, n :: ns, i, h => by
  cases i with
  | zero => simp [ZR]
  | succ i =>
   simp only [List.length_cons] at h
   have := uA cs 0 ns i (by omega)
   simp only [ZR, List.getElem?_cons_succ, this, List.length_cons, Nat.sub_zero, Nat.zero_add]
   by_cases hi : i < ns.length <;> simp [hi]
 | c :: cs, j + 1, ns, i, h => by
  cases i with
  | zero => rw [if_neg (by omega)]; rfl
  | succ i =>
   simp only [List.length_cons] at h
   have := uA cs j ns i (by omega)
   simp only [ZR, List.getElem?_cons_succ, this]
   by_cases hi : j ≤ i ∧ i < j + ns.length
   ·rw [if_pos hi, if_pos (by omega)]; congr 1; omega
   ·rw [if_neg hi, if_neg (by omega)]
def Z9 (xs : List (List AV)) (i j : Nat) (ns : List AV) : List (List AV) :=
 match xs[i]? with
 | some cs => xs.set i (ZR cs j ns)
 | none => xs
def Zc (T : Nat → Option TyD) (s : AState) (t : Nat) (a x : AV) : Option (Prop × AState) :=
 match T t, x.cells1, a with
 | some d, some ns, .ptr k o i j =>
  match lk s.ob o with
  | some (.var cs) => bif i == 0 then some (ns.length = d.size ∧ j + d.size ≤ cs.length, { fr := s.fr, ob := (o, .var (ZR cs j ns)) :: rmo o s.ob }) else some (ns.length = d.size ∧ i * k + j + d.size ≤ cs.length, { fr := s.fr, ob := (o, .var (ZR cs (i * k + j) ns)) :: rmo o s.ob })
  | some (.row te k' xs) => some (k = k' ∧ KU ns = true ∧ ns.length = d.size ∧ j + d.size ≤ k ∧ i < xs.length, { fr := s.fr, ob := (o, .row te k (Z9 xs i j ns)) :: rmo o s.ob })
  | _ => none
 | _, _, _ => none
theorem qu {b : Nat} {vs : Array Value} : Keeps (fun c => some b = some c) w (w.setRow b vs) :=
 ⟨rfl, rfl, rfl, by simp, fun c _ hc => Go.setRow_other w b c vs (fun e => hc (by rw [e]))⟩
theorem Ut (arr : Array Value) (o : Nat) (vs : List Value) (h : o + vs.length ≤ arr.size) (i : Nat) :
  ((arr.toList.take o ++ vs ++ arr.toList.drop (o + vs.length)).toArray)[i]? = if o ≤ i ∧ i < o + vs.length then vs[i - o]? else arr[i]? := by
 have hlt : (arr.toList.take o).length = o := by rw [List.length_take]; simp; omega
 rw [List.getElem?_toArray]
 by_cases h1 : i < o
 ·rw [if_neg (by omega), List.append_assoc, List.getElem?_append_left (by omega), List.getElem?_take_of_lt h1]; simp
 ·by_cases h2 : i < o + vs.length
  ·rw [if_pos ⟨by omega, h2⟩, List.append_assoc, List.getElem?_append_right (by omega), hlt, List.getElem?_append_left (by omega)]
  ·rw [if_neg (by omega), List.getElem?_append_right (by rw [List.length_append]; omega), List.length_append, hlt, List.getElem?_drop]
   rw [show o + vs.length + (i - (o + vs.length)) = i by omega]
   simp
theorem Vh (hT : TOK P T) (hs : SRel E s tm w β) {t : Nat} {a x : AV} {p : Prop} {s' : AState} (h : Zc T s t a x = some (p, s')) (hp : p) {y v : Value} (hy : AVR (FF E β w) β w a y) (hv : AVR (FF E β w) β w x v) :
  ∃ w', (Instr.storeAt t y v).run P w = .ok () w' ∧ SRel E s' tm w' β ∧ ∃ k o i j, a = .ptr k o i j ∧ xz (fun b => β o = some b) w w' := by
 unfold Zc at h
 split at h
 case h_2 => cases h
 rename_i d ns k o i j hd hns
 obtain ⟨c1, c2, c3⟩ := uw hv hns
 have run : ∀ (b off : Nat) (arr : Array Value) (te : Nat), w.heap[b]? = some (.cells arr te (0, 0)) → ns.length = d.size → off + d.size ≤ arr.size →
   (Instr.storeAt t (.pointer (some ⟨b, off, none⟩)) v).run P w = .ok () (w.setRow b (arr.toList.take off ++ v.cells.toList ++ arr.toList.drop (off + v.cells.toList.length)).toArray) := fun b off arr te hb hn hoff => by
  have hsz : v.cells.size = d.size := by omega
  have hst := run_storeCells_at P b off te v.cells.toList 0 arr w hb (by simp; omega) (fun u hu => by
   obtain ⟨q, hq⟩ := List.mem_iff_getElem?.1 hu
   exact c2 q u (by simpa using hq))
  simp only [Nat.add_zero] at hst
  simp only [Instr.storeAt, Instr.sureAddr, storeVar, Sem.run_bind, Sem.run_pure, Result.andThen_ok, xq hT hd, hsz, ne_eq, not_true_eq_false, if_false, hst]
 split at h
 ·rename_i cs hob
  have gen : ∀ jj, i * k + j = jj → some (ns.length = d.size ∧ jj + d.size ≤ cs.length, ({ fr := s.fr, ob := (o, .var (ZR cs jj ns)) :: rmo o s.ob } : AState)) = some (p, s') →
    ∃ w', (Instr.storeAt t y v).run P w = .ok () w' ∧ SRel E s' tm w' β ∧ ∃ k' o' i' j', AV.ptr k o i j = .ptr k' o' i' j' ∧ xz (fun b => β o' = some b) w w' := by
   clear h
   intro jj hjj h
   injection h with h
   injection h with h1 h2
   subst h1
   subst h2
   obtain ⟨hn, hj⟩ := hp
   cases hy with
   | s h => cases h
   | @ptr _ _ _ _ b hb =>
    obtain ⟨b', arr, te, hb', harr, hsz, hc⟩ := hs.ob o _ hob
    rw [hb] at hb'
    injection hb' with hb'
    subst hb'
    rw [hjj]
    refine ⟨_, run b jj arr te harr hn (by omega), ?_⟩
    have hvl : v.cells.toList.length = ns.length := by simpa using c1
    have hspl := Ut arr jj v.cells.toList (by omega)
    have hnew := Go.setRow_heap w b arr (arr.toList.take jj ++ v.cells.toList ++ arr.toList.drop (jj + v.cells.toList.length)).toArray te _ harr
    have hsize : (arr.toList.take jj ++ v.cells.toList ++ arr.toList.drop (jj + v.cells.toList.length)).toArray.size = arr.size := by
     simp only [List.size_toArray, List.length_append, List.length_take, List.length_drop, Array.length_toList] at hvl ⊢; omega
    have hK : Keeps (fun c => β o = some c) w (w.setRow b (arr.toList.take jj ++ v.cells.toList ++ arr.toList.drop (jj + v.cells.toList.length)).toArray) := by rw [hb]; exact qu
    have hsh : ∀ c te' n, β o = some c → Shp w c te' n → Shp (w.setRow b (arr.toList.take jj ++ v.cells.toList ++ arr.toList.drop (jj + v.cells.toList.length)).toArray) c te' n := fun c te' n hc' ⟨arr', h1, h2⟩ => by
     rw [hb] at hc'
     injection hc' with hc'
     subst hc'
     rw [harr] at h1
     injection h1 with h1
     injection h1 with h1 h3
     subst h1
     subst h3
     exact ⟨_, hnew, hsize.trans h2⟩
    have hS := hs.content o hK hsh
    have hF : ∀ c, FF E β w c → FF E β (w.setRow b (arr.toList.take jj ++ v.cells.toList ++ arr.toList.drop (jj + v.cells.toList.length)).toArray) c := fun c ⟨h1, h2, h3⟩ => ⟨by simpa using h1, h2, h3⟩
    have hFw : ∀ c, FF E β w c → (w.setRow b (arr.toList.take jj ++ v.cells.toList ++ arr.toList.drop (jj + v.cells.toList.length)).toArray).heap[c]? = w.heap[c]? := fun c hc' => hK.block c hc'.1 (hc'.2.2 o)
    have hSh : ∀ e c te' n, β e = some c → Shp w c te' n → Shp (w.setRow b (arr.toList.take jj ++ v.cells.toList ++ arr.toList.drop (jj + v.cells.toList.length)).toArray) c te' n := fun e c te' n he h => by
     by_cases heo : e = o
     ·subst heo; exact hsh c te' n he h
     ·exact h.of_heap (hK.block c (hs.rng e c he).2 fun h' => heo (hs.inj e o c he h'))
    refine ⟨hS.add o _ ⟨b, _, te, hb, hnew, by rw [hsize, x6]; exact hsz, fun q u hu => ?_⟩, k, o, i, j, rfl, ⟨hK.size, fun c hc hn => hK.block c hc hn⟩⟩
    rw [uA _ _ _ _ (by omega)] at hu
    rw [hspl]
    split at hu
    ·rename_i hq
     obtain ⟨z, hz, hr⟩ := c3 (q - jj) u hu
     rw [if_pos (by omega)]
     exact ⟨z, by simpa using hz, hr.mono hF hFw (fun _ _ h => h) hSh, c2 _ z hz⟩
    ·rename_i hq
     obtain ⟨z, hz, hr, ho⟩ := hc q u hu
     rw [if_neg (by omega)]
     exact ⟨z, hz, hr.mono hF hFw (fun _ _ h => h) hSh, ho⟩
  by_cases hi0 : i = 0
  ·subst hi0
   rw [zO rfl] at h
   exact gen j (by rw [Nat.zero_mul, Nat.zero_add]) h
  ·rw [zK hi0] at h
   exact gen _ rfl h
 ·rename_i te k' xs hob
  injection h with h
  injection h with h1 h2
  subst h1
  subst h2
  obtain ⟨rfl, hall, hn, hj, hi⟩ := hp
  cases hy with
  | s h => cases h
  | @ptr _ _ _ _ b hb =>
   obtain ⟨hk, hrow⟩ := hs.ob o _ hob
   rcases hrow with rfl | ⟨b', arr, hb', harr, hsz, hc⟩
   ·simp at hi
   rw [hb] at hb'
   injection hb' with hb'
   subst hb'
   have hroom : i * k + k ≤ arr.size := by
    have : (i + 1) * k ≤ xs.length * k := Nat.mul_le_mul_right k hi
    rw [Nat.add_mul] at this
    omega
   refine ⟨_, run b (i * k + j) arr te harr hn (by omega), ?_⟩
   have hvl : v.cells.toList.length = ns.length := by simpa using c1
   have hspl := Ut arr (i * k + j) v.cells.toList (by omega)
   have hnew := Go.setRow_heap w b arr (arr.toList.take (i * k + j) ++ v.cells.toList ++ arr.toList.drop (i * k + j + v.cells.toList.length)).toArray te _ harr
   have hsize : (arr.toList.take (i * k + j) ++ v.cells.toList ++ arr.toList.drop (i * k + j + v.cells.toList.length)).toArray.size = arr.size := by
    simp only [List.size_toArray, List.length_append, List.length_take, List.length_drop, Array.length_toList] at hvl ⊢; omega
   generalize (arr.toList.take (i * k + j) ++ v.cells.toList ++ arr.toList.drop (i * k + j + v.cells.toList.length)).toArray = A at *
   have hK : Keeps (fun c => β o = some c) w (w.setRow b A) := by rw [hb]; exact qu
   have hsh : ∀ c te' n, β o = some c → Shp w c te' n → Shp (w.setRow b A) c te' n := fun c te' n hc' ⟨arr', h1, h2⟩ => by
    rw [hb] at hc'
    injection hc' with hc'
    subst hc'
    rw [harr] at h1
    injection h1 with h1
    injection h1 with h1 h3
    subst h1
    subst h3
    exact ⟨_, hnew, hsize.trans h2⟩
   have hS := hs.content o hK hsh
   have hF : ∀ c, FF E β w c → FF E β (w.setRow b A) c := fun c ⟨h1, h2, h3⟩ => ⟨by simpa using h1, h2, h3⟩
   have hFw : ∀ c, FF E β w c → (w.setRow b A).heap[c]? = w.heap[c]? := fun c hc' => hK.block c hc'.1 (hc'.2.2 o)
   have hxi : xs[i]? = some xs[i] := List.getElem?_eq_getElem hi
   have hli : xs[i].length = k := hk _ (List.getElem_mem hi)
   have hse : Z9 xs i j ns = xs.set i (ZR xs[i] j ns) := by simp [Z9, hxi]
   rw [hse]
   refine ⟨hS.add o _ ⟨fun cs hcs => ?_, .inr ⟨b, A, hb, hnew, by rw [hsize, List.length_set]; exact hsz, fun q m cs u hcs hu => ?_⟩⟩, k, o, i, j, rfl, ⟨hK.size, fun c hc hn => hK.block c hc hn⟩⟩
   ·rcases List.mem_or_eq_of_mem_set hcs with h | h
    ·exact hk _ h
    ·rw [h, x6]; exact hli
   ·rw [hspl]
    by_cases hq : q = i
    ·subst hq
     rw [List.getElem?_set_self hi] at hcs
     injection hcs with hcs
     subst hcs
     rw [uA _ _ _ _ (by omega)] at hu
     split at hu
     ·rename_i hm
      obtain ⟨z, hz, hr⟩ := c3 (m - j) u hu
      rw [if_pos (by omega), show q * k + m - (q * k + j) = m - j by omega]
      exact ⟨z, by simpa using hz, (hr.sealed (Zb hall u (List.mem_of_getElem? hu))).mono hF hFw⟩
     ·rename_i hm
      obtain ⟨z, hz, hr⟩ := hc q m _ u hxi hu
      rw [if_neg (by omega)]
      exact ⟨z, hz, hr.mono hF hFw⟩
    ·rw [List.getElem?_set_ne (Ne.symm hq)] at hcs
     obtain ⟨z, hz, hr⟩ := hc q m cs u hcs hu
     have hmk : m < k := by
      rw [← hk cs (List.mem_of_getElem? hcs)]
      rcases Nat.lt_or_ge m cs.length with h | h
      ·exact h
      ·rw [List.getElem?_eq_none h] at hu; cases hu
     have hne : ¬ (i * k + j ≤ q * k + m ∧ q * k + m < i * k + j + v.cells.toList.length) := by
      rcases Nat.lt_or_gt_of_ne hq with h | h
      ·have : (q + 1) * k ≤ i * k := Nat.mul_le_mul_right k h
       rw [Nat.add_mul] at this
       omega
      ·have : (i + 1) * k ≤ q * k := Nat.mul_le_mul_right k h
       rw [Nat.add_mul] at this
       omega
     rw [if_neg hne]
     exact ⟨z, hz, hr.mono hF hFw⟩
 ·cases h
end
end
end Go.Proofs.Ytfjajlcjifnceaa

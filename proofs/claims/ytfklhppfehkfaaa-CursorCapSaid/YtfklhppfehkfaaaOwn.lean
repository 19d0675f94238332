import Derived.Test.YtfklhppfehkfaaaMem
namespace Go.Proofs.Ytfklhppfehkfaaa
open Go.RowKit

/-- a slice of the call's own, wherever in its block it begins: n cells xs, room for c -/
def OwnS (w : World) (base : Nat) (e : TypeId) (A : Option Addr) (n c : Nat) (xs : List Value) : Prop :=
  n = xs.length ∧ n ≤ c ∧ c ≤ maxLen ∧ (c = 0 ∨ ∃ g off cs, A = some ⟨g, off, none⟩ ∧ base ≤ g ∧ Blk w g e cs ∧ off + c ≤ cs.length ∧ (cs.drop off).take n = xs)
def blkOf (A : Option Addr) : Option Nat := A.map (·.block)

section
variable {w w' : World} {base B : Nat} {e : TypeId} {A : Option Addr} {n c : Nat} {xs : List Value}
theorem OwnS.nil (w : World) (base : Nat) (e : TypeId) (A : Option Addr) : OwnS w base e A 0 0 [] := ⟨rfl, Nat.le_refl _, by decide, .inl rfl⟩
theorem OwnS.row (h : OwnS w base e A n c xs) : Row w w.heap.size A xs := by
  intro hn
  obtain ⟨h1, h2, _, h0 | ⟨g, off, cs, rfl, _, hb, hc, ht⟩⟩ := h
  · omega
  · exact ((hb.rowAt off n).more (show g + 1 ≤ w.heap.size from hb.lt)) (by rw [ht]; exact hn) |> fun ⟨b, o, h1, h2, h3⟩ => ⟨b, o, h1, h2, fun k u hu => h3 k u (by rw [ht]; exact hu)⟩
theorem OwnS.lt (h : OwnS w base e A n c xs) (hc : 0 < c) : ∃ g off, A = some ⟨g, off, none⟩ ∧ base ≤ g ∧ g < w.heap.size := by
  obtain ⟨_, _, _, h0 | ⟨g, off, cs, rfl, hb, hk, _⟩⟩ := h
  · omega
  · exact ⟨g, off, rfl, hb, hk.lt⟩
theorem OwnS.keep (h : OwnS w base e A n c xs) (hk : ∀ g off cs, A = some ⟨g, off, none⟩ → Blk w g e cs → Blk w' g e cs) : OwnS w' base e A n c xs := by
  obtain ⟨h1, h2, h3, h0 | ⟨g, off, cs, rfl, hb, hc, h4, h5⟩⟩ := h
  · exact ⟨h1, h2, h3, .inl h0⟩
  · exact ⟨h1, h2, h3, .inr ⟨g, off, cs, rfl, hb, hk g off cs rfl hc, h4, h5⟩⟩
theorem OwnS.below (h : OwnS w base e A n c xs) (hb : Below w.heap.size w w') : OwnS w' base e A n c xs := h.keep fun _ _ _ _ hk => hk.below hb hk.lt
theorem OwnS.drew (h : OwnS w base e A n c xs) : OwnS w.drew base e A n c xs := h
theorem OwnS.drewN (h : OwnS w base e A n c xs) (k : Nat) : OwnS (w.drewN k) base e A n c xs := h
theorem OwnS.alloc (h : OwnS w base e A n c xs) (o : Obj) : OwnS (w.alloc o) base e A n c xs := h.keep fun _ _ _ _ hk => hk.alloc o
theorem OwnS.far (h : OwnS w base e A n c xs) {p : Addr} (hp : blkOf A ≠ some p.block) (u : Value) : OwnS (w.setCell p u) base e A n c xs :=
  h.keep fun g off _ hA hk => hk.far (fun he => hp (by rw [hA]; simp [blkOf, he])) u
theorem OwnS.grown (h : OwnS w base e A n c xs) {row : Option Nat} (hg : w.grownBy w' row) (hr : ∀ q, row = some q → blkOf A ≠ some q) : OwnS w' base e A n c xs :=
  h.keep fun g off _ hA hk => hk.grown hg (fun he => hr g he.symm (by rw [hA]; rfl))
theorem OwnS.mono (h : OwnS w base e A n c xs) (hB : B ≤ base) : OwnS w B e A n c xs := by
  obtain ⟨h1, h2, h3, h0 | ⟨g, off, cs, rfl, hb, hc, h4, h5⟩⟩ := h
  · exact ⟨h1, h2, h3, .inl h0⟩
  · exact ⟨h1, h2, h3, .inr ⟨g, off, cs, rfl, by omega, hc, h4, h5⟩⟩
/-- what is left behind a cut at the front -/
theorem OwnS.cut (h : OwnS w base e A n c xs) (k : Nat) (hk : k ≤ n) : OwnS w base e (if c = k then A else A.map (·.add k)) (n - k) (c - k) (xs.drop k) := by
  obtain ⟨h1, h2, h3, h4⟩ := h
  refine ⟨by rw [List.length_drop, h1], by omega, by omega, ?_⟩
  by_cases hck : c = k
  · exact .inl (by omega)
  · rcases h4 with h0 | ⟨g, off, cs, rfl, hb, hc, h5, h6⟩
    · omega
    · refine .inr ⟨g, off + k, cs, ?_, hb, hc, by omega, ?_⟩
      · rw [if_neg hck]; simp only [Option.map_some, Addr.add]; split <;> simp_all
      · rw [← h6, List.drop_take, List.drop_drop]
theorem OwnS.of_own {v : Value} (h : w.ownsRow base e 1 v n xs) : ∃ A c, v = .slice A n c ∧ OwnS w base e A n c xs := by
  have hl : n = xs.length := by have := h.1; omega
  rcases h.2 with ⟨rfl, rfl⟩ | ⟨g, cap, cur, rfl, hb, hg, h1, h2, hcs, hp⟩
  · exact ⟨none, 0, rfl, hl, Nat.le_refl _, by decide, .inl rfl⟩
  · refine ⟨_, _, rfl, hl, h1, h2, .inr ⟨g, 0, cur.toList, rfl, hb, ?_, ?_, ?_⟩⟩
    · unfold Blk; simpa using hg
    · simp; omega
    · simpa using hp
end

section
variable {P : Program} (w : World)
/-- append onto a slice of the call's own, wherever it begins -/
theorem run_append_ownS (base : Nat) (t ty e : TypeId) (i : TypeInfo) (z : Value) (bytes : Nat) (ht : P.underlying t = some (.slice e)) (hi : P.info? e = some i) (hz : i.zero = some z)
    (hsize : i.size = 1) (hby : i.bytes = bytes) (hzs : z.cells.size = 1)
    (A0 : Option Addr) (n c0 : Nat) (xs : List Value) (hown : OwnS w base e A0 n c0 xs)
    (B : Nat) (A : Option Addr) (m c : Nat) (news : List Value) (hr : Row w B A news) (hl : news.length = m) (h1 : ∀ u ∈ news, u.oneCell' = true)
    (h63 : n + m ≤ maxLen) (hbytes : (n + m) * bytes ≤ 140737488355328) (hbase : base ≤ w.heap.size) :
    ∃ A' c' w', (Builtin.append_ #[t, t] ty #[.slice A0 n c0, .slice A m c]).run P w = .ok (.slice A' (n + m) c') w' ∧ OwnS w' base e A' (n + m) c' (xs ++ news) ∧ w.grownBy w' (blkOf A0) ∧
      (blkOf A' = blkOf A0 ∨ blkOf A' = some w.heap.size ∧ w.heap.size < w'.heap.size) := by
  subst hby
  have hsmall : n + m ≤ 9223372036854775807 := by simp only [maxLen] at h63; omega
  obtain ⟨hn, hnc, hcm, hh⟩ := hown
  have hlen : n + m = (xs ++ news).length := by rw [List.length_append, ← hn, hl]
  rcases A with _ | ad
  · have hnews : news = [] := by
      rcases news with _ | ⟨x, l⟩
      · rfl
      · obtain ⟨b, off, h, _⟩ := hr (by simp)
        cases h
    subst hnews
    have hm0 : m = 0 := by simpa using hl.symm
    subst hm0
    refine ⟨A0, c0, w, ?_, ⟨by simpa using hn, by omega, hcm, by simpa using hh⟩, World.grownBy.refl w _, .inl rfl⟩
    cases A0 <;> simp [Builtin.append_, run_underlying ht, sizeOf, typeInfo, hi, Builtin.lenOf, Builtin.firstCells, hnc, storeCells]
  · have hcells : ∀ j u, news[j]? = some u → w.cell? (ad.add j) = some u := by
      intro j u hu
      have hj : 0 < news.length := by
        rcases Nat.eq_zero_or_pos news.length with h0 | h0
        · rw [List.eq_nil_of_length_eq_zero h0] at hu; simp at hu
        · exact h0
      obtain ⟨b, off, h, _, hc⟩ := hr hj
      injection h with h
      subst h
      have hplain : (⟨b, off, none⟩ : Addr).add j = ⟨b, off + j, none⟩ := by unfold Addr.add; split <;> simp_all
      rw [hplain]
      exact hc j u hu
    have grown : ∀ (old : Nat), old < n + m →
        OwnS (w.drew.alloc (.cells (xs.toArray ++ news.toArray ++ Builtin.zeroCells z.cells (grownCap w (n + m) old e - (n + m))) e)) base e (some ⟨w.heap.size, 0, none⟩) (n + m) (grownCap w (n + m) old e) (xs ++ news) ∧
        w.grownBy (w.drew.alloc (.cells (xs.toArray ++ news.toArray ++ Builtin.zeroCells z.cells (grownCap w (n + m) old e - (n + m))) e)) (blkOf A0) := by
      intro old ho
      have hge := grownCap_ge w (n + m) old e
      have hcm : grownCap w (n + m) old e ≤ maxLen := grownCap_le_maxLen w (n + m) old e h63
      refine ⟨⟨hlen, hge, hcm, .inr ⟨w.heap.size, 0, xs ++ news ++ (Builtin.zeroCells z.cells (grownCap w (n + m) old e - (n + m))).toList, rfl, hbase, ?_, ?_, ?_⟩⟩, ⟨rfl, rfl, rfl, by simp, fun k hk _ => heap_alloc_old w.drew _ hk⟩⟩
      · have := Blk.new w.drew e (xs ++ news ++ (Builtin.zeroCells z.cells (grownCap w (n + m) old e - (n + m))).toList)
        have e1 : (xs ++ news ++ (Builtin.zeroCells z.cells (grownCap w (n + m) old e - (n + m))).toList).toArray = xs.toArray ++ news.toArray ++ Builtin.zeroCells z.cells (grownCap w (n + m) old e - (n + m)) := by simp
        rw [e1] at this
        exact this
      · simp only [List.length_append, Array.length_toList, size_zeroCells, hzs]; omega
      · rw [List.drop_zero, hlen]; exact List.take_left
    by_cases hroom : n + m ≤ c0
    · rcases hh with h0 | ⟨g, off, cs, rfl, hb, hk, h5, h6⟩
      · have hnews : news = [] := List.eq_nil_of_length_eq_zero (by omega)
        have hm0 : m = 0 := by omega
        subst hnews; subst hm0
        refine ⟨A0, c0, w, ?_, ⟨by simpa using hn, by omega, hcm, .inl h0⟩, World.grownBy.refl w _, .inl rfl⟩
        cases A0 <;> simp [Builtin.append_, run_underlying ht, sizeOf, typeInfo, hi, Builtin.lenOf, Builtin.firstCells, hnc, storeCells, loadCells, loadCellsFrom]
      · have hf := run_firstCells_some (P := P) w 1 m ad m c news (by omega) hcells
        have hst := run_storeCells_at P g (off + n) e news 0 cs.toArray w hk (by simp; omega) h1
        simp only [Nat.add_zero] at hst
        have hadd : (⟨g, off, none⟩ : Addr).add n = ⟨g, off + n, none⟩ := by unfold Addr.add; by_cases h : n = 0 <;> simp [h]
        generalize hC : (cs.toArray.toList.take (off + n) ++ news ++ cs.toArray.toList.drop (off + n + news.length)).toArray = C at hst
        refine ⟨some ⟨g, off, none⟩, c0, w.setRow g C, ?_, ⟨hlen, hroom, hcm, .inr ⟨g, off, C.toList, rfl, hb, ?_, ?_, ?_⟩⟩, ⟨rfl, rfl, rfl, by simp, fun k _ hk' => Go.setRow_other w g k _ (fun e => hk' (by simp [blkOf, e]))⟩, .inl rfl⟩
        · simp [Builtin.append_, run_underlying ht, sizeOf, typeInfo, hi, hsize, Builtin.lenOf, hroom, hf, hadd, hst]
        · unfold Blk; simpa using Go.setRow_heap w g cs.toArray C e (0, 0) hk
        · rw [← hC]; simp; omega
        · rw [← hC]
          simp only [List.toList_toArray, List.drop_append, List.drop_take]
          have e1 : off + n - off = n := by omega
          have e2 : off - (cs.take (off + n)).length = 0 := by rw [List.length_take]; omega
          simp only [e1, e2, List.drop_zero]
          rw [h6, List.append_assoc, ← List.append_assoc, hlen]
          exact List.take_left
    · have hcell0 : ∀ j u, xs[j]? = some u → ∀ a0, A0 = some a0 → w.cell? (a0.add j) = some u := by
        intro j u hu a0 ha
        have hj : j < xs.length := by
          rcases Nat.lt_or_ge j xs.length with h | h
          · exact h
          · rw [List.getElem?_eq_none h] at hu; cases hu
        rcases hh with h0 | ⟨g, off, cs, hA, hb, hk, h5, h6⟩
        · omega
        · rw [hA] at ha; injection ha with ha; subst ha
          have hplain : (⟨g, off, none⟩ : Addr).add j = ⟨g, off + j, none⟩ := by unfold Addr.add; split <;> simp_all
          rw [hplain, hk.cell]
          rw [← h6, List.getElem?_take_of_lt (by omega), List.getElem?_drop] at hu
          exact hu
      have hgr := grown c0 (by omega)
      rcases A0 with _ | a0
      · have hc0 : c0 = 0 := by
          rcases hh with h0 | ⟨g, off, cs, hA, _⟩
          · exact h0
          · cases hA
        have hn0 : n = 0 := by omega
        subst hc0; subst hn0
        have hxs : xs = [] := List.eq_nil_of_length_eq_zero hn.symm
        subst hxs
        have hr' := run_append_nil (P := P) w t ty e i z ht hi hz ad m c news (by rw [hsize]; omega) hcells (by omega) (by omega) (by have hb := hbytes; simp only [Nat.zero_add] at hb; omega)
        simp only [Nat.zero_add, List.nil_append, Array.empty_append] at hgr ⊢
        exact ⟨_, _, _, hr', hgr.1, hgr.2, .inr ⟨rfl, by simp⟩⟩
      · have hr' := run_append_grow (P := P) w t ty e i z ht hi hz a0 n c0 xs (by rw [hsize]; omega) (fun j v hj => hcell0 j v hj a0 rfl) ad m c news (by rw [hsize]; omega) hcells (by omega) (by omega) (growslice_fits (by omega) hbytes)
        exact ⟨_, _, _, hr', hgr.1, hgr.2, .inr ⟨rfl, by simp⟩⟩

theorem wp_append_ownS {o : Oper} {a : Act} {K : Act → World → Prop} {Q : Exit → Act → World → Prop} (s x : Operand) (t : TypeId)
    (ho : o.op = .call { callee := .builtin .append, args := #[s, x], argTypes := #[t, t] })
    (base : Nat) (e : TypeId) (i : TypeInfo) (z : Value) (bytes : Nat) (ht : P.underlying t = some (.slice e)) (hi : P.info? e = some i) (hz : i.zero = some z)
    (hsize : i.size = 1) (hby : i.bytes = bytes) (hzs : z.cells.size = 1)
    (A0 : Option Addr) (n c0 : Nat) (xs : List Value) (hs : a.eval s = .slice A0 n c0) (hown : OwnS w base e A0 n c0 xs)
    (B : Nat) (A : Option Addr) (m c : Nat) (news : List Value) (hx : a.eval x = .slice A m c) (hr : Row w B A news) (hl : news.length = m) (h1 : ∀ u ∈ news, u.oneCell' = true)
    (h63 : n + m ≤ maxLen) (hbytes : (n + m) * bytes ≤ 140737488355328) (hbase : base ≤ w.heap.size)
    (h : ∀ A' c' w', OwnS w' base e A' (n + m) c' (xs ++ news) → w.grownBy w' (blkOf A0) → (blkOf A' = blkOf A0 ∨ blkOf A' = some w.heap.size ∧ w.heap.size < w'.heap.size) → K (a.put o.dst (.slice A' (n + m) c')) w') : o.wp P a w K Q := by
  obtain ⟨A', c', w', hrun, h2, h3, h4⟩ := run_append_ownS (P := P) w base t o.type e i z bytes ht hi hz hsize hby hzs A0 n c0 xs hown B A m c news hr hl h1 h63 hbytes hbase
  unfold Oper.wp execOp
  simp only [ho, resolve, invoke, builtin, Sem.run_bind, Sem.run_pure, Result.andThen_ok, List.map_toArray, List.map_cons, List.map_nil, hs, hx, hrun]
  exact h A' c' w' h2 h3 h4
theorem wpList_append_ownS {ops : Array Oper} {rest : List Oper} {o : Oper} {a : Act} {Q : Exit → Act → World → Prop} (hgd : o.guard = none) (s x : Operand) (t : TypeId)
    (ho : o.op = .call { callee := .builtin .append, args := #[s, x], argTypes := #[t, t] })
    (base : Nat) (e : TypeId) (i : TypeInfo) (z : Value) (bytes : Nat) (ht : P.underlying t = some (.slice e)) (hi : P.info? e = some i) (hz : i.zero = some z)
    (hsize : i.size = 1) (hby : i.bytes = bytes) (hzs : z.cells.size = 1)
    (A0 : Option Addr) (n c0 : Nat) (xs : List Value) (hs : a.eval s = .slice A0 n c0) (hown : OwnS w base e A0 n c0 xs)
    (B : Nat) (A : Option Addr) (m c : Nat) (news : List Value) (hx : a.eval x = .slice A m c) (hr : Row w B A news) (hl : news.length = m) (h1 : ∀ u ∈ news, u.oneCell' = true)
    (h63 : n + m ≤ maxLen) (hbytes : (n + m) * bytes ≤ 140737488355328) (hbase : base ≤ w.heap.size)
    (h : ∀ A' c' w', OwnS w' base e A' (n + m) c' (xs ++ news) → w.grownBy w' (blkOf A0) → (blkOf A' = blkOf A0 ∨ blkOf A' = some w.heap.size ∧ w.heap.size < w'.heap.size) → wpList P ops Q rest (a.put o.dst (.slice A' (n + m) c')) w') : wpList P ops Q (o :: rest) a w :=
  wpList_plain hgd fun _ hK => wp_append_ownS w s x t ho base e i z bytes ht hi hz hsize hby hzs A0 n c0 xs hs hown B A m c news hx hr hl h1 h63 hbytes hbase fun A' c' w' h2 h3 h4 => hK _ _ (h A' c' w' h2 h3 h4)
theorem step_append_ownS {ops : Array Oper} {o : Oper} {a : Act} {K : Act → World → Prop} {Q : Exit → Act → World → Prop} {E : Prop} (hgd : o.guard = none) (s x : Operand) (t : TypeId)
    (ho : o.op = .call { callee := .builtin .append, args := #[s, x], argTypes := #[t, t] })
    (base : Nat) (e : TypeId) (i : TypeInfo) (z : Value) (bytes : Nat) (ht : P.underlying t = some (.slice e)) (hi : P.info? e = some i) (hz : i.zero = some z)
    (hsize : i.size = 1) (hby : i.bytes = bytes) (hzs : z.cells.size = 1)
    (A0 : Option Addr) (n c0 : Nat) (xs : List Value) (hs : a.eval s = .slice A0 n c0) (hown : OwnS w base e A0 n c0 xs)
    (B : Nat) (A : Option Addr) (m c : Nat) (news : List Value) (hx : a.eval x = .slice A m c) (hr : Row w B A news) (hl : news.length = m) (h1 : ∀ u ∈ news, u.oneCell' = true)
    (h63 : n + m ≤ maxLen) (hbytes : (n + m) * bytes ≤ 140737488355328) (hbase : base ≤ w.heap.size)
    (h : ∀ A' c' w', OwnS w' base e A' (n + m) c' (xs ++ news) → w.grownBy w' (blkOf A0) → (blkOf A' = blkOf A0 ∨ blkOf A' = some w.heap.size ∧ w.heap.size < w'.heap.size) → K (a.put o.dst (.slice A' (n + m) c')) w') :
    if Region.wanted o (yielded ops a.tmps) = true then Oper.wp P o a w K Q else E := by
  have hw : Region.wanted o (yielded ops a.tmps) = true := by simp [Region.wanted, hgd]
  rw [if_pos hw]
  exact wp_append_ownS w s x t ho base e i z bytes ht hi hz hsize hby hzs A0 n c0 xs hs hown B A m c news hx hr hl h1 h63 hbytes hbase h
end

/-- nothing has turned but in the blocks of S (and what is new) -/
structure Fr (w w' : World) (S : Nat → Prop) : Prop where
  os : w'.os = w.os
  tape : w'.tape = w.tape
  output : w'.output = w.output
  size : w.heap.size ≤ w'.heap.size
  block : ∀ k, k < w.heap.size → ¬ S k → w'.heap[k]? = w.heap[k]?
section
variable {w w' w'' : World} {S S' : Nat → Prop}
theorem Fr.refl (w : World) (S : Nat → Prop) : Fr w w S := ⟨rfl, rfl, rfl, Nat.le_refl _, fun _ _ _ => rfl⟩
theorem Fr.trans (h : Fr w w' S) (k : Fr w' w'' S') (hS : ∀ q, q < w.heap.size → S' q → S q) : Fr w w'' S :=
  ⟨k.os.trans h.os, k.tape.trans h.tape, k.output.trans h.output, Nat.le_trans h.size k.size, fun q hq hn => (k.block q (Nat.lt_of_lt_of_le hq h.size) (fun hs => hn (hS q hq hs))).trans (h.block q hq hn)⟩
theorem Fr.mono (h : Fr w w' S) (hS : ∀ q, q < w.heap.size → S q → S' q) : Fr w w' S' := ⟨h.os, h.tape, h.output, h.size, fun q hq hn => h.block q hq (fun hs => hn (hS q hq hs))⟩
theorem Fr.below (h : Fr w w' S) {B : Nat} (hB : B ≤ w.heap.size) (hS : ∀ q, S q → B ≤ q) : Below B w w' :=
  ⟨h.os, h.tape, h.output, h.size, fun k hk => h.block k (by omega) (fun hs => by have := hS k hs; omega)⟩
theorem Fr.of_below (h : Below w.heap.size w w') (S : Nat → Prop) : Fr w w' S := ⟨h.os, h.tape, h.output, h.size, fun k hk _ => h.block k hk⟩
theorem Fr.of_grown {row : Option Nat} (h : w.grownBy w' row) (hS : ∀ q, row = some q → S q) : Fr w w' S :=
  ⟨h.os, h.tape, h.output, h.size, fun k hk hn => h.block k hk (fun e => hn (hS k e.symm))⟩
theorem Fr.setCell (h : Fr w w' S) {p : Addr} (hp : S p.block) (u : Value) : Fr w (w'.setCell p u) S :=
  ⟨h.os, h.tape, h.output, by simpa [World.setCell] using h.size, fun k hk hn => (Below.heap_setCell w' p u k (fun e => hn (by rw [e]; exact hp))).trans (h.block k hk hn)⟩
theorem Fr.blk {g : Nat} {t : TypeId} {cs : List Value} (h : Fr w w' S) (hb : Blk w g t cs) (hS : ¬ S g) : Blk w' g t cs := (h.block g hb.lt hS).trans hb
theorem Fr.own {base : Nat} {e : TypeId} {A : Option Addr} {n c : Nat} {xs : List Value} (h : Fr w w' S) (ho : OwnS w base e A n c xs) (hS : ∀ q, blkOf A = some q → ¬ S q) : OwnS w' base e A n c xs :=
  ho.keep fun g off _ hA hk => h.blk hk (hS g (by rw [hA]; rfl))
theorem Fr.row {B : Nat} {A : Option Addr} {xs : List Value} (h : Fr w w' S) (hr : Row w B A xs) (hB : B ≤ w.heap.size) (hS : ∀ q, q < B → ¬ S q) : Row w' B A xs :=
  hr.keep fun p hp => World.cell?_of_block (w := w) (h.block p.block (by omega) (hS _ hp))
end
end Go.Proofs.Ytfklhppfehkfaaa

import Derived.Test.YtljfgohecmhchaaP9
set_option linter.all false
section
namespace Go.Proofs.Ytljfgohecmhchaa
open Go.RowKit
set_option maxRecDepth 100000
/-! The code of fewer types is a front of the whole one's: in plain Lean. -/
def Ag {α : Type} (k : Nat) (X X' : List α) : Prop := ∀ e : Nat, e < k → X[e]? = X'[e]?
theorem Ag.take {α : Type} (n : Nat) (X : List α) {k : Nat} (h : k ≤ n) : Ag k (X.take n) X := fun e he => by rw [List.getElem?_take, if_pos (by omega)]
section
variable {ts ts' : List TypeM} {X X' : List ExtM} {k : Nat}
theorem atE_ag (h : Ag k X X') {i : Int} (h0 : 0 ≤ i) (h1 : i < k) : atE X i = atE X' i := by rw [atE, atE, h i.toNat (by omega)]
theorem fixE_ag (h : Ag k X X') {i : Int} (h0 : 0 ≤ i) (h1 : i < k) : fixE X i = fixE X' i := by rw [fixE, fixE, atE_ag h h0 h1]
theorem tyZ_ag (h : Ag k ts ts') {i : Int} (h0 : 0 ≤ i) (h1 : i < k) : tyZ ts i = tyZ ts' i := by rw [tyZ, tyZ, h i.toNat (by omega)]
theorem layAdd_ag (h : Ag k X X') : ∀ (l : List PartM), (∀ p ∈ l, 0 ≤ p.ty ∧ p.ty < k) → ∀ x, l.foldl (layAdd X) x = l.foldl (layAdd X') x
  | [], _, _ => rfl
  | p :: l, hl, x => by
    have hp := hl p (.head _)
    rw [List.foldl_cons, List.foldl_cons, layAdd, layAdd, atE_ag h hp.1 hp.2]
    exact layAdd_ag h l (fun q hq => hl q (.tail _ hq)) _
theorem layM_ag (h : Ag k X X') {T : TypeM} (hT : tyOK T k) : layM T X = layM T X' := by
  unfold layM
  split
  · exact layAdd_ag h _ hT.2 _
  · split
    · rename_i h4
      have := hT.1 (.inl h4)
      rw [atE_ag h this.1 this.2]
    · split
      · rename_i h5
        have := hT.1 (.inr (.inl h5))
        rw [atE_ag h this.1 this.2]
      · rfl
theorem flds_ag (h : Ag k X X') (ht : Ag k ts ts') (sz : Int) : ∀ (l : List PartM), (∀ p ∈ l, 0 ≤ p.ty ∧ p.ty < k) → ∀ i, flds ts X sz l i = flds ts' X' sz l i
  | [], _, _ => rfl
  | p :: l, hl, i => by
    have hp := hl p (.head _)
    rw [flds, flds, fldF, fldF, fixE_ag h hp.1 hp.2, tyZ_ag ht hp.1 hp.2, flds_ag h ht sz l (fun q hq => hl q (.tail _ hq))]
theorem tls_ag (h : Ag k X X') : ∀ (l : List PartM), (∀ p ∈ l, 0 ≤ p.ty ∧ p.ty < k) → ∀ i j, tls X l i j = tls X' l i j
  | [], _, _, _ => rfl
  | p :: l, hl, i, j => by
    have hp := hl p (.head _)
    rw [tls, tls, fixE_ag h hp.1 hp.2, tls_ag h l (fun q hq => hl q (.tail _ hq)), tls_ag h l (fun q hq => hl q (.tail _ hq))]
theorem uniR_ag (ht : Ag k ts ts') (c n : Nat) : ∀ (l : List PartM), (∀ p ∈ l, 0 ≤ p.ty ∧ p.ty < k) → ∀ i s, uniR ts c n l i s = uniR ts' c n l i s
  | [], _, _, _ => rfl
  | p :: l, hl, i, s => by
    have hp := hl p (.head _)
    rw [uniR, uniR, uniS, uniS, tyZ_ag ht hp.1 hp.2]
    exact uniR_ag ht c n l (fun q hq => hl q (.tail _ hq)) _ _
theorem bodC_ag (h : Ag k X X') (ht : Ag k ts ts') {T : TypeM} (hT : tyOK T k) (sz : Int) (C : List InsM) : bodC ts X sz T k C = bodC ts' X' sz T k C := by
  have hel : T.kind = 4 ∨ T.kind = 5 ∨ T.kind = 6 → fixE X T.elem.toNat = fixE X' T.elem.toNat ∧ ts[T.elem.toNat]? = ts'[T.elem.toNat]? := fun hk => by
    have := hT.1 hk
    exact ⟨fixE_ag h (by omega) (by omega), ht _ (by omega)⟩
  unfold bodC
  split
  · rename_i h4
    obtain ⟨e1, e2⟩ := hel (.inl h4)
    rw [vecC, vecC, e1, e2]
  · split
    · rename_i h5
      obtain ⟨e1, e2⟩ := hel (.inr (.inl h5))
      rw [lisC, lisC, e1, e2]
    · split
      · rename_i h6
        obtain ⟨e1, e2⟩ := hel (.inr (.inr h6))
        rw [optC, optC, e2]
      · split
        · rw [uniC, uniC, uniR_ag ht _ _ _ hT.2]
        · split
          · rw [fieC, fieC, flds_ag h ht _ _ hT.2, tls_ag h _ hT.2]
          · rfl
end
/-! what is patched lies behind -/
theorem patch_take {n : Nat} (B : Int) : ∀ (ws : List Int) (D : List InsM), (∀ w ∈ ws, n ≤ w.toNat) → (patch D ws B).take n = D.take n
  | [], _, _ => rfl
  | w :: ws, D, h => by
    rw [patch, List.foldl_cons]
    have h1 := patch_take B ws (setB D w B) (fun z hz => h z (.tail _ hz))
    rw [patch] at h1
    rw [h1, setB, List.take_set_of_le (h w (.head _))]
theorem rnd_take {n : Nat} (C : List InsM) (t : Int) (D : List InsM) (h : n ≤ D.length) : (rnd C t D).take n = D.take n := by
  rw [rnd, List.take_append_of_le_length (by rw [patch_len]; simp; omega), patch_take _ _ _ (fun w hw => by rw [List.mem_singleton] at hw; omega), List.take_append_of_le_length h]
theorem uniR_take {n : Nat} (ts : List TypeM) (c m : Nat) (hn : n ≤ c) : ∀ (l : List PartM) (k : Nat) (s : List InsM × List Int), n ≤ s.1.length → (∀ z ∈ s.2, n ≤ z.toNat) → (uniR ts c m l k s).1.take n = s.1.take n ∧ ∀ z ∈ (uniR ts c m l k s).2, n ≤ z.toNat
  | [], _, _, _, h => ⟨rfl, h⟩
  | p :: l, k, s, hl, h => by
    have hp : (patch s.1 [((c + k : Nat) : Int)] s.1.length).take n = s.1.take n := patch_take _ _ _ (fun w hw => by rw [List.mem_singleton] at hw; omega)
    have h1 : (uniS ts c m k p s).1.take n = s.1.take n ∧ n ≤ (uniS ts c m k p s).1.length ∧ ∀ z ∈ (uniS ts c m k p s).2, n ≤ z.toNat := by
      unfold uniS
      split
      · refine ⟨by simp only; rw [List.take_append_of_le_length (by rw [patch_len]; exact hl), hp], by simp [patch_len]; omega, fun z hz => ?_⟩
        rcases List.mem_append.1 hz with h' | h'
        · exact h z h'
        · rw [List.mem_singleton] at h'; omega
      · exact ⟨by simp only; rw [List.take_append_of_le_length (by rw [patch_len]; exact hl), hp], by simp [patch_len]; omega, h⟩
    have h2 := uniR_take ts c m hn l (k + 1) (uniS ts c m k p s) h1.2.1 h1.2.2
    rw [uniR]
    exact ⟨h2.1.trans h1.1, h2.2⟩
theorem bodC_take (ts : List TypeM) (X : List ExtM) (sz : Int) (T : TypeM) (i : Nat) (C : List InsM) : (bodC ts X sz T i C).take C.length = C := by
  unfold bodC
  split
  · unfold vecC; split
    · simp
    · rw [rnd_take _ _ _ (by simp)]; simp
  · split
    · unfold lisC; split
      · rw [patch_take _ _ _ (fun w hw => by rw [List.mem_singleton] at hw; omega)]; simp
      · rw [patch_take _ _ _ (fun w hw => by rw [List.mem_singleton] at hw; omega), rnd_take _ _ _ (by rw [patch_len]; simp), patch_take _ _ _ (fun w hw => by rw [List.mem_singleton] at hw; omega)]; simp
    · split
      · unfold optC
        rw [patch_take _ _ _ (fun w hw => by rw [List.mem_singleton] at hw; omega)]; simp
      · split
        · unfold uniC
          have h := uniR_take (n := C.length) ts (C.length + 1) T.parts.length (by omega) T.parts 0 ((C ++ [⟨8, T.parts.length, 0, 0⟩]) ++ T.parts.map fun p => ⟨9, p.tag, -1, 0⟩, []) (by simp) (fun z hz => by cases hz)
          rw [patch_take _ _ _ h.2, h.1]; simp
        · split
          · unfold fieC; simp
          · simp
theorem rouR_take (ts : List TypeM) (X : List ExtM) (Y : List LayM) {j : Nat} : ∀ {k}, j ≤ k → (rouR ts X Y k).1.take (rouR ts X Y j).1.length = (rouR ts X Y j).1 ∧ (rouR ts X Y k).2.take j = (rouR ts X Y j).2
  | 0, h => by
    have : j = 0 := by omega
    subst this
    simp [rouR]
  | k + 1, h => by
    by_cases hj : j = k + 1
    · subst hj
      refine ⟨List.take_length, ?_⟩
      have := rouR_len2 ts X Y (k + 1)
      exact List.take_of_length_le (by omega)
    · have hjk : j ≤ k := by omega
      obtain ⟨h1, h2⟩ := rouR_take ts X Y hjk
      have hm := rouR_mono ts X Y hjk
      have hl := rouR_len2 ts X Y k
      have hb := bodC_take ts X ((Y[k]?).getD ⟨0, []⟩).size (tyZ ts k) k (rouR ts X Y k).1
      have hbl := (bodC_len ts X ((Y[k]?).getD ⟨0, []⟩).size (tyZ ts k) k (rouR ts X Y k).1).1
      rw [rouR]
      refine ⟨?_, by simp only; rw [List.take_append_of_le_length (by omega), h2]⟩
      simp only
      rw [List.take_append_of_le_length (by omega)]
      have := congrArg (List.take (rouR ts X Y j).1.length) hb
      rw [List.take_take, Nat.min_eq_left hm] at this
      rw [this, h1]
end Go.Proofs.Ytljfgohecmhchaa
end
section
namespace Go.Proofs.Ytljfgohecmhchaa
open Go.RowKit
set_option maxRecDepth 100000
/-! A schema of fewer types may be, if the whole one may. -/
theorem checkF_all {ts : List TypeM} {rs : List RootM} (h : (checkF ts rs).1 = 0) : (∀ k, k < ts.length → wrongType ts k = false) ∧ (∀ k, k < ts.length → tooDeep ts k = false) ∧ ∀ k, k < rs.length → wrongRoot ts.length rs k = false := by
  cases h1 : (List.range ts.length).find? (wrongType ts) with
  | some j => rw [checkF, h1] at h; exact absurd (show (92 : Int) = 0 from h) (by decide)
  | none =>
    rw [checkF, h1] at h
    simp only at h
    rw [List.find?_range_eq_none] at h1
    cases h2 : (List.range ts.length).find? (tooDeep ts) with
    | some j =>
      have hd : deepF ts = (83, (j : Int)) := by rw [deepF, h2]
      rw [hd, if_pos (by simp)] at h
      cases h
    | none =>
      have hd : deepF ts = (0, 0) := by rw [deepF, h2]
      rw [hd, if_neg (by simp)] at h
      rw [List.find?_range_eq_none] at h2
      cases h3 : (List.range rs.length).find? (wrongRoot ts.length rs) with
      | some j => rw [h3] at h; exact absurd (show (92 : Int) = 0 from h) (by decide)
      | none =>
        rw [List.find?_range_eq_none] at h3
        exact ⟨fun k hk => by simpa using h1 k hk, fun k hk => by simpa using h2 k hk, fun k hk => by simpa using h3 k hk⟩
theorem checkF_mk {ts : List TypeM} {rs : List RootM} (h1 : ∀ k, k < ts.length → wrongType ts k = false) (h2 : ∀ k, k < ts.length → tooDeep ts k = false) (h3 : ∀ k, k < rs.length → wrongRoot ts.length rs k = false) : checkF ts rs = (0, 0) := by
  have hd : deepF ts = (0, 0) := by rw [deepF, find_none h2]
  rw [checkF, find_none h1]
  simp only
  rw [hd, if_neg (by simp), find_none h3]
def goodRoots (n : Nat) (rs : List RootM) : Prop := (∀ r ∈ rs, isName r.name = true ∧ 0 ≤ r.ty ∧ r.ty < n) ∧ rs.Pairwise (fun a b => a.name ≠ b.name) ∧ rs.length ≤ 256
theorem roots_good {n : Nat} {rs : List RootM} (h : ∀ k, k < rs.length → wrongRoot n rs k = false) : goodRoots n rs := by
  have hk : ∀ k (hk : k < rs.length), isName rs[k].name = true ∧ (∀ q ∈ rs.take k, q.name ≠ rs[k].name) ∧ 0 ≤ rs[k].ty ∧ rs[k].ty < n ∧ k < 256 := fun k hk => by
    have := h k hk
    rw [wrongRoot, List.getElem?_eq_getElem hk] at this
    simp only [Bool.or_eq_false_iff, Bool.not_eq_false', decide_eq_false_iff_not, List.any_eq_false, decide_eq_true_eq] at this
    obtain ⟨⟨⟨⟨a, b⟩, c⟩, d⟩, e⟩ := this
    exact ⟨a, b, by omega, by omega, by omega⟩
  refine ⟨fun r hr => ?_, ?_, ?_⟩
  · obtain ⟨k, hkl, rfl⟩ := List.mem_iff_getElem.1 hr
    have := hk k hkl
    exact ⟨this.1, this.2.2.1, this.2.2.2.1⟩
  · rw [List.pairwise_iff_getElem]
    intro i j hi hj hij
    exact (hk j hj).2.1 _ (List.mem_iff_getElem.2 ⟨i, by rw [List.length_take]; omega, by rw [List.getElem_take]⟩)
  · rcases Nat.eq_zero_or_pos rs.length with h0 | h0
    · omega
    · have := (hk (rs.length - 1) (by omega)).2.2.2.2; omega
theorem good_roots {n : Nat} {rs : List RootM} (h : goodRoots n rs) : ∀ k, k < rs.length → wrongRoot n rs k = false := by
  obtain ⟨h1, h2, h3⟩ := h
  intro k hk
  have hr := h1 _ (List.getElem_mem hk)
  rw [wrongRoot, List.getElem?_eq_getElem hk]
  simp only [Bool.or_eq_false_iff, Bool.not_eq_false', decide_eq_false_iff_not, List.any_eq_false, decide_eq_true_eq]
  refine ⟨⟨⟨⟨hr.1, fun q hq => ?_⟩, by omega⟩, by omega⟩, by omega⟩
  obtain ⟨i, hi, rfl⟩ := List.mem_iff_getElem.1 hq
  rw [List.length_take] at hi
  rw [List.getElem_take]
  exact (List.pairwise_iff_getElem.1 h2) i k (by omega) hk (by omega)
theorem roots_front {n m : Nat} {rs : List RootM} (h : goodRoots m rs) : goodRoots n (rootsF rs n) := by
  obtain ⟨h1, h2, h3⟩ := h
  refine ⟨fun r hr => ?_, h2.filter _, Nat.le_trans (List.length_filter_le _ _) h3⟩
  have hr := List.mem_filter.1 hr
  have := h1 r hr.1
  exact ⟨this.1, this.2.1, by simpa using hr.2⟩
theorem checkF_front {ts : List TypeM} {rs : List RootM} (h : (checkF ts rs).1 = 0) {n : Nat} (hn : n ≤ ts.length) : checkF (ts.take n) (rootsF rs n) = (0, 0) := by
  obtain ⟨h1, h2, h3⟩ := checkF_all h
  have hl : (ts.take n).length = n := by rw [List.length_take]; omega
  have hg : ∀ k, k < n → (ts.take n)[k]? = ts[k]? := fun k hk => by rw [List.getElem?_take, if_pos hk]
  refine checkF_mk (fun k hk => ?_) (fun k hk => ?_) ?_
  · have := h1 k (by omega)
    rw [wrongType, ← hg k (by omega)] at this
    exact this
  · have := h2 k (by omega)
    rw [tooDeep, ← hg k (by omega)] at this
    rw [tooDeep, List.take_take, Nat.min_eq_left (by omega)]
    exact this
  · rw [hl]
    exact good_roots (roots_front (roots_good h3))
theorem exts_pre : ∀ (l : List TypeM) (L : List ExtM), (l.foldl (fun L t => L ++ [extM t L]) L).take L.length = L
  | [], L => List.take_length
  | t :: l, L => by
    rw [List.foldl_cons]
    have h := exts_pre l (L ++ [extM t L])
    have h2 := congrArg (List.take L.length) h
    rw [List.take_take, List.length_append, Nat.min_eq_left (by simp), List.take_left] at h2
    exact h2
theorem exts_front (ts : List TypeM) {n : Nat} (hn : n ≤ ts.length) : exts (ts.take n) = (exts ts).take n := by
  have h1 : exts ts = (ts.drop n).foldl (fun L t => L ++ [extM t L]) (exts (ts.take n)) := by
    conv => lhs; rw [← List.take_append_drop n ts]
    rw [exts, List.foldl_append]; rfl
  have h2 := exts_pre (ts.drop n) (exts (ts.take n))
  rw [← h1, exts_len ts n hn] at h2
  exact h2.symm
section
variable {ts : List TypeM} {rs : List RootM}
theorem rouR_front (h0 : (checkF ts rs).1 = 0) {n : Nat} (hn : n ≤ ts.length) : ∀ k, k ≤ n → rouR (ts.take n) (exts (ts.take n)) (lays (ts.take n)) k = rouR ts (exts ts) (lays ts) k
  | 0, _ => rfl
  | k + 1, hk => by
    have ih := rouR_front h0 hn k (by omega)
    have hr := check_right h0 k (by omega)
    have hty := rightOK_ty hr
    have hz : tyZ (ts.take n) k = ts[k] := by rw [tyZ, Int.toNat_natCast, List.getElem?_take, if_pos (by omega), List.getElem?_eq_getElem (by omega)]; rfl
    have hz2 : tyZ ts k = ts[k] := tyZ_lt (by omega)
    have hX : Ag k (exts (ts.take n)) (exts ts) := by rw [exts_front ts hn]; exact Ag.take n _ (by omega)
    have hY : (((lays (ts.take n))[k]?).getD ⟨0, []⟩).size = (((lays ts)[k]?).getD ⟨0, []⟩).size := by
      rw [lays, lays, List.getElem?_map, List.getElem?_map, List.getElem?_take, if_pos (by omega), List.getElem?_eq_getElem (by omega)]
      simp only [Option.map_some, Option.getD_some]
      rw [layM_ag hX hty]
    rw [rouR, rouR, ih, hz, hz2, hY, bodC_ag hX (Ag.take n ts (by omega)) hty]
/-- what is laid of fewer types -/
theorem decF_front (h : (decF ts rs).2 = 0) {n : Nat} (hn : n ≤ ts.length) : (checkF ts rs).1 = 0 ∧ decF ts rs = (rouR ts (exts ts) (lays ts) ts.length, 0) ∧ decF (ts.take n) (rootsF rs n) = (rouR ts (exts ts) (lays ts) n, 0) := by
  have h0 : (checkF ts rs).1 = 0 := by
    by_cases h0 : (checkF ts rs).1 = 0
    · exact h0
    · rw [decF, if_pos h0] at h; cases h
  rw [decF, if_neg (by omega)] at h ⊢
  have hb : bigX (exts ts) = false := by
    cases hb : bigX (exts ts) with
    | false => rfl
    | true => rw [hb, if_pos rfl] at h; cases h
  rw [hb, if_neg (by simp)] at h ⊢
  have hl : ¬ 1048576 < (rouR ts (exts ts) (lays ts) ts.length).1.length := fun hl => by rw [if_pos hl] at h; cases h
  rw [if_neg hl]
  have hlen : (ts.take n).length = n := by rw [List.length_take]; omega
  have hm := rouR_mono ts (exts ts) (lays ts) hn
  have hb2 : bigX (exts (ts.take n)) = false := by
    rw [exts_front ts hn]
    rw [bigX, List.any_eq_false] at hb ⊢
    exact fun e he => hb e (List.mem_of_mem_take he)
  refine ⟨h0, rfl, ?_⟩
  rw [decF, checkF_front h0 hn, if_neg (by simp), hb2, if_neg (by simp), hlen, rouR_front h0 hn n (Nat.le_refl _), if_neg (by omega)]
end
end Go.Proofs.Ytljfgohecmhchaa
end
section
namespace Go.Proofs.Ytljfgohecmhchaa
open Go.RowKit
set_option maxRecDepth 100000
set_option maxHeartbeats 8000000
/-! mortiselaw16.awake; mortiseref14.Equal. -/
def pV (C : List InsM) (N : List Int) : AV := .agg [.v (.bool false), .lst 4 (encIs C), .lst 1 (v8 N)]
theorem dec_any (ts : List TypeM) (rs : List RootM) (hts : ts.length ≤ 1000000) (hrs : rs.length ≤ 1000000000) (hp : ∀ t ∈ ts, t.parts.length ≤ 1000000000) :
    PCall Try.prog 8 [vSch ts rs] (fun r => r = .tup [pV (decF ts rs).1.1 (decF ts rs).1.2, vI (decF ts rs).2]) := by
  have h := (dec_G ts rs hts hrs hp).toP (by simp [AV.snapOK, AV.snapOK.snapOKL, lk, encIs_len, v8_len])
  have hl : (encIs (decF ts rs).1.1).take (decF ts rs).1.1.length = encIs (decF ts rs).1.1 := take_len (by rw [encIs_len]; exact Nat.le_refl _)
  have hl2 : (v8 (decF ts rs).1.2).take (decF ts rs).1.2.length = v8 (decF ts rs).1.2 := take_len (by rw [v8_len]; exact Nat.le_refl _)
  simpa [pV, AV.snap, AV.snap.snapL, lk, hl, hl2] using h
theorem num16_any (e : Int) : PCall Try.prog 9 [vI e] (fun r => r = vI e) := by
  refine go_fn (tyOf_ok _) Try.func9 rfl rfl (by rw [Try.results9]) Try.ntmps9 rfl fun E => ?_
  (repeat' (first
    | exact trivial
    | (with_reducible first | refine awA ?_ | refine awB ?_ | refine awC ?_ | refine awD ?_ | refine awE ?_ | refine awF ?_ | refine awG ?_ | refine awH ?_ | refine awI ?_ | refine awJ ?_ | refine awK ?_ | refine awL ?_ | refine awM (by decide) ?_)
    | ((with_reducible first | refine awN (tyOf_ok _) [] ?_ | refine awO (tyOf_ok _) [] ?_ | refine awP (tyOf_ok _) [] ?_ | refine awQ ?_ | refine awR ?_ | refine awS ?_); intro r hr; simp only [go_sem, Nat.reduceBEq, Nat.reduceBneDiff, Nat.reduceLT, Nat.reduceLeDiff, Nat.reduceAdd, Nat.reduceMul, Nat.reduceSub, Nat.reduceEqDiff, reduceCtorEq] at hr; subst hr; (first | refine awV ?_ ?_ | refine awW ?_ ?_ | refine endK ?_ ?_ | (refine condK (fun h => ?_) (fun h => ?_) <;> (try simp only [go_sem, reduceCtorEq] at h) <;> (try (exfalso; omega))))) | fail)) <;> (try omega)
  exact rfl
theorem equal14_refl (C : List InsM) (N : List Int) (hC : C.length ≤ 1000000000) (hN : N.length ≤ 1000000000) : PCall Try.prog 11 [pV C N, pV C N] (fun r => r = vB true) := by
  refine go_fn (tyOf_ok _) Try.func11 rfl rfl (by rw [Try.results11]) Try.ntmps11 rfl fun E => ?_
  (repeat' (first
    | exact trivial
    | (with_reducible first | refine awA ?_ | refine awB ?_ | refine awC ?_ | refine awD ?_ | refine awE ?_ | refine awF ?_ | refine awG ?_ | refine awH ?_ | refine awI ?_ | refine awJ ?_ | refine awK ?_ | refine awL ?_ | refine awM (by decide) ?_)
    | (refine aw_draw (id := 6) (t := (.node [0, 1, 2, 3, 4, 5, 6, 7, 8, 9, 10] [])) (drR [2, 3] [41, 46] []) mixed (by kernel_rfl) (by kernel_rfl) (fun _ _ h => h) ?_)
    | (refine aw_draw (id := 11) (t := (.node [0, 1, 2, 3, 4, 5, 6, 7, 8, 9, 10] [])) (drR [2, 3] [59, 64] []) mixed (by kernel_rfl) (by kernel_rfl) (fun _ _ h => h) ?_)
    | (refine at_done (by simp only [List.filterMap_cons, List.filterMap_nil, List.getElem?_toArray, List.getElem?_cons_zero, List.getElem?_cons_succ]; exact rfl) ?_) | (refine at_alt (by simp only [List.filterMap_cons, List.filterMap_nil, List.getElem?_toArray, List.getElem?_cons_zero, List.getElem?_cons_succ]; exact rfl) ?_) | refine qalt_normal ?_ | refine ats_cons ?_ ?_ | exact ats_nil
    | ((with_reducible first | refine awN (tyOf_ok _) [] ?_ | refine awO (tyOf_ok _) [] ?_ | refine awP (tyOf_ok _) [] ?_ | refine awQ ?_ | refine awR ?_ | refine awS ?_); intro r hr; simp only [go_sem, Nat.reduceBEq, Nat.reduceBneDiff, Nat.reduceLT, Nat.reduceLeDiff, Nat.reduceAdd, Nat.reduceMul, Nat.reduceSub, Nat.reduceEqDiff, reduceCtorEq, pV, encIs_len, v8_len, ne_eq, not_true_eq_false, decide_false] at hr; subst hr; (first | refine awV ?_ ?_ | refine awW ?_ ?_ | refine endK ?_ ?_ | (refine condK (fun h => ?_) (fun h => ?_) <;> (try simp only [go_sem, reduceCtorEq] at h) <;> (try (exfalso; omega))))) | fail)) <;> (try omega)
  refine go_loop [2, 3, 5] [2, 3] (fun k : Nat => ⟨[(2, true, .ptr 1 2 0 0), (3, true, .ptr 1 3 0 0), (5, true, vI k)], [(2, .var [.v (.bool false), .lst 4 (encIs C), .lst 1 (v8 N)]), (3, .var [.v (.bool false), .lst 4 (encIs C), .lst 1 (v8 N)])]⟩) (fun k => k ≤ C.length) (fun k => C.length - k) 0 (by simp only [go_sem, Nat.reduceBEq, Nat.reduceBneDiff, Nat.reduceLT, Nat.reduceLeDiff, Nat.reduceAdd, Nat.reduceMul, Nat.reduceSub, Nat.reduceEqDiff, reduceCtorEq] <;> exact rfl) (Nat.zero_le _) ?_
  intro k hk
  have hw := wrap_i64 (n := (k : Int) + 1) (by omega)
  by_cases hlt : k < C.length
  · have e1 : ((k : Int) < C.length) = True := eq_true (by omega)
    have g1 := encIs_get hlt
    have zk : ((k : Int)).toNat = k := by omega
    (repeat' (first
    | exact trivial
    | (with_reducible first | refine awA ?_ | refine awB ?_ | refine awC ?_ | refine awD ?_ | refine awE ?_ | refine awF ?_ | refine awG ?_ | refine awH ?_ | refine awI ?_ | refine awJ ?_ | refine awK ?_ | refine awL ?_ | refine awM (by decide) ?_)
    | (refine aw_draw (id := 6) (t := (.node [0, 1, 2, 3, 4, 5, 6, 7, 8, 9, 10] [])) (drR [2, 3] [41, 46] []) mixed (by kernel_rfl) (by kernel_rfl) (fun _ _ h => h) ?_)
    | (refine aw_draw (id := 11) (t := (.node [0, 1, 2, 3, 4, 5, 6, 7, 8, 9, 10] [])) (drR [2, 3] [59, 64] []) mixed (by kernel_rfl) (by kernel_rfl) (fun _ _ h => h) ?_)
    | (refine at_done (by simp only [List.filterMap_cons, List.filterMap_nil, List.getElem?_toArray, List.getElem?_cons_zero, List.getElem?_cons_succ]; exact rfl) ?_) | (refine at_alt (by simp only [List.filterMap_cons, List.filterMap_nil, List.getElem?_toArray, List.getElem?_cons_zero, List.getElem?_cons_succ]; exact rfl) ?_) | refine qalt_normal ?_ | refine ats_cons ?_ ?_ | exact ats_nil
    | ((with_reducible first | refine awN (tyOf_ok _) [] ?_ | refine awO (tyOf_ok _) [] ?_ | refine awP (tyOf_ok _) [] ?_ | refine awQ ?_ | refine awR ?_ | refine awS ?_); intro r hr; simp only [go_sem, Nat.reduceBEq, Nat.reduceBneDiff, Nat.reduceLT, Nat.reduceLeDiff, Nat.reduceAdd, Nat.reduceMul, Nat.reduceSub, Nat.reduceEqDiff, reduceCtorEq, encIs_len, hw, e1, g1, zk, ne_eq, not_true_eq_false, decide_false, decide_true, Bool.and_self, Bool.not_true] at hr; subst hr; (first | refine awV ?_ ?_ | refine awW ?_ ?_ | refine endK ?_ ?_ | (refine condK (fun h => ?_) (fun h => ?_) <;> (try simp only [go_sem, reduceCtorEq] at h) <;> (try (exfalso; omega))))) | fail)) <;> (try omega)
    all_goals exact ⟨k + 1, by simp only [go_sem, Nat.reduceBEq, Nat.reduceBneDiff, Nat.reduceLT, Nat.reduceLeDiff, Nat.reduceAdd, Nat.reduceMul, Nat.reduceSub, Nat.reduceEqDiff, reduceCtorEq] <;> exact rfl, hlt, by omega⟩
  have e1 : ((k : Int) < C.length) = False := eq_false (by omega)
  (repeat' (first
    | exact trivial
    | (with_reducible first | refine awA ?_ | refine awB ?_ | refine awC ?_ | refine awD ?_ | refine awE ?_ | refine awF ?_ | refine awG ?_ | refine awH ?_ | refine awI ?_ | refine awJ ?_ | refine awK ?_ | refine awL ?_ | refine awM (by decide) ?_)
    | (refine aw_draw (id := 6) (t := (.node [0, 1, 2, 3, 4, 5, 6, 7, 8, 9, 10] [])) (drR [2, 3] [41, 46] []) mixed (by kernel_rfl) (by kernel_rfl) (fun _ _ h => h) ?_)
    | (refine aw_draw (id := 11) (t := (.node [0, 1, 2, 3, 4, 5, 6, 7, 8, 9, 10] [])) (drR [2, 3] [59, 64] []) mixed (by kernel_rfl) (by kernel_rfl) (fun _ _ h => h) ?_)
    | (refine at_done (by simp only [List.filterMap_cons, List.filterMap_nil, List.getElem?_toArray, List.getElem?_cons_zero, List.getElem?_cons_succ]; exact rfl) ?_) | (refine at_alt (by simp only [List.filterMap_cons, List.filterMap_nil, List.getElem?_toArray, List.getElem?_cons_zero, List.getElem?_cons_succ]; exact rfl) ?_) | refine qalt_normal ?_ | refine ats_cons ?_ ?_ | exact ats_nil
    | ((with_reducible first | refine awN (tyOf_ok _) [] ?_ | refine awO (tyOf_ok _) [] ?_ | refine awP (tyOf_ok _) [] ?_ | refine awQ ?_ | refine awR ?_ | refine awS ?_); intro r hr; simp only [go_sem, Nat.reduceBEq, Nat.reduceBneDiff, Nat.reduceLT, Nat.reduceLeDiff, Nat.reduceAdd, Nat.reduceMul, Nat.reduceSub, Nat.reduceEqDiff, reduceCtorEq, encIs_len, e1] at hr; subst hr; (first | refine awV ?_ ?_ | refine awW ?_ ?_ | refine endK ?_ ?_ | (refine condK (fun h => ?_) (fun h => ?_) <;> (try simp only [go_sem, reduceCtorEq] at h) <;> (try (exfalso; omega))))) | fail)) <;> (try omega)
  refine go_loop [2, 3, 6] [2, 3] (fun k : Nat => ⟨[(2, true, .ptr 1 2 0 0), (3, true, .ptr 1 3 0 0), (6, true, vI k)], [(2, .var [.v (.bool false), .lst 4 (encIs C), .lst 1 (v8 N)]), (3, .var [.v (.bool false), .lst 4 (encIs C), .lst 1 (v8 N)])]⟩) (fun k => k ≤ N.length) (fun k => N.length - k) 0 (by simp only [go_sem, Nat.reduceBEq, Nat.reduceBneDiff, Nat.reduceLT, Nat.reduceLeDiff, Nat.reduceAdd, Nat.reduceMul, Nat.reduceSub, Nat.reduceEqDiff, reduceCtorEq] <;> exact rfl) (Nat.zero_le _) ?_
  clear hk hw hlt e1
  intro j hj
  have hw := wrap_i64 (n := (j : Int) + 1) (by omega)
  by_cases hlt : j < N.length
  · have e1 : ((j : Int) < N.length) = True := eq_true (by omega)
    have g1 := v8_get hlt
    have zk : ((j : Int)).toNat = j := by omega
    (repeat' (first
    | exact trivial
    | (with_reducible first | refine awA ?_ | refine awB ?_ | refine awC ?_ | refine awD ?_ | refine awE ?_ | refine awF ?_ | refine awG ?_ | refine awH ?_ | refine awI ?_ | refine awJ ?_ | refine awK ?_ | refine awL ?_ | refine awM (by decide) ?_)
    | (refine aw_draw (id := 6) (t := (.node [0, 1, 2, 3, 4, 5, 6, 7, 8, 9, 10] [])) (drR [2, 3] [41, 46] []) mixed (by kernel_rfl) (by kernel_rfl) (fun _ _ h => h) ?_)
    | (refine aw_draw (id := 11) (t := (.node [0, 1, 2, 3, 4, 5, 6, 7, 8, 9, 10] [])) (drR [2, 3] [59, 64] []) mixed (by kernel_rfl) (by kernel_rfl) (fun _ _ h => h) ?_)
    | (refine at_done (by simp only [List.filterMap_cons, List.filterMap_nil, List.getElem?_toArray, List.getElem?_cons_zero, List.getElem?_cons_succ]; exact rfl) ?_) | (refine at_alt (by simp only [List.filterMap_cons, List.filterMap_nil, List.getElem?_toArray, List.getElem?_cons_zero, List.getElem?_cons_succ]; exact rfl) ?_) | refine qalt_normal ?_ | refine ats_cons ?_ ?_ | exact ats_nil
    | ((with_reducible first | refine awN (tyOf_ok _) [] ?_ | refine awO (tyOf_ok _) [] ?_ | refine awP (tyOf_ok _) [] ?_ | refine awQ ?_ | refine awR ?_ | refine awS ?_); intro r hr; simp only [go_sem, Nat.reduceBEq, Nat.reduceBneDiff, Nat.reduceLT, Nat.reduceLeDiff, Nat.reduceAdd, Nat.reduceMul, Nat.reduceSub, Nat.reduceEqDiff, reduceCtorEq, v8_len, hw, e1, g1, zk, ne_eq, not_true_eq_false, decide_false, decide_true, Bool.and_self, Bool.not_true] at hr; subst hr; (first | refine awV ?_ ?_ | refine awW ?_ ?_ | refine endK ?_ ?_ | (refine condK (fun h => ?_) (fun h => ?_) <;> (try simp only [go_sem, reduceCtorEq] at h) <;> (try (exfalso; omega))))) | fail)) <;> (try omega)
    all_goals exact ⟨j + 1, by simp only [go_sem, Nat.reduceBEq, Nat.reduceBneDiff, Nat.reduceLT, Nat.reduceLeDiff, Nat.reduceAdd, Nat.reduceMul, Nat.reduceSub, Nat.reduceEqDiff, reduceCtorEq] <;> exact rfl, hlt, by omega⟩
  · have e1 : ((j : Int) < N.length) = False := eq_false (by omega)
    (repeat' (first
    | exact trivial
    | (with_reducible first | refine awA ?_ | refine awB ?_ | refine awC ?_ | refine awD ?_ | refine awE ?_ | refine awF ?_ | refine awG ?_ | refine awH ?_ | refine awI ?_ | refine awJ ?_ | refine awK ?_ | refine awL ?_ | refine awM (by decide) ?_)
    | (refine aw_draw (id := 6) (t := (.node [0, 1, 2, 3, 4, 5, 6, 7, 8, 9, 10] [])) (drR [2, 3] [41, 46] []) mixed (by kernel_rfl) (by kernel_rfl) (fun _ _ h => h) ?_)
    | (refine aw_draw (id := 11) (t := (.node [0, 1, 2, 3, 4, 5, 6, 7, 8, 9, 10] [])) (drR [2, 3] [59, 64] []) mixed (by kernel_rfl) (by kernel_rfl) (fun _ _ h => h) ?_)
    | (refine at_done (by simp only [List.filterMap_cons, List.filterMap_nil, List.getElem?_toArray, List.getElem?_cons_zero, List.getElem?_cons_succ]; exact rfl) ?_) | (refine at_alt (by simp only [List.filterMap_cons, List.filterMap_nil, List.getElem?_toArray, List.getElem?_cons_zero, List.getElem?_cons_succ]; exact rfl) ?_) | refine qalt_normal ?_ | refine ats_cons ?_ ?_ | exact ats_nil
    | ((with_reducible first | refine awN (tyOf_ok _) [] ?_ | refine awO (tyOf_ok _) [] ?_ | refine awP (tyOf_ok _) [] ?_ | refine awQ ?_ | refine awR ?_ | refine awS ?_); intro r hr; simp only [go_sem, Nat.reduceBEq, Nat.reduceBneDiff, Nat.reduceLT, Nat.reduceLeDiff, Nat.reduceAdd, Nat.reduceMul, Nat.reduceSub, Nat.reduceEqDiff, reduceCtorEq, v8_len, e1] at hr; subst hr; (first | refine awV ?_ ?_ | refine awW ?_ ?_ | refine endK ?_ ?_ | (refine condK (fun h => ?_) (fun h => ?_) <;> (try simp only [go_sem, reduceCtorEq] at h) <;> (try (exfalso; omega))))) | fail)) <;> (try omega)
    all_goals exact rfl
def bts : List TypeM := [⟨1, 1, 0, []⟩, ⟨1, 2, 0, []⟩, ⟨5, 9, 1, []⟩, ⟨1, 1, 0, []⟩, ⟨8, 0, 0, [⟨⟨#[97]⟩, 0, 0⟩, ⟨⟨#[98]⟩, 0, 2⟩, ⟨⟨#[99]⟩, 0, 3⟩]⟩]
def brs : List RootM := [⟨⟨#[98, 111, 120]⟩, 4⟩]
def bC : List InsM := [⟨1, -1, 1, 0⟩, ⟨20, 0, 0, 0⟩, ⟨1, -1, 2, 0⟩, ⟨20, 0, 0, 0⟩, ⟨5, 0, 0, 0⟩, ⟨13, 9, 8, 0⟩, ⟨1, -1, 2, 0⟩, ⟨19, 0, 5, 0⟩, ⟨20, 0, 0, 0⟩, ⟨1, -1, 1, 0⟩, ⟨20, 0, 0, 0⟩, ⟨6, 0, 0, 0⟩, ⟨1, 0, 1, 0⟩, ⟨10, 6, 0, 0⟩, ⟨1, 2, 1, 0⟩, ⟨17, 1, 0, 2⟩, ⟨18, 0, 0, 0⟩, ⟨20, 0, 0, 0⟩]
def bN : List Int := [0, 2, 4, 9, 11]
theorem box_dec : decF bts brs = ((bC, bN), 0) := by kernel_rfl
theorem opt_dec : decF [⟨6, 0, 0, []⟩] [] = (([], []), 92) := by kernel_rfl
theorem nil_dec : decF [] [] = (([], []), 0) := by kernel_rfl
theorem box_any : PCall Try.prog 16 [] (fun r => r = vSch bts brs) := by
  refine go_fnU (tyOf_ok _) Try.func16 rfl rfl (by rw [Try.results16]) Try.ntmps16 rfl fun E => ?_
  (repeat' (first
    | exact trivial
    | (with_reducible first | refine awA ?_ | refine awB ?_ | refine awC ?_ | refine awD ?_ | refine awE ?_ | refine awF ?_ | refine awG ?_ | refine awH ?_ | refine awI ?_ | refine awJ ?_ | refine awK ?_ | refine awL ?_ | refine awM (by decide) ?_)
    | ((with_reducible first | refine awN (tyOf_ok _) [6] ?_ | refine awO (tyOf_ok _) [6] ?_ | refine awP (tyOf_ok _) [6] ?_ | refine awQ ?_ | refine awR ?_ | refine awS ?_); intro r hr; simp only [go_sem, Nat.reduceBEq, Nat.reduceBneDiff, Nat.reduceLT, Nat.reduceLeDiff, Nat.reduceAdd, Nat.reduceMul, Nat.reduceSub, Nat.reduceEqDiff, reduceCtorEq, Int.cast_ofNat_Int, Int.reduceToNat, Int.reduceEq, Int.reduceLT, Int.reduceLE, Int.reduceNe, List.cons_append, List.nil_append, List.take_succ_cons, List.take_zero, List.length_cons, List.length_nil, List.drop_zero] at hr; subst hr; (first | refine awV ?_ ?_ | refine awW ?_ ?_ | refine endK ?_ ?_ | (refine condK (fun h => ?_) (fun h => ?_) <;> (try simp only [go_sem, reduceCtorEq] at h) <;> (try (exfalso; omega))))) | fail)) <;> (try omega)
  refine Up.up (.agg (.cons (.lst ?_) (.cons (.rfl _) .nil)))
  repeat (first | exact .nil | refine .cons (.cons (.rfl _) (.cons (.rfl _) (.cons (.rfl _) (.cons (.nil _) .nil)))) ?_ | refine .cons (.cons (.rfl _) (.cons (.rfl _) (.cons (.rfl _) (.cons (.rfl _) .nil)))) ?_)
theorem awake16 : PCall Try.prog 6 [] (fun r => r = vB true) := by
  refine go_fn (tyOf_ok _) Try.func6 rfl rfl (by rw [Try.results6]) Try.ntmps6 rfl fun E => ?_
  have hb := box_any
  have d1 := dec_any bts brs (by decide) (by decide) (by decide)
  rw [box_dec] at d1
  have d2 := PCall.args (as' := [.agg [.lst 4 [[vI 6, vI 0, vI 0, nil9]], nil9]]) (.cons (.agg (.cons (.lst (.cons (.cons (.rfl _) (.cons (.rfl _) (.cons (.rfl _) (.cons (.nil _) .nil)))) .nil)) (.cons (.nil _) .nil))) .nil) (dec_any [⟨6, 0, 0, []⟩] [] (by decide) (by decide) (by decide))
  rw [opt_dec] at d2
  have d3 := PCall.args (as' := [.agg [nil9, nil9]]) (.cons (.agg (.cons (.nil _) (.cons (.nil _) .nil))) .nil) (dec_any [] [] (by decide) (by decide) (by decide))
  rw [nil_dec] at d3
  have hE := equal14_refl bC bN (by decide) (by decide)
  unfold pV at d1 d2 d3 hE
  (repeat' (first
    | exact trivial
    | (with_reducible first | refine awA ?_ | refine awB ?_ | refine awC ?_ | refine awD ?_ | refine awE ?_ | refine awF ?_ | refine awG ?_ | refine awH ?_ | refine awI ?_ | refine awJ ?_ | refine awK ?_ | refine awL ?_ | refine awM (by decide) ?_)
    | ((with_reducible first | refine awN (tyOf_ok _) [] ?_ | refine awO (tyOf_ok _) [] ?_ | refine awP (tyOf_ok _) [] ?_ | refine awQ ?_ | refine awR ?_ | refine awS ?_); intro r hr; simp only [go_sem, Nat.reduceBEq, Nat.reduceBneDiff, Nat.reduceLT, Nat.reduceLeDiff, Nat.reduceAdd, Nat.reduceMul, Nat.reduceSub, Nat.reduceEqDiff, reduceCtorEq, vSch, Int.cast_ofNat_Int, Int.reduceToNat, Int.reduceEq, Int.reduceLT, Int.reduceLE, Int.reduceNe, encIs_len] at hr; subst hr; (first | refine caC (hb) rfl ?_ ?_ ?_ | refine caC (d1) rfl ?_ ?_ ?_ | refine caC (d2) rfl ?_ ?_ ?_ | refine caC (d3) rfl ?_ ?_ ?_ | refine caA (fun _ => num16_any _) rfl ?_ ?_ ?_ | refine caA (fun _ => hE) rfl ?_ ?_ ?_ | refine awV ?_ ?_ | refine awW ?_ ?_ | refine endK ?_ ?_ | (refine condK (fun h => ?_) (fun h => ?_) <;> (try simp only [go_sem, reduceCtorEq] at h) <;> (try (exfalso; omega))))) | fail)) <;> (try omega)
  all_goals first | exact rfl | skip
end Go.Proofs.Ytljfgohecmhchaa
end
section
namespace Go.Proofs.Ytljfgohecmhchaa
open Go.RowKit
set_option maxRecDepth 100000
set_option maxHeartbeats 8000000
/-! LowerFront. -/
section
variable {P : Program} {E : Env} {s : AState} {n : Nat} {ops : Array Oper} {Q : Exit → AState → Prop} {D : Dr} {rest : List Oper} {o : Oper}
/-- an operation that is not carried out and only reads: whatever is said of it -/
theorem al_skip (d : Nat) (_ : o.dst = some d) (ra : AV) (hg : guardAV ops s o.guard = some false) (hk : kindN o.op = true) (hdst : dstOK n o.dst) (hr : AListD P E n ops D rest Q (s.put o.dst false ra)) : AListR P E n ops D (o :: rest) Q s := by
  intro a w β hn hd hs
  have hw := guard_ok (ops := ops) hs hg
  obtain ⟨g1, g2, g3⟩ := putRel hn hd hs hdst false ra (v := undef) (fun h => by cases h) (fun _ => rfl)
  exact step_N hk hw (fun h => by cases h) (fun _ => rfl) (hr _ _ _ g1 g2 g3)
end
theorem front_any (ts0 : List TypeM) (rs0 : List RootM) (hts : ts0.length ≤ 1048576) (hrs : rs0.length ≤ 1048576) (hp0 : ∀ t ∈ ts0, t.parts.length ≤ 1000000000) (m : Int) (hm : I64 m) :
    PCall Try.prog 3 [vSch ts0 rs0, vI m] (fun r => r = vB true) := by
  refine go_fn (tyOf_ok _) Try.func3 rfl rfl (by rw [Try.results3]) Try.ntmps3 rfl fun E => ?_
  have haw := awake16
  have hc := cut16_any ts0 rs0 (by omega) (by omega) hp0 2000
  have hSl : (ts0.take 2000).length ≤ 2000 := by rw [List.length_take]; omega
  have hp : ∀ t ∈ ts0.take 2000, t.parts.length ≤ 1000000000 := fun t ht => hp0 t (List.mem_of_mem_take ht)
  have hRl : (rootsF rs0 (min 2000 ts0.length : Nat)).length ≤ 1048576 := Nat.le_trans (List.length_filter_le _ _) hrs
  generalize ts0.take 2000 = S at *
  generalize rootsF rs0 (min 2000 ts0.length : Nat) = R at *
  have d1 := dec_any S R (by omega) (by omega) hp
  by_cases he : (decF S R).2 = 0
  case neg =>
    have e1 : ((decF S R).2 = 0) = False := eq_false he
    generalize decF S R = D at *
    unfold pV at d1
    unfold vSch at hc d1
    (repeat' (first
    | exact trivial
    | (with_reducible first | refine awA ?_ | refine awB ?_ | refine awC ?_ | refine awD ?_ | refine awE ?_ | refine awF ?_ | refine awG ?_ | refine awH ?_ | refine awI ?_ | refine awJ ?_ | refine awK ?_ | refine awL ?_ | refine awM (by decide) ?_)
    | (refine aw_draw (id := 17) (t := (.node [0, 1, 2, 3, 4, 5, 6, 7, 8, 9, 10] [])) (drR [8, 5] [89, 94] []) mixed (by kernel_rfl) (by kernel_rfl) (fun _ _ h => h) ?_)
    | (refine aw_draw (id := 22) (t := (.node [0, 1, 2, 3, 4, 5, 6, 7, 8, 9, 10] [])) (drR [8, 5] [105, 110] []) mixed (by kernel_rfl) (by kernel_rfl) (fun _ _ h => h) ?_)
    | (refine aw_draw (id := 24) (t := (.node [0, 1, 2, 3, 4, 5, 6, 7, 8, 9, 10, 11, 12, 13, 14, 15, 16] [])) (drR [2, 8, 5] [125] []) mixed (by kernel_rfl) (by kernel_rfl) (fun _ _ h => h) ?_)
    | (refine at_done (by simp only [List.filterMap_cons, List.filterMap_nil, List.getElem?_toArray, List.getElem?_cons_zero, List.getElem?_cons_succ]; exact rfl) ?_) | (refine at_alt (by simp only [List.filterMap_cons, List.filterMap_nil, List.getElem?_toArray, List.getElem?_cons_zero, List.getElem?_cons_succ]; exact rfl) ?_) | refine qalt_normal ?_ | refine ats_cons ?_ ?_ | exact ats_nil
    | ((with_reducible first | refine awN (tyOf_ok _) [] ?_ | refine awO (tyOf_ok _) [] ?_ | refine awP (tyOf_ok _) [] ?_ | refine awQ ?_ | refine awR ?_ | refine awS ?_); intro r hr; simp only [go_sem, Nat.reduceBEq, Nat.reduceBneDiff, Nat.reduceLT, Nat.reduceLeDiff, Nat.reduceAdd, Nat.reduceMul, Nat.reduceSub, Nat.reduceEqDiff, reduceCtorEq, vSch, e1, Int.cast_ofNat_Int, Int.reduceToNat, Int.reduceEq, Int.reduceLT, Int.reduceLE, Int.reduceNe] at hr; subst hr; (first | refine caA (fun _ => haw) rfl ?_ ?_ ?_ | refine caC (hc) rfl ?_ ?_ ?_ | refine caC (d1) rfl ?_ ?_ ?_ | refine caA (fun _ => num16_any _) rfl ?_ ?_ ?_ | refine awV ?_ ?_ | refine awW ?_ ?_ | refine endK ?_ ?_ | (refine condK (fun h => ?_) (fun h => ?_) <;> (try simp only [go_sem, reduceCtorEq] at h) <;> (try (exfalso; omega))))) | fail)) <;> (try omega)
    all_goals exact rfl
  by_cases hS0 : S.length = 0
  · have e1 : ((S.length : Int) = 0) = True := eq_true (by omega)
    rw [he] at d1
    generalize decF S R = D at *
    unfold pV at d1
    unfold vSch at hc d1
    (repeat' (first
    | exact trivial
    | (with_reducible first | refine awA ?_ | refine awB ?_ | refine awC ?_ | refine awD ?_ | refine awE ?_ | refine awF ?_ | refine awG ?_ | refine awH ?_ | refine awI ?_ | refine awJ ?_ | refine awK ?_ | refine awL ?_ | refine awM (by decide) ?_)
    | (refine aw_draw (id := 17) (t := (.node [0, 1, 2, 3, 4, 5, 6, 7, 8, 9, 10] [])) (drR [8, 5] [89, 94] []) mixed (by kernel_rfl) (by kernel_rfl) (fun _ _ h => h) ?_)
    | (refine aw_draw (id := 22) (t := (.node [0, 1, 2, 3, 4, 5, 6, 7, 8, 9, 10] [])) (drR [8, 5] [105, 110] []) mixed (by kernel_rfl) (by kernel_rfl) (fun _ _ h => h) ?_)
    | (refine aw_draw (id := 24) (t := (.node [0, 1, 2, 3, 4, 5, 6, 7, 8, 9, 10, 11, 12, 13, 14, 15, 16] [])) (drR [2, 8, 5] [125] []) mixed (by kernel_rfl) (by kernel_rfl) (fun _ _ h => h) ?_)
    | (refine at_done (by simp only [List.filterMap_cons, List.filterMap_nil, List.getElem?_toArray, List.getElem?_cons_zero, List.getElem?_cons_succ]; exact rfl) ?_) | (refine at_alt (by simp only [List.filterMap_cons, List.filterMap_nil, List.getElem?_toArray, List.getElem?_cons_zero, List.getElem?_cons_succ]; exact rfl) ?_) | refine qalt_normal ?_ | refine ats_cons ?_ ?_ | exact ats_nil
    | ((with_reducible first | refine awN (tyOf_ok _) [] ?_ | refine awO (tyOf_ok _) [] ?_ | refine awP (tyOf_ok _) [] ?_ | refine awQ ?_ | refine awR ?_ | refine awS ?_); intro r hr; simp only [go_sem, Nat.reduceBEq, Nat.reduceBneDiff, Nat.reduceLT, Nat.reduceLeDiff, Nat.reduceAdd, Nat.reduceMul, Nat.reduceSub, Nat.reduceEqDiff, reduceCtorEq, vSch, e1, encTs_len, Int.cast_ofNat_Int, Int.reduceToNat, Int.reduceEq, Int.reduceLT, Int.reduceLE, Int.reduceNe] at hr; subst hr; (first | refine caA (fun _ => haw) rfl ?_ ?_ ?_ | refine caC (hc) rfl ?_ ?_ ?_ | refine caC (d1) rfl ?_ ?_ ?_ | refine caA (fun _ => num16_any _) rfl ?_ ?_ ?_ | refine awV ?_ ?_ | refine awW ?_ ?_ | refine endK ?_ ?_ | (refine condK (fun h => ?_) (fun h => ?_) <;> (try simp only [go_sem, reduceCtorEq] at h) <;> (try (exfalso; omega))))) | fail)) <;> (try omega)
    all_goals exact rfl
  have e1 : ((S.length : Int) = 0) = False := eq_false (by omega)
  obtain ⟨n, hn⟩ : ∃ n : Nat, m % ((S.length : Int) + 1) = n := ⟨(m % ((S.length : Int) + 1)).toNat, by
    have := Int.emod_nonneg m (show (S.length : Int) + 1 ≠ 0 by omega)
    omega⟩
  have hnl : n ≤ S.length := by
    have := Int.emod_lt_of_pos m (show 0 < (S.length : Int) + 1 by omega)
    omega
  obtain ⟨h0, hd, hd2⟩ := decF_front he hnl
  have hmin : min n S.length = n := by omega
  have hc2 := cut16_any S R (by omega) (by omega) hp n
  rw [hmin] at hc2
  have hp2 : ∀ t ∈ S.take n, t.parts.length ≤ 1000000000 := fun t ht => hp t (List.mem_of_mem_take ht)
  have hl2 : (S.take n).length = n := by rw [List.length_take]; omega
  have hr2 : (rootsF R n).length ≤ 1048576 := Nat.le_trans (List.length_filter_le _ _) hRl
  have d2 := dec_any (S.take n) (rootsF R n) (by omega) (by omega) hp2
  have hck := check_any (S.take n) (rootsF R n) (by omega) (by omega) hp2
  rw [checkF_front h0 hnl] at hck
  rw [hd] at d1
  rw [hd2] at d2
  have hT := rouR_take S (exts S) (lays S) hnl
  have hmo := rouR_mono S (exts S) (lays S) hnl
  have hNl := rouR_len2 S (exts S) (lays S) n
  have hNl2 := rouR_len2 S (exts S) (lays S) S.length
  have hlast : n < S.length → (rouR S (exts S) (lays S) S.length).2[n]? = some ((rouR S (exts S) (lays S) n).1.length : Int) := fun h => by
    have h1 := (rouR_take S (exts S) (lays S) (j := n + 1) (k := S.length) h).2
    have h2 : ((rouR S (exts S) (lays S) S.length).2.take (n + 1))[n]? = (rouR S (exts S) (lays S) (n + 1)).2[n]? := by rw [h1]
    rw [List.getElem?_take, if_pos (by omega)] at h2
    rw [h2, rouR, List.getElem?_append_right (by rw [hNl]; exact Nat.le_refl _), hNl, Nat.sub_self]
    rfl
  have hcap : (rouR S (exts S) (lays S) S.length).1.length ≤ 1048576 := by
    have h := he
    rw [decF, if_neg (by omega)] at h
    split at h
    · cases h
    · split at h
      · cases h
      · omega
  clear hd hd2 he
  generalize rouR S (exts S) (lays S) S.length = PC at *
  generalize rouR S (exts S) (lays S) n = QC at *
  obtain ⟨pC, pN⟩ := PC
  obtain ⟨qC, qN⟩ := QC
  simp only at d1 d2 hT hmo hNl hNl2 hlast hcap
  obtain ⟨hT1, hT2⟩ := hT
  generalize S.take n = S2 at *
  generalize rootsF R n = R2 at *
  unfold pV at d1 d2
  unfold vF vSch at hck
  unfold vSch at hc d1 hc2 d2
  simp only at hck
  have hwl := wrap_i64 (n := (S.length : Int) + 1) (by omega)
  have hz1 : ((S.length : Int) + 1 = 0) = False := eq_false (by omega)
  have e2 : ((qN.length : Int) = n) = True := eq_true (by omega)
  have e3 : ((pC.length : Int) < qC.length) = False := eq_false (by omega)
  have htm1 := Int.tmod_lt_of_pos m (show 0 < (S.length : Int) + 1 by omega)
  have htm2 := Int.lt_tmod_of_pos m (show 0 < (S.length : Int) + 1 by omega)
  have hq : (m.tmod ((S.length : Int) + 1)) % ((S.length : Int) + 1) = n := by rw [Int.tmod_def, Int.sub_mul_emod_self_left, hn]
  have hlt1 : ∀ j (h : j < qC.length), (encIs qC)[j]? = some [vI qC[j].op, vI qC[j].a, vI qC[j].b, vI qC[j].c] ∧ (encIs pC)[j]? = some [vI qC[j].op, vI qC[j].a, vI qC[j].b, vI qC[j].c] := fun j h => by
    refine ⟨encIs_get h, ?_⟩
    have hj : j < pC.length := by omega
    have h1 : qC[j] = pC[j] := by
      have : (pC.take qC.length)[j]? = qC[j]? := by rw [hT1]
      rw [List.getElem?_take, if_pos h, List.getElem?_eq_getElem hj, List.getElem?_eq_getElem h] at this
      injection this with this
      exact this.symm
    rw [h1, encIs_get hj]
  have hlt2 : ∀ j (h : j < n), ∃ z : Int, (v8 qN)[j]? = some [vI z] ∧ (v8 pN)[j]? = some [vI z] := fun j h => by
    have hj : j < qN.length := by omega
    have hj2 : j < pN.length := by omega
    refine ⟨qN[j], v8_get hj, ?_⟩
    have h1 : qN[j] = pN[j] := by
      have : (pN.take n)[j]? = qN[j]? := by rw [hT2]
      rw [List.getElem?_take, if_pos h, List.getElem?_eq_getElem hj2, List.getElem?_eq_getElem hj] at this
      injection this with this
      exact this.symm
    rw [h1, v8_get hj2]
  have hfin : n < S.length → (v8 pN)[n]? = some [vI (qC.length : Int)] := fun h => by
    have hj2 : n < pN.length := by omega
    have := hlast h
    rw [List.getElem?_eq_getElem hj2] at this
    injection this with this
    rw [v8_get hj2, this]
  have hqc : qC.length ≤ 1048576 := by omega
  clear hT1 hT2 hlast hcap
  by_cases hneg : m.tmod ((S.length : Int) + 1) < 0
  · have f1 : (m.tmod ((S.length : Int) + 1) < 0) = True := eq_true hneg
    have hnn : m.tmod ((S.length : Int) + 1) + S.length + 1 = n := by
      rw [← hq, ← Int.add_emod_right, Int.emod_eq_of_lt (by omega) (by omega), Int.add_assoc]
    have hw1 := wrap_i64 (n := m.tmod ((S.length : Int) + 1) + S.length) (by omega)
    have hw2 := wrap_i64 (n := m.tmod ((S.length : Int) + 1) + S.length + 1) (by omega)
    rw [hnn] at hw2
    (repeat' (first
    | exact trivial
    | (with_reducible first | refine awA ?_ | refine awB ?_ | refine awC ?_ | refine awD ?_ | refine awE ?_ | refine awF ?_ | refine awG ?_ | refine awH ?_ | refine awI ?_ | refine awJ ?_ | refine awK ?_ | refine awL ?_ | refine awM (by decide) ?_)
    | (refine aw_draw (id := 17) (t := (.node [0, 1, 2, 3, 4, 5, 6, 7, 8, 9, 10] [])) (drR [8, 5] [89, 94] []) mixed (by kernel_rfl) (by kernel_rfl) (fun _ _ h => h) ?_)
    | (refine aw_draw (id := 22) (t := (.node [0, 1, 2, 3, 4, 5, 6, 7, 8, 9, 10] [])) (drR [8, 5] [105, 110] []) mixed (by kernel_rfl) (by kernel_rfl) (fun _ _ h => h) ?_)
    | (refine aw_draw (id := 24) (t := (.node [0, 1, 2, 3, 4, 5, 6, 7, 8, 9, 10, 11, 12, 13, 14, 15, 16] [])) (drR [2, 8, 5] [125] []) mixed (by kernel_rfl) (by kernel_rfl) (fun _ _ h => h) ?_)
    | (refine at_done (by simp only [List.filterMap_cons, List.filterMap_nil, List.getElem?_toArray, List.getElem?_cons_zero, List.getElem?_cons_succ]; exact rfl) ?_) | (refine at_alt (by simp only [List.filterMap_cons, List.filterMap_nil, List.getElem?_toArray, List.getElem?_cons_zero, List.getElem?_cons_succ]; exact rfl) ?_) | refine qalt_normal ?_ | refine ats_cons ?_ ?_ | exact ats_nil
    | ((with_reducible first | refine awN (tyOf_ok _) [] ?_ | refine awO (tyOf_ok _) [] ?_ | refine awP (tyOf_ok _) [] ?_ | refine awQ ?_ | refine awR ?_ | refine awS ?_); intro r hr; simp only [go_sem, Nat.reduceBEq, Nat.reduceBneDiff, Nat.reduceLT, Nat.reduceLeDiff, Nat.reduceAdd, Nat.reduceMul, Nat.reduceSub, Nat.reduceEqDiff, reduceCtorEq, vSch, e1, encTs_len, encIs_len, v8_len, hwl, hz1, f1, hw1, hnn, hw2, e2, e3, Int.cast_ofNat_Int, Int.reduceToNat, Int.reduceEq, Int.reduceLT, Int.reduceLE, Int.reduceNe] at hr; subst hr; (first | refine caA (fun _ => haw) rfl ?_ ?_ ?_ | refine caC (hc) rfl ?_ ?_ ?_ | refine caC (d1) rfl ?_ ?_ ?_ | refine caA (fun _ => num16_any _) rfl ?_ ?_ ?_ | refine caC (hc2) rfl ?_ ?_ ?_ | refine caC (d2) rfl ?_ ?_ ?_ | refine caA (fun _ => hck) rfl ?_ ?_ ?_ | refine awV ?_ ?_ | refine awW ?_ ?_ | refine endK ?_ ?_ | (refine condK (fun h => ?_) (fun h => ?_) <;> (try simp only [go_sem, reduceCtorEq] at h) <;> (try (exfalso; omega))))) | fail)) <;> (try omega)
    refine go_loop [1, 2, 5, 8, 10] [2, 5, 8] (fun k : Nat => ⟨[(1, true, vI n), (2, true, .ptr 1 2 0 0), (5, true, .ptr 1 5 0 0), (8, true, .ptr 1 8 0 0), (10, true, vI k)], [(2, .var [.lst 4 (encTs S), .lst 2 (encRs R)]), (5, .var [.v (.bool false), .lst 4 (encIs pC), .lst 1 (v8 pN)]), (8, .var [.v (.bool false), .lst 4 (encIs qC), .lst 1 (v8 qN)])]⟩) (fun k => k ≤ qC.length) (fun k => qC.length - k) 0 (by simp only [go_sem, Nat.reduceBEq, Nat.reduceBneDiff, Nat.reduceLT, Nat.reduceLeDiff, Nat.reduceAdd, Nat.reduceMul, Nat.reduceSub, Nat.reduceEqDiff, reduceCtorEq] <;> exact rfl) (Nat.zero_le _) ?_
    intro k hk
    have hwk := wrap_i64 (n := (k : Int) + 1) (by omega)
    by_cases hkl : k < qC.length
    · have g0 : ((k : Int) < qC.length) = True := eq_true (by omega)
      obtain ⟨g1, g2⟩ := hlt1 k hkl
      have zk : ((k : Int)).toNat = k := by omega
      generalize qC[k] = x at *
      (repeat' (first
    | exact trivial
    | (with_reducible first | refine awA ?_ | refine awB ?_ | refine awC ?_ | refine awD ?_ | refine awE ?_ | refine awF ?_ | refine awG ?_ | refine awH ?_ | refine awI ?_ | refine awJ ?_ | refine awK ?_ | refine awL ?_ | refine awM (by decide) ?_)
    | (refine aw_draw (id := 17) (t := (.node [0, 1, 2, 3, 4, 5, 6, 7, 8, 9, 10] [])) (drR [8, 5] [89, 94] []) mixed (by kernel_rfl) (by kernel_rfl) (fun _ _ h => h) ?_)
    | (refine aw_draw (id := 22) (t := (.node [0, 1, 2, 3, 4, 5, 6, 7, 8, 9, 10] [])) (drR [8, 5] [105, 110] []) mixed (by kernel_rfl) (by kernel_rfl) (fun _ _ h => h) ?_)
    | (refine aw_draw (id := 24) (t := (.node [0, 1, 2, 3, 4, 5, 6, 7, 8, 9, 10, 11, 12, 13, 14, 15, 16] [])) (drR [2, 8, 5] [125] []) mixed (by kernel_rfl) (by kernel_rfl) (fun _ _ h => h) ?_)
    | (refine at_done (by simp only [List.filterMap_cons, List.filterMap_nil, List.getElem?_toArray, List.getElem?_cons_zero, List.getElem?_cons_succ]; exact rfl) ?_) | (refine at_alt (by simp only [List.filterMap_cons, List.filterMap_nil, List.getElem?_toArray, List.getElem?_cons_zero, List.getElem?_cons_succ]; exact rfl) ?_) | refine qalt_normal ?_ | refine ats_cons ?_ ?_ | exact ats_nil
    | ((with_reducible first | refine awN (tyOf_ok _) [] ?_ | refine awO (tyOf_ok _) [] ?_ | refine awP (tyOf_ok _) [] ?_ | refine awQ ?_ | refine awR ?_ | refine awS ?_); intro r hr; simp only [go_sem, Nat.reduceBEq, Nat.reduceBneDiff, Nat.reduceLT, Nat.reduceLeDiff, Nat.reduceAdd, Nat.reduceMul, Nat.reduceSub, Nat.reduceEqDiff, reduceCtorEq, encIs_len, g0, g1, g2, zk, hwk, ne_eq, not_true_eq_false, decide_false, decide_true, Bool.and_self, Bool.not_true] at hr; subst hr; (first | refine awV ?_ ?_ | refine awW ?_ ?_ | refine endK ?_ ?_ | (refine condK (fun h => ?_) (fun h => ?_) <;> (try simp only [go_sem, reduceCtorEq] at h) <;> (try (exfalso; omega))))) | fail)) <;> (try omega)
      all_goals first | omega | exact ⟨k + 1, by simp only [go_sem, Nat.reduceBEq, Nat.reduceBneDiff, Nat.reduceLT, Nat.reduceLeDiff, Nat.reduceAdd, Nat.reduceMul, Nat.reduceSub, Nat.reduceEqDiff, reduceCtorEq] <;> exact rfl, hkl, by omega⟩
    have g0 : ((k : Int) < qC.length) = False := eq_false (by omega)
    (repeat' (first
    | exact trivial
    | (with_reducible first | refine awA ?_ | refine awB ?_ | refine awC ?_ | refine awD ?_ | refine awE ?_ | refine awF ?_ | refine awG ?_ | refine awH ?_ | refine awI ?_ | refine awJ ?_ | refine awK ?_ | refine awL ?_ | refine awM (by decide) ?_)
    | (refine aw_draw (id := 17) (t := (.node [0, 1, 2, 3, 4, 5, 6, 7, 8, 9, 10] [])) (drR [8, 5] [89, 94] []) mixed (by kernel_rfl) (by kernel_rfl) (fun _ _ h => h) ?_)
    | (refine aw_draw (id := 22) (t := (.node [0, 1, 2, 3, 4, 5, 6, 7, 8, 9, 10] [])) (drR [8, 5] [105, 110] []) mixed (by kernel_rfl) (by kernel_rfl) (fun _ _ h => h) ?_)
    | (refine aw_draw (id := 24) (t := (.node [0, 1, 2, 3, 4, 5, 6, 7, 8, 9, 10, 11, 12, 13, 14, 15, 16] [])) (drR [2, 8, 5] [125] []) mixed (by kernel_rfl) (by kernel_rfl) (fun _ _ h => h) ?_)
    | (refine at_done (by simp only [List.filterMap_cons, List.filterMap_nil, List.getElem?_toArray, List.getElem?_cons_zero, List.getElem?_cons_succ]; exact rfl) ?_) | (refine at_alt (by simp only [List.filterMap_cons, List.filterMap_nil, List.getElem?_toArray, List.getElem?_cons_zero, List.getElem?_cons_succ]; exact rfl) ?_) | refine qalt_normal ?_ | refine ats_cons ?_ ?_ | exact ats_nil
    | ((with_reducible first | refine awN (tyOf_ok _) [] ?_ | refine awO (tyOf_ok _) [] ?_ | refine awP (tyOf_ok _) [] ?_ | refine awQ ?_ | refine awR ?_ | refine awS ?_); intro r hr; simp only [go_sem, Nat.reduceBEq, Nat.reduceBneDiff, Nat.reduceLT, Nat.reduceLeDiff, Nat.reduceAdd, Nat.reduceMul, Nat.reduceSub, Nat.reduceEqDiff, reduceCtorEq, encIs_len, g0] at hr; subst hr; (first | refine awV ?_ ?_ | refine awW ?_ ?_ | refine endK ?_ ?_ | (refine condK (fun h => ?_) (fun h => ?_) <;> (try simp only [go_sem, reduceCtorEq] at h) <;> (try (exfalso; omega))))) | fail)) <;> (try omega)
    refine go_loop [1, 2, 5, 8, 11] [2, 5, 8] (fun k : Nat => ⟨[(1, true, vI n), (2, true, .ptr 1 2 0 0), (5, true, .ptr 1 5 0 0), (8, true, .ptr 1 8 0 0), (11, true, vI k)], [(2, .var [.lst 4 (encTs S), .lst 2 (encRs R)]), (5, .var [.v (.bool false), .lst 4 (encIs pC), .lst 1 (v8 pN)]), (8, .var [.v (.bool false), .lst 4 (encIs qC), .lst 1 (v8 qN)])]⟩) (fun k => k ≤ n) (fun k => n - k) 0 (by simp only [go_sem, Nat.reduceBEq, Nat.reduceBneDiff, Nat.reduceLT, Nat.reduceLeDiff, Nat.reduceAdd, Nat.reduceMul, Nat.reduceSub, Nat.reduceEqDiff, reduceCtorEq] <;> exact rfl) (Nat.zero_le _) ?_
    clear hk hwk hkl g0
    intro k hk
    have hwk := wrap_i64 (n := (k : Int) + 1) (by omega)
    by_cases hkl : k < n
    · have g0 : ((k : Int) < n) = True := eq_true (by omega)
      obtain ⟨z, g1, g2⟩ := hlt2 k hkl
      have zk : ((k : Int)).toNat = k := by omega
      (repeat' (first
    | exact trivial
    | (with_reducible first | refine awA ?_ | refine awB ?_ | refine awC ?_ | refine awD ?_ | refine awE ?_ | refine awF ?_ | refine awG ?_ | refine awH ?_ | refine awI ?_ | refine awJ ?_ | refine awK ?_ | refine awL ?_ | refine awM (by decide) ?_)
    | (refine aw_draw (id := 17) (t := (.node [0, 1, 2, 3, 4, 5, 6, 7, 8, 9, 10] [])) (drR [8, 5] [89, 94] []) mixed (by kernel_rfl) (by kernel_rfl) (fun _ _ h => h) ?_)
    | (refine aw_draw (id := 22) (t := (.node [0, 1, 2, 3, 4, 5, 6, 7, 8, 9, 10] [])) (drR [8, 5] [105, 110] []) mixed (by kernel_rfl) (by kernel_rfl) (fun _ _ h => h) ?_)
    | (refine aw_draw (id := 24) (t := (.node [0, 1, 2, 3, 4, 5, 6, 7, 8, 9, 10, 11, 12, 13, 14, 15, 16] [])) (drR [2, 8, 5] [125] []) mixed (by kernel_rfl) (by kernel_rfl) (fun _ _ h => h) ?_)
    | (refine at_done (by simp only [List.filterMap_cons, List.filterMap_nil, List.getElem?_toArray, List.getElem?_cons_zero, List.getElem?_cons_succ]; exact rfl) ?_) | (refine at_alt (by simp only [List.filterMap_cons, List.filterMap_nil, List.getElem?_toArray, List.getElem?_cons_zero, List.getElem?_cons_succ]; exact rfl) ?_) | refine qalt_normal ?_ | refine ats_cons ?_ ?_ | exact ats_nil
    | ((with_reducible first | refine awN (tyOf_ok _) [] ?_ | refine awO (tyOf_ok _) [] ?_ | refine awP (tyOf_ok _) [] ?_ | refine awQ ?_ | refine awR ?_ | refine awS ?_); intro r hr; simp only [go_sem, Nat.reduceBEq, Nat.reduceBneDiff, Nat.reduceLT, Nat.reduceLeDiff, Nat.reduceAdd, Nat.reduceMul, Nat.reduceSub, Nat.reduceEqDiff, reduceCtorEq, v8_len, g0, g1, g2, zk, hwk, ne_eq, not_true_eq_false, decide_false] at hr; subst hr; (first | refine awV ?_ ?_ | refine awW ?_ ?_ | refine endK ?_ ?_ | (refine condK (fun h => ?_) (fun h => ?_) <;> (try simp only [go_sem, reduceCtorEq] at h) <;> (try (exfalso; omega))))) | fail)) <;> (try omega)
      all_goals first | omega | exact ⟨k + 1, by simp only [go_sem, Nat.reduceBEq, Nat.reduceBneDiff, Nat.reduceLT, Nat.reduceLeDiff, Nat.reduceAdd, Nat.reduceMul, Nat.reduceSub, Nat.reduceEqDiff, reduceCtorEq] <;> exact rfl, hkl, by omega⟩
    have g0 : ((k : Int) < n) = False := eq_false (by omega)
    by_cases hns : n < S.length
    · have g1 := hfin hns
      have zn : ((n : Int)).toNat = n := by omega
      have g2 : ((n : Int) = S.length) = False := eq_false (by omega)
      (repeat' (first
    | exact trivial
    | (with_reducible first | refine awA ?_ | refine awB ?_ | refine awC ?_ | refine awD ?_ | refine awE ?_ | refine awF ?_ | refine awG ?_ | refine awH ?_ | refine awI ?_ | refine awJ ?_ | refine awK ?_ | refine awL ?_ | refine awM (by decide) ?_)
    | (refine aw_draw (id := 17) (t := (.node [0, 1, 2, 3, 4, 5, 6, 7, 8, 9, 10] [])) (drR [8, 5] [89, 94] []) mixed (by kernel_rfl) (by kernel_rfl) (fun _ _ h => h) ?_)
    | (refine aw_draw (id := 22) (t := (.node [0, 1, 2, 3, 4, 5, 6, 7, 8, 9, 10] [])) (drR [8, 5] [105, 110] []) mixed (by kernel_rfl) (by kernel_rfl) (fun _ _ h => h) ?_)
    | (refine aw_draw (id := 24) (t := (.node [0, 1, 2, 3, 4, 5, 6, 7, 8, 9, 10, 11, 12, 13, 14, 15, 16] [])) (drR [2, 8, 5] [125] []) mixed (by kernel_rfl) (by kernel_rfl) (fun _ _ h => h) ?_)
    | (refine at_done (by simp only [List.filterMap_cons, List.filterMap_nil, List.getElem?_toArray, List.getElem?_cons_zero, List.getElem?_cons_succ]; exact rfl) ?_) | (refine at_alt (by simp only [List.filterMap_cons, List.filterMap_nil, List.getElem?_toArray, List.getElem?_cons_zero, List.getElem?_cons_succ]; exact rfl) ?_) | refine qalt_normal ?_ | refine ats_cons ?_ ?_ | exact ats_nil
    | ((with_reducible first | refine awN (tyOf_ok _) [] ?_ | refine awO (tyOf_ok _) [] ?_ | refine awP (tyOf_ok _) [] ?_ | refine awQ ?_ | refine awR ?_ | refine awS ?_); intro r hr; simp only [go_sem, Nat.reduceBEq, Nat.reduceBneDiff, Nat.reduceLT, Nat.reduceLeDiff, Nat.reduceAdd, Nat.reduceMul, Nat.reduceSub, Nat.reduceEqDiff, reduceCtorEq, encIs_len, encTs_len, v8_len, g0, g1, g2, zn] at hr; subst hr; (first | refine awV ?_ ?_ | refine awW ?_ ?_ | refine endK ?_ ?_ | (refine condK (fun h => ?_) (fun h => ?_) <;> (try simp only [go_sem, reduceCtorEq] at h) <;> (try (exfalso; omega))))) | fail)) <;> (try omega)
      all_goals first | exact rfl | omega
    · have g2 : ((n : Int) = S.length) = True := eq_true (by omega)
      have g3 : (v8 pN)[n]? = (none : Option (List AV)) := List.getElem?_eq_none (by rw [v8_len]; omega)
      have zn : ((n : Int)).toNat = n := by omega
      (repeat' (first
    | exact trivial
    | (with_reducible first | refine awA ?_ | refine awB ?_ | refine awC ?_ | refine awD ?_ | refine awE ?_ | refine awF ?_ | refine awG ?_ | refine awH ?_ | refine awI ?_ | refine awJ ?_ | refine awK ?_ | refine awL ?_ | refine awM (by decide) ?_)
    | (refine aw_draw (id := 17) (t := (.node [0, 1, 2, 3, 4, 5, 6, 7, 8, 9, 10] [])) (drR [8, 5] [89, 94] []) mixed (by kernel_rfl) (by kernel_rfl) (fun _ _ h => h) ?_)
    | (refine aw_draw (id := 22) (t := (.node [0, 1, 2, 3, 4, 5, 6, 7, 8, 9, 10] [])) (drR [8, 5] [105, 110] []) mixed (by kernel_rfl) (by kernel_rfl) (fun _ _ h => h) ?_)
    | (refine aw_draw (id := 24) (t := (.node [0, 1, 2, 3, 4, 5, 6, 7, 8, 9, 10, 11, 12, 13, 14, 15, 16] [])) (drR [2, 8, 5] [125] []) mixed (by kernel_rfl) (by kernel_rfl) (fun _ _ h => h) ?_)
    | (refine at_done (by simp only [List.filterMap_cons, List.filterMap_nil, List.getElem?_toArray, List.getElem?_cons_zero, List.getElem?_cons_succ]; exact rfl) ?_) | (refine at_alt (by simp only [List.filterMap_cons, List.filterMap_nil, List.getElem?_toArray, List.getElem?_cons_zero, List.getElem?_cons_succ]; exact rfl) ?_) | refine qalt_normal ?_ | refine ats_cons ?_ ?_ | exact ats_nil
    | ((with_reducible first | refine awN (tyOf_ok _) [] ?_ | refine awO (tyOf_ok _) [] ?_ | refine awP (tyOf_ok _) [] ?_ | refine awQ ?_ | refine awR ?_ | refine awS ?_); intro r hr; simp only [go_sem, Nat.reduceBEq, Nat.reduceBneDiff, Nat.reduceLT, Nat.reduceLeDiff, Nat.reduceAdd, Nat.reduceMul, Nat.reduceSub, Nat.reduceEqDiff, reduceCtorEq, encIs_len, encTs_len, v8_len, g0, g2, g3, zn] at hr; subst hr; (first | refine awV ?_ ?_ | refine awW ?_ ?_ | refine endK ?_ ?_ | (refine condK (fun h => ?_) (fun h => ?_) <;> (try simp only [go_sem, reduceCtorEq] at h) <;> (try (exfalso; omega)))))
    | (refine al_skip 125 rfl (vI 0) rfl rfl ⟨by decide, by decide⟩ ?_) | fail)) <;> (try omega)
      all_goals first | exact rfl | omega
  · have f1 : (m.tmod ((S.length : Int) + 1) < 0) = False := eq_false hneg
    have hnn : m.tmod ((S.length : Int) + 1) = n := by
      rw [← hq, Int.emod_eq_of_lt (by omega) (by omega)]
    (repeat' (first
    | exact trivial
    | (with_reducible first | refine awA ?_ | refine awB ?_ | refine awC ?_ | refine awD ?_ | refine awE ?_ | refine awF ?_ | refine awG ?_ | refine awH ?_ | refine awI ?_ | refine awJ ?_ | refine awK ?_ | refine awL ?_ | refine awM (by decide) ?_)
    | (refine aw_draw (id := 17) (t := (.node [0, 1, 2, 3, 4, 5, 6, 7, 8, 9, 10] [])) (drR [8, 5] [89, 94] []) mixed (by kernel_rfl) (by kernel_rfl) (fun _ _ h => h) ?_)
    | (refine aw_draw (id := 22) (t := (.node [0, 1, 2, 3, 4, 5, 6, 7, 8, 9, 10] [])) (drR [8, 5] [105, 110] []) mixed (by kernel_rfl) (by kernel_rfl) (fun _ _ h => h) ?_)
    | (refine aw_draw (id := 24) (t := (.node [0, 1, 2, 3, 4, 5, 6, 7, 8, 9, 10, 11, 12, 13, 14, 15, 16] [])) (drR [2, 8, 5] [125] []) mixed (by kernel_rfl) (by kernel_rfl) (fun _ _ h => h) ?_)
    | (refine at_done (by simp only [List.filterMap_cons, List.filterMap_nil, List.getElem?_toArray, List.getElem?_cons_zero, List.getElem?_cons_succ]; exact rfl) ?_) | (refine at_alt (by simp only [List.filterMap_cons, List.filterMap_nil, List.getElem?_toArray, List.getElem?_cons_zero, List.getElem?_cons_succ]; exact rfl) ?_) | refine qalt_normal ?_ | refine ats_cons ?_ ?_ | exact ats_nil
    | ((with_reducible first | refine awN (tyOf_ok _) [] ?_ | refine awO (tyOf_ok _) [] ?_ | refine awP (tyOf_ok _) [] ?_ | refine awQ ?_ | refine awR ?_ | refine awS ?_); intro r hr; simp only [go_sem, Nat.reduceBEq, Nat.reduceBneDiff, Nat.reduceLT, Nat.reduceLeDiff, Nat.reduceAdd, Nat.reduceMul, Nat.reduceSub, Nat.reduceEqDiff, reduceCtorEq, vSch, e1, encTs_len, encIs_len, v8_len, hwl, hz1, hnn, e2, e3, Int.cast_ofNat_Int, Int.reduceToNat, Int.reduceEq, Int.reduceLT, Int.reduceLE, Int.reduceNe] at hr; subst hr; (first | refine caA (fun _ => haw) rfl ?_ ?_ ?_ | refine caC (hc) rfl ?_ ?_ ?_ | refine caC (d1) rfl ?_ ?_ ?_ | refine caA (fun _ => num16_any _) rfl ?_ ?_ ?_ | refine caC (hc2) rfl ?_ ?_ ?_ | refine caC (d2) rfl ?_ ?_ ?_ | refine caA (fun _ => hck) rfl ?_ ?_ ?_ | refine awV ?_ ?_ | refine awW ?_ ?_ | refine endK ?_ ?_ | (refine condK (fun h => ?_) (fun h => ?_) <;> (try simp only [go_sem, reduceCtorEq] at h) <;> (try (exfalso; omega))))) | fail)) <;> (try omega)
    refine go_loop [1, 2, 5, 8, 10] [2, 5, 8] (fun k : Nat => ⟨[(1, true, vI n), (2, true, .ptr 1 2 0 0), (5, true, .ptr 1 5 0 0), (8, true, .ptr 1 8 0 0), (10, true, vI k)], [(2, .var [.lst 4 (encTs S), .lst 2 (encRs R)]), (5, .var [.v (.bool false), .lst 4 (encIs pC), .lst 1 (v8 pN)]), (8, .var [.v (.bool false), .lst 4 (encIs qC), .lst 1 (v8 qN)])]⟩) (fun k => k ≤ qC.length) (fun k => qC.length - k) 0 (by simp only [go_sem, Nat.reduceBEq, Nat.reduceBneDiff, Nat.reduceLT, Nat.reduceLeDiff, Nat.reduceAdd, Nat.reduceMul, Nat.reduceSub, Nat.reduceEqDiff, reduceCtorEq] <;> exact rfl) (Nat.zero_le _) ?_
    intro k hk
    have hwk := wrap_i64 (n := (k : Int) + 1) (by omega)
    by_cases hkl : k < qC.length
    · have g0 : ((k : Int) < qC.length) = True := eq_true (by omega)
      obtain ⟨g1, g2⟩ := hlt1 k hkl
      have zk : ((k : Int)).toNat = k := by omega
      generalize qC[k] = x at *
      (repeat' (first
    | exact trivial
    | (with_reducible first | refine awA ?_ | refine awB ?_ | refine awC ?_ | refine awD ?_ | refine awE ?_ | refine awF ?_ | refine awG ?_ | refine awH ?_ | refine awI ?_ | refine awJ ?_ | refine awK ?_ | refine awL ?_ | refine awM (by decide) ?_)
    | (refine aw_draw (id := 17) (t := (.node [0, 1, 2, 3, 4, 5, 6, 7, 8, 9, 10] [])) (drR [8, 5] [89, 94] []) mixed (by kernel_rfl) (by kernel_rfl) (fun _ _ h => h) ?_)
    | (refine aw_draw (id := 22) (t := (.node [0, 1, 2, 3, 4, 5, 6, 7, 8, 9, 10] [])) (drR [8, 5] [105, 110] []) mixed (by kernel_rfl) (by kernel_rfl) (fun _ _ h => h) ?_)
    | (refine aw_draw (id := 24) (t := (.node [0, 1, 2, 3, 4, 5, 6, 7, 8, 9, 10, 11, 12, 13, 14, 15, 16] [])) (drR [2, 8, 5] [125] []) mixed (by kernel_rfl) (by kernel_rfl) (fun _ _ h => h) ?_)
    | (refine at_done (by simp only [List.filterMap_cons, List.filterMap_nil, List.getElem?_toArray, List.getElem?_cons_zero, List.getElem?_cons_succ]; exact rfl) ?_) | (refine at_alt (by simp only [List.filterMap_cons, List.filterMap_nil, List.getElem?_toArray, List.getElem?_cons_zero, List.getElem?_cons_succ]; exact rfl) ?_) | refine qalt_normal ?_ | refine ats_cons ?_ ?_ | exact ats_nil
    | ((with_reducible first | refine awN (tyOf_ok _) [] ?_ | refine awO (tyOf_ok _) [] ?_ | refine awP (tyOf_ok _) [] ?_ | refine awQ ?_ | refine awR ?_ | refine awS ?_); intro r hr; simp only [go_sem, Nat.reduceBEq, Nat.reduceBneDiff, Nat.reduceLT, Nat.reduceLeDiff, Nat.reduceAdd, Nat.reduceMul, Nat.reduceSub, Nat.reduceEqDiff, reduceCtorEq, encIs_len, g0, g1, g2, zk, hwk, ne_eq, not_true_eq_false, decide_false, decide_true, Bool.and_self, Bool.not_true] at hr; subst hr; (first | refine awV ?_ ?_ | refine awW ?_ ?_ | refine endK ?_ ?_ | (refine condK (fun h => ?_) (fun h => ?_) <;> (try simp only [go_sem, reduceCtorEq] at h) <;> (try (exfalso; omega))))) | fail)) <;> (try omega)
      all_goals first | omega | exact ⟨k + 1, by simp only [go_sem, Nat.reduceBEq, Nat.reduceBneDiff, Nat.reduceLT, Nat.reduceLeDiff, Nat.reduceAdd, Nat.reduceMul, Nat.reduceSub, Nat.reduceEqDiff, reduceCtorEq] <;> exact rfl, hkl, by omega⟩
    have g0 : ((k : Int) < qC.length) = False := eq_false (by omega)
    (repeat' (first
    | exact trivial
    | (with_reducible first | refine awA ?_ | refine awB ?_ | refine awC ?_ | refine awD ?_ | refine awE ?_ | refine awF ?_ | refine awG ?_ | refine awH ?_ | refine awI ?_ | refine awJ ?_ | refine awK ?_ | refine awL ?_ | refine awM (by decide) ?_)
    | (refine aw_draw (id := 17) (t := (.node [0, 1, 2, 3, 4, 5, 6, 7, 8, 9, 10] [])) (drR [8, 5] [89, 94] []) mixed (by kernel_rfl) (by kernel_rfl) (fun _ _ h => h) ?_)
    | (refine aw_draw (id := 22) (t := (.node [0, 1, 2, 3, 4, 5, 6, 7, 8, 9, 10] [])) (drR [8, 5] [105, 110] []) mixed (by kernel_rfl) (by kernel_rfl) (fun _ _ h => h) ?_)
    | (refine aw_draw (id := 24) (t := (.node [0, 1, 2, 3, 4, 5, 6, 7, 8, 9, 10, 11, 12, 13, 14, 15, 16] [])) (drR [2, 8, 5] [125] []) mixed (by kernel_rfl) (by kernel_rfl) (fun _ _ h => h) ?_)
    | (refine at_done (by simp only [List.filterMap_cons, List.filterMap_nil, List.getElem?_toArray, List.getElem?_cons_zero, List.getElem?_cons_succ]; exact rfl) ?_) | (refine at_alt (by simp only [List.filterMap_cons, List.filterMap_nil, List.getElem?_toArray, List.getElem?_cons_zero, List.getElem?_cons_succ]; exact rfl) ?_) | refine qalt_normal ?_ | refine ats_cons ?_ ?_ | exact ats_nil
    | ((with_reducible first | refine awN (tyOf_ok _) [] ?_ | refine awO (tyOf_ok _) [] ?_ | refine awP (tyOf_ok _) [] ?_ | refine awQ ?_ | refine awR ?_ | refine awS ?_); intro r hr; simp only [go_sem, Nat.reduceBEq, Nat.reduceBneDiff, Nat.reduceLT, Nat.reduceLeDiff, Nat.reduceAdd, Nat.reduceMul, Nat.reduceSub, Nat.reduceEqDiff, reduceCtorEq, encIs_len, g0] at hr; subst hr; (first | refine awV ?_ ?_ | refine awW ?_ ?_ | refine endK ?_ ?_ | (refine condK (fun h => ?_) (fun h => ?_) <;> (try simp only [go_sem, reduceCtorEq] at h) <;> (try (exfalso; omega))))) | fail)) <;> (try omega)
    refine go_loop [1, 2, 5, 8, 11] [2, 5, 8] (fun k : Nat => ⟨[(1, true, vI n), (2, true, .ptr 1 2 0 0), (5, true, .ptr 1 5 0 0), (8, true, .ptr 1 8 0 0), (11, true, vI k)], [(2, .var [.lst 4 (encTs S), .lst 2 (encRs R)]), (5, .var [.v (.bool false), .lst 4 (encIs pC), .lst 1 (v8 pN)]), (8, .var [.v (.bool false), .lst 4 (encIs qC), .lst 1 (v8 qN)])]⟩) (fun k => k ≤ n) (fun k => n - k) 0 (by simp only [go_sem, Nat.reduceBEq, Nat.reduceBneDiff, Nat.reduceLT, Nat.reduceLeDiff, Nat.reduceAdd, Nat.reduceMul, Nat.reduceSub, Nat.reduceEqDiff, reduceCtorEq] <;> exact rfl) (Nat.zero_le _) ?_
    clear hk hwk hkl g0
    intro k hk
    have hwk := wrap_i64 (n := (k : Int) + 1) (by omega)
    by_cases hkl : k < n
    · have g0 : ((k : Int) < n) = True := eq_true (by omega)
      obtain ⟨z, g1, g2⟩ := hlt2 k hkl
      have zk : ((k : Int)).toNat = k := by omega
      (repeat' (first
    | exact trivial
    | (with_reducible first | refine awA ?_ | refine awB ?_ | refine awC ?_ | refine awD ?_ | refine awE ?_ | refine awF ?_ | refine awG ?_ | refine awH ?_ | refine awI ?_ | refine awJ ?_ | refine awK ?_ | refine awL ?_ | refine awM (by decide) ?_)
    | (refine aw_draw (id := 17) (t := (.node [0, 1, 2, 3, 4, 5, 6, 7, 8, 9, 10] [])) (drR [8, 5] [89, 94] []) mixed (by kernel_rfl) (by kernel_rfl) (fun _ _ h => h) ?_)
    | (refine aw_draw (id := 22) (t := (.node [0, 1, 2, 3, 4, 5, 6, 7, 8, 9, 10] [])) (drR [8, 5] [105, 110] []) mixed (by kernel_rfl) (by kernel_rfl) (fun _ _ h => h) ?_)
    | (refine aw_draw (id := 24) (t := (.node [0, 1, 2, 3, 4, 5, 6, 7, 8, 9, 10, 11, 12, 13, 14, 15, 16] [])) (drR [2, 8, 5] [125] []) mixed (by kernel_rfl) (by kernel_rfl) (fun _ _ h => h) ?_)
    | (refine at_done (by simp only [List.filterMap_cons, List.filterMap_nil, List.getElem?_toArray, List.getElem?_cons_zero, List.getElem?_cons_succ]; exact rfl) ?_) | (refine at_alt (by simp only [List.filterMap_cons, List.filterMap_nil, List.getElem?_toArray, List.getElem?_cons_zero, List.getElem?_cons_succ]; exact rfl) ?_) | refine qalt_normal ?_ | refine ats_cons ?_ ?_ | exact ats_nil
    | ((with_reducible first | refine awN (tyOf_ok _) [] ?_ | refine awO (tyOf_ok _) [] ?_ | refine awP (tyOf_ok _) [] ?_ | refine awQ ?_ | refine awR ?_ | refine awS ?_); intro r hr; simp only [go_sem, Nat.reduceBEq, Nat.reduceBneDiff, Nat.reduceLT, Nat.reduceLeDiff, Nat.reduceAdd, Nat.reduceMul, Nat.reduceSub, Nat.reduceEqDiff, reduceCtorEq, v8_len, g0, g1, g2, zk, hwk, ne_eq, not_true_eq_false, decide_false] at hr; subst hr; (first | refine awV ?_ ?_ | refine awW ?_ ?_ | refine endK ?_ ?_ | (refine condK (fun h => ?_) (fun h => ?_) <;> (try simp only [go_sem, reduceCtorEq] at h) <;> (try (exfalso; omega))))) | fail)) <;> (try omega)
      all_goals first | omega | exact ⟨k + 1, by simp only [go_sem, Nat.reduceBEq, Nat.reduceBneDiff, Nat.reduceLT, Nat.reduceLeDiff, Nat.reduceAdd, Nat.reduceMul, Nat.reduceSub, Nat.reduceEqDiff, reduceCtorEq] <;> exact rfl, hkl, by omega⟩
    have g0 : ((k : Int) < n) = False := eq_false (by omega)
    by_cases hns : n < S.length
    · have g1 := hfin hns
      have zn : ((n : Int)).toNat = n := by omega
      have g2 : ((n : Int) = S.length) = False := eq_false (by omega)
      (repeat' (first
    | exact trivial
    | (with_reducible first | refine awA ?_ | refine awB ?_ | refine awC ?_ | refine awD ?_ | refine awE ?_ | refine awF ?_ | refine awG ?_ | refine awH ?_ | refine awI ?_ | refine awJ ?_ | refine awK ?_ | refine awL ?_ | refine awM (by decide) ?_)
    | (refine aw_draw (id := 17) (t := (.node [0, 1, 2, 3, 4, 5, 6, 7, 8, 9, 10] [])) (drR [8, 5] [89, 94] []) mixed (by kernel_rfl) (by kernel_rfl) (fun _ _ h => h) ?_)
    | (refine aw_draw (id := 22) (t := (.node [0, 1, 2, 3, 4, 5, 6, 7, 8, 9, 10] [])) (drR [8, 5] [105, 110] []) mixed (by kernel_rfl) (by kernel_rfl) (fun _ _ h => h) ?_)
    | (refine aw_draw (id := 24) (t := (.node [0, 1, 2, 3, 4, 5, 6, 7, 8, 9, 10, 11, 12, 13, 14, 15, 16] [])) (drR [2, 8, 5] [125] []) mixed (by kernel_rfl) (by kernel_rfl) (fun _ _ h => h) ?_)
    | (refine at_done (by simp only [List.filterMap_cons, List.filterMap_nil, List.getElem?_toArray, List.getElem?_cons_zero, List.getElem?_cons_succ]; exact rfl) ?_) | (refine at_alt (by simp only [List.filterMap_cons, List.filterMap_nil, List.getElem?_toArray, List.getElem?_cons_zero, List.getElem?_cons_succ]; exact rfl) ?_) | refine qalt_normal ?_ | refine ats_cons ?_ ?_ | exact ats_nil
    | ((with_reducible first | refine awN (tyOf_ok _) [] ?_ | refine awO (tyOf_ok _) [] ?_ | refine awP (tyOf_ok _) [] ?_ | refine awQ ?_ | refine awR ?_ | refine awS ?_); intro r hr; simp only [go_sem, Nat.reduceBEq, Nat.reduceBneDiff, Nat.reduceLT, Nat.reduceLeDiff, Nat.reduceAdd, Nat.reduceMul, Nat.reduceSub, Nat.reduceEqDiff, reduceCtorEq, encIs_len, encTs_len, v8_len, g0, g1, g2, zn] at hr; subst hr; (first | refine awV ?_ ?_ | refine awW ?_ ?_ | refine endK ?_ ?_ | (refine condK (fun h => ?_) (fun h => ?_) <;> (try simp only [go_sem, reduceCtorEq] at h) <;> (try (exfalso; omega))))) | fail)) <;> (try omega)
      all_goals first | exact rfl | omega
    · have g2 : ((n : Int) = S.length) = True := eq_true (by omega)
      have g3 : (v8 pN)[n]? = (none : Option (List AV)) := List.getElem?_eq_none (by rw [v8_len]; omega)
      have zn : ((n : Int)).toNat = n := by omega
      (repeat' (first
    | exact trivial
    | (with_reducible first | refine awA ?_ | refine awB ?_ | refine awC ?_ | refine awD ?_ | refine awE ?_ | refine awF ?_ | refine awG ?_ | refine awH ?_ | refine awI ?_ | refine awJ ?_ | refine awK ?_ | refine awL ?_ | refine awM (by decide) ?_)
    | (refine aw_draw (id := 17) (t := (.node [0, 1, 2, 3, 4, 5, 6, 7, 8, 9, 10] [])) (drR [8, 5] [89, 94] []) mixed (by kernel_rfl) (by kernel_rfl) (fun _ _ h => h) ?_)
    | (refine aw_draw (id := 22) (t := (.node [0, 1, 2, 3, 4, 5, 6, 7, 8, 9, 10] [])) (drR [8, 5] [105, 110] []) mixed (by kernel_rfl) (by kernel_rfl) (fun _ _ h => h) ?_)
    | (refine aw_draw (id := 24) (t := (.node [0, 1, 2, 3, 4, 5, 6, 7, 8, 9, 10, 11, 12, 13, 14, 15, 16] [])) (drR [2, 8, 5] [125] []) mixed (by kernel_rfl) (by kernel_rfl) (fun _ _ h => h) ?_)
    | (refine at_done (by simp only [List.filterMap_cons, List.filterMap_nil, List.getElem?_toArray, List.getElem?_cons_zero, List.getElem?_cons_succ]; exact rfl) ?_) | (refine at_alt (by simp only [List.filterMap_cons, List.filterMap_nil, List.getElem?_toArray, List.getElem?_cons_zero, List.getElem?_cons_succ]; exact rfl) ?_) | refine qalt_normal ?_ | refine ats_cons ?_ ?_ | exact ats_nil
    | ((with_reducible first | refine awN (tyOf_ok _) [] ?_ | refine awO (tyOf_ok _) [] ?_ | refine awP (tyOf_ok _) [] ?_ | refine awQ ?_ | refine awR ?_ | refine awS ?_); intro r hr; simp only [go_sem, Nat.reduceBEq, Nat.reduceBneDiff, Nat.reduceLT, Nat.reduceLeDiff, Nat.reduceAdd, Nat.reduceMul, Nat.reduceSub, Nat.reduceEqDiff, reduceCtorEq, encIs_len, encTs_len, v8_len, g0, g2, g3, zn] at hr; subst hr; (first | refine awV ?_ ?_ | refine awW ?_ ?_ | refine endK ?_ ?_ | (refine condK (fun h => ?_) (fun h => ?_) <;> (try simp only [go_sem, reduceCtorEq] at h) <;> (try (exfalso; omega)))))
    | (refine al_skip 125 rfl (vI 0) rfl rfl ⟨by decide, by decide⟩ ?_) | fail)) <;> (try omega)
      all_goals first | exact rfl | omega
end Go.Proofs.Ytljfgohecmhchaa
end

import Derived.Test.YtfklhppfehkfaaaCur4
import Derived.Deep.RegionHeld3
import Derived.Deep.DeepCutAuto
namespace Go.Proofs.Ytfklhppfehkfaaa
open Go.RowKit

/-- a chunk of bytes -/
structure ChunkV where
  A : Option Addr
  n : Nat
  c : Nat
  zs : List Int
instance : Inhabited ChunkV := ⟨⟨none, 0, 0, []⟩⟩
def ChunkV.val (o : ChunkV) : Value := .slice o.A o.n o.c
def ChunkV.own (w : World) (lo : Nat) (o : ChunkV) : Prop := OwnS w lo 5 o.A o.n o.c (o.zs.map (Value.int .u8)) ∧ ∀ q, blkOf o.A = some q → lo ≤ q ∧ q < w.heap.size

/-- chunks in memory of the call's own, in a list of the call's own -/
structure Pieces (w : World) (lo : Nat) (Ao : Option Addr) (co : Nat) (Ls : List ChunkV) : Prop where
  list : OwnS w lo 25 Ao Ls.length co (Ls.map ChunkV.val)
  at_ : ∀ q, blkOf Ao = some q → lo ≤ q ∧ q < w.heap.size
  all : ∀ o ∈ Ls, o.own w lo
  off : ∀ o ∈ Ls, ∀ q, blkOf o.A = some q → blkOf Ao ≠ some q
  apart : Ls.Pairwise fun a b => ∀ q, blkOf a.A = some q → blkOf b.A ≠ some q

theorem Pieces.nil (w : World) (lo : Nat) : Pieces w lo none 0 [] :=
  ⟨OwnS.nil _ _ _ _, fun q h => (by cases h), fun o h => (by cases h), fun o h => (by cases h), List.Pairwise.nil⟩
theorem ChunkV.own.fr {w w' : World} {lo : Nat} {o : ChunkV} {S : Nat → Prop} (h : o.own w lo) (hf : Fr w w' S) (hS : ∀ q, blkOf o.A = some q → ¬ S q) : o.own w' lo :=
  ⟨hf.own h.1 hS, fun q hq => ⟨(h.2 q hq).1, Nat.lt_of_lt_of_le (h.2 q hq).2 hf.size⟩⟩
/-- one more chunk -/
theorem Pieces.push {w w1 w2 w3 : World} {lo : Nat} {Ao A3 : Option Addr} {co c3 : Nat} {Ls : List ChunkV} {o : ChunkV} (h : Pieces w lo Ao co Ls) (hlo : lo ≤ w.heap.size)
    (h1 : OwnS w1 w.heap.size 5 o.A o.n o.c (o.zs.map (Value.int .u8))) (hg1 : Fr w w1 (fun _ => False)) (ho : ∀ q, blkOf o.A = some q → q = w.heap.size ∧ q < w1.heap.size)
    (hg2 : Fr w1 w2 (fun _ => False)) (hg3 : w2.grownBy w3 (blkOf Ao)) (h3 : OwnS w3 lo 25 A3 (Ls.length + 1) c3 (Ls.map ChunkV.val ++ [o.val]))
    (hat : blkOf A3 = blkOf Ao ∨ blkOf A3 = some w2.heap.size ∧ w2.heap.size < w3.heap.size) : Pieces w3 lo A3 c3 (Ls ++ [o]) := by
  have s1 := hg1.size
  have s2 := hg2.size
  have s3 := hg3.size
  have f12 : Fr w w2 (fun _ => False) := hg1.trans hg2 (fun _ _ h => h)
  have f3 : Fr w2 w3 (fun k => blkOf Ao = some k) := Fr.of_grown hg3 (fun q hq => hq)
  have f23 : Fr w1 w3 (fun k => blkOf Ao = some k) := (hg2.mono (S' := fun k => blkOf Ao = some k) (fun _ _ h => h.elim)).trans f3 (fun _ _ h => h)
  have fall : Fr w w3 (fun k => blkOf Ao = some k) := (f12.mono (S' := fun k => blkOf Ao = some k) (fun _ _ h => h.elim)).trans f3 (fun _ _ h => h)
  refine ⟨by simpa using h3, ?_, ?_, ?_, ?_⟩
  · intro q hq
    rcases hat with e | ⟨e, elt⟩
    · rw [e] at hq; have := h.at_ q hq; exact ⟨this.1, by omega⟩
    · rw [e] at hq; injection hq with hq; exact ⟨by omega, by omega⟩
  · intro x hx
    rcases List.mem_append.1 hx with hx | hx
    · exact (h.all x hx).fr fall (fun q hq h2 => h.off x hx q hq h2)
    · simp at hx
      subst hx
      have hne : ∀ q, blkOf x.A = some q → blkOf Ao ≠ some q := fun q hq h2 => by have := ho q hq; have := h.at_ q h2; omega
      exact ⟨(f23.own h1 hne).mono hlo, fun q hq => by have := ho q hq; exact ⟨by omega, by omega⟩⟩
  · intro x hx q hq h2
    rcases List.mem_append.1 hx with hx | hx
    · rcases hat with e | ⟨e, elt⟩
      · rw [e] at h2; exact h.off x hx q hq h2
      · rw [e] at h2; injection h2 with h2; have := (h.all x hx).2 q hq; omega
    · simp at hx
      subst hx
      have hq' := ho q hq
      rcases hat with e | ⟨e, elt⟩
      · rw [e] at h2; have := h.at_ q h2; omega
      · rw [e] at h2; injection h2 with h2; omega
  · refine List.pairwise_append.2 ⟨h.apart, List.pairwise_singleton _ _, ?_⟩
    intro a ha b hb q hq h2
    simp at hb
    subst hb
    have := (h.all a ha).2 q hq
    have := ho q h2
    omega

theorem sl8_info : (Try.prog.info? 25).map (fun i => (i.zero, i.size, i.bytes)) = some (some (.slice none 0 0), 1, 24) := by kernel_rfl
theorem one_chunk (o : ChunkV) : ∀ u ∈ [o.val], u.oneCell' = true := fun u hu => by
  simp at hu; subst hu; rfl

set_option maxHeartbeats 2000000 in
set_option maxRecDepth 100000 in
theorem cutInto_any (A Az : Option Addr) (n c nz cz : Nat) (bs zs : List Int) (B Bz : Nat) (w : World) (hr : Row w B A (bs.map (Value.int .u8))) (hn : n = bs.length) (hnc : n ≤ c) (hcm : c ≤ maxLen) (hB : B ≤ w.heap.size)
    (hz : Row w Bz Az (zs.map (Value.int .i64))) (hnz : nz = zs.length) (hcz : nz ≤ cz) (hczm : cz ≤ maxLen) (hBz : Bz ≤ w.heap.size) (hz64 : ∀ z ∈ zs, I64 z) (hbig : bs.length ≤ 1000) (hzbig : zs.length ≤ 5000000000000) :
    Calls Try.prog 29 #[.slice A n c, .slice Az nz cz] w fun e w' => ∃ Ao co Ls, e = .returned (.slice Ao Ls.length co) ∧ Pieces w' w.heap.size Ao co Ls ∧ Ls.flatMap ChunkV.zs = bs ∧ Below w.heap.size w w' := by
  subst hn
  subst hnz
  unfold maxLen at hcm hczm
  obtain ⟨i0, hi, hz0', hz1, hz2⟩ := info_parts u8_info'
  obtain ⟨j0, hj, hj0', hj1, hj2⟩ := info_parts sl8_info
  go_enter Try.func29, Try.ntmps29
  go_wp2_with fail
  go_loopw [0, 5, 6, 7] (fun b o i _ wr => ∃ (k t : Nat) (Ab Ao : Option Addr) (cb co : Nat) (Ls : List ChunkV), i = .int .i64 k ∧ k ≤ zs.length ∧ Ls.length ≤ k ∧ t ≤ bs.length ∧ b = .slice Ab (bs.length - t) cb ∧ bs.length - t ≤ cb ∧ cb ≤ c ∧ Row wr B Ab ((bs.drop t).map (Value.int .u8)) ∧ o = .slice Ao Ls.length co ∧ Pieces wr w.heap.size Ao co Ls ∧ Ls.flatMap ChunkV.zs = bs.take t ∧ Below w.heap.size w wr) (fun _ _ i _ _ => zs.length - (intOf i).toNat)
  case atStart => exact ⟨0, 0, A, none, c, 0, [], rfl, Nat.zero_le _, Nat.le_refl _, Nat.zero_le _, rfl, hnc, Nat.le_refl _, hr, rfl, Pieces.nil _ _, by simp, Below.refl _ _⟩
  case round =>
    obtain ⟨k, t, Ab, Ao, cb, co, Ls, rfl, hk, hLk, ht, rfl, hcb, hcbc, hrb, rfl, hP, hfl, hbr⟩ := hrel
    by_cases hgo : k < zs.length ∧ t < bs.length
    · obtain ⟨hlt, htl⟩ := hgo
      obtain ⟨ab, off, rfl, _, hc⟩ := (hz.below (hbr.mono hBz)).ints (by omega)
      have hcell := hc k hlt
      have hzI := hz64 _ (getD_mem hlt)
      clear hc
      generalize zs.getD k 0 = z at *
      have hmd := tmod_bd z 10 (by decide)
      have hg2 : decide ((0 : Int) < ((bs.length - t : Nat) : Int)) = true := decide_eq_true (by omega)
      obtain ⟨wo, rfl⟩ : ∃ wo : World, wo = wr := ⟨_, rfl⟩
      go_upto_if 25 with (fail)
      go_cut [7] (fun s7 wx => wx = wo ∧ ∃ m : Nat, s7 = .int .i64 m)
      case first =>
        go_wp2_with fail
        · go_meet
          exact ⟨rfl, (-(z.tmod 10)).toNat, by congr 1; omega⟩
        · go_meet
          exact ⟨rfl, (z.tmod 10).toNat, by congr 1; omega⟩
      case rest =>
      obtain ⟨rfl, m, rfl⟩ := hcut
      obtain ⟨wo, rfl⟩ : ∃ wo : World, wo = wc := ⟨_, rfl⟩
      have hmin : min (m : Int) ((bs.length - t : Nat) : Int) = ((min m (bs.length - t) : Nat) : Int) := by omega
      go_upto_region 8 with (fail)
      go_cut [7] (fun s7 wx => wx = wo ∧ s7 = .int .i64 ((min m (bs.length - t) : Nat) : Int))
      case first =>
        go_wp2_with fail
        go_meet
        exact ⟨rfl, by congr 1⟩
      case rest =>
      obtain ⟨rfl, rfl⟩ := hcut
      have hml : min m (bs.length - t) ≤ bs.length - t := Nat.min_le_right _ _
      clear hmin hcell hmd hg2
      generalize min m (bs.length - t) = u at *
      have hul : (u : Int) ≤ cb := by omega
      have hul2 : (u : Int) ≤ ((bs.length - t : Nat) : Int) := by omega
      have hone : ∀ v ∈ ((bs.drop t).take u).map (Value.int .u8), v.oneCell' = true := one_ints' _ _
      have hru := hrb.take u
      have hlu : (((bs.drop t).take u).map (Value.int .u8)).length = u := by simp; omega
      have HU := Lib.hid hlu
      clear hlu
      go_wp2_with (first
        | (at_builtin; (refine wpList_append_ownS _ rfl _ _ 25 rfl wc.heap.size 5 i0 (.int .u8 0) 1 Try.underlying25 hi hz0' hz1 hz2 rfl none 0 0 [] rfl (OwnS.nil _ _ _ _) B Ab u cb (((bs.drop t).take u).map (Value.int .u8)) rfl hru HU.out hone (by unfold maxLen; omega) (by omega) (Nat.le_refl _) ?_); intro A1 c1 w1 hown1 hg1 hat1; rw [Nat.zero_add] at hown1; rw [Nat.zero_add]; have hl2 := (hP.list.grown hg1 (fun q h => by cases h)).alloc (.cells #[.slice A1 u c1] 25); have hr2 := (Blk.new w1 25 [.slice A1 u c1]).row)
        | (at_builtin; (refine wpList_append_ownS _ rfl _ _ 57 rfl w.heap.size 25 j0 (.slice none 0 0) 24 Try.underlying57 hj hj0' hj1 hj2 rfl Ao Ls.length co (Ls.map ChunkV.val) rfl hl2 _ (some ⟨w1.heap.size, 0, none⟩) 1 1 [.slice A1 u c1] rfl hr2 rfl (one_chunk ⟨A1, u, c1, []⟩) (by unfold maxLen; omega) (by omega) (by have := hbr.size; have := hg1.size; simp; omega) ?_); intro A3 c3 w3 hown3 hg3 hat3))
      go_roundw
      case rel =>
        have hf1 : Fr wc w1 (fun _ => False) := Fr.of_grown hg1 (fun q h => by cases h)
        have hf2 : Fr w1 (w1.alloc (.cells #[.slice A1 u c1] 25)) (fun _ => False) := Fr.of_below ((Below.refl _ _).alloc (Nat.le_refl _) _) _
        have hP' := Pieces.push (o := ⟨A1, u, c1, (bs.drop t).take u⟩) hP hbr.size hown1 hf1 (by
          intro q hq
          rcases hat1 with e | ⟨e, elt⟩
          · rw [show blkOf A1 = blkOf none from e] at hq; cases hq
          · rw [show blkOf A1 = _ from e] at hq; injection hq with hq; exact ⟨hq.symm, by omega⟩) hf2 hg3 hown3 hat3
        have hbw : Below w.heap.size wc w3 := ((hf1.below hbr.size (fun _ h => h.elim)).trans ((hf2.below (Nat.le_trans hbr.size hf1.size) (fun _ h => h.elim)))).grown hg3 (Nat.le_trans (Nat.le_trans hbr.size hf1.size) hf2.size) (fun q hq => (hP.at_ q hq).1)
        have hd := (hrb.below (hbw.mono hB)).drop u cb (by simp; omega)
        rw [← List.map_drop, List.drop_drop] at hd
        refine ⟨k + 1, t + u, _, A3, cb - u, c3, _, by go_num, by omega, by simp; omega, by omega, by rw [Nat.sub_add_eq], by omega, by omega, hd, by simp, hP', ?_, hbr.trans hbw⟩
        rw [List.flatMap_append, hfl]
        simp [List.take_add]
      case measure => simp [intOf]; omega
    · have hx : (decide (k < zs.length) = false) ∨ (decide (k < zs.length) = true ∧ decide (0 < bs.length - t) = false) := by
        by_cases h : k < zs.length
        · exact .inr ⟨decide_eq_true h, decide_eq_false (by omega)⟩
        · exact .inl (decide_eq_false h)
      obtain ⟨wo, rfl⟩ : ∃ wo : World, wo = wr := ⟨_, rfl⟩
      go_upto_region 3 with (fail)
      go_cut [16] (fun s16 wx => wx = wo ∧ s16 = .bool false)
      case first =>
        rcases hx with hx | ⟨hx, hx'⟩
        · go_wp2_with fail
          go_meet
          exact ⟨rfl, rfl⟩
        · go_wp2_with fail
          go_meet
          exact ⟨rfl, rfl⟩
      case rest =>
      obtain ⟨rfl, rfl⟩ := hcut
      have hone : ∀ v ∈ (bs.drop t).map (Value.int .u8), v.oneCell' = true := one_ints' _ _
      have hlu : ((bs.drop t).map (Value.int .u8)).length = bs.length - t := by simp
      have HU := Lib.hid hlu
      clear hlu
      go_wp2_with (first
        | (at_builtin; (refine wpList_append_ownS _ rfl _ _ 25 rfl wc.heap.size 5 i0 (.int .u8 0) 1 Try.underlying25 hi hz0' hz1 hz2 rfl none 0 0 [] rfl (OwnS.nil _ _ _ _) B Ab (bs.length - t) cb ((bs.drop t).map (Value.int .u8)) rfl hrb HU.out hone (by unfold maxLen; omega) (by omega) (Nat.le_refl _) ?_); intro A1 c1 w1 hown1 hg1 hat1; rw [Nat.zero_add] at hown1; rw [Nat.zero_add]; have hl2 := (hP.list.grown hg1 (fun q h => by cases h)).alloc (.cells #[.slice A1 (bs.length - t) c1] 25); have hr2 := (Blk.new w1 25 [.slice A1 (bs.length - t) c1]).row)
        | (at_builtin; (refine wpList_append_ownS _ rfl _ _ 57 rfl w.heap.size 25 j0 (.slice none 0 0) 24 Try.underlying57 hj hj0' hj1 hj2 rfl Ao Ls.length co (Ls.map ChunkV.val) rfl hl2 _ (some ⟨w1.heap.size, 0, none⟩) 1 1 [.slice A1 (bs.length - t) c1] rfl hr2 rfl (one_chunk ⟨A1, bs.length - t, c1, []⟩) (by unfold maxLen; omega) (by omega) (by have := hbr.size; have := hg1.size; simp; omega) ?_); intro A3 c3 w3 hown3 hg3 hat3))
      go_ret
      have hf1 : Fr wc w1 (fun _ => False) := Fr.of_grown hg1 (fun q h => by cases h)
      have hf2 : Fr w1 (w1.alloc (.cells #[.slice A1 (bs.length - t) c1] 25)) (fun _ => False) := Fr.of_below ((Below.refl _ _).alloc (Nat.le_refl _) _) _
      have hP' := Pieces.push (o := ⟨A1, bs.length - t, c1, bs.drop t⟩) hP hbr.size hown1 hf1 (by
        intro q hq
        rcases hat1 with e | ⟨e, elt⟩
        · rw [show blkOf A1 = blkOf none from e] at hq; cases hq
        · rw [show blkOf A1 = _ from e] at hq; injection hq with hq; exact ⟨hq.symm, by omega⟩) hf2 hg3 hown3 hat3
      refine ⟨A3, c3, _, by simp, hP', by simp [hfl], ?_⟩
      exact (hbr.trans ((hf1.below hbr.size (fun _ h => h.elim)).trans ((hf2.below (Nat.le_trans hbr.size hf1.size) (fun _ h => h.elim))))).grown hg3 (Nat.le_trans (Nat.le_trans hbr.size hf1.size) hf2.size) (fun q hq => (hP.at_ q hq).1)
end Go.Proofs.Ytfklhppfehkfaaa

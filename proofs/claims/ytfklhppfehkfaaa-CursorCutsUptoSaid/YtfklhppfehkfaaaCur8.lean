import Derived.Test.YtfklhppfehkfaaaCur7
namespace Go.Proofs.Ytfklhppfehkfaaa
open Go.RowKit

set_option maxHeartbeats 4000000 in
set_option maxRecDepth 100000 in
theorem CursorCuts_any (A0 A1 A2 A3 : Option Addr) (n0 c0 n1 c1 n2 c2 n3 c3 : Nat) (bs0 z1 z2 z3 : List Int) (at0 : Int) (w : World)
    (r0 : Row w w.heap.size A0 (bs0.map (Value.int .u8))) (e0 : n0 = bs0.length) (g0 : n0 ≤ c0) (m0 : c0 ≤ maxLen) (b0 : ∀ z ∈ bs0, U8 z)
    (r1 : Row w w.heap.size A1 (z1.map (Value.int .i64))) (e1 : n1 = z1.length) (g1 : n1 ≤ c1) (m1 : c1 ≤ maxLen) (b1 : ∀ z ∈ z1, I64 z)
    (r2 : Row w w.heap.size A2 (z2.map (Value.int .i64))) (e2 : n2 = z2.length) (g2 : n2 ≤ c2) (m2 : c2 ≤ maxLen) (b2 : ∀ z ∈ z2, I64 z)
    (r3 : Row w w.heap.size A3 (z3.map (Value.int .i64))) (e3 : n3 = z3.length) (g3 : n3 ≤ c3) (m3 : c3 ≤ maxLen) (b3 : ∀ z ∈ z3, I64 z)
    (hat : I64 at0) (s1 : z1.length ≤ 5000000000000) (s2 : z2.length ≤ 5000000000000) :
    Calls Try.prog 7 #[.slice A0 n0 c0, .slice A1 n1 c1, .slice A2 n2 c2, .slice A3 n3 c3, .int .i64 at0] w fun e w' => e = .returned (.bool true) ∧ Below w.heap.size w w' := by
  subst e0; subst e1; subst e2; subst e3
  unfold maxLen at m0 m1 m2 m3
  obtain ⟨hmb0, hmb1⟩ := tmod_bd at0 1000 (by decide)
  obtain ⟨hat0, hat1⟩ := hat
  go_enter Try.func7, Try.ntmps7
  go_upto_if 38 with ((refine (awake03_any _).mono ?_; rintro e w1 ⟨rfl, hb1⟩))
  go_cut [0] from 36 to 40 (fun s0 wx => wx = w1 ∧ ∃ bs : List Int, s0 = .slice A0 bs.length c0 ∧ bs.length ≤ 1000 ∧ bs.length ≤ c0 ∧ Row w w.heap.size A0 (bs.map (Value.int .u8)) ∧ (∀ z ∈ bs, U8 z))
  case first =>
    by_cases hbig : 1000 < bs0.length
    · have hlen : (bs0.take 1000).length = 1000 := by rw [List.length_take]; omega
      have HL := Lib.hid hlen
      have hc0 : (1000 : Int) ≤ c0 := by omega
      clear hlen
      go_wp2_with fail
      go_meet
      exact ⟨rfl, bs0.take 1000, by rw [HL.out], by rw [HL.out]; exact Nat.le_refl _, by rw [HL.out]; omega, r0.take 1000, fun z hz' => b0 z (List.mem_of_mem_take hz')⟩
    · go_wp2_with fail
      go_meet
      exact ⟨rfl, bs0, rfl, by omega, g0, r0, b0⟩
  case rest =>
  obtain ⟨rfl, bs, rfl, hbs, hbc, hrb, hb8⟩ := hcut
  obtain ⟨w1, rfl⟩ : ∃ wx : World, wx = wc := ⟨_, rfl⟩
  clear r0 g0 b0
  go_upto_if 44 with (fail)
  go_cut [4] from 41 to 46 (fun s4 wx => wx = w1 ∧ ∃ a : Nat, a ≤ 999 ∧ s4 = .int .i64 a)
  case first =>
    go_wp2_with fail
    · go_meet
      exact ⟨rfl, (-(at0.tmod 1000)).toNat, by omega, by congr 1; omega⟩
    · go_meet
      exact ⟨rfl, (at0.tmod 1000).toNat, by omega, by congr 1; omega⟩
  case rest =>
  obtain ⟨rfl, a, ha, rfl⟩ := hcut
  obtain ⟨w1, rfl⟩ : ∃ wx : World, wx = wc := ⟨_, rfl⟩
  go_wp2_with fail
  refine (INew_good a w1 (by omega) (by omega)).mono ?_; rintro e w2 ⟨rfl, hw2⟩
  go_wp2_with fail
  refine (INew_good a w2 (by omega) (by omega)).mono ?_; rintro e w3 ⟨rfl, hw3⟩
  have hD := Duo.start w1 a hw2.symm
  rw [hw3] at hD
  have hB3 : Below w.heap.size w w3 := by
    have h2 : Below w.heap.size w w2 := by rw [← hw2]; exact hb1.alloc hb1.size _
    rw [← hw3]; exact h2.alloc h2.size _
  have hp1 : w1.heap.size < w2.heap.size := by rw [← hw2]; simp
  have hp0 : w.heap.size ≤ w1.heap.size := hb1.size
  clear hw2 hw3
  go_wp2_with (first | (go_at_call 28; refine (num03_any _ _).mono ?_; rintro e w' ⟨rfl, rfl⟩))
  generalize w1.heap.size = p at *
  generalize w2.heap.size = q at *
  go_loopw [15, 16, 17, 18, 19, 20] (fun t _ _ _ _ _ wr => ∃ k : Nat, t = .int .i64 k ∧ k ≤ 2 ∧ (∃ P Q, Duo wr p p q a a P Q (if 1 ≤ k then bs else []) (if 2 ≤ k then bs else [])) ∧ Below w.heap.size w wr) (fun t _ _ _ _ _ _ => 2 - (intOf t).toNat)
  case atStart => exact ⟨0, rfl, by omega, ⟨none, none, hD⟩, hB3⟩
  case round =>
    obtain ⟨k, rfl, hk, ⟨P, Q, hD⟩, hbr⟩ := hrel
    obtain ⟨wo, rfl⟩ : ∃ wo : World, wo = wr := ⟨_, rfl⟩
    by_cases hk2 : k < 2
    · as_aux_lemma =>
      go_upto_if 80 with (fail)
      go_cut [16, 17] from 73 to 82 (fun s16 s17 wx => wx = wo ∧ ∃ (Az : Option Addr) (cz : Nat) (zs : List Int) (r o : Nat) (R O : Option Addr) (ys : List Int), s16 = .slice Az zs.length cz ∧ s17 = .pointer (some ⟨r, 0, none⟩) ∧ zs.length ≤ cz ∧ cz ≤ 9223372036854775807 ∧ Row w w.heap.size Az (zs.map (Value.int .i64)) ∧ (∀ z ∈ zs, I64 z) ∧ zs.length ≤ 5000000000000 ∧ Duo wo p r o a a R O [] ys ∧
        ∀ (wx : World) (R' : Option Addr), Duo wx p r o a a R' O bs ys → ∃ P Q, Duo wx p p q a a P Q (if 1 ≤ k + 1 then bs else []) (if 2 ≤ k + 1 then bs else []))
      case first =>
        rcases (by omega : k = 0 ∨ k = 1) with rfl | rfl
        · go_wp2_with fail
          go_meet
          exact ⟨rfl, A1, c1, z1, p, q, P, Q, [], rfl, rfl, g1, by omega, r1, b1, s1, hD, fun wx R' h => ⟨R', Q, h⟩⟩
        · go_wp2_with fail
          go_meet
          exact ⟨rfl, A2, c2, z2, q, p, Q, P, bs, rfl, rfl, g2, by omega, r2, b2, s2, hD.symm, fun wx R' h => ⟨P, R', h.symm⟩⟩
      case rest =>
      obtain ⟨rfl, Az, cz, zs, r, o, R, O, ys, rfl, rfl, hzc, hzm, hrz, hz64, hzbig, hD, hback⟩ := hcut
      obtain ⟨wo, rfl⟩ : ∃ wo : World, wo = wc := ⟨_, rfl⟩
      have hwwo : w.heap.size ≤ wo.heap.size := hbr.size
      go_wp2_with fail
      refine (cutInto_any A0 Az bs.length c0 zs.length cz bs zs w.heap.size w.heap.size wo (hrb.below hbr) rfl hbc (by unfold maxLen; omega) hwwo (hrz.below hbr) rfl hzc (by unfold maxLen; omega) hwwo hz64 hbs hzbig).mono ?_
      rintro e w4 ⟨Ao, co, Ls, rfl, hP, hfl, hb4⟩
      go_wp2_with fail
      have hD4 := hD.below hb4
      have hb4w : Below w.heap.size w w4 := hbr.trans (hb4.mono hwwo)
      have hLm : Ls.length ≤ 9223372036854775807 := by have h1 := hP.list.2.1; have h2 := hP.list.2.2.1; unfold maxLen at h2; omega
      have hp4 : p ≤ w4.heap.size := by have := hD4.x.ge; have := hD4.x.lt; omega
      have hrlo : r < wo.heap.size := hD.x.lt
      have holo : o < wo.heap.size := hD.y.lt
      have hRlo : ∀ x, blkOf R = some x → x < wo.heap.size := fun x hx => (hD.x.lo x hx).2
      have hOlo : ∀ x, blkOf O = some x → x < wo.heap.size := fun x hx => (hD.y.lo x hx).2
      go_loopw [19, 20] (fun s19 _ wr => ∃ j : Nat, s19 = .int .i64 j ∧ j ≤ Ls.length ∧ (∃ R', Duo wr p r o a a R' O ((Ls.take j).flatMap ChunkV.zs) ys ∧ ∀ x, blkOf R' = some x → x < wo.heap.size ∨ w4.heap.size ≤ x) ∧ OwnS wr wo.heap.size 25 Ao Ls.length co (Ls.map ChunkV.val) ∧ (∀ m, j ≤ m → ∀ V, Ls[m]? = some V → V.own wr wo.heap.size) ∧ w4.heap.size ≤ wr.heap.size ∧ Below w.heap.size w wr) (fun s19 _ _ => Ls.length - (intOf s19).toNat)
      case atStart => exact ⟨0, rfl, Nat.zero_le _, ⟨R, hD4, fun x hx => .inl (hRlo x hx)⟩, hP.list, fun m _ V hV => hP.all V (List.mem_of_getElem? hV), Nat.le_refl _, hb4w⟩
      case round =>
        obtain ⟨j, rfl, hj, ⟨R', hDj, hR'⟩, hLj, hVj, hsj, hbj⟩ := hrel
        obtain ⟨w5, rfl⟩ : ∃ wx : World, wx = wr := ⟨_, rfl⟩
        by_cases hlt : j < Ls.length
        · as_aux_lemma =>
          have hVe : Ls[j]? = some Ls[j] := List.getElem?_eq_getElem hlt
          have hVo := hVj j (Nat.le_refl _) _ hVe
          have hVP := hP.all _ (List.getElem_mem hlt)
          have hVoff := hP.off _ (List.getElem_mem hlt)
          have hVap : ∀ m, j + 1 ≤ m → ∀ V, Ls[m]? = some V → ∀ x, blkOf Ls[j].A = some x → blkOf V.A ≠ some x := fun m hm V hV x hx => by
            have hml : m < Ls.length := by
              rcases Nat.lt_or_ge m Ls.length with h | h
              · exact h
              · rw [List.getElem?_eq_none h] at hV; cases hV
            have := List.pairwise_iff_getElem.1 hP.apart j m hlt hml (by omega)
            rw [List.getElem?_eq_getElem hml] at hV
            injection hV with hV
            subst hV
            exact this x hx
          have hVl : ((Ls.take (j + 1)).flatMap ChunkV.zs) = (Ls.take j).flatMap ChunkV.zs ++ Ls[j].zs := by
            rw [List.take_add_one, hVe, List.flatMap_append]
            simp only [Option.toList_some, List.flatMap_cons, List.flatMap_nil, List.append_nil]
          have hVlen : ((Ls.take j).flatMap ChunkV.zs).length ≤ 1000 := by
            have h1 := congrArg List.length hfl
            rw [← List.take_append_drop j Ls, List.flatMap_append, List.length_append] at h1
            omega
          have hVn : Ls[j].n = Ls[j].zs.length := by have := hVo.1.1; simpa using this
          have hVzl : Ls[j].zs.length ≤ 1000 := by
            have h1 := congrArg List.length hfl
            rw [← List.take_append_drop (j + 1) Ls, List.flatMap_append, List.length_append, hVl, List.length_append] at h1
            omega
          have hcells : ∀ (wx : World), OwnS wx wo.heap.size 25 Ao Ls.length co (Ls.map ChunkV.val) → ∃ b off, Ao = some ⟨b, off, none⟩ ∧ wx.cell? ⟨b, off + j, none⟩ = some (.slice Ls[j].A Ls[j].n Ls[j].c) := fun wx hL => by
            obtain ⟨b, off, hA, _, hc⟩ := hL.row (by simp; omega)
            exact ⟨b, off, hA, hc j _ (by simp [hVe]; rfl)⟩
          generalize Ls[j] = V at *
          obtain ⟨gA, gO, rfl, hc5⟩ := hcells w5 hLj
          have HC := Lib.hid hcells
          clear hcells hVe
          have hV5 : Row w5 w5.heap.size V.A (V.zs.map (Value.int .u8)) := hVo.1.row
          have HN := Lib.hid hVn
          clear hVn
          go_wp2_with fail
          refine (Duo_give hDj V.A V.n V.c V.zs w5.heap.size hV5 HN.out (by rw [HN.out]; omega) (by have := hDj.x.ge; have := hDj.x.lt; omega)).mono ?_
          rintro e w6 ⟨R'', rfl, hD6, hR'', hF6⟩
          have hin : ∀ x, wo.heap.size ≤ x → x < w4.heap.size → ¬ (x = r ∨ blkOf R' = some x) := fun x h1 h2 h => by
            rcases h with h | h
            · omega
            · have := hR' x h; omega
          have hL6 := hF6.own hLj (fun x hx => hin x (hP.at_ x hx).1 (hP.at_ x hx).2)
          have hV6 : ∀ m, j ≤ m → ∀ V, Ls[m]? = some V → V.own w6 wo.heap.size := fun m hm V' hV' => (hVj m hm V' hV').fr hF6 (fun x hx => hin x ((hP.all V' (List.mem_of_getElem? hV')).2 x hx).1 ((hP.all V' (List.mem_of_getElem? hV')).2 x hx).2)
          have hVo6 := hVo.fr hF6 (fun x hx => hin x (hVP.2 x hx).1 (hVP.2 x hx).2)
          have hR6 : ∀ x, blkOf R'' = some x → x < wo.heap.size ∨ w4.heap.size ≤ x := fun x hx => by
            rcases hR'' with e | ⟨x', e, hx'⟩
            · rw [e] at hx; exact hR' x hx
            · rw [e] at hx; injection hx with hx; right; omega
          have hs6 := hF6.size
          have hb6 : Below w.heap.size w w6 := hbj.trans (hF6.below hbj.size (fun x hx => by
            rcases hx with hx | hx
            · have := hDj.x.ge; omega
            · have := hDj.x.lo x hx; omega))
          rw [← hVl] at hD6
          clear hc5
          go_wp2_with (first | (go_at_call 28; refine (num03_any _ _).mono ?_; rintro e w' ⟨rfl, rfl⟩))
          go_loopw [20] (fun s20 wr => ∃ m : Nat, s20 = .int .i64 m ∧ m ≤ V.n ∧ (∃ cs, OwnS wr wo.heap.size 5 V.A V.n V.c cs) ∧ Fr w6 wr (fun x => blkOf V.A = some x)) (fun s20 _ => V.n - (intOf s20).toNat)
          case atStart => exact ⟨0, rfl, Nat.zero_le _, ⟨_, hVo6.1⟩, Fr.refl _ _⟩
          case round =>
            obtain ⟨m, rfl, hm, ⟨cs, hcs⟩, hFr⟩ := hrel
            have hLr := hFr.own hL6 (fun x hx h => hVoff x h hx)
            obtain ⟨gA', gO', hA', hcr⟩ := HC.out wr hLr
            injection hA' with hA'
            injection hA' with e1 e2
            subst e1; subst e2
            by_cases hml : m < V.n
            · as_aux_lemma =>
              obtain ⟨gv, ov, hVA, hfz, ⟨v0, hv0⟩, hset⟩ := hcs.set_ m hml (.int .u8 238)
              have hnv : V.n ≤ V.c := hcs.2.1
              have hcm : V.c ≤ maxLen := hcs.2.2.1
              unfold maxLen at hcm
              rw [hVA] at hcr
              go_wp2_with fail
              go_roundw
              case rel => exact ⟨m + 1, by go_num, by omega, ⟨_, by rw [hVA]; rw [hVA] at hset; exact hset⟩, hFr.setCell (p := ⟨gv, ov + m, none⟩) (by rw [hVA]; rfl) _⟩
              case measure => simp [intOf]; omega
            · as_aux_lemma =>
              have hmn : m = V.n := by omega
              subst hmn
              go_wp2_with fail
              have hsr := hFr.size
              have hDr := hD6.fr hFr (fun h => by have := hVP.2 _ h; omega) (fun h => by have := hVP.2 _ h; omega) (fun x hx h => by have := hVP.2 _ h; have := hR6 x hx; omega) (fun x hx h => by have := hVP.2 _ h; have := hOlo x hx; omega)
              go_roundw
              case rel =>
                refine ⟨j + 1, by go_num, by omega, ⟨R'', hDr, hR6⟩, hLr, ?_, by omega, hb6.trans (hFr.below (by omega) (fun x hx => by have := hVP.2 x hx; omega))⟩
                intro m' hm' V' hV'
                exact (hV6 m' (by omega) V' hV').fr hFr (fun x hx h => hVap m' hm' V' hV' x h hx)
              case measure => simp [intOf]; omega
        · as_aux_lemma =>
          have hjl : j = Ls.length := by omega
          subst hjl
          rw [List.take_length, hfl] at hDj
          obtain ⟨P', Q', hD6⟩ := hback _ _ hDj
          go_wp2_with fail
          go_roundw
          case rel => exact ⟨k + 1, by go_num, by omega, ⟨P', Q', hD6⟩, hbj⟩
          case measure => simp [intOf]; omega
    · as_aux_lemma =>
      have hk2' : k = 2 := by omega
      have hDb : Duo wo p p q a a P Q bs bs := by rw [if_pos (by omega), if_pos (by omega)] at hD; exact hD
      clear hD hk2'
      go_wp2_with fail
      obtain ⟨hpw, hDw⟩ : p ≤ wo.heap.size ∧ True := ⟨by have := hDb.x.ge; have := hDb.x.lt; omega, trivial⟩
      clear hDw
      go_loopw [21, 22, 23, 24, 25, 26, 27, 28, 29, 30, 31, 32, 33] (fun s21 s22 _ _ _ _ _ _ _ _ _ _ _ wr => ∃ T k : Nat, s21 = .int .i64 T ∧ s22 = .int .i64 k ∧ T ≤ bs.length ∧ k ≤ z3.length ∧ (∃ P Q, Duo wr p p q (a + T) (a + T) P Q (bs.drop T) (bs.drop T)) ∧ Below w.heap.size w wr) (fun _ s22 _ _ _ _ _ _ _ _ _ _ _ _ => z3.length - (intOf s22).toNat)
      case atStart => exact ⟨0, 0, rfl, rfl, Nat.zero_le _, Nat.zero_le _, ⟨P, Q, by simpa using hDb⟩, hbr⟩
      case round =>
        obtain ⟨T, k, rfl, rfl, hT, hk, ⟨P, Q, hD⟩, hbr⟩ := hrel
        by_cases hgo : k < z3.length ∧ k < 300
        · as_aux_lemma =>
          obtain ⟨hlt, h300⟩ := hgo
          obtain ⟨ab, off, rfl, _, hc⟩ := (r3.below hbr).ints (by omega)
          have hcell := hc k hlt
          have hnI := b3 _ (getD_mem hlt)
          clear hc
          generalize z3.getD k 0 = n at *
          obtain ⟨hn0, hn1⟩ := hnI
          have hdiv := Int.mul_tdiv_add_tmod n 3
          have hmd := tmod_bd n 3 (by decide)
          have hpb : p ≤ wr.heap.size := by have := hD.x.ge; have := hD.x.lt; omega
          have hdl : (bs.drop T).length = bs.length - T := by simp
          obtain ⟨w4, rfl⟩ : ∃ wx : World, wx = wr := ⟨_, rfl⟩
          go_upto_if 131 with (fail)
          go_cut [21] from 115 to 131 (fun s21 wx => ∃ T' : Nat, s21 = .int .i64 T' ∧ T' ≤ bs.length ∧ (∃ P Q, Duo wx p p q (a + T') (a + T') P Q (bs.drop T') (bs.drop T')) ∧ Below w.heap.size w wx)
          case first =>
            have HDV := Lib.hid hdiv
            have HDL := Lib.hid hdl
            clear hdiv hdl
            by_cases h0 : n.tmod 3 = 0
            · have q0 : (n.tmod 3 == 0) = true := by rw [h0]; rfl
              clear hmd
              by_cases hA : 0 ≤ n ∧ n.tdiv 3 ≤ bs.length - T
              · as_aux_lemma =>
                have hge : decide (0 ≤ n) = true := decide_eq_true hA.1
                have hi0 : ∃ m : Nat, n.tdiv 3 = m := ⟨(n.tdiv 3).toNat, by have := HDV.out; omega⟩
                obtain ⟨m, hm⟩ := hi0
                have hmT : m ≤ bs.length - T := by omega
                have HA := Lib.hid hA
                clear hA
                go_wp2_with fail
                refine (Duo_peek hD m (by rw [HDL.out]; exact hmT) (by omega)).mono ?_
                rintro e w5 ⟨rfl, hblk5, hb5, hlt5⟩
                go_wp2_with fail
                refine (Duo_peek (hD.below hb5).symm m (by rw [HDL.out]; exact hmT) (by omega)).mono ?_
                rintro e w6 ⟨rfl, hblk6, hb6, hlt6⟩
                have hle : decide ((m : Int) ≤ (bs.length : Int) - T) = true := decide_eq_true (by omega)
                go_wp2_with fail
                have hblk5' := hblk5.below hb6 hlt5
                have hlZ : ((bs.drop T).take m).length = m := by rw [List.length_take, HDL.out]; omega
                have cp : ∀ kd, (convert 25 9 (.slice (some ⟨w4.heap.size, 0, none⟩) m m)).run Try.prog (w6.drewN kd) = .ok (.string (strOfNums ((bs.drop T).take m))) (w6.drewN kd) := fun kd => Row.str (hblk5'.row.drewN kd) m m hlZ.symm
                have cq : ∀ kd, (convert 25 9 (.slice (some ⟨w5.heap.size, 0, none⟩) m m)).run Try.prog (w6.drewN kd) = .ok (.string (strOfNums ((bs.drop T).take m))) (w6.drewN kd) := fun kd => Row.str (hblk6.row.drewN kd) m m hlZ.symm
                have hbw6 : Below w.heap.size w w6 := (hbr.trans (hb5.mono hbr.size)).trans (hb6.mono (Nat.le_trans hbr.size hb5.size))
                have cs : ∀ kd, (convert 25 9 (.slice (if c0 = T then A0 else A0.map (·.add T)) m (c0 - T))).run Try.prog (w6.drewN kd) = .ok (.string (strOfNums ((bs.drop T).take m))) (w6.drewN kd) := fun kd => by
                  have h1 := (hrb.below hbw6).drop T c0 (by simpa using hbc)
                  rw [← List.map_drop] at h1
                  exact Row.str ((h1.take m).drewN kd) m (c0 - T) hlZ.symm
                have sl : ∀ wx : World, (Instr.slice 25 (.slice A0 bs.length c0) (some (.int .i64 T)) (some (.int .i64 ((T : Int) + m))) none).run Try.prog wx = .ok (.slice (if c0 = T then A0 else A0.map (·.add T)) m (c0 - T)) wx := fun wx => u8_lh A0 bs.length c0 T m wx (by omega)
                have hsum : IntKind.i64.wrap ((T : Int) + m) = (T : Int) + m := IntWalk.i64_in _ (by omega)
                have hDf := (hD.below hb5).below hb6
                generalize (if c0 = T then A0 else A0.map (·.add T)) = A5 at *
                generalize strOfNums ((bs.drop T).take m) = Z at *
                clear hlZ hblk5' hblk5 hblk6
                go_quiet (fail)
                go_wp2_with fail
                go_meet
                exact ⟨T, rfl, hT, ⟨P, Q, hDf.below (below_drewN (Below.refl _ _) _)⟩, below_drewN hbw6 _⟩
              · as_aux_lemma =>
                have hbad : n.tdiv 3 < 0 ∨ (((bs.drop T).length : Nat) : Int) < n.tdiv 3 := by
                  rw [HDL.out]
                  have := HDV.out
                  by_cases h : 0 ≤ n
                  · have : ¬ n.tdiv 3 ≤ bs.length - T := fun h' => hA ⟨h, h'⟩
                    right; omega
                  · left; omega
                have hx : decide (0 ≤ n) = false ∨ (decide (0 ≤ n) = true ∧ decide (n.tdiv 3 ≤ (bs.length : Int) - T) = false) := by
                  by_cases h : 0 ≤ n
                  · exact .inr ⟨decide_eq_true h, decide_eq_false fun h' => hA ⟨h, h'⟩⟩
                  · exact .inl (decide_eq_false h)
                have HX := Lib.hid hx
                have hi0 : -9223372036854775808 ≤ n.tdiv 3 ∧ n.tdiv 3 ≤ 9223372036854775807 := by have := HDV.out; omega
                clear hA hx
                generalize hi : n.tdiv 3 = i at *
                have HP := Lib.hid (Duo_peek_bad hD i hbad)
                have HQ := Lib.hid (Duo_peek_bad hD.symm i hbad)
                clear hbad
                rcases HX.out with hx | ⟨hx, hx'⟩
                · as_aux_lemma =>
                  go_wp2_with fail
                  refine HP.out.mono ?_; rintro e w' ⟨rfl, rfl⟩
                  go_wp2_with fail
                  refine HQ.out.mono ?_; rintro e w' ⟨rfl, rfl⟩
                  go_wp2_with fail
                  go_quiet (fail)
                  go_wp2_with fail
                  go_meet
                  exact ⟨T, rfl, hT, ⟨P, Q, hD.below (below_drewN (Below.refl _ _) _)⟩, below_drewN hbr _⟩
                · go_wp2_with fail
                  refine HP.out.mono ?_; rintro e w' ⟨rfl, rfl⟩
                  go_wp2_with fail
                  refine HQ.out.mono ?_; rintro e w' ⟨rfl, rfl⟩
                  go_wp2_with fail
                  go_quiet (fail)
                  go_wp2_with fail
                  go_meet
                  exact ⟨T, rfl, hT, ⟨P, Q, hD.below (below_drewN (Below.refl _ _) _)⟩, below_drewN hbr _⟩
            · have q0 : (n.tmod 3 == 0) = false := by rw [beq_eq_false_iff_ne]; exact h0
              by_cases h1 : n.tmod 3 = 1
              · have q1 : (n.tmod 3 == 1) = true := by rw [h1]; rfl
                have hn0 : 0 ≤ n := by
                  rcases Int.lt_or_le n 0 with h | h
                  · have h2 := Int.tmod_nonneg (a := -n) 3 (by omega)
                    rw [Int.neg_tmod] at h2
                    omega
                  · exact h
                have hi0 : ∃ m : Nat, n.tdiv 3 = m := ⟨(n.tdiv 3).toNat, by have := HDV.out; omega⟩
                obtain ⟨m, hm⟩ := hi0
                have hmb : (m : Int) ≤ 9223372036854775807 := by have := HDV.out; omega
                clear hn0 hmd h0
                by_cases hmT : m ≤ bs.length - T
                · as_aux_lemma =>
                  have hle : decide ((m : Int) ≤ (bs.length : Int) - T) = true := decide_eq_true (by omega)
                  go_wp2_with fail
                  refine (Duo_skip hD m (by rw [HDL.out]; exact hmT) (by omega) (by omega) hpb).mono ?_
                  rintro e w5 ⟨rfl, P', hD5, hb5⟩
                  have hpb5 : p ≤ w5.heap.size := Nat.le_trans hpb hb5.size
                  go_wp2_with (first | (go_at_call 28; refine (num03_any _ _).mono ?_; rintro e w' ⟨rfl, rfl⟩))
                  refine (Duo_skip hD5.symm m (by rw [HDL.out]; exact hmT) (by omega) (by omega) hpb5).mono ?_
                  rintro e w6 ⟨rfl, Q', hD6, hb6⟩
                  have hD6' := hD6.symm
                  rw [List.drop_drop] at hD6'
                  have ea : (a : Int) + T + m = (a : Int) + ((T + m : Nat) : Int) := by omega
                  rw [ea] at hD6'
                  clear ea hD6 hD5
                  go_wp2_with (first | (go_at_call 28; refine (num03_any _ _).mono ?_; rintro e w' ⟨rfl, rfl⟩))
                  go_meet
                  exact ⟨T + m, by go_num, by omega, ⟨P', Q', hD6'⟩, (hbr.trans (hb5.mono hp0)).trans (hb6.mono hp0)⟩
                · as_aux_lemma =>
                  have hle : decide ((m : Int) ≤ (bs.length : Int) - T) = false := decide_eq_false (by omega)
                  have hbad : (m : Int) < 0 ∨ (((bs.drop T).length : Nat) : Int) < (m : Int) := by rw [HDL.out]; right; omega
                  have HP := Lib.hid (Duo_skip_bad hD m hbad)
                  have HQ := Lib.hid (Duo_skip_bad hD.symm m hbad)
                  clear hbad
                  go_wp2_with fail
                  refine HP.out.mono ?_; rintro e w' ⟨rfl, rfl⟩
                  go_wp2_with (first | (go_at_call 28; refine (num03_any _ _).mono ?_; rintro e w' ⟨rfl, rfl⟩))
                  refine HQ.out.mono ?_; rintro e w' ⟨rfl, rfl⟩
                  go_wp2_with (first | (go_at_call 28; refine (num03_any _ _).mono ?_; rintro e w' ⟨rfl, rfl⟩))
                  go_meet
                  exact ⟨T, rfl, hT, ⟨P, Q, hD⟩, hbr⟩
              · have q1 : (n.tmod 3 == 1) = false := by rw [beq_eq_false_iff_ne]; exact h1
                clear hmd h0 h1
                by_cases hTl : T < bs.length
                · as_aux_lemma =>
                  have hdz : bs.drop T = bs.getD T 0 :: bs.drop (T + 1) := by
                    rw [List.drop_eq_getElem_cons hTl, List.getD_eq_getElem?_getD, List.getElem?_eq_getElem hTl]; rfl
                  obtain ⟨gb, go', rfl, hgb, hcb⟩ := hrb.ints (by omega)
                  have hcT : ∀ wx, Below w.heap.size w wx → wx.cell? ⟨gb, go' + T, none⟩ = some (.int .u8 (bs.getD T 0)) := fun wx hx => by
                    rw [hx.cell (show gb < w.heap.size from hgb)]; exact hcb T hTl
                  have HCT := Lib.hid hcT
                  rw [hdz] at hD
                  clear hcb hdz hcT
                  generalize bs.getD T 0 = z at *
                  go_wp2_with fail
                  refine (Duo_take _ hD (by omega) (by omega) hpb).mono ?_
                  rintro e w5 ⟨rfl, P', hD5, hb5⟩
                  have hpb5 : p ≤ w5.heap.size := Nat.le_trans hpb hb5.size
                  go_wp2_with fail
                  refine (Duo_take _ hD5.symm (by omega) (by omega) hpb5).mono ?_
                  rintro e w6 ⟨rfl, Q', hD6, hb6⟩
                  have hbw6 : Below w.heap.size w w6 := (hbr.trans (hb5.mono hp0)).trans (hb6.mono hp0)
                  have hc6 := HCT.out w6 hbw6
                  have hD6' := hD6.symm
                  have ea : (a : Int) + T + 1 = (a : Int) + ((T + 1 : Nat) : Int) := by omega
                  rw [ea] at hD6'
                  have hbc' : (bs.length : Int) ≤ c0 := by omega
                  clear ea hD6 hD5 hD
                  go_wp2_with fail
                  go_meet
                  exact ⟨T + 1, by go_num, by omega, ⟨P', Q', hD6'⟩, hbw6⟩
                · as_aux_lemma =>
                  have hTe : T = bs.length := by omega
                  subst hTe
                  have hdz : bs.drop bs.length = [] := List.drop_length
                  have hD' := hD
                  rw [hdz] at hD'
                  have HP := Lib.hid (Duo_take_none hD')
                  have HQ := Lib.hid (Duo_take_none hD'.symm)
                  clear hD' hdz
                  go_wp2_with fail
                  refine HP.out.mono ?_; rintro e w' ⟨rfl, rfl⟩
                  go_wp2_with fail
                  refine HQ.out.mono ?_; rintro e w' ⟨rfl, rfl⟩
                  go_wp2_with fail
                  go_meet
                  exact ⟨bs.length, rfl, hT, ⟨P, Q, hD⟩, hbr⟩
          case rest =>
          as_aux_lemma =>
          obtain ⟨T', rfl, hT', ⟨P', Q', hD'⟩, hbw⟩ := hcut
          have hl' : (((bs.drop T').length : Nat) : Int) = (bs.length : Int) - T' := by rw [List.length_drop]; omega
          have hx1 := Duo_at hD'
          have hx2 := Duo_at hD'.symm
          have hx3 := Duo_held hD'
          have hx4 := Duo_held hD'.symm
          rw [hl'] at hx3 hx4
          have H1 := Lib.hid hx1; have H2 := Lib.hid hx2; have H3 := Lib.hid hx3; have H4 := Lib.hid hx4
          clear hx1 hx2 hx3 hx4 hl' hdl hdiv hmd
          go_wp2_with (first
            | (go_at_call 34; (with_reducible refine H1.out.mono ?_); rintro e w' ⟨rfl, rfl⟩)
            | (go_at_call 34; (with_reducible refine H2.out.mono ?_); rintro e w' ⟨rfl, rfl⟩)
            | (go_at_call 35; (with_reducible refine H3.out.mono ?_); rintro e w' ⟨rfl, rfl⟩)
            | (go_at_call 35; (with_reducible refine H4.out.mono ?_); rintro e w' ⟨rfl, rfl⟩))
          go_roundw
          case rel => exact ⟨T', k + 1, rfl, by go_num, hT', by omega, ⟨P', Q', hD'⟩, hbw⟩
          case measure => simp [intOf]; omega
        · as_aux_lemma =>
          have hx : (decide (k < z3.length) = false) ∨ (decide (k < z3.length) = true ∧ decide (k < 300) = false) := by
            by_cases h : k < z3.length
            · exact .inr ⟨decide_eq_true h, decide_eq_false (fun h' => hgo ⟨h, h'⟩)⟩
            · exact .inl (decide_eq_false h)
          obtain ⟨w4, rfl⟩ : ∃ wx : World, wx = wr := ⟨_, rfl⟩
          go_upto_region 32 with (fail)
          go_cut [122] from 115 to 121 (fun s122 wx => wx = w4 ∧ s122 = .bool false)
          case first =>
            rcases hx with hx | ⟨hx, hx'⟩
            · go_wp2_with fail
              go_meet
              exact ⟨rfl, rfl⟩
            · have hk3 := of_decide_eq_false hx'
              go_wp2_with fail
              go_meet
              first | exact ⟨rfl, rfl⟩ | exact ⟨rfl, by congr 1; exact decide_eq_false (by omega)⟩
          case rest =>
          obtain ⟨rfl, rfl⟩ := hcut
          obtain ⟨w4, rfl⟩ : ∃ wx : World, wx = wc := ⟨_, rfl⟩
          have hx1 := Duo_ended hD
          have hpb := hD.x.ge
          obtain ⟨c, hc⟩ := hD.x.inp
          have hx2 := IEnd_good p p (a + T) P (bs.drop T).length c (bs.drop T) w4 hc
          have H1 := Lib.hid hx1; have H2 := Lib.hid hx2
          clear hx1 hx2
          go_wp2_with (first
            | (go_at_call 36; (with_reducible refine H1.out.mono ?_); rintro e w' ⟨rfl, rfl⟩))
          refine H2.out.mono ?_
          rintro e w5 ⟨rfl, hI5, hF5⟩
          have hD5y := hD.y.fr hF5 (fun h => hD.ne h.symm) (fun x hx h => hD.pQ (by rw [hx, h]))
          obtain ⟨c5, hc5⟩ := hD5y.inp
          have H3 := Lib.hid (IEnded_any p (a + T) true P (bs.drop T).length c w5 hI5.2.1)
          have H4 := Lib.hid (IEnded_any q (a + T) false Q (bs.drop T).length c5 w5 hc5.2.1)
          go_wp2_with (first
            | (go_at_call 28; refine (num03_any _ _).mono ?_; rintro e w' ⟨rfl, rfl⟩)
            | (go_at_call 36; (with_reducible refine H3.out.mono ?_); rintro e w' ⟨rfl, rfl⟩)
            | (go_at_call 36; (with_reducible refine H4.out.mono ?_); rintro e w' ⟨rfl, rfl⟩))
          go_ret
          exact ⟨rfl, hbr.trans (hF5.below hbr.size (fun x hx => by omega))⟩
end Go.Proofs.Ytfklhppfehkfaaa

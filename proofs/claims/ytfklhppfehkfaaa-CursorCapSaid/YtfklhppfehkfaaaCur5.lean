import Derived.Test.YtfklhppfehkfaaaCur4
import Derived.Test.YtfklhppfehkfaaaView
import Derived.Deep.RegionHeld3
import Derived.Deep.DeepCutAuto
namespace Go.Proofs.Ytfklhppfehkfaaa
open Go.RowKit

/-- one []byte of a list that came in -/
structure PartV where
  A : Option Addr
  n : Nat
  c : Nat
  zs : List Int
instance : Inhabited PartV := ⟨⟨none, 0, 0, []⟩⟩
def PartV.cells (o : PartV) : List Value := [.slice o.A o.n o.c]
def PartV.ok (w : World) (o : PartV) : Prop := IntsIn w .u8 o.A o.n o.c o.zs

def CapInv (wr : World) (p : Nat) (M : Int) (Ao : Option Addr) (co : Nat) (Aw : Option Addr) (cw : Nat) (xs : List Int) : Prop :=
  OutAt wr p p M Ao xs.length co xs ∧ OwnS wr p 5 Aw xs.length cw (xs.map (Value.int .u8)) ∧ blkOf Aw ≠ some p ∧ (∀ q, blkOf Aw = some q → blkOf Ao ≠ some q) ∧ (xs.length : Int) ≤ M ∧ (∀ z ∈ xs, U8 z) ∧ (∀ q, blkOf Ao = some q → p ≤ q ∧ q < wr.heap.size) ∧ ∀ q, blkOf Aw = some q → p ≤ q ∧ q < wr.heap.size
theorem CapInv.start {w : World} {p : Nat} {M : Int} (h : OutAt w p p M none 0 0 []) (hM : 0 ≤ M) : CapInv w p M none 0 none 0 [] := by
  refine ⟨h, OwnS.nil _ _ _ _, ?_, ?_, hM, ?_, ?_, ?_⟩
  · intro h; cases h
  · intro q h; cases h
  · intro z h; cases h
  · intro q h; cases h
  · intro q h; cases h
theorem CapInv.below {w w' : World} {p : Nat} {M : Int} {Ao Aw : Option Addr} {co cw : Nat} {xs : List Int} (h : CapInv w p M Ao co Aw cw xs) (hb : Below w.heap.size w w') : CapInv w' p M Ao co Aw cw xs :=
  ⟨h.1.below hb, h.2.1.below hb, h.2.2.1, h.2.2.2.1, h.2.2.2.2.1, h.2.2.2.2.2.1, fun q hq => ⟨(h.2.2.2.2.2.2.1 q hq).1, Nat.lt_of_lt_of_le (h.2.2.2.2.2.2.1 q hq).2 hb.size⟩, fun q hq => ⟨(h.2.2.2.2.2.2.2 q hq).1, Nat.lt_of_lt_of_le (h.2.2.2.2.2.2.2 q hq).2 hb.size⟩⟩

/-- one cell of a slice of the call's own is written over -/
theorem OwnS.set_ {w : World} {base : Nat} {e : TypeId} {A : Option Addr} {n c : Nat} {xs : List Value} (h : OwnS w base e A n c xs) (k : Nat) (hk : k < n) (u : Value) :
    ∃ g off, A = some ⟨g, off, none⟩ ∧ w.frozen? ⟨g, off + k, none⟩ = false ∧ (∃ v, w.cell? ⟨g, off + k, none⟩ = some v) ∧ OwnS (w.setCell ⟨g, off + k, none⟩ u) base e A n c (xs.set k u) := by
  obtain ⟨h1, h2, h3, h0 | ⟨g, off, cs, rfl, hb, hc, h4, h5⟩⟩ := h
  · omega
  · refine ⟨g, off, rfl, hc.frozen _, ⟨_, by rw [hc.cell]; exact List.getElem?_eq_getElem (by omega)⟩, by simpa using h1, h2, h3, .inr ⟨g, off, _, rfl, hb, hc.set_ (off + k) u, by simpa using h4, ?_⟩⟩
    rw [← h5]
    apply List.ext_getElem?
    intro i
    simp only [List.getElem?_take, List.getElem?_drop, List.getElem?_set, List.length_take, List.length_drop, List.length_set]
    by_cases hi : i < n
    · by_cases hik : k = i
      · subst hik
        have e1 : off + k < cs.length := by omega
        have e2 : k < cs.length - off := by omega
        simp [hi, e1, e2, Nat.lt_min]
      · have : ¬ off + k = off + i := by omega
        simp [hi, hik, this]
    · simp [hi]
      omega

def PutEnd (w w' : World) (p : Nat) (M : Int) (Ao : Option Addr) (xs zs : List Int) (E : Int) : Prop :=
  ((xs.length : Int) + zs.length ≤ M ∧ E = 0 ∧ ∃ A' c', OutAt w' p p M A' (xs.length + zs.length) c' (xs ++ zs) ∧ (blkOf A' = blkOf Ao ∨ ∃ q, blkOf A' = some q ∧ w.heap.size ≤ q ∧ q < w'.heap.size) ∧ Fr w w' (fun k => k = p ∨ blkOf Ao = some k)) ∨
    (M < (xs.length : Int) + zs.length ∧ E = 4 ∧ Below w.heap.size w w')
theorem OPut_either (p : Nat) (M : Int) (Ao Az : Option Addr) (co cz : Nat) (xs zs : List Int) (B : Nat) (w : World) (ho : OutAt w p p M Ao xs.length co xs) (hm0 : 0 ≤ M) (hm1 : M ≤ 5000) (hr : Row w B Az (zs.map (Value.int .u8))) (hx : (xs.length : Int) ≤ M) (hz : zs.length ≤ 1000) (hbase : p ≤ w.heap.size) :
    Calls Try.prog 39 #[.pointer (some ⟨p, 0, none⟩), .slice Az zs.length cz] w fun e w' => ∃ E, e = .returned (.int .i64 E) ∧ PutEnd w w' p M Ao xs zs E := by
  by_cases h : (xs.length : Int) + zs.length ≤ M
  · refine (OPut_fit p p M Ao Az xs.length co zs.length cz xs zs B w ho hm0 (by omega) hr rfl (by omega) (by omega) hbase).mono ?_
    rintro e w' ⟨A', c', rfl, h1, h2, h3⟩
    exact ⟨0, rfl, .inl ⟨h, rfl, A', c', h1, h2, h3⟩⟩
  · refine (OPut_long p M Ao Az xs.length co zs.length cz w ho.2.1 hm0 (by omega) (by omega) (by omega)).mono ?_
    rintro e w' ⟨rfl, h1⟩
    exact ⟨4, rfl, .inr ⟨by omega, rfl, h1⟩⟩
/-- the same, from a state of the loop -/
theorem CapInv.put {wc w5 w6 : World} {p : Nat} {M : Int} {Ao Aw A5 A6 : Option Addr} {co cw c5 c6 : Nat} {xs zs : List Int} (hI : CapInv wc p M Ao co Aw cw xs) (hz8 : ∀ z ∈ zs, U8 z) (hfit : (xs.length : Int) + zs.length ≤ M) (hO5 : OutAt w5 p p M A5 (xs.length + zs.length) c5 (xs ++ zs))
    (hA5 : blkOf A5 = blkOf Ao ∨ ∃ q, blkOf A5 = some q ∧ wc.heap.size ≤ q ∧ q < w5.heap.size) (hF5 : Fr wc w5 (fun k => k = p ∨ blkOf Ao = some k)) (hown6 : OwnS w6 p 5 A6 (xs.length + zs.length) c6 (xs.map (Value.int .u8) ++ zs.map (Value.int .u8))) (hg6 : w5.grownBy w6 (blkOf Aw)) (hat6 : blkOf A6 = blkOf Aw ∨ blkOf A6 = some w5.heap.size ∧ w5.heap.size < w6.heap.size) : CapInv w6 p M A5 c5 A6 c6 (xs ++ zs) := by
  obtain ⟨hO, hW, hwp, hwo, hnM, hx8, hqo, hqw⟩ := hI
  have hpo : p < wc.heap.size := hO.2.1.lt
  have hsz5 := hF5.size
  have hs6 := hg6.size
  have hA5q : ∀ q, blkOf Aw = some q → blkOf A5 ≠ some q := fun q hq h => by
    rcases hA5 with e | ⟨q', e, hq'⟩
    · rw [e] at h; exact hwo q hq h
    · rw [e] at h; injection h with h; have := (hqw q hq).2; omega
  have hF6 : Fr w5 w6 (fun k => blkOf Aw = some k) := Fr.of_grown hg6 (fun q hq => hq)
  have hO6 := hO5.fr hF6 hwp (fun q hq h => hA5q q h hq)
  refine ⟨by simpa using hO6, by simpa using hown6, ?_, ?_, by simp; omega, ?_, ?_, ?_⟩
  · rcases hat6 with e | ⟨e, elt⟩
    · rw [e]; exact hwp
    · rw [e]; intro h; injection h with h; have := hO5.2.1.lt; omega
  · intro q hq h
    rcases hat6 with e | ⟨e, elt⟩
    · rw [e] at hq; exact hA5q q hq h
    · rw [e] at hq; injection hq with hq
      rcases hA5 with e' | ⟨q', e', hq'⟩
      · rw [e'] at h; have := (hqo q h).2; omega
      · rw [e'] at h; injection h with h; have := hq'.2; omega
  · intro z hz'
    rcases List.mem_append.1 hz' with h | h
    · exact hx8 z h
    · exact hz8 z h
  · intro q hq
    rcases hA5 with e' | ⟨q', e', hq'⟩
    · rw [e'] at hq; have := hqo q hq; exact ⟨this.1, by omega⟩
    · rw [e'] at hq; injection hq with hq; exact ⟨by omega, by omega⟩
  · intro q hq
    rcases hat6 with e | ⟨e, elt⟩
    · rw [e] at hq; have := hqw q hq; exact ⟨this.1, by omega⟩
    · rw [e] at hq; injection hq with hq; exact ⟨by omega, by omega⟩

theorem wpAnyH_stronger {P : Program} {md : Region.Mode} {ops : Array Oper} {Q : Exit → Act → World → Prop} {S S' : World → Prop} (hS : ∀ w, S' w → S w) :
    ∀ (fuel : Nat) (listed : Array Bool) (a : Act) (w : World), wpAnyH P md ops Q S' fuel listed a w → wpAnyH P md ops Q S fuel listed a w
  | 0, _, _, _, h => h
  | fuel + 1, _, _, _, h => ⟨h.1, fun i hi => wpOp_mono (fun a' w' h' => ⟨hS w' h'.1, wpAnyH_stronger hS fuel _ a' w' h'.2⟩) (h.2 i hi)⟩
/-- one byte patched -/
theorem OPatch_one (base p : Nat) (M : Int) (A : Option Addr) (n c : Nat) (xs : List Int) (w : World) (q : Nat) (b : Int) (h : OutAt w base p M A n c xs) (hq : q < n) (hb : 0 ≤ b ∧ b < 256) :
    Calls Try.prog 42 #[.pointer (some ⟨p, 0, none⟩), .int .i64 q, .int .i64 1, .int .u64 b] w fun e w' => e = .returned (.int .i64 0) ∧ OutAt w' base p M A n c (xs.set q b) ∧ Fr w w' (fun k => blkOf A = some k) := by
  have hle : leBytes b 1 = [b] := by
    simp only [leBytes, List.range_succ, List.range_zero, List.nil_append, List.map_cons, List.map_nil, leB]
    congr 1
    omega
  have hf : fitsB b ((1 : Nat) : Int) = true := by
    simp only [fitsB]
    rw [decide_eq_true (by decide : (1 : Int) ≤ ((1 : Nat) : Int)), decide_eq_true (by decide : ((1 : Nat) : Int) ≤ (8 : Int)), decide_eq_true (show b < 256 ^ ((1 : Nat) : Int).toNat from hb.2)]
    rfl
  have hU : U64 b := ⟨hb.1, by omega⟩
  have H := OPatch_good base p M A n c xs w q 1 b h (Nat.le_refl _) (by decide) (by omega) hU hf
  rw [hle] at H
  exact H
/-- a number too great for one byte -/
theorem OPatch_great (base p : Nat) (M : Int) (A : Option Addr) (n c : Nat) (xs : List Int) (w : World) (q : Nat) (b : Int) (h : OutAt w base p M A n c xs) (hq : q < n) (hb : 256 ≤ b ∧ b < 512) :
    Calls Try.prog 42 #[.pointer (some ⟨p, 0, none⟩), .int .i64 q, .int .i64 1, .int .u64 b] w fun e w' => e = .returned (.int .i64 10) ∧ w = w' := by
  have hf : fitsB b ((1 : Nat) : Int) = false := by
    simp only [fitsB]
    rw [decide_eq_false (show ¬ b < 256 ^ ((1 : Nat) : Int).toNat from fun h => by have : b < 256 := h; omega), Bool.and_false]
  have hU : U64 b := ⟨by omega, by omega⟩
  exact OPatch_unfit base p M A n c xs w q 1 b h (Nat.le_refl _) (by decide) (by omega) hU hf

set_option maxHeartbeats 6000000 in
set_option maxRecDepth 100000 in
theorem CursorCap_any (most0 : Int) (A : Option Addr) (n c : Nat) (L : List PartV) (at0 x : Int) (w : World) (hm : I64 most0) (hr : Row w w.heap.size A (L.flatMap PartV.cells)) (hn : n = L.length) (hnc : n ≤ c) (hcm : c ≤ maxLen) (hok : ∀ o ∈ L, o.ok w) (hat : I64 at0) (hxU : U64 x) :
    Calls Try.prog 8 #[.int .i64 most0, .slice A n c, .int .i64 at0, .int .u64 x] w fun e w' => e = .returned (.bool true) ∧ Below w.heap.size w w' := by
  subst hn
  unfold maxLen at hcm
  obtain ⟨hmb0, hmb1⟩ := tmod_bd most0 5000 (by decide)
  obtain ⟨hm0, hm1⟩ := hm
  go_enter Try.func8, Try.ntmps8
  go_upto_if 20 with ((refine (awake03_any _).mono ?_; rintro e w1 ⟨rfl, hb1⟩))
  go_cut [0] (fun s0 wx => ∃ M : Nat, M ≤ 4999 ∧ s0 = .int .i64 M ∧ Below w.heap.size w wx)
  case first =>
    go_wp2_with fail
    · go_meet
      exact ⟨(-(most0.tmod 5000)).toNat, by omega, by congr 1; omega, hb1⟩
    · go_meet
      exact ⟨(most0.tmod 5000).toNat, by omega, by congr 1; omega, hb1⟩
  case rest =>
  obtain ⟨M, hM, rfl, hb2⟩ := hcut
  obtain ⟨w2, rfl⟩ : ∃ w2, w2 = wc := ⟨_, rfl⟩
  go_wp2_with fail
  refine (To_good M w2 (by omega) (by omega)).mono ?_; rintro e w' ⟨rfl, hw3⟩
  have hO3 := To_at M w2
  rw [hw3] at hO3
  have hB3 : Below w2.heap.size w2 w' := by rw [← hw3]; exact (Below.refl _ _).alloc (Nat.le_refl _) _
  clear hw3
  obtain ⟨w3, rfl⟩ : ∃ w3, w3 = w' := ⟨_, rfl⟩
  go_wp2_with (first | (go_at_call 28; refine (num03_any _ _).mono ?_; rintro e w' ⟨rfl, rfl⟩))
  have hB4 : Below w.heap.size w w3 := hb2.trans (hB3.mono hb2.size)
  have hp0 : w.heap.size ≤ w2.heap.size := hb2.size
  have hp1 : w2.heap.size < w3.heap.size := hO3.2.1.lt
  generalize w2.heap.size = p at *
  go_loopw [11, 12, 13, 14] (fun v i _ _ wr => ∃ (k : Nat) (xs : List Int) (Ao Aw : Option Addr) (co cw : Nat), i = .int .i64 k ∧ k ≤ L.length ∧ v = .slice Aw xs.length cw ∧ CapInv wr p M Ao co Aw cw xs ∧ Below w.heap.size w wr) (fun _ i _ _ _ => L.length - (intOf i).toNat)
  case atStart => exact ⟨0, [], none, none, 0, 0, rfl, Nat.zero_le _, rfl, CapInv.start hO3 (by omega), hB4⟩
  case round =>
    obtain ⟨k, xs, Ao, Aw, co, cw, rfl, hk, rfl, hI, hbr⟩ := hrel
    by_cases hgo : k < L.length ∧ k < 60
    · obtain ⟨hlt, h60⟩ := hgo
      obtain ⟨b, off, rfl, hb, hc⟩ := (hr.below hbr).flat (k := 1) (fun _ => rfl) (by decide) (by omega)
      have ho : L[k]? = some L[k] := List.getElem?_eq_getElem hlt
      have f0 := hc k _ 0 _ ho rfl
      rw [Nat.add_zero, Nat.mul_one] at f0
      have hok' := hok _ (List.getElem_mem hlt)
      generalize L[k] = o at *
      obtain ⟨ho1, ho2, ho3, ho4, ho5⟩ := hok'
      have HO1 := Lib.hid ho1
      clear ho1
      have ho4' := ho4.below hbr
      clear hc ho
      go_upto_if 51 with (fail)
      obtain ⟨wo, rfl⟩ : ∃ wo : World, wo = wr := ⟨_, rfl⟩
      go_cut [13] (fun s13 wx => wx = wo ∧ ∃ zs : List Int, s13 = .slice o.A zs.length o.c ∧ zs.length ≤ 1000 ∧ zs.length ≤ o.c ∧ Row wo w.heap.size o.A (zs.map (Value.int .u8)) ∧ (∀ z ∈ zs, U8 z))
      case first =>
        by_cases hbig : 1000 < o.n
        · have hc0 : (1000 : Int) ≤ o.c := by omega
          have hlen : (o.zs.take 1000).length = 1000 := by rw [List.length_take]; have := HO1.out; omega
          have HL := Lib.hid hlen
          clear hlen
          go_wp2_with fail
          go_meet
          exact ⟨rfl, o.zs.take 1000, by rw [HL.out], by rw [HL.out]; exact Nat.le_refl _, by rw [HL.out]; omega, ho4'.take 1000, fun z hz' => U8.of_wf (ho5 z (List.mem_of_mem_take hz'))⟩
        · go_wp2_with fail
          go_meet
          exact ⟨rfl, o.zs, by rw [← HO1.out], by have := HO1.out; omega, by have := HO1.out; omega, ho4', fun z hz' => U8.of_wf (ho5 z hz')⟩
      case rest =>
      obtain ⟨rfl, zs, rfl, hz1000, hzc, hrz, hz8⟩ := hcut
      obtain ⟨hO, hW, hwp, hwo, hnM, hx8, hqo, hqw⟩ := hI
      have hI : CapInv wc p M Ao co Aw cw xs := ⟨hO, hW, hwp, hwo, hnM, hx8, hqo, hqw⟩
      have hwo1 : w.heap.size ≤ wc.heap.size := hbr.size
      have hpo : p < wc.heap.size := hO.2.1.lt
      obtain ⟨i0, hi, hz0', hz1, hz2⟩ := info_parts u8_info'
      go_wp2_with fail
      refine (OPut_either p M Ao o.A co o.c xs zs w.heap.size _ hO (by omega) (by omega) hrz (by omega) (by omega) (by omega)).mono ?_
      rintro e w5 ⟨E, rfl, hE⟩
      go_upto_if 63 with (fail)
      go_cut [11] (fun s11 wx => ∃ (ys : List Int) (Ao Aw : Option Addr) (co cw : Nat), s11 = .slice Aw ys.length cw ∧ CapInv wx p M Ao co Aw cw ys ∧ Below w.heap.size w wx)
      case first =>
        rcases hE with ⟨hfit, rfl, A5, c5, hO5, hA5, hF5⟩ | ⟨hlong, rfl, hb5⟩
        · have hW5 := hF5.own hW (fun q hq h => by rcases h with h | h; (rw [h] at hq; exact hwp hq); exact hwo q hq h)
          have hr5 := hF5.row hrz hwo1 (fun q hq h => by rcases h with h | h; omega; have := hqo q h; omega)
          have hone := one_ints' zs .u8
          have hsz5 := hF5.size
          go_wp2_with (first | (go_at_call 28; refine (num03_any _ _).mono ?_; rintro e w' ⟨rfl, rfl⟩) | (at_builtin; refine wpList_append_ownS _ rfl _ _ 25 rfl p 5 i0 (.int .u8 0) 1 Try.underlying25 hi hz0' hz1 hz2 rfl Aw xs.length cw _ rfl hW5 w.heap.size o.A zs.length o.c (zs.map (Value.int .u8)) rfl hr5 (by simp) hone (by unfold maxLen; omega) (by omega) (by omega) ?_; intro A6 c6 w6 hown6 hg6 hat6))
          have hI6 := hI.put hz8 hfit hO5 hA5 hF5 hown6 hg6 hat6
          go_meet
          refine ⟨xs ++ zs, A5, A6, c5, c6, by simp, hI6, ?_⟩
          refine (hbr.trans (hF5.below hwo1 (fun q hq => ?_))).trans ?_
          · rcases hq with h | h
            · omega
            · have := hqo q h; omega
          · exact (Below.refl _ _).grown hg6 (by omega) (fun q hq => by have := hqw q hq; omega)
        · go_wp2_with (first | (go_at_call 28; refine (num03_any _ _).mono ?_; rintro e w' ⟨rfl, rfl⟩))
          go_meet
          exact ⟨xs, Ao, Aw, co, cw, rfl, hI.below hb5, hbr.trans (hb5.mono hwo1)⟩
      case rest =>
      clear hE hO hW hwp hwo hnM hx8 hqo hqw hI hrz hz8 hzc hz1000
      obtain ⟨ys, Ao, Aw, co, cw, rfl, hI, hbr6⟩ := hcut
      obtain ⟨w6, rfl⟩ : ∃ w6 : World, w6 = wc := ⟨_, rfl⟩
      have hyr := hI.2.1.row
      have hcv : ∀ wx, Below w6.heap.size w6 wx → (convert 25 9 (.slice Aw ys.length cw)).run Try.prog wx = .ok (.string (strOfNums ys)) wx := fun wx hx => Row.str (hyr.below hx) _ _ rfl
      have hL : ∀ wx, Below w6.heap.size w6 wx → Calls Try.prog 40 #[.pointer (some ⟨p, 0, none⟩)] wx fun e w' => e = .returned (.int .i64 ys.length) ∧ wx = w' := fun wx hx => OLen_any p M Ao ys.length co wx (hI.1.below hx).2.1
      have hB : ∀ wx, Below w6.heap.size w6 wx → Calls Try.prog 41 #[.pointer (some ⟨p, 0, none⟩)] wx fun e w' => ∃ v', e = .returned v' ∧ w'.ownsRow wx.heap.size 5 1 v' ys.length (ys.map (Value.int .u8)) ∧ Below wx.heap.size wx w' := fun wx hx =>
        OBytes_any p M Ao ys.length co ys _ wx (hI.1.below hx).2.1 (hI.1.below hx).2.2.1.row rfl (by have := hI.2.2.2.2.1; omega)
      have hcv0 := hcv w6.drew (Below.refl _ _).drew
      have HCV := Lib.hid hcv; have HL := Lib.hid hL; have HB := Lib.hid hB
      clear hcv hL hB
      go_wp2_with fail
      go_region_law (first
        | (go_simp; go_at_call 40; refine (HL.out _ ((Below.refl _ _).drew)).mono ?_; rintro e w' ⟨rfl, rfl⟩; go_simp)
        | (go_simp; go_at_call 41; refine (HB.out _ ((Below.refl _ _).drew)).mono ?_; rintro e w7 ⟨v7, rfl, hown7, hb7⟩; obtain ⟨A7, c7, rfl, _, _, _, hr7⟩ := Row.of_own hown7; have hcv7 := Row.str hr7 ys.length c7 rfl; have hcvE := HCV.out w7 ((Below.refl _ _).drew.trans hb7); go_simp))
      all_goals
        go_wp2_with fail
        go_roundw
        case rel => exact ⟨k + 1, ys, Ao, Aw, co, cw, by go_num, by omega, rfl, hI.below ((Below.refl _ _).drew.trans hb7), hbr6.trans (((Below.refl _ _).drew.trans hb7).mono hbr6.size)⟩
        case measure => simp [intOf]; omega
    · have hx : (decide (k < L.length) = false) ∨ (decide (k < L.length) = true ∧ decide (k < 60) = false) := by
        by_cases h : k < L.length
        · exact .inr ⟨decide_eq_true h, decide_eq_false (fun h' => hgo ⟨h, h'⟩)⟩
        · exact .inl (decide_eq_false h)
      clear hgo
      obtain ⟨wo, rfl⟩ : ∃ wo : World, wo = wr := ⟨_, rfl⟩
      go_upto_region 11 with (fail)
      go_cut [42] (fun s42 wx => wx = wo ∧ s42 = .bool false)
      case first =>
        rcases hx with hx | ⟨hx, hx'⟩
        · go_wp2_with fail
          go_meet
          exact ⟨rfl, rfl⟩
        · go_wp2_with fail
          go_meet
          have hk60 := of_decide_eq_false hx'
          exact ⟨rfl, by congr 1; exact decide_eq_false (by omega)⟩
      case rest =>
      obtain ⟨rfl, rfl⟩ := hcut
      obtain ⟨wr, rfl⟩ : ∃ wr : World, wr = wc := ⟨_, rfl⟩
      obtain ⟨hO, hW, hwp, hwo, hnM, hx8, hqo, hqw⟩ := hI
      have hwr : w.heap.size ≤ wr.heap.size := hbr.size
      by_cases h0 : xs.length = 0
      · have e3 : winErr (xs.length : Int) 0 1 = 3 := winErr_3 (by decide) (by decide) (by omega)
        have HP := Lib.hid (OPatch_bad p M Ao xs.length co wr 0 1 5 hO.2.1 (by omega) ⟨by decide, by decide⟩ ⟨by decide, by decide⟩ (by rw [e3]; decide))
        rw [e3] at HP
        have h0' : ((xs.length : Int) == 0) = true := by rw [beq_iff_eq]; omega
        clear e3 h0
        go_wp2_with (first | (go_at_call 28; refine (num03_any _ _).mono ?_; rintro e w' ⟨rfl, rfl⟩) | (go_at_call 42; refine HP.out.mono ?_; rintro e w' ⟨rfl, rfl⟩))
        go_ret
        exact ⟨rfl, hbr⟩
      · have hmd := tmod_bd at0 xs.length (by omega)
        have h0' : ((xs.length : Int) == 0) = false := by rw [beq_eq_false_iff_ne]; omega
        go_upto_if 98 with (fail)
        go_cut [2] (fun s2 wx => wx = wr ∧ ∃ q : Nat, q < xs.length ∧ s2 = .int .i64 q)
        case first =>
          go_wp2_with fail
          · go_meet
            exact ⟨rfl, (-(at0.tmod xs.length)).toNat, by omega, by congr 1; omega⟩
          · go_meet
            exact ⟨rfl, (at0.tmod xs.length).toNat, by omega, by congr 1; omega⟩
        case rest =>
        obtain ⟨rfl, q, hq, rfl⟩ := hcut
        obtain ⟨hx0, hx1⟩ := hxU
        have hb0 : 0 ≤ x % 256 ∧ x % 256 < 256 := ⟨Int.emod_nonneg _ (by decide), Int.emod_lt_of_pos _ (by decide)⟩
        go_wp2_with fail
        refine (OPatch_one p p M Ao xs.length co xs _ q (x % 256) hO hq hb0).mono ?_
        rintro e w5 ⟨rfl, hO5, hF5⟩
        have hW5 := hF5.own hW (fun k hk h => hwo k hk h)
        obtain ⟨g, off, rfl, hfz, ⟨v0, hc0⟩, hset⟩ := hW5.set_ q hq (.int .u8 (x % 256))
        go_wp2_with (first | (go_at_call 28; refine (num03_any _ _).mono ?_; rintro e w' ⟨rfl, rfl⟩))
        have hwog : blkOf Ao ≠ some g := hwo g rfl
        have hO6 := hO5.fr ((Fr.refl w5 (fun k => k = g)).setCell (p := ⟨g, off + q, none⟩) rfl (.int .u8 (x % 256))) (by rintro rfl; exact hwp rfl) (fun k hk h => hwog (by rw [hk, h]))
        have hbel : Below w.heap.size w (w5.setCell ⟨g, off + q, none⟩ (.int .u8 (x % 256))) := (hbr.trans (hF5.below hwr (fun k hk => by have := hqo k hk; omega))).setCell (show w.heap.size ≤ g by have := (hqw g rfl).1; omega) _
        rw [show (xs.map (Value.int .u8)).set q (.int .u8 (x % 256)) = (xs.set q (x % 256)).map (Value.int .u8) from List.map_set.symm] at hset
        have hlen : (xs.set q (x % 256)).length = xs.length := List.length_set
        clear hfz hc0 hO hW hF5 hO5 hW5 hx8
        generalize w5.setCell ⟨g, off + q, none⟩ (.int .u8 (x % 256)) = w6 at *
        generalize xs.set q (x % 256) = ys at *
        have hcv : ∀ wx, Below w6.heap.size w6 wx → (convert 25 9 (.slice (some ⟨g, off, none⟩) xs.length cw)).run Try.prog wx = .ok (.string (strOfNums ys)) wx := fun wx hx => Row.str (hset.row.below hx) _ _ hlen.symm
        have hB : ∀ wx, Below w6.heap.size w6 wx → Calls Try.prog 41 #[.pointer (some ⟨p, 0, none⟩)] wx fun e w' => ∃ v', e = .returned v' ∧ w'.ownsRow wx.heap.size 5 1 v' xs.length (ys.map (Value.int .u8)) ∧ Below wx.heap.size wx w' := fun wx hx =>
          OBytes_any p M Ao xs.length co ys _ wx (hO6.below hx).2.1 (hO6.below hx).2.2.1.row hlen.symm (by omega)
        have hP1 : ∀ wx, Below w6.heap.size w6 wx → Calls Try.prog 42 #[.pointer (some ⟨p, 0, none⟩), .int .i64 q, .int .i64 1, .int .u64 (256 + x % 256)] wx fun e w' => e = .returned (.int .i64 10) ∧ wx = w' := fun wx hx =>
          OPatch_great p p M Ao xs.length co ys wx q _ (hO6.below hx) hq (by omega)
        have hP2 : ∀ wx, Below w6.heap.size w6 wx → Calls Try.prog 42 #[.pointer (some ⟨p, 0, none⟩), .int .i64 xs.length, .int .i64 1, .int .u64 0] wx fun e w' => e = .returned (.int .i64 3) ∧ wx = w' := fun wx hx => by
          have e3 : winErr (xs.length : Int) xs.length 1 = 3 := winErr_3 (by decide) (by decide) (by omega)
          have H := OPatch_bad p M Ao xs.length co wx xs.length 1 0 (hO6.below hx).2.1 (by unfold maxLen; omega) ⟨by omega, by omega⟩ ⟨by decide, by decide⟩ (by rw [e3]; decide)
          rw [e3] at H
          exact H
        have hs1 : x.tmod 256 = x % 256 := Int.tmod_eq_emod_of_nonneg hx0
        have hs2 : IntKind.u64.wrap (256 + x % 256) = 256 + x % 256 := by rw [IntWalk.u64_in] <;> omega
        have HCV := Lib.hid hcv; have HB := Lib.hid hB; have HP1 := Lib.hid hP1; have HP2 := Lib.hid hP2; have HLEN := Lib.hid hlen
        clear hcv hB hP1 hP2 hset hlen
        refine wp_region_held_drew (S := fun wx : World => (convert 25 9 (.slice (some ⟨g, off, none⟩) xs.length cw)).run Try.prog wx = .ok (.string (strOfNums ys)) wx) (by kernel_rfl) (HCV.out _ (Below.refl _ _).drew) (fun hHeld => ?_)
        refine wpAnyH_take (i := 0) (v := ?_) rfl (by kernel_rfl) (by kernel_rfl) (by kernel_rfl) (fun _ _ _ h => h) (Or.inl ⟨by rfl, ?_⟩) (by assumption) ?_
        rotate_left
        · (intro w hSw; (try dsimp only at hSw); (try simp only [List.getElem_toArray, List.getElem_cons_zero, List.getElem_cons_succ]); go_simp; (try with_reducible rfl))
        try simp only [List.getElem_toArray, List.getElem_cons_zero, List.getElem_cons_succ, Act.put, List.setIfInBounds_toArray, List.set_cons_zero, List.set_cons_succ]
        refine wpAnyH_take (i := 3) (v := ?_) rfl (by kernel_rfl) (by kernel_rfl) (by kernel_rfl) (fun _ _ _ h => h) (Or.inl ⟨by rfl, ?_⟩) (by assumption) ?_
        rotate_left
        · (intro w hSw; (try dsimp only at hSw); (try simp only [List.getElem_toArray, List.getElem_cons_zero, List.getElem_cons_succ]); go_simp; (try with_reducible rfl))
        try simp only [List.getElem_toArray, List.getElem_cons_zero, List.getElem_cons_succ, Act.put, List.setIfInBounds_toArray, List.set_cons_zero, List.set_cons_succ]
        refine wpAnyH_take (i := 4) (v := ?_) rfl (by kernel_rfl) (by kernel_rfl) (by kernel_rfl) (fun _ _ _ h => h) (Or.inl ⟨by rfl, ?_⟩) (by assumption) ?_
        rotate_left
        · (intro w hSw; (try dsimp only at hSw); (try simp only [List.getElem_toArray, List.getElem_cons_zero, List.getElem_cons_succ]); go_simp; (try with_reducible rfl))
        try simp only [List.getElem_toArray, List.getElem_cons_zero, List.getElem_cons_succ, Act.put, List.setIfInBounds_toArray, List.set_cons_zero, List.set_cons_succ]
        refine wpAnyH_ready (rs := [1]) (by kernel_rfl) (by simp) ?_
        refine AllReadyH.cons rfl (fun K hK => ?_) AllReadyH.nil
        try simp only [List.getElem_toArray, List.getElem_cons_zero, List.getElem_cons_succ]
        go_simp
        refine (HB.out _ (Below.refl _ _).drew).mono ?_
        rintro e w7 ⟨v7, rfl, hown7, hb7⟩
        obtain ⟨A7, c7, rfl, _, _, _, hr7⟩ := Row.of_own hown7
        have hcv7 := Row.str hr7 xs.length c7 HLEN.out.symm
        go_wp2_with fail
        refine hK.out _ _ (HCV.out _ ((Below.refl _ _).drew.trans hb7)) (fun hHeld => ?_)
        clear hK K
        try simp only [List.getElem_toArray, List.getElem_cons_zero, List.getElem_cons_succ, Act.put, List.setIfInBounds_toArray, List.set_cons_zero, List.set_cons_succ]
        refine wpAnyH_stronger (S' := fun wx : World => (convert 25 9 (.slice (some ⟨g, off, none⟩) xs.length cw)).run Try.prog wx = .ok (.string (strOfNums ys)) wx ∧ (convert 25 9 (.slice A7 xs.length c7)).run Try.prog wx = .ok (.string (strOfNums ys)) wx) (fun _ h => h.1) _ _ _ _ ?_
        have hH7 := And.intro hHeld hcv7
        refine wpAnyH_take (i := 2) (v := ?_) rfl (by kernel_rfl) (by kernel_rfl) (by kernel_rfl) (fun _ _ _ h => h) (Or.inl ⟨by rfl, ?_⟩) (by assumption) ?_
        rotate_left
        · (intro w hSw; (try dsimp only at hSw); (try simp only [List.getElem_toArray, List.getElem_cons_zero, List.getElem_cons_succ]); go_simp; (try with_reducible rfl))
        try simp only [List.getElem_toArray, List.getElem_cons_zero, List.getElem_cons_succ, Act.put, List.setIfInBounds_toArray, List.set_cons_zero, List.set_cons_succ]
        refine wpAnyH_take (i := 5) (v := ?_) rfl (by kernel_rfl) (by kernel_rfl) (by kernel_rfl) (fun _ _ _ h => h) (Or.inl ⟨by rfl, ?_⟩) (by assumption) ?_
        rotate_left
        · (intro w hSw; (try dsimp only at hSw); (try simp only [List.getElem_toArray, List.getElem_cons_zero, List.getElem_cons_succ]); go_simp; (try with_reducible rfl))
        try simp only [List.getElem_toArray, List.getElem_cons_zero, List.getElem_cons_succ, Act.put, List.setIfInBounds_toArray, List.set_cons_zero, List.set_cons_succ]
        refine wpAnyH_take (i := 6) (v := ?_) rfl (by kernel_rfl) (by kernel_rfl) (by kernel_rfl) (fun _ _ _ h => h) (Or.inl ⟨by rfl, ?_⟩) (by assumption) ?_
        rotate_left
        · (intro w hSw; (try dsimp only at hSw); (try simp only [List.getElem_toArray, List.getElem_cons_zero, List.getElem_cons_succ]); go_simp; (try with_reducible rfl))
        try simp only [List.getElem_toArray, List.getElem_cons_zero, List.getElem_cons_succ, Act.put, List.setIfInBounds_toArray, List.set_cons_zero, List.set_cons_succ]
        refine wpAnyH_take (i := 7) (v := ?_) rfl (by kernel_rfl) (by kernel_rfl) (by kernel_rfl) (fun _ _ _ h => h) (Or.inl ⟨by rfl, ?_⟩) (by assumption) ?_
        rotate_left
        · (intro w hSw; (try dsimp only at hSw); (try simp only [List.getElem_toArray, List.getElem_cons_zero, List.getElem_cons_succ]); go_simp; (try with_reducible rfl))
        try simp only [List.getElem_toArray, List.getElem_cons_zero, List.getElem_cons_succ, Act.put, List.setIfInBounds_toArray, List.set_cons_zero, List.set_cons_succ]
        refine wpAnyH_take (i := 8) (v := ?_) rfl (by kernel_rfl) (by kernel_rfl) (by kernel_rfl) (fun _ _ _ h => h) (Or.inl ⟨by rfl, ?_⟩) (by assumption) ?_
        rotate_left
        · (intro w hSw; (try dsimp only at hSw); (try simp only [List.getElem_toArray, List.getElem_cons_zero, List.getElem_cons_succ]); go_simp; (try with_reducible rfl))
        try simp only [List.getElem_toArray, List.getElem_cons_zero, List.getElem_cons_succ, Act.put, List.setIfInBounds_toArray, List.set_cons_zero, List.set_cons_succ]
        refine wpAnyH_take (i := 9) (v := ?_) rfl (by kernel_rfl) (by kernel_rfl) (by kernel_rfl) (fun _ _ _ h => h) (Or.inl ⟨by rfl, ?_⟩) (by assumption) ?_
        rotate_left
        · (intro w hSw; (try dsimp only at hSw); (try simp only [List.getElem_toArray, List.getElem_cons_zero, List.getElem_cons_succ]); go_simp; (try with_reducible rfl))
        try simp only [List.getElem_toArray, List.getElem_cons_zero, List.getElem_cons_succ, Act.put, List.setIfInBounds_toArray, List.set_cons_zero, List.set_cons_succ]
        refine wpAnyH_take (i := 10) (v := ?_) rfl (by kernel_rfl) (by kernel_rfl) (by kernel_rfl) (fun _ _ _ h => h) (Or.inl ⟨by rfl, ?_⟩) (by assumption) ?_
        rotate_left
        · (intro w hSw; (try dsimp only at hSw); (try simp only [List.getElem_toArray, List.getElem_cons_zero, List.getElem_cons_succ]); go_simp; (try with_reducible rfl))
        try simp only [List.getElem_toArray, List.getElem_cons_zero, List.getElem_cons_succ, Act.put, List.setIfInBounds_toArray, List.set_cons_zero, List.set_cons_succ]
        refine wpAnyH_take (i := 11) (v := ?_) rfl (by kernel_rfl) (by kernel_rfl) (by kernel_rfl) (fun _ _ _ h => h) (Or.inl ⟨by rfl, ?_⟩) (by assumption) ?_
        rotate_left
        · (intro w hSw; (try dsimp only at hSw); (try simp only [List.getElem_toArray, List.getElem_cons_zero, List.getElem_cons_succ]); go_simp; (try with_reducible rfl))
        try simp only [List.getElem_toArray, List.getElem_cons_zero, List.getElem_cons_succ, Act.put, List.setIfInBounds_toArray, List.set_cons_zero, List.set_cons_succ]
        refine wpAnyH_ready (rs := [12]) (by kernel_rfl) (by simp) ?_
        refine AllReadyH.cons rfl (fun K hK => ?_) AllReadyH.nil
        try simp only [List.getElem_toArray, List.getElem_cons_zero, List.getElem_cons_succ]
        go_simp
        refine (HP1.out _ ((Below.refl _ _).drew.trans hb7)).mono ?_
        rintro e w' ⟨rfl, rfl⟩
        go_wp2_with fail
        refine hK.out _ _ hH7 (fun hHeld => ?_)
        clear hK K
        try simp only [List.getElem_toArray, List.getElem_cons_zero, List.getElem_cons_succ, Act.put, List.setIfInBounds_toArray, List.set_cons_zero, List.set_cons_succ]
        refine wpAnyH_ready (rs := [13]) (by kernel_rfl) (by simp) ?_
        refine AllReadyH.cons rfl (fun K hK => ?_) AllReadyH.nil
        try simp only [List.getElem_toArray, List.getElem_cons_zero, List.getElem_cons_succ]
        go_simp
        refine (num03_any _ _).mono ?_
        rintro e w' ⟨rfl, rfl⟩
        go_wp2_with fail
        refine hK.out _ _ hH7 (fun hHeld => ?_)
        clear hK K
        try simp only [List.getElem_toArray, List.getElem_cons_zero, List.getElem_cons_succ, Act.put, List.setIfInBounds_toArray, List.set_cons_zero, List.set_cons_succ]
        refine wpAnyH_take (i := 14) (v := ?_) rfl (by kernel_rfl) (by kernel_rfl) (by kernel_rfl) (fun _ _ _ h => h) (Or.inl ⟨by rfl, ?_⟩) (by assumption) ?_
        rotate_left
        · (intro w hSw; (try dsimp only at hSw); (try simp only [List.getElem_toArray, List.getElem_cons_zero, List.getElem_cons_succ]); go_simp; (try with_reducible rfl))
        try simp only [List.getElem_toArray, List.getElem_cons_zero, List.getElem_cons_succ, Act.put, List.setIfInBounds_toArray, List.set_cons_zero, List.set_cons_succ]
        refine wpAnyH_take (i := 15) (v := ?_) rfl (by kernel_rfl) (by kernel_rfl) (by kernel_rfl) (fun _ _ _ h => h) (Or.inl ⟨by rfl, ?_⟩) (by assumption) ?_
        rotate_left
        · (intro w hSw; (try dsimp only at hSw); (try simp only [List.getElem_toArray, List.getElem_cons_zero, List.getElem_cons_succ]); go_simp; (try with_reducible rfl))
        try simp only [List.getElem_toArray, List.getElem_cons_zero, List.getElem_cons_succ, Act.put, List.setIfInBounds_toArray, List.set_cons_zero, List.set_cons_succ]
        refine wpAnyH_take (i := 16) (v := ?_) rfl (by kernel_rfl) (by kernel_rfl) (by kernel_rfl) (fun _ _ _ h => h) (Or.inl ⟨by rfl, ?_⟩) (by assumption) ?_
        rotate_left
        · (intro w hSw; (try dsimp only at hSw); (try simp only [List.getElem_toArray, List.getElem_cons_zero, List.getElem_cons_succ]); go_simp; (try with_reducible rfl))
        try simp only [List.getElem_toArray, List.getElem_cons_zero, List.getElem_cons_succ, Act.put, List.setIfInBounds_toArray, List.set_cons_zero, List.set_cons_succ]
        refine wpAnyH_take (i := 17) (v := ?_) rfl (by kernel_rfl) (by kernel_rfl) (by kernel_rfl) (fun _ _ _ h => h) (Or.inl ⟨by rfl, ?_⟩) (by assumption) ?_
        rotate_left
        · (intro w hSw; (try dsimp only at hSw); (try simp only [List.getElem_toArray, List.getElem_cons_zero, List.getElem_cons_succ]); go_simp; (try with_reducible rfl))
        try simp only [List.getElem_toArray, List.getElem_cons_zero, List.getElem_cons_succ, Act.put, List.setIfInBounds_toArray, List.set_cons_zero, List.set_cons_succ]
        refine wpAnyH_take (i := 18) (v := ?_) rfl (by kernel_rfl) (by kernel_rfl) (by kernel_rfl) (fun _ _ _ h => h) (Or.inl ⟨by rfl, ?_⟩) (by assumption) ?_
        rotate_left
        · (intro w hSw; (try dsimp only at hSw); (try simp only [List.getElem_toArray, List.getElem_cons_zero, List.getElem_cons_succ]); go_simp; (try with_reducible rfl))
        try simp only [List.getElem_toArray, List.getElem_cons_zero, List.getElem_cons_succ, Act.put, List.setIfInBounds_toArray, List.set_cons_zero, List.set_cons_succ]
        refine wpAnyH_take (i := 19) (v := ?_) rfl (by kernel_rfl) (by kernel_rfl) (by kernel_rfl) (fun _ _ _ h => h) (Or.inl ⟨by rfl, ?_⟩) (by assumption) ?_
        rotate_left
        · (intro w hSw; (try dsimp only at hSw); (try simp only [List.getElem_toArray, List.getElem_cons_zero, List.getElem_cons_succ]); go_simp; (try with_reducible rfl))
        try simp only [List.getElem_toArray, List.getElem_cons_zero, List.getElem_cons_succ, Act.put, List.setIfInBounds_toArray, List.set_cons_zero, List.set_cons_succ]
        refine wpAnyH_ready (rs := [20]) (by kernel_rfl) (by simp) ?_
        refine AllReadyH.cons rfl (fun K hK => ?_) AllReadyH.nil
        try simp only [List.getElem_toArray, List.getElem_cons_zero, List.getElem_cons_succ]
        go_simp
        refine (HP2.out _ ((Below.refl _ _).drew.trans hb7)).mono ?_
        rintro e w' ⟨rfl, rfl⟩
        go_wp2_with fail
        refine hK.out _ _ hH7 (fun hHeld => ?_)
        clear hK K
        try simp only [List.getElem_toArray, List.getElem_cons_zero, List.getElem_cons_succ, Act.put, List.setIfInBounds_toArray, List.set_cons_zero, List.set_cons_succ]
        refine wpAnyH_ready (rs := [21]) (by kernel_rfl) (by simp) ?_
        refine AllReadyH.cons rfl (fun K hK => ?_) AllReadyH.nil
        try simp only [List.getElem_toArray, List.getElem_cons_zero, List.getElem_cons_succ]
        go_simp
        refine (num03_any _ _).mono ?_
        rintro e w' ⟨rfl, rfl⟩
        go_wp2_with fail
        refine hK.out _ _ hH7 (fun hHeld => ?_)
        clear hK K
        try simp only [List.getElem_toArray, List.getElem_cons_zero, List.getElem_cons_succ, Act.put, List.setIfInBounds_toArray, List.set_cons_zero, List.set_cons_succ]
        refine wpAnyH_take (i := 22) (v := ?_) rfl (by kernel_rfl) (by kernel_rfl) (by kernel_rfl) (fun _ _ _ h => h) (Or.inl ⟨by rfl, ?_⟩) (by assumption) ?_
        rotate_left
        · (intro w hSw; (try dsimp only at hSw); (try simp only [List.getElem_toArray, List.getElem_cons_zero, List.getElem_cons_succ]); go_simp; (try with_reducible rfl))
        try simp only [List.getElem_toArray, List.getElem_cons_zero, List.getElem_cons_succ, Act.put, List.setIfInBounds_toArray, List.set_cons_zero, List.set_cons_succ]
        refine wpAnyH_take (i := 23) (v := ?_) rfl (by kernel_rfl) (by kernel_rfl) (by kernel_rfl) (fun _ _ _ h => h) (Or.inl ⟨by rfl, ?_⟩) (by assumption) ?_
        rotate_left
        · (intro w hSw; (try dsimp only at hSw); (try simp only [List.getElem_toArray, List.getElem_cons_zero, List.getElem_cons_succ]); go_simp; (try with_reducible rfl))
        try simp only [List.getElem_toArray, List.getElem_cons_zero, List.getElem_cons_succ, Act.put, List.setIfInBounds_toArray, List.set_cons_zero, List.set_cons_succ]
        refine wpAnyH_take (i := 24) (v := ?_) rfl (by kernel_rfl) (by kernel_rfl) (by kernel_rfl) (fun _ _ _ h => h) (Or.inl ⟨by rfl, ?_⟩) (by assumption) ?_
        rotate_left
        · (intro w hSw; (try dsimp only at hSw); (try simp only [List.getElem_toArray, List.getElem_cons_zero, List.getElem_cons_succ]); go_simp; (try with_reducible rfl))
        try simp only [List.getElem_toArray, List.getElem_cons_zero, List.getElem_cons_succ, Act.put, List.setIfInBounds_toArray, List.set_cons_zero, List.set_cons_succ]
        refine wpAnyH_take (i := 25) (v := ?_) rfl (by kernel_rfl) (by kernel_rfl) (by kernel_rfl) (fun _ _ _ h => h) (Or.inl ⟨by rfl, ?_⟩) (by assumption) ?_
        rotate_left
        · (intro w hSw; (try dsimp only at hSw); (try simp only [List.getElem_toArray, List.getElem_cons_zero, List.getElem_cons_succ]); go_simp; (try with_reducible rfl))
        try simp only [List.getElem_toArray, List.getElem_cons_zero, List.getElem_cons_succ, Act.put, List.setIfInBounds_toArray, List.set_cons_zero, List.set_cons_succ]
        refine wpAnyH_take (i := 28) (v := ?_) rfl (by kernel_rfl) (by kernel_rfl) (by kernel_rfl) (fun _ _ _ h => h) (Or.inl ⟨by rfl, ?_⟩) (by assumption) ?_
        rotate_left
        · (intro w hSw; (try dsimp only at hSw); (try simp only [List.getElem_toArray, List.getElem_cons_zero, List.getElem_cons_succ]); go_simp; (try with_reducible rfl))
        try simp only [List.getElem_toArray, List.getElem_cons_zero, List.getElem_cons_succ, Act.put, List.setIfInBounds_toArray, List.set_cons_zero, List.set_cons_succ]
        refine wpAnyH_take (i := 29) (v := ?_) rfl (by kernel_rfl) (by kernel_rfl) (by kernel_rfl) (fun _ _ _ h => h) (Or.inl ⟨by rfl, ?_⟩) (by assumption) ?_
        rotate_left
        · (intro w hSw; (try dsimp only at hSw); (try simp only [List.getElem_toArray, List.getElem_cons_zero, List.getElem_cons_succ]); go_simp; (try with_reducible rfl))
        try simp only [List.getElem_toArray, List.getElem_cons_zero, List.getElem_cons_succ, Act.put, List.setIfInBounds_toArray, List.set_cons_zero, List.set_cons_succ]
        refine wpAnyH_ready (rs := [26]) (by kernel_rfl) (by simp) ?_
        refine AllReadyH.cons rfl (fun K hK => ?_) AllReadyH.nil
        try simp only [List.getElem_toArray, List.getElem_cons_zero, List.getElem_cons_succ]
        go_simp
        refine (HB.out _ ((Below.refl _ _).drew.trans hb7)).mono ?_
        rintro e w8 ⟨v8, rfl, hown8, hb8⟩
        obtain ⟨A8, c8, rfl, _, _, _, hr8⟩ := Row.of_own hown8
        have hcv8 := Row.str hr8 xs.length c8 HLEN.out.symm
        have hcv7' := Row.str (hr7.below hb8) xs.length c7 HLEN.out.symm
        go_wp2_with fail
        refine hK.out _ _ ⟨HCV.out _ (((Below.refl _ _).drew.trans hb7).trans (hb8.mono hb7.size)), hcv7'⟩ (fun hHeld => ?_)
        clear hK K
        try simp only [List.getElem_toArray, List.getElem_cons_zero, List.getElem_cons_succ, Act.put, List.setIfInBounds_toArray, List.set_cons_zero, List.set_cons_succ]
        refine wpAnyH_stronger (S' := fun wx : World => ((convert 25 9 (.slice (some ⟨g, off, none⟩) xs.length cw)).run Try.prog wx = .ok (.string (strOfNums ys)) wx ∧ (convert 25 9 (.slice A7 xs.length c7)).run Try.prog wx = .ok (.string (strOfNums ys)) wx) ∧ (convert 25 9 (.slice A8 xs.length c8)).run Try.prog wx = .ok (.string (strOfNums ys)) wx) (fun _ h => h.1) _ _ _ _ ?_
        have hH8 := And.intro hHeld hcv8
        refine wpAnyH_take (i := 27) (v := ?_) rfl (by kernel_rfl) (by kernel_rfl) (by kernel_rfl) (fun _ _ _ h => h) (Or.inl ⟨by rfl, ?_⟩) (by assumption) ?_
        rotate_left
        · (intro w hSw; (try dsimp only at hSw); (try simp only [List.getElem_toArray, List.getElem_cons_zero, List.getElem_cons_succ]); go_simp; (try with_reducible rfl))
        try simp only [List.getElem_toArray, List.getElem_cons_zero, List.getElem_cons_succ, Act.put, List.setIfInBounds_toArray, List.set_cons_zero, List.set_cons_succ]
        refine wpAnyH_take (i := 30) (v := ?_) rfl (by kernel_rfl) (by kernel_rfl) (by kernel_rfl) (fun _ _ _ h => h) (Or.inl ⟨by rfl, ?_⟩) (by assumption) ?_
        rotate_left
        · (intro w hSw; (try dsimp only at hSw); (try simp only [List.getElem_toArray, List.getElem_cons_zero, List.getElem_cons_succ]); go_simp; (try with_reducible rfl))
        try simp only [List.getElem_toArray, List.getElem_cons_zero, List.getElem_cons_succ, Act.put, List.setIfInBounds_toArray, List.set_cons_zero, List.set_cons_succ]
        refine wpAnyH_take (i := 31) (v := ?_) rfl (by kernel_rfl) (by kernel_rfl) (by kernel_rfl) (fun _ _ _ h => h) (Or.inl ⟨by rfl, ?_⟩) (by assumption) ?_
        rotate_left
        · (intro w hSw; (try dsimp only at hSw); (try simp only [List.getElem_toArray, List.getElem_cons_zero, List.getElem_cons_succ]); go_simp; (try with_reducible rfl))
        try simp only [List.getElem_toArray, List.getElem_cons_zero, List.getElem_cons_succ, Act.put, List.setIfInBounds_toArray, List.set_cons_zero, List.set_cons_succ]
        refine wpAnyH_take (i := 32) (v := ?_) rfl (by kernel_rfl) (by kernel_rfl) (by kernel_rfl) (fun _ _ _ h => h) (Or.inl ⟨by rfl, ?_⟩) (by assumption) ?_
        rotate_left
        · (intro w hSw; (try dsimp only at hSw); (try simp only [List.getElem_toArray, List.getElem_cons_zero, List.getElem_cons_succ]); go_simp; (try with_reducible rfl))
        try simp only [List.getElem_toArray, List.getElem_cons_zero, List.getElem_cons_succ, Act.put, List.setIfInBounds_toArray, List.set_cons_zero, List.set_cons_succ]
        refine wpAnyH_done (by kernel_rfl) ?_ _
        go_wp2_with fail
        go_ret
        exact ⟨rfl, (hbel.trans (((Below.refl _ _).drew.trans hb7).mono hbel.size)).trans (hb8.mono (Nat.le_trans hbel.size hb7.size))⟩
end Go.Proofs.Ytfklhppfehkfaaa

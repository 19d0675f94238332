/-
  Every input of LeExact: the call returns true, and what was handed in reads as it did.
-/
import Derived.Test.YtfklhppfehkfaaaView
import Derived.Test.YtfklhppfehkfaaaLe11
namespace Go.Proofs.Ytfklhppfehkfaaa.leExact
open Go.ChangeShapes Go.WideShapes Go.ChangeAt Go.RowKit
set_option linter.unusedVariables false

/-- one call of the script, as it lies in memory -/
structure OpV where
  kind : Int
  at_ : Int
  wd : Int
  x : Int
  bA : Option Addr
  bn : Nat
  bc : Nat
  bytes : List Int
  lA : Option Addr
  ln : Nat
  lc : Nat
  list : List Int
instance : Inhabited OpV := ⟨⟨0, 0, 0, 0, none, 0, 0, [], none, 0, 0, []⟩⟩
def OpV.cells (o : OpV) : List Value := [.int .i64 o.kind, .slice o.bA o.bn o.bc, .int .i64 o.at_, .int .i64 o.wd, .int .u64 o.x, .slice o.lA o.ln o.lc]
def OpV.ok (w : World) (o : OpV) : Prop := I64 o.kind ∧ I64 o.at_ ∧ I64 o.wd ∧ U64 o.x ∧ IntsIn w .u8 o.bA o.bn o.bc o.bytes ∧ IntsIn w .i64 o.lA o.ln o.lc o.list

section
variable {H : Type} {enc : TypeId × Value → H} {w : World} {base : Nat} {spare : Nat → Bool} {held : Bool}
theorem c3' : Try.prog.cellsOf 3 = 1 := by kernel_rfl
theorem c5' : Try.prog.cellsOf 5 = 1 := by kernel_rfl
theorem c25' : Try.prog.cellsOf 25 = 1 := by kernel_rfl
theorem c26' : Try.prog.cellsOf 26 = 1 := by kernel_rfl
theorem c27' : Try.prog.cellsOf 27 = 1 := by kernel_rfl
theorem cellsOp : Try.prog.cellsOf 29 = 6 := by kernel_rfl
set_option maxRecDepth 100000 in
theorem open_op (n : Nat) (cs' : List Value) (x : DataW H × List MemPlace) (h : DataW.trod enc Try.prog w base spare held n 29 cs' = some x) : ∃ a : OpV, cs' = a.cells ∧ a.ok w := by
  obtain ⟨xs, m, _, _, hl, hxl, hf⟩ := DataW.trod_struct Try.underlying29 h
  rw [cellsOp] at hl
  match cs', hl with
  | [c0, c1, c2, c3, c4, c5], _ =>
    obtain ⟨y0, g0⟩ := fld hxl hf 0 3 0 rfl c3' c0 rfl
    obtain ⟨y1, g1⟩ := fld hxl hf 1 25 1 rfl c25' c1 rfl
    obtain ⟨y2, g2⟩ := fld hxl hf 2 3 2 rfl c3' c2 rfl
    obtain ⟨y3, g3⟩ := fld hxl hf 3 3 3 rfl c3' c3 rfl
    obtain ⟨y4, g4⟩ := fld hxl hf 4 26 4 rfl c26' c4 rfl
    obtain ⟨y5, g5⟩ := fld hxl hf 5 27 5 rfl c27' c5 rfl
    obtain ⟨z0, e0, _, w0⟩ := DataW.trod_int Try.underlying3 g0
    obtain ⟨z2, e2, _, w2⟩ := DataW.trod_int Try.underlying3 g2
    obtain ⟨z3, e3, _, w3⟩ := DataW.trod_int Try.underlying3 g3
    obtain ⟨z4, e4, _, w4⟩ := DataW.trod_int Try.underlying26 g4
    obtain ⟨A1, l1, p1, zs1, e1, w1⟩ := open_ints_in Try.underlying25 Try.underlying5 c5' g1
    obtain ⟨A5, l5, p5, zs5, e5, w5⟩ := open_ints_in Try.underlying27 Try.underlying3 c3' g5
    injection e0 with e0; injection e2 with e2; injection e3 with e3; injection e4 with e4
    exact ⟨⟨z0, z2, z3, z4, A1, l1, p1, zs1, A5, l5, p5, zs5⟩, by rw [e0, e1, e2, e3, e4, e5]; rfl, I64.of_wf w0, I64.of_wf w2, I64.of_wf w3, U64.of_wf w4, w1, w5⟩
end

theorem plays_op (o : OpV) (w : World) (B : Nat) (wx : World) (h : o.ok w) (hB : w.heap.size ≤ B) (hb : Below w.heap.size w wx) :
    Calls Try.prog 14 #[.agg #[.int .i64 o.kind, .slice o.bA o.bn o.bc, .int .i64 o.at_, .int .i64 o.wd, .int .u64 o.x, .slice o.lA o.ln o.lc]] wx fun e w' => e = .returned (.bool true) ∧ Below wx.heap.size wx w' := by
  obtain ⟨_, h1, h2, h3, ⟨a1, a2, a3, a4, a5⟩, ⟨b1, b2, b3, b4, b5⟩⟩ := h
  have hz : ∀ z ∈ o.bytes, U8 z := fun z hz => U8.of_wf (a5 z hz)
  have hzl : ∀ z ∈ o.list, I64 z := fun z hz => I64.of_wf (b5 z hz)
  have r1 := a4.below hb
  have r2 := b4.below hb
  by_cases k1 : o.kind = 1
  · rw [k1]; exact plays_1 _ _ _ _ _ _ _ _ _ _ _ _ wx r1 a1 hz a2 a3 r2 b1 hzl b2 b3 h1 h2 h3 hb.size
  by_cases k2 : o.kind = 2
  · rw [k2]; exact plays_2 _ _ _ _ _ _ _ _ _ _ _ _ wx r1 a1 hz a2 a3 r2 b1 hzl b2 b3 h1 h2 h3 hb.size
  by_cases k3 : o.kind = 3
  · rw [k3]; exact plays_3 _ _ _ _ _ _ _ _ _ _ _ _ wx r1 a1 hz a2 a3 r2 b1 hzl b2 b3 h1 h2 h3 hb.size
  by_cases k4 : o.kind = 4
  · rw [k4]; exact plays_4 _ _ _ _ _ _ _ _ _ _ _ _ wx r1 a1 hz a2 a3 r2 b1 hzl b2 b3 h1 h2 h3 hb.size
  by_cases k5 : o.kind = 5
  · rw [k5]; exact plays_5 _ _ _ _ _ _ _ _ _ _ _ _ wx r1 a1 hz a2 a3 r2 b1 hzl b2 b3 h1 h2 h3 hb.size
  exact plays_other o.kind ⟨k1, k2, k3, k4, k5⟩ _ _ _ _ _ _ _ _ _ _ _ _ wx r1 a1 hz a2 a3 r2 b1 hzl b2 b3 h1 h2 h3 hb.size

set_option maxHeartbeats 1000000 in
set_option maxRecDepth 100000 in
theorem walk0 (A : Option Addr) (n c : Nat) (L : List OpV) (w : World) (hr : Row w w.heap.size A (L.flatMap OpV.cells)) (hn : n = L.length) (hnc : n ≤ c) (hcm : c ≤ maxLen) (hok : ∀ o ∈ L, o.ok w) :
    Calls Try.prog 3 #[.slice A n c] w fun e w' => e = .returned (.bool true) ∧ Below w.heap.size w w' := by
  subst hn
  unfold maxLen at hcm
  go_enter Try.func3, Try.ntmps3
  go_wp2_with fail
  refine (awake01_any _).mono ?_; rintro e w1 ⟨rfl, hb1⟩
  go_wp2_with fail
  go_loopw [3, 4] (fun i _ wr => ∃ k : Nat, k ≤ L.length ∧ i = .int .i64 k ∧ Below w.heap.size w wr) (fun i _ _ => L.length - (intOf i).toNat)
  case atStart => exact ⟨0, Nat.zero_le _, rfl, hb1⟩
  case round =>
    obtain ⟨k, hk, rfl, hbr⟩ := hrel
    by_cases hlt : k < L.length
    · by_cases h200 : k < 200
      · obtain ⟨b, off, rfl, hb, hc⟩ := (hr.below hbr).flat (k := 6) (fun _ => rfl) (by decide) (by omega)
        have ho : L[k]? = some L[k] := List.getElem?_eq_getElem hlt
        have f0 := hc k _ 0 _ ho rfl
        have f1 := hc k _ 1 _ ho rfl
        have f2 := hc k _ 2 _ ho rfl
        have f3 := hc k _ 3 _ ho rfl
        have f4 := hc k _ 4 _ ho rfl
        have f5 := hc k _ 5 _ ho rfl
        rw [Nat.add_zero] at f0
        have hp := plays_op L[k] w w.heap.size wr (hok _ (List.getElem_mem hlt)) (Nat.le_refl _) hbr
        generalize L[k] = o at *
        have HP := Lib.hid hp
        clear hp hc ho
        go_wp2_with fail
        refine HP.out.mono ?_; rintro e w2 ⟨rfl, hb2⟩
        go_wp2_with fail
        go_roundw
        case rel => exact ⟨k + 1, by omega, by go_num, hbr.trans (hb2.mono hbr.size)⟩
        case measure => simp [intOf]; omega
      · go_wp2_with fail
        go_ret
        exact ⟨rfl, hbr⟩
    · go_wp2_with fail
      go_ret
      exact ⟨rfl, hbr⟩

def Script (w : World) (A : Option Addr) (len cap : Nat) (L : List OpV) : Prop := len = L.length ∧ len ≤ cap ∧ cap ≤ maxLen ∧ Row w w.heap.size A (L.flatMap OpV.cells) ∧ ∀ o ∈ L, o.ok w
theorem open_script {H : Type} {enc : TypeId × Value → H} {w : World} {base : Nat} {spare : Nat → Bool} {held : Bool} {fuel : Nat} {A : Option Addr} {len cap : Nat} {x : DataW H × List MemPlace}
    (h : DataW.trod enc Try.prog w base spare held fuel 22 (Value.slice A len cap).cells.toList = some x) : ∃ L, Script w A len cap L := by
  obtain ⟨A', len', cap', L, hv, h1, h2, h3, h4, h5⟩ := open_view (v := .slice A len cap) OpV.cells (OpV.ok w) 6 (fun _ => rfl) (by decide) Try.underlying22 cellsOp (fun n cs' x h => open_op n cs' x h) (by simpa [Value.cells] using h)
  injection hv with e1 e2 e3
  subst e1; subst e2; subst e3
  exact ⟨L, h1, h2, h3, h4, h5⟩
theorem walk (A : Option Addr) (n c : Nat) (L : List OpV) (w : World) (h : Script w A n c L) :
    Calls Try.prog 3 #[.slice A n c] w fun e w' => e = .returned (.bool true) ∧ Below w.heap.size w w' :=
  walk0 A n c L w h.2.2.2.1 h.1 h.2.1 h.2.2.1 h.2.2.2.2

set_option maxRecDepth 100000 in
theorem lifted (os : Os) (started : os.Started) (H : Type) (enc : TypeId × Value → H) :
    ReturnsInHanded {} Try.checked os 3 .any (Rows.leExactSpec.pre6 enc Try.prog Try.f3 Rows.leExactRow.domain false) (Rows.leExactSpec.post enc Try.prog Try.f3 false true false false) := by
  refine returnsInHanded_of_change (C := Try.checked) own started (by kernel_rfl) Try.func3
    (ChangeSpec.witness6 (enc := enc) (C := Try.checked) false ⟨#[], #[.slice none 0 0], []⟩ 8 (by kernel_rfl) (by kernel_rfl) (by kernel_rfl) (by kernel_rfl)) ?_
  intro W base args ds gs before hval0 hW hcnd _
  have hval : ∀ (j : Nat) t v, Try.f3.params[j]? = some t → args[j]? = some v → Value.okWide Try.prog W .any base t v := hval0
  have hW' := hW
  obtain ⟨p, q, hA0, hV, rfl, hfz, hnd⟩ := hW
  have hA : DataW.TrodAll enc Try.prog W 0 (fun _ => true) true Try.f3.params.toList args.toList ds p := hA0
  rw [Try.params3] at hA hval
  obtain ⟨v0, vs0, d0, ds0, p0, q0, hargs, rfl, rfl, h0, r0⟩ := trodAll_cons hA
  obtain ⟨rfl, rfl, rfl⟩ := trodAll_nil r0
  obtain rfl : args = #[v0] := by cases args; simp_all
  obtain ⟨rfl, rfl⟩ := trodVars_none hV
  obtain ⟨a0, len0, cap0, rfl⟩ := okWide_slice Try.underlying22 (hval 0 22 v0 rfl rfl)
  have k0 := h0
  have lt0 : ∀ x ∈ p0, x.block < W.heap.size := by obtain ⟨m, hm⟩ := k0; exact DataW.trod_lt m _ _ _ hm
  obtain ⟨z0, w0⟩ : ∃ L, Script W a0 len0 cap0 L := by
    obtain ⟨fuel, hf⟩ := h0
    exact open_script hf
  clear hA0 hval0
  refine (walk a0 len0 cap0 z0 W w0).mono fun e W' ⟨he, bel⟩ => ?_
  subst he
  exact ⟨_, rfl, _, _, _, [], _, [], hW', trodAll_mk1 (shut_bool Try.underlying4 _), (trodAll_cons_mk (Below.trod laidOut (by kernel_rfl) (of_decide_eq_true (by kernel_rfl)) k0 bel lt0) trodAll_mk0), rfl, bel.frame _, fun h => by cases h⟩

theorem over : Rows.leExactRow.holds Try.pinned (OpenSpec.ofChange Rows.leExactSpec) :=
  OpenClaim.holds_of_wide 3 Try.f3 rfl rfl rfl rfl rfl rfl rfl ⟨rfl, rfl, rfl, rfl, rfl⟩ rfl rfl rfl rfl rfl (by kernel_rfl) Try.func3 (by kernel_rfl)
    (of_decide_eq_true (by kernel_rfl)) (by unfold Func.isWrapper; first | (rw [if_pos (by decide +kernel)]; kernel_rfl) | (rw [if_neg (by decide +kernel)]; exact ⟨rfl, rfl⟩))
    (fun os started H enc _ => lifted os started H enc)

theorem proved : Rows.LeExactSaid := over
#print axioms proved
end Go.Proofs.Ytfklhppfehkfaaa.leExact

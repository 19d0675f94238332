import Derived.Test.YtfklhppfehkfaaaBase
import Derived.Test.YtfklhppfehkfaaaRows
import Derived.ProofKit
import Derived.OpenShut
import Derived.ShutString
import Derived.ChangeOld
namespace Go.Proofs.Ytfklhppfehkfaaa
open Go.ChangeShapes Go.WideShapes Go.ChangeAt Go.RowKit

theorem own : ownKnob Try.prog.godebug = none := by kernel_rfl
theorem laidOut : laidOutB Try.prog = true := by kernel_rfl

/-- a slice of integers that came in: nil, or a row of 'cap' cells, the numbers 'zs' -/
def IsRow (k : IntKind) (w : World) (a : Option Addr) (len cap : Nat) (zs : List Int) : Prop :=
  (a = none ∧ len = 0 ∧ cap = 0 ∧ zs = []) ∨
  ∃ x, a = some x ∧ len ≤ cap ∧ cap ≤ maxLen ∧ zs.length = cap ∧ (∀ i, i < zs.length → w.cell? (x.add i) = some (.int k (zs.getD i 0))) ∧ ∀ n ∈ zs, (Lit.int k n).wf = true

theorem I64.of_wf {n : Int} (h : (Lit.int .i64 n).wf = true) : I64 n := bounds_i64 h
theorem U64.of_wf {n : Int} (h : (Lit.int .u64 n).wf = true) : U64 n := bounds_u64 h
theorem U8.of_wf {n : Int} (h : (Lit.int .u8 n).wf = true) : U8 n := bounds_u8 h

theorem IsRow.row {k : IntKind} {w : World} {a : Option Addr} {len cap : Nat} {zs : List Int} (h : IsRow k w a len cap zs) :
    Row w w.heap.size a ((zs.take len).map (Value.int k)) ∧ len = (zs.take len).length ∧ len ≤ cap ∧ cap ≤ maxLen ∧ ∀ z ∈ zs.take len, (Lit.int k z).wf = true := by
  rcases h with ⟨rfl, rfl, rfl, rfl⟩ | ⟨x, rfl, hl, hm, hz, hcell, hwz⟩
  · exact ⟨fun h => by simp at h, rfl, Nat.le_refl _, by decide, fun z hz => by simp at hz⟩
  · refine ⟨fun hn => ?_, by rw [List.length_take]; omega, hl, hm, fun z hz' => hwz z (List.mem_of_mem_take hz')⟩
    have hn' : 0 < len := by simp at hn; omega
    obtain ⟨b, off, spot⟩ := x
    have hc := hcell 0 (by omega)
    have hspot : spot = none := by simpa [Addr.add] using World.cell?_spot hc
    subst hspot
    refine ⟨b, off, rfl, World.block_lt_of_cell? w _ (by simpa [Addr.add] using hc), fun j u hu => ?_⟩
    have hj : j < len := by
      rcases Nat.lt_or_ge j ((zs.take len).map (Value.int k)).length with h | h
      · simp at h; omega
      · rw [List.getElem?_eq_none h] at hu; cases hu
    have hcj := hcell j (by omega)
    have hplain : (⟨b, off, none⟩ : Addr).add j = ⟨b, off + j, none⟩ := by unfold Addr.add; split <;> simp_all
    rw [hplain] at hcj
    rw [hcj]
    rw [List.getElem?_map, List.getElem?_take_of_lt hj, List.getElem?_eq_getElem (by omega : j < zs.length)] at hu
    simpa [List.getD_eq_getElem?_getD, List.getElem?_eq_getElem (by omega : j < zs.length)] using hu

end Go.Proofs.Ytfklhppfehkfaaa

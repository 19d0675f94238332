/- sums and products of sizes, in plain numbers -/
namespace Go.Proofs.Ytfklhppfehkfaaa
def sz (n : Int) : Int := min (max n 0) 4611686018427387904
theorem sz_lo (n : Int) : 0 ≤ sz n := by unfold sz; omega
theorem sz_hi (n : Int) : sz n ≤ 4611686018427387904 := by unfold sz; omega
def addS (s x : Int) : Int := min s (4611686018427387904 - sz x) + sz x
def plusL (zs : List Int) : Int := zs.foldl addS 0
theorem plusL_snoc (zs : List Int) (x : Int) : plusL (zs ++ [x]) = addS (plusL zs) x := by simp [plusL]
theorem foldl_addS_bd (zs : List Int) : ∀ s : Int, 0 ≤ s → s ≤ 4611686018427387904 → 0 ≤ zs.foldl addS s ∧ zs.foldl addS s ≤ 4611686018427387904 := by
  induction zs with
  | nil => intro s h0 h1; exact ⟨h0, h1⟩
  | cons x xs ih => intro s h0 h1; exact ih _ (by unfold addS sz; omega) (by unfold addS sz; omega)
theorem plusL_bd (zs : List Int) : 0 ≤ plusL zs ∧ plusL zs ≤ 4611686018427387904 := foldl_addS_bd zs 0 (by omega) (by omega)
/-- the product of two sizes -/
def timesS (a b : Int) : Int := min (sz a * sz b) 4611686018427387904


theorem timesS_bd (a b : Int) : 0 ≤ timesS a b ∧ timesS a b ≤ 4611686018427387904 := by
  have h : 0 ≤ sz a * sz b := Int.mul_nonneg (sz_lo a) (sz_lo b)
  unfold timesS; omega
theorem sz_of {n : Int} (h0 : 0 ≤ n) (h1 : n ≤ 4611686018427387904) : sz n = n := by unfold sz; omega
theorem sz_timesS (a b : Int) : sz (timesS a b) = timesS a b := sz_of (timesS_bd a b).1 (timesS_bd a b).2
theorem sz_plusL (zs : List Int) : sz (plusL zs) = plusL zs := sz_of (plusL_bd zs).1 (plusL_bd zs).2
def sumS (zs : List Int) : Int := (zs.map sz).sum
theorem sumS_nn (zs : List Int) : 0 ≤ sumS zs := by
  induction zs with
  | nil => simp [sumS]
  | cons x xs ih => have := sz_lo x; simp only [sumS, List.map_cons, List.sum_cons] at *; omega
theorem foldl_addS (zs : List Int) : ∀ s : Int, 0 ≤ s → s ≤ 4611686018427387904 → zs.foldl addS s = min (s + sumS zs) 4611686018427387904 := by
  induction zs with
  | nil => intro s h0 h1; simp [sumS]; omega
  | cons x xs ih =>
    intro s h0 h1
    have hx := sz_lo x
    have hx' := sz_hi x
    have hn := sumS_nn xs
    have h3 : addS s x = min (s + sz x) 4611686018427387904 := by unfold addS; omega
    simp only [List.foldl_cons]
    rw [ih _ (by rw [h3]; omega) (by rw [h3]; omega), h3]
    have : sumS (x :: xs) = sz x + sumS xs := by simp [sumS]
    omega
theorem plusL_eq (zs : List Int) : plusL zs = min (sumS zs) 4611686018427387904 := by
  have := foldl_addS zs 0 (by omega) (by omega)
  simpa [plusL] using this
theorem sumS_append (xs ys : List Int) : sumS (xs ++ ys) = sumS xs + sumS ys := by simp [sumS]
theorem plusL_reverse (zs : List Int) : plusL zs.reverse = plusL zs := by
  rw [plusL_eq, plusL_eq]
  have : sumS zs.reverse = sumS zs := by
    induction zs with
    | nil => rfl
    | cons x xs ih => rw [List.reverse_cons, sumS_append, ih]; simp [sumS]; omega
  rw [this]
theorem plusL_two (a b : Int) : plusL [a, b] = min (sz a + sz b) 4611686018427387904 := by rw [plusL_eq]; simp [sumS]
theorem plusL_one (a : Int) : plusL [a] = sz a := by rw [plusL_eq]; have := sz_hi a; simp [sumS]; omega
theorem plusL_cut (zs : List Int) (k : Nat) : plusL [plusL (zs.take k), plusL (zs.drop k)] = plusL zs := by
  rw [plusL_two, sz_plusL, sz_plusL, plusL_eq, plusL_eq (zs.drop k), plusL_eq zs]
  have h : sumS zs = sumS (zs.take k) + sumS (zs.drop k) := by rw [← sumS_append, List.take_append_drop]
  have h1 := sumS_nn (zs.take k)
  have h2 := sumS_nn (zs.drop k)
  omega
theorem sz_le_sumS (zs : List Int) (x : Int) (h : x ∈ zs) : sz x ≤ sumS zs := by
  induction zs with
  | nil => cases h
  | cons y ys ih =>
    have hy := sz_lo y
    have hn := sumS_nn ys
    have e : sumS (y :: ys) = sz y + sumS ys := by simp [sumS]
    rcases List.mem_cons.1 h with rfl | h'
    · omega
    · have := ih h'; omega
theorem plusL_one_le (zs : List Int) (x : Int) (h : x ∈ zs) : plusL [x] ≤ plusL zs := by
  rw [plusL_one, plusL_eq]; have := sz_le_sumS zs x h; have := sz_hi x; omega
theorem m0 : min (0 : Int) 4611686018427387904 = 0 := by omega
theorem timesS_comm (a b : Int) : timesS b a = timesS a b := by unfold timesS; rw [Int.mul_comm]
theorem min_mul_hi (X C H : Int) (hX : 0 ≤ X) (hC : 1 ≤ C) (hH : 0 ≤ H) : min (min X H * C) H = min (X * C) H := by
  by_cases h : X ≤ H
  · rw [Int.min_eq_left h]
  · rw [Int.min_eq_right (by omega : H ≤ X)]
    have h1 : H * 1 ≤ H * C := Int.mul_le_mul_of_nonneg_left hC hH
    have h2 : H * C ≤ X * C := Int.mul_le_mul_of_nonneg_right (by omega) (by omega)
    omega
theorem timesS_assoc (a b c : Int) : timesS a (timesS b c) = timesS (timesS a b) c := by
  have ha := sz_lo a; have hb := sz_lo b; have hc := sz_lo c
  have e1 : timesS a (timesS b c) = min (sz a * timesS b c) 4611686018427387904 := by show min (sz a * sz (timesS b c)) _ = _; rw [sz_timesS]
  have e2 : timesS (timesS a b) c = min (timesS a b * sz c) 4611686018427387904 := by show min (sz (timesS a b) * sz c) _ = _; rw [sz_timesS]
  rw [e1, e2]
  unfold timesS
  generalize sz a = A at *; generalize sz b = B at *; generalize sz c = C at *
  by_cases hA : A = 0
  · subst hA; simp [m0]
  by_cases hC : C = 0
  · subst hC; simp [m0]
  rw [Int.mul_comm A, min_mul_hi (B * C) A _ (Int.mul_nonneg hb hc) (by omega) (by omega), min_mul_hi (A * B) C _ (Int.mul_nonneg ha hb) (by omega) (by omega)]
  rw [Int.mul_comm (B * C), Int.mul_assoc]
theorem timesS_plus (a b c : Int) : timesS a (plusL [b, c]) = plusL [timesS a b, timesS a c] := by
  have ha := sz_lo a; have hb := sz_lo b; have hc := sz_lo c
  have e1 : timesS a (plusL [b, c]) = min (sz a * plusL [b, c]) 4611686018427387904 := by show min (sz a * sz (plusL [b, c])) _ = _; rw [sz_plusL]
  rw [e1, plusL_two, plusL_two, sz_timesS, sz_timesS]
  unfold timesS
  generalize sz a = A at *; generalize sz b = B at *; generalize sz c = C at *
  by_cases hA : A = 0
  · subst hA; simp [m0]
  rw [Int.mul_comm A (min _ _), min_mul_hi (B + C) A _ (by omega) (by omega) (by omega), Int.mul_comm (B + C) A, Int.mul_add]
  have h1 := Int.mul_nonneg ha hb
  have h2 := Int.mul_nonneg ha hc
  generalize A * B = X at *; generalize A * C = Y at *
  omega
theorem timesS_1 (a : Int) : timesS a 1 = plusL [a] := by
  rw [plusL_one]; unfold timesS; have := sz_hi a; have e : sz 1 = 1 := by decide
  rw [e]; omega
theorem timesS_0 (a : Int) : timesS a 0 = 0 := by unfold timesS; have e : sz 0 = 0 := by decide
                                                  rw [e]; simp [m0]
theorem plusL_le_timesS (a b : Int) (h : 1 ≤ b) : plusL [a] ≤ timesS a b := by
  rw [plusL_one]
  have ha := sz_lo a; have ha' := sz_hi a
  have hb : 1 ≤ sz b := by unfold sz; omega
  have h1 : sz a * 1 ≤ sz a * sz b := Int.mul_le_mul_of_nonneg_left hb ha
  unfold timesS
  generalize sz a * sz b = X at *
  omega
end Go.Proofs.Ytfklhppfehkfaaa

/- With LeastPay nothing is owed after the periods, if it is not too much, and with 1 less something is; and LeastPay is what the reference tells: for every code. Conditions: none. -/
import Derived.Test.YtimjnncfnoggeaaPFnLeastPayx0
import Derived.Test.YtimjnncfnoggeaaPFnLeastPayx1
import Derived.Test.YtimjnncfnoggeaaPFnLeastPayx2
import Derived.Test.YtimjnncfnoggeaaPFnLeastPayx3
import Derived.Test.YtimjnncfnoggeaaPFnLeastPayx4
import Derived.Test.YtimjnncfnoggeaaBase
set_option linter.unusedVariables false
set_option linter.unusedSimpArgs false
namespace Go.Proofs.Ytimjnncfnoggeaa.Pure
open Go.RowKit Go.Proofs.Ytimjnncfnoggeaa.PFnLeastPay Go.Proofs.YtimjnncfnoggeaaW.PrintWords Go.Proofs.YtimjnncfnoggeaaW.PrintLast Go.Proofs.YtimjnncfnoggeaaW.PrintMore Go.Proofs.Ytimjnncfnoggeaa.Base
theorem u8_range {x : Int} (h : (Lit.int .u8 x).wf = true) : 0 ≤ x ∧ x ≤ 255 := by
  simp [Lit.wf, IntKind.min, IntKind.max, IntKind.bits, IntKind.signed] at h
  omega
/-! ## The reader that draws. -/
structure BytesOk (b : List Int) : Prop where
  len : b.length ≤ 2000
  mem : ∀ x ∈ b, 0 ≤ x ∧ x ≤ 255

theorem newReader_ok (l : List Int) (h : ∀ x ∈ l, 0 ≤ x ∧ x ≤ 255) : ∃ b, spec_newReader.f l = some (b, 0) ∧ BytesOk b := by
  unfold spec_newReader.f
  by_cases c : (l.length : Int) > 2000
  · rw [if_pos c, if_pos (by omega)]
    exact ⟨_, rfl, by rw [List.length_take]; omega, fun x hx => h x (List.mem_of_mem_take hx)⟩
  · rw [if_neg c]
    exact ⟨_, rfl, by omega, h⟩

theorem pick_ok (b : List Int) (p n : Int) (hb : BytesOk b) (h0 : 0 ≤ p) (h1 : p ≤ 100000) :
    EvS (fun k => spec_reader_pick.f k b p n) (fun r => 0 ≤ r.1 ∧ (1 ≤ n → r.1 < n) ∧ (n < 1 → r.1 = 0) ∧ r.2 = p + 1) := by
  have hp : wrap64 (p + 1) = p + 1 := w64 (by omega) (by omega)
  have hq : wrap64 (p + 1 - 1) = p := by rw [show p + 1 - 1 = p by omega]; exact w64 (by omega) (by omega)
  have hbl := hb.len
  simp only [spec_reader_pick.f]
  rw [hp]
  by_cases hn : n < 1
  · refine EvS.pos hn ?_
    refine EvS.step (fun k => by rw [spec_reader_pick.j0]) ?_
    refine EvS.pos rfl ?_
    exact EvS.now ⟨by simp, fun h => by omega, fun _ => rfl, rfl⟩
  · refine EvS.neg hn ?_
    refine EvS.step (fun k => by rw [spec_reader_pick.j0]) ?_
    simp only [hq]
    by_cases hl : b.length = 0
    · refine EvS.pos (by simp [hl]) ?_
      exact EvS.now ⟨by simp, fun h => by simp; omega, fun _ => rfl, rfl⟩
    · refine EvS.neg (by simp; intro h; exact hl (by simp [h])) ?_
      by_cases hpl : p < b.length
      · refine EvS.pos hpl (EvS.pos h0 (EvS.neg (by omega) ?_))
        have hr := rd_range hb.mem p h0 hpl
        rw [w64 (by omega) (by omega)]
        have ht := tmod_range (rd b p) n (by omega) (by omega)
        exact EvS.now ⟨ht.1, fun _ => ht.2, fun h => by omega, rfl⟩
      · refine EvS.neg hpl (EvS.neg (by omega) ?_)
        have e1 : wrap64 (wrap64 (p * 7) + 3) = p * 7 + 3 := by
          rw [w64 (x := p * 7) (by omega) (by omega)]; exact w64 (by omega) (by omega)
        simp only [e1]
        have i1 := tmod_range p b.length h0 (by omega)
        have i2 := tmod_range (p * 7 + 3) b.length (by omega) (by omega)
        refine EvS.pos i1.1 (EvS.pos i1.2 (EvS.pos i2.1 (EvS.pos i2.2 (EvS.neg (by omega) ?_))))
        have r1 := rd_range hb.mem _ i1.1 i1.2
        have r2 := rd_range hb.mem _ i2.1 i2.2
        generalize rd b (Int.tmod p b.length) = v1 at r1 ⊢
        generalize rd b (Int.tmod (p * 7 + 3) b.length) = v2 at r2 ⊢
        have d0 : 0 ≤ Int.tdiv p b.length ∧ Int.tdiv p b.length ≤ p := by
          rw [tdiv_pos _ _ h0]
          exact ⟨Int.ediv_nonneg h0 (by omega), Int.ediv_le_self _ h0⟩
        generalize Int.tdiv p b.length = dv at d0 ⊢
        simp (disch := omega) only [w64]
        have hx0 : 0 ≤ v1 * 131 + v2 * 1117 + p * 29 + dv * 53 := by omega
        have hx1 : v1 * 131 + v2 * 1117 + p * 29 + dv * 53 < 1000000000 := by omega
        generalize v1 * 131 + v2 * 1117 + p * 29 + dv * 53 = X at hx0 hx1 ⊢
        rw [tdiv_pos X 64 hx0, w64 (x := X / 64) (by omega) (by omega)]
        have ht := tmod_range (Go.bits .xor .i64 X (X / 64)) n (xor_nonneg _ _ (by omega) (by omega) (by omega) (by omega)) (by omega)
        exact EvS.now ⟨ht.1, fun _ => ht.2, fun h => by omega, rfl⟩

theorem one_ok (b : List Int) (p : Int) (l : List Int) (hb : BytesOk b) (h0 : 0 ≤ p) (h1 : p ≤ 100000) (hl : 1 ≤ l.length) :
    EvS (fun k => spec_reader_one.f k b p l) (fun r => r.1 ∈ l ∧ r.2 = p + 1) := by
  simp only [spec_reader_one.f]
  refine EvS.bind (pick_ok b p l.length hb h0 h1) ?_
  rintro ⟨v, q⟩ ⟨a1, a2, a3, a4⟩
  have a5 := a2 (by omega)
  refine EvS.pos a1 (EvS.pos a5 ?_)
  exact EvS.now ⟨rd_mem _ a1 a5, a4⟩
/-! ## Rounding half to even, and loans that are paid back: plain numbers. -/
def rEven (n num den : Int) : Int := if 2 * (n * num % den) > den ∨ (2 * (n * num % den) = den ∧ n * num / den % 2 = 1) then n * num / den + 1 else n * num / den

theorem rEven_mono {num den n m : Int} (hd : 1 ≤ den) (hn : 0 ≤ num) (h0 : 0 ≤ n) (h : n ≤ m) : rEven n num den ≤ rEven m num den := by
  have ha : n * num ≤ m * num := Int.mul_le_mul_of_nonneg_right h hn
  have hq : n * num / den ≤ m * num / den := Int.ediv_le_ediv (by omega) ha
  have e1 := Int.mul_ediv_add_emod (n * num) den
  have e2 := Int.mul_ediv_add_emod (m * num) den
  unfold rEven
  rcases Int.lt_or_eq_of_le hq with hlt | heq
  · split <;> split <;> omega
  · rw [← heq] at e2 ⊢
    generalize n * num / den = q at *
    generalize n * num % den = r1 at *
    generalize m * num % den = r2 at *
    have hr : r1 ≤ r2 := by omega
    split <;> split <;> omega

theorem rEven_bound {num den n : Int} (hd : 1 ≤ den) (hn : 0 ≤ num) (hm : num ≤ den) (h0 : 0 ≤ n) : 0 ≤ rEven n num den ∧ rEven n num den ≤ n + 1 := by
  have h1 : 0 ≤ n * num := Int.mul_nonneg h0 hn
  have h2 : n * num ≤ n * den := Int.mul_le_mul_of_nonneg_left hm h0
  have h3 : 0 ≤ n * num / den := Int.ediv_nonneg h1 (by omega)
  have h4 : n * num / den ≤ n := Int.ediv_le_of_le_mul (by omega) h2
  unfold rEven
  split <;> omega

/-- The other way to round: to the nearest, and back by one where two are as near. -/
theorem near_even {a den : Int} (hd : 1 ≤ den) (ha : 0 ≤ a) :
    (if 2 * a % den = 0 ∧ 2 * a / den % 2 = 1 ∧ (2 * a + den) / (2 * den) % 2 = 1 then (2 * a + den) / (2 * den) - 1 else (2 * a + den) / (2 * den)) =
    (if 2 * (a % den) > den ∨ (2 * (a % den) = den ∧ a / den % 2 = 1) then a / den + 1 else a / den) := by
  have e1 := Int.mul_ediv_add_emod a den
  have r0 := Int.emod_nonneg a (show den ≠ 0 by omega)
  have r1 := Int.emod_lt_of_pos a (show 0 < den by omega)
  generalize hq : a / den = q at *
  generalize hr : a % den = r at *
  have key : ∀ (x y c : Int), 0 < y → c * y ≤ x → x < (c + 1) * y → x / y = c := by
    intro x y c hy h1 h2
    apply Int.le_antisymm
    · have := Int.ediv_lt_of_lt_mul hy h2
      omega
    · exact (Int.le_ediv_iff_mul_le hy).2 h1
  by_cases hc : den ≤ 2 * r
  · have n1 : (2 * a + den) / (2 * den) = q + 1 := by
      apply key _ _ _ (by omega)
      · have : (q + 1) * (2 * den) = 2 * (den * q) + 2 * den := by rw [Int.add_mul, Int.mul_comm q, Int.mul_assoc]; omega
        omega
      · have : (q + 1 + 1) * (2 * den) = 2 * (den * q) + 4 * den := by rw [Int.add_mul, Int.add_mul, Int.mul_comm q, Int.mul_assoc]; omega
        omega
    have n2 : 2 * a / den = 2 * q + 1 := by
      apply key _ _ _ (by omega)
      · have : (2 * q + 1) * den = 2 * (den * q) + den := by rw [Int.add_mul, Int.mul_assoc, Int.mul_comm q]; omega
        omega
      · have : (2 * q + 1 + 1) * den = 2 * (den * q) + 2 * den := by rw [Int.add_mul, Int.add_mul, Int.mul_assoc, Int.mul_comm q]; omega
        omega
    have e2 := Int.mul_ediv_add_emod (2 * a) den
    rw [n2] at e2
    have e3 : den * (2 * q + 1) = 2 * (den * q) + den := by rw [Int.mul_add, Int.mul_left_comm]; omega
    rw [n1, n2]
    generalize hs : 2 * a % den = s at *
    have e4 : s = 2 * r - den := by omega
    split <;> split <;> omega
  · have n1 : (2 * a + den) / (2 * den) = q := by
      apply key _ _ _ (by omega)
      · have : q * (2 * den) = 2 * (den * q) := by rw [Int.mul_comm q, Int.mul_assoc]
        omega
      · have : (q + 1) * (2 * den) = 2 * (den * q) + 2 * den := by rw [Int.add_mul, Int.mul_comm q, Int.mul_assoc]; omega
        omega
    have n2 : 2 * a / den = 2 * q := by
      apply key _ _ _ (by omega)
      · have : 2 * q * den = 2 * (den * q) := by rw [Int.mul_assoc, Int.mul_comm q]
        omega
      · have : (2 * q + 1) * den = 2 * (den * q) + den := by rw [Int.add_mul, Int.mul_assoc, Int.mul_comm q]; omega
        omega
    rw [n1, n2]
    split <;> split <;> omega

section
variable (num den pay : Int)
/-- Nothing is owed any more after some periods: as the program looks at it. -/
def paidI : Nat → Int → Bool
  | 0, n => decide (n = 0)
  | k + 1, n => if n = 0 then true else if mx (n + rEven n num den - pay) 0 ≥ n then false else paidI k (mx (n + rEven n num den - pay) 0)
/-- The same as the reference looks at it. -/
def paidS : Nat → Int → Bool
  | 0, n => decide (n ≤ 0)
  | k + 1, n => if n > 0 then (if n + rEven n num den - pay > 2000000 then false else paidS k (n + rEven n num den - pay)) else decide (n ≤ 0)
/-- What is owed after each of at most some periods. -/
def owedL : Nat → Int → Option (List Int)
  | 0, _ => some []
  | k + 1, n => if n > 0 then (if mx (n + rEven n num den - pay) 0 > 1000000 then none else (owedL k (mx (n + rEven n num den - pay) 0)).map fun l => mx (n + rEven n num den - pay) 0 :: l) else some []
variable {num den pay}
theorem mx0 (x : Int) : mx x 0 = if x < 0 then 0 else x := rfl
theorem paidS_never (hd : 1 ≤ den) (hn : 0 ≤ num) (k : Nat) : ∀ n, 0 < n → pay ≤ rEven n num den → paidS num den pay k n = false := by
  induction k with
  | zero => intro n h0 h; simp [paidS]; omega
  | succ k ih =>
    intro n h0 h
    rw [paidS, if_pos h0]
    split
    · rfl
    · exact ih _ (by omega) (Int.le_trans h (rEven_mono hd hn (by omega) (by omega)))
theorem paidS_zero (k : Nat) (n : Int) (h : n ≤ 0) : paidS num den pay k n = true := by
  cases k with
  | zero => simp [paidS]; omega
  | succ k => rw [paidS, if_neg (by omega)]; simp; omega
theorem paidI_zero (k : Nat) : paidI num den pay k 0 = true := by
  cases k <;> simp [paidI]
theorem paid_eq (hd : 1 ≤ den) (hn : 0 ≤ num) (k : Nat) : ∀ n, 0 ≤ n → n ≤ 1000000 → paidI num den pay k n = paidS num den pay k n := by
  induction k with
  | zero => intro n h0 h1; simp only [paidI, paidS]; congr 1; simp; omega
  | succ k ih =>
    intro n h0 h1
    by_cases hz : n = 0
    · subst hz; rw [paidI_zero, paidS_zero _ _ (by omega)]
    · rw [paidI, if_neg hz, paidS, if_pos (show n > 0 by omega), mx0]
      by_cases hneg : n + rEven n num den - pay < 0
      · rw [if_pos hneg, if_neg (by omega), if_neg (by omega), paidI_zero, paidS_zero _ _ (by omega)]
      · rw [if_neg hneg]
        by_cases hge : n + rEven n num den - pay ≥ n
        · rw [if_pos hge]
          split
          · rfl
          · rw [paidS_never hd hn k _ (by omega) (Int.le_trans (by omega) (rEven_mono hd hn h0 hge))]
        · rw [if_neg hge, if_neg (by omega)]
          exact ih _ (by omega) (by omega)
theorem owed_of_paid (k : Nat) : ∀ (f : Nat) (n : Int), k ≤ f → 0 < n → n ≤ 1000000 → paidI num den pay k n = true →
    ∃ l, owedL num den pay f n = some l ∧ 1 ≤ l.length ∧ l.length ≤ k ∧ l.getLast? = some 0 := by
  induction k with
  | zero => intro f n hf h0 h1 h; simp [paidI] at h; omega
  | succ k ih =>
    intro f n hf h0 h1 h
    obtain ⟨f, rfl⟩ : ∃ m, f = m + 1 := ⟨f - 1, by omega⟩
    rw [paidI, if_neg (by omega)] at h
    rw [owedL, if_pos h0]
    have hm : 0 ≤ mx (n + rEven n num den - pay) 0 := by rw [mx0]; split <;> omega
    generalize mx (n + rEven n num den - pay) 0 = m at *
    by_cases hge : m ≥ n
    · rw [if_pos hge] at h; cases h
    · rw [if_neg hge] at h
      rw [if_neg (by omega)]
      by_cases hz : m = 0
      · subst hz
        have : owedL num den pay f 0 = some [] := by cases f <;> simp [owedL]
        rw [this]
        exact ⟨[0], rfl, by simp, by simp, rfl⟩
      · obtain ⟨l, h2, h3, h4, h5⟩ := ih f m (by omega) (by omega) (by omega) h
        rw [h2]
        refine ⟨m :: l, rfl, by simp, by simp; omega, ?_⟩
        cases l with
        | nil => simp at h3
        | cons x l => rw [List.getLast?_cons_cons]; exact h5
theorem paid_of_owed (hd : 1 ≤ den) (hn : 0 ≤ num) (f : Nat) : ∀ (k : Nat) (n : Int) (l : List Int), 0 ≤ n → n ≤ 1000000 → owedL num den pay f n = some l → l.length ≤ k → l.getLast? = some 0 → paidI num den pay k n = true := by
  induction f with
  | zero => intro k n l h0 h1 h h2 h3; simp [owedL] at h; subst h; simp at h3
  | succ f ih =>
    intro k n l h0 h1 h h2 h3
    by_cases hz : n = 0
    · subst hz; exact paidI_zero k
    · rw [owedL, if_pos (by omega)] at h
      have hm : mx (n + rEven n num den - pay) 0 = if n + rEven n num den - pay < 0 then 0 else n + rEven n num den - pay := mx0 _
      generalize mx (n + rEven n num den - pay) 0 = m at *
      by_cases hb : m > 1000000
      · rw [if_pos hb] at h; cases h
      · rw [if_neg hb] at h
        obtain ⟨l', e1, rfl⟩ := Option.map_eq_some_iff.1 h
        obtain ⟨k, rfl⟩ : ∃ j, k = j + 1 := ⟨k - 1, by simp at h2; omega⟩
        have hk : paidI num den pay k m = true := by
          cases l' with
          | nil =>
            simp at h3
            subst h3
            exact paidI_zero k
          | cons x l' =>
            rw [List.getLast?_cons_cons] at h3
            exact ih k m _ (by split at hm <;> omega) (by omega) e1 (by simpa using h2) h3
        rw [paidI, if_neg hz]
        rw [mx0, ← hm]
        by_cases hge : m ≥ n
        · exfalso
          have hp : pay ≤ rEven n num den := by split at hm <;> omega
          have hmm : m = n + rEven n num den - pay := by split at hm <;> omega
          have h4 := paidS_never (pay := pay) hd hn k m (by omega) (Int.le_trans hp (rEven_mono hd hn h0 (by omega)))
          rw [← paid_eq hd hn k m (by omega) (by omega), hk] at h4
          cases h4
        · rw [if_neg hge]; exact hk
end
/-! ## Parts of amounts. -/
def VPart (n num den : Int) : Prop := 0 ≤ n ∧ n ≤ 1000000 ∧ 1 ≤ den ∧ den ≤ 1000 ∧ 0 ≤ num ∧ num ≤ den
instance (n num den : Int) : Decidable (VPart n num den) := by unfold VPart; infer_instance
theorem validPart_eq (n num den : Int) : impl_validPart.f n num den = some (decide (VPart n num den)) := by
  unfold impl_validPart.f impl_ValidRate.f VPart
  split
  · split
    · split
      · split
        · split
          · simp only [Option.bind_some]; exact congrArg some (decide_eq_decide.2 (by omega))
          · simp only [Option.bind_some]; exact congrArg some (decide_eq_false (by omega)).symm
        · simp only [Option.bind_some]; exact congrArg some (decide_eq_false (by omega)).symm
      · simp only [Option.bind_some]; exact congrArg some (decide_eq_false (by omega)).symm
    · exact congrArg some (decide_eq_false (by omega)).symm
  · exact congrArg some (decide_eq_false (by omega)).symm
theorem prod_range {n num den : Int} (h : VPart n num den) : 0 ≤ n * num ∧ n * num ≤ 1000000000 := by
  obtain ⟨h1, h2, h3, h4, h5, h6⟩ := h
  have a := Int.mul_nonneg h1 h5
  have b : n * num ≤ 1000000 * 1000 := Int.mul_le_mul h2 (by omega) h5 (by omega)
  omega
theorem roundEven_eq {n num den : Int} (h : VPart n num den) : impl_RoundEven.f n num den = some (rEven n num den) := by
  have hp := prod_range h
  unfold impl_RoundEven.f
  rw [validPart_eq, decide_eq_true h]
  obtain ⟨h1, h2, h3, h4, h5, h6⟩ := h
  simp only [Option.bind_some, if_true]
  rw [if_neg (by omega)]
  unfold rEven
  rw [w64 (x := n * num) (by omega) (by omega)]
  generalize n * num = P at *
  have q0 : 0 ≤ P / den := Int.ediv_nonneg hp.1 (by omega)
  have q1 : P / den ≤ P := Int.ediv_le_self _ hp.1
  have r0 := Int.emod_nonneg P (show den ≠ 0 by omega)
  have r1 := Int.emod_lt_of_pos P (show 0 < den by omega)
  rw [tdiv_pos P den hp.1, tmod_pos P den hp.1]
  rw [w64 (x := P / den) (by omega) (by omega), w64 (x := P / den + 1) (by omega) (by omega), w64 (x := 2 * (P % den)) (by omega) (by omega), tmod_pos (P / den) 2 q0]
  split
  · rw [if_pos (by omega)]
  · split
    · split
      · rw [if_pos (by omega)]
      · rw [if_neg (by omega)]
    · rw [if_neg (by omega)]

theorem even_eq {n num den : Int} (h1 : 0 ≤ n) (h2 : n ≤ 2000000) (h3 : 1 ≤ den) (h4 : den ≤ 1000) (h5 : 0 ≤ num) (h6 : num ≤ den) : spec_even.f n num den = some (rEven n num den) := by
  have hp : 0 ≤ n * num ∧ n * num ≤ 2000000000 := ⟨Int.mul_nonneg h1 h5, by have : n * num ≤ 2000000 * 1000 := Int.mul_le_mul h2 (by omega) h5 (by omega); omega⟩
  have e0 : wrap64 (2 * den) = 2 * den := w64 (by omega) (by omega)
  have e1 : wrap64 (2 * n) = 2 * n := w64 (by omega) (by omega)
  have e2 : 2 * n * num = 2 * (n * num) := Int.mul_assoc _ _ _
  have e3 : wrap64 (2 * n * num) = 2 * (n * num) := by rw [e2]; exact w64 (by omega) (by omega)
  have hn := near_even (a := n * num) h3 hp.1
  unfold rEven
  rw [← hn]
  unfold spec_even.f spec_near.f
  rw [e0, e1, e3, if_neg (by omega)]
  generalize n * num = P at *
  have e4 : wrap64 (2 * P + den) = 2 * P + den := w64 (by omega) (by omega)
  rw [e4, tdiv_pos (2 * P + den) (2 * den) (by omega), tdiv_pos (2 * P) den (by omega), tmod_pos (2 * P) den (by omega)]
  have q0 : 0 ≤ (2 * P + den) / (2 * den) := Int.ediv_nonneg (by omega) (by omega)
  have q1 : (2 * P + den) / (2 * den) ≤ 2 * P + den := Int.ediv_le_self _ (by omega)
  have q2 : 0 ≤ 2 * P / den := Int.ediv_nonneg (by omega) (by omega)
  have q3 : 2 * P / den ≤ 2 * P := Int.ediv_le_self _ (by omega)
  rw [w64 (x := (2 * P + den) / (2 * den)) (by omega) (by omega), w64 (x := 2 * P / den) (by omega) (by omega)]
  simp only [Option.bind_some]
  rw [if_neg (by omega), tmod_pos _ 2 q0, tmod_pos _ 2 q2, w64 (x := (2 * P + den) / (2 * den) - 1) (by omega) (by omega)]
  split
  · split
    · split
      · rw [if_pos ⟨by assumption, by assumption, by assumption⟩]
      · rw [if_neg (by omega)]
    · rw [if_neg (by omega)]
  · rw [if_neg (by omega)]

theorem anAmount_ok (b : List Int) (p : Int) (hb : BytesOk b) (h0 : 0 ≤ p) (h1 : p ≤ 1000) :
    EvS (fun k => spec_anAmount.f k b p) (fun r => r.2 = p + 3) := by
  simp only [spec_anAmount.f]
  refine EvS.bind (pick_ok b p 200 hb (by omega) (by omega)) ?_
  rintro ⟨v1, p1⟩ ⟨a1, a2, a3, a4⟩
  refine EvS.bind (pick_ok b p1 250 hb (by simp at a4; omega) (by simp at a4; omega)) ?_
  rintro ⟨v2, p2⟩ ⟨b1, b2, b3, b4⟩
  refine EvS.bind (one_ok b p2 _ hb (by simp at a4 b4; omega) (by simp at a4 b4; omega) (by simp)) ?_
  rintro ⟨v3, p3⟩ ⟨c1, c2⟩
  exact EvS.now (by simp at a4 b4 c2 ⊢; omega)

theorem someRate_ok (b : List Int) (p : Int) (hb : BytesOk b) (h0 : 0 ≤ p) (h1 : p ≤ 1000) :
    EvS (fun k => spec_someRate.f k b p) (fun r => r.2.2 = p + 4) := by
  simp only [spec_someRate.f]
  refine EvS.bind (pick_ok b p 50 hb (by omega) (by omega)) ?_
  rintro ⟨v1, p1⟩ ⟨a1, a2, a3, a4⟩
  refine EvS.bind (one_ok b p1 _ hb (by simp at a4; omega) (by simp at a4; omega) (by simp)) ?_
  rintro ⟨v2, p2⟩ ⟨b1, b2⟩
  refine EvS.bind (pick_ok b p2 _ hb (by simp at a4 b2; omega) (by simp at a4 b2; omega)) ?_
  rintro ⟨v3, p3⟩ ⟨c1, c2, c3, c4⟩
  refine EvS.bind (one_ok b p3 _ hb (by simp at a4 b2 c4; omega) (by simp at a4 b2 c4; omega) (by simp)) ?_
  rintro ⟨v4, p4⟩ ⟨d1, d2⟩
  exact EvS.now (by simp at a4 b2 c4 d2 ⊢; omega)

theorem anyRate_ok (b : List Int) (p : Int) (hb : BytesOk b) (h0 : 0 ≤ p) (h1 : p ≤ 1000) :
    EvS (fun k => spec_anyRate.f k b p) (fun r => p ≤ r.2.2 ∧ r.2.2 ≤ p + 6) := by
  simp only [spec_anyRate.f]
  refine EvS.bind (someRate_ok b p hb h0 h1) ?_
  rintro ⟨v1, v2, p1⟩ a1
  simp only at a1 ⊢
  refine EvS.bind (pick_ok b p1 16 hb (by omega) (by omega)) ?_
  rintro ⟨v3, p2⟩ ⟨b1, b2, b3, b4⟩
  simp only at b4 ⊢
  refine EvS.ite (fun _ => ?_) (fun _ => EvS.ite (fun _ => ?_) (fun _ => ?_))
  · refine EvS.bind (one_ok b p2 _ hb (by omega) (by omega) (by simp)) ?_
    rintro ⟨v4, p4⟩ ⟨d1, d2⟩
    exact EvS.now (by simp at d2 ⊢; omega)
  · refine EvS.bind (one_ok b p2 _ hb (by omega) (by omega) (by simp)) ?_
    rintro ⟨v4, p4⟩ ⟨d1, d2⟩
    exact EvS.now (by simp at d2 ⊢; omega)
  · exact EvS.now (by simp; omega)

theorem draw_ok (l : List Int) (h : ∀ x ∈ l, 0 ≤ x ∧ x ≤ 255) : EvS (fun k => spec_DrawLeastPay.f k l) (fun _ => True) := by
  obtain ⟨b, e, hb⟩ := newReader_ok l h
  simp only [spec_DrawLeastPay.f]
  refine EvS.call e ?_
  refine EvS.bind (anAmount_ok b 0 hb (by omega) (by omega)) ?_
  rintro ⟨v1, p1⟩ a1
  simp only at a1 ⊢
  refine EvS.bind (anyRate_ok b p1 hb (by omega) (by omega)) ?_
  rintro ⟨v2, v3, p2⟩ a2
  simp only at a2 ⊢
  refine EvS.bind (one_ok b p2 _ hb (by omega) (by omega) (by simp)) ?_
  rintro ⟨v4, p3⟩ a3
  exact EvS.now trivial

/-! ## The walks. -/
theorem impl_paid (num den pay m : Int) (hm : 0 ≤ m) (hm2 : m ≤ 100) (hp : 0 ≤ pay) (hp2 : pay ≤ 2000000) (d : Nat) : ∀ (n i : Int), VPart n num den → i + d = m → 0 ≤ i →
    EvS (fun k => impl_paidIn.l0 k n pay m i num den) (· = paidI num den pay d n) := by
  induction d with
  | zero =>
    intro n i hv hi h0
    refine EvS.step (fun k => by rw [impl_paidIn.l0]) ?_
    refine EvS.neg (by omega) (EvS.now ?_)
    simp only [paidI]; exact beq_dec _ _
  | succ d ih =>
    intro n i hv hi h0
    refine EvS.step (fun k => by rw [impl_paidIn.l0]) ?_
    refine EvS.pos (by omega) ?_
    rw [paidI]
    by_cases hz : n = 0
    · rw [if_pos hz]; exact EvS.pos hz (EvS.now rfl)
    · rw [if_neg hz]
      refine EvS.neg hz (EvS.call (roundEven_eq hv) ?_)
      have hb := rEven_bound hv.2.2.1 hv.2.2.2.2.1 hv.2.2.2.2.2 hv.1
      have h1 := hv.2.1
      have h2 := hv.1
      rw [w64 (x := n + rEven n num den) (by omega) (by omega), w64 (x := n + rEven n num den - pay) (by omega) (by omega), w64 (x := i + 1) (by omega) (by omega)]
      have hm0 : mx (n + rEven n num den - pay) 0 = if n + rEven n num den - pay < 0 then 0 else n + rEven n num den - pay := rfl
      generalize mx (n + rEven n num den - pay) 0 = q at *
      by_cases hge : q ≥ n
      · rw [if_pos hge]; exact EvS.pos hge (EvS.now rfl)
      · rw [if_neg hge]
        exact EvS.neg hge (ih q (i + 1) ⟨by split at hm0 <;> omega, by omega, hv.2.2⟩ (by omega) (by omega))

theorem spec_paid (num den pay m : Int) (hm : 0 ≤ m) (hm2 : m ≤ 100) (hp : 0 ≤ pay) (hp2 : pay ≤ 2000000) (h3 : 1 ≤ den) (h4 : den ≤ 1000) (h5 : 0 ≤ num) (h6 : num ≤ den) (d : Nat) : ∀ (n i : Int), n ≤ 2000000 → -2000000 ≤ n → i + d = m → 0 ≤ i →
    EvS (fun k => spec_paidIn.l0 k n pay m i num den) (· = paidS num den pay d n) := by
  induction d with
  | zero =>
    intro n i h1 h2 hi h0
    refine EvS.step (fun k => by rw [spec_paidIn.l0]) ?_
    refine EvS.neg (by omega) ?_
    refine EvS.step (fun k => by rw [spec_paidIn.j1]) ?_
    exact EvS.neg (by simp) (EvS.now rfl)
  | succ d ih =>
    intro n i h1 h2 hi h0
    refine EvS.step (fun k => by rw [spec_paidIn.l0]) ?_
    refine EvS.pos (by omega) ?_
    refine EvS.step (fun k => by rw [spec_paidIn.j1]) ?_
    rw [paidS]
    by_cases hz : n > 0
    · rw [if_pos hz]
      refine EvS.pos (by simp [hz]) (EvS.call (even_eq (by omega) h1 h3 h4 h5 h6) ?_)
      have hb := rEven_bound h3 h5 h6 (show 0 ≤ n by omega)
      rw [w64 (x := n + rEven n num den) (by omega) (by omega), w64 (x := n + rEven n num den - pay) (by omega) (by omega), w64 (x := i + 1) (by omega) (by omega)]
      by_cases hge : n + rEven n num den - pay > 2000000
      · rw [if_pos hge]; exact EvS.pos hge (EvS.now rfl)
      · rw [if_neg hge]; exact EvS.neg hge (ih _ _ (by omega) (by omega) (by omega) (by omega))
    · rw [if_neg hz]
      exact EvS.neg (by simp [hz]) (EvS.now rfl)

theorem search (n num den m : Int) (hv : VPart n num den) (hm : 1 ≤ m) (hm2 : m ≤ 60) (d : Nat) : ∀ lo hi : Int, 0 ≤ lo → lo ≤ hi → hi ≤ 2000000 → hi - lo ≤ d →
    (hi < 2000000 → paidI num den hi m.toNat n = true) → (0 < lo → paidI num den (lo - 1) m.toNat n = false) →
    ∃ r, EvS (fun k => impl_LeastPay.l0 k n m lo hi num den) (· = r) ∧ EvS (fun k => spec_LeastPay.l0 k n m lo hi num den) (· = r) ∧ 0 ≤ r ∧ r ≤ 2000000 ∧ (r < 2000000 → paidI num den r m.toNat n = true) ∧ (0 < r → paidI num den (r - 1) m.toNat n = false) := by
  induction d with
  | zero =>
    intro lo hi h0 h1 h2 h3 h4 h5
    obtain rfl : lo = hi := by omega
    refine ⟨lo, ?_, ?_, h0, h2, h4, h5⟩
    · refine EvS.step (fun k => by rw [impl_LeastPay.l0]) ?_
      exact EvS.neg (by omega) (EvS.now rfl)
    · refine EvS.step (fun k => by rw [spec_LeastPay.l0]) ?_
      exact EvS.neg (by omega) (EvS.now rfl)
  | succ d ih =>
    intro lo hi h0 h1 h2 h3 h4 h5
    by_cases hlt : lo < hi
    · have em : wrap64 (Int.tdiv (wrap64 (lo + hi)) 2) = (lo + hi) / 2 := by
        rw [w64 (x := lo + hi) (by omega) (by omega), tdiv_pos _ _ (by omega)]
        exact w64 (by omega) (by omega)
      have em1 : wrap64 ((lo + hi) / 2 + 1) = (lo + hi) / 2 + 1 := w64 (by omega) (by omega)
      have pi := impl_paid num den ((lo + hi) / 2) m (by omega) (by omega) (by omega) (by omega) m.toNat n 0 hv (by omega) (by omega)
      have ps := spec_paid num den ((lo + hi) / 2) m (by omega) (by omega) (by omega) (by omega) hv.2.2.1 hv.2.2.2.1 hv.2.2.2.2.1 hv.2.2.2.2.2 m.toNat n 0 (by have := hv.2.1; omega) (by have := hv.1; omega) (by omega) (by omega)
      rw [← paid_eq hv.2.2.1 hv.2.2.2.2.1 m.toNat n hv.1 hv.2.1] at ps
      cases hb : paidI num den ((lo + hi) / 2) m.toNat n with
      | true =>
        rw [hb] at pi ps
        obtain ⟨r, e1, e2, e3⟩ := ih lo ((lo + hi) / 2) h0 (by omega) (by omega) (by omega) (fun _ => hb) h5
        refine ⟨r, ?_, ?_, e3⟩
        · refine EvS.step (fun k => by rw [impl_LeastPay.l0]) ?_
          refine EvS.pos hlt ?_
          rw [em]
          exact EvS.bindv (by simp only [impl_paidIn.f]; exact pi) (EvS.pos rfl e1)
        · refine EvS.step (fun k => by rw [spec_LeastPay.l0]) ?_
          refine EvS.pos hlt ?_
          rw [em]
          exact EvS.bindv (by simp only [spec_paidIn.f]; exact ps) (EvS.pos rfl e2)
      | false =>
        rw [hb] at pi ps
        obtain ⟨r, e1, e2, e3⟩ := ih ((lo + hi) / 2 + 1) hi (by omega) (by omega) (by omega) (by omega) h4 (fun _ => by rw [show (lo + hi) / 2 + 1 - 1 = (lo + hi) / 2 by omega]; exact hb)
        refine ⟨r, ?_, ?_, e3⟩
        · refine EvS.step (fun k => by rw [impl_LeastPay.l0]) ?_
          refine EvS.pos hlt ?_
          rw [em, em1]
          exact EvS.bindv (by simp only [impl_paidIn.f]; exact pi) (EvS.neg (by simp) e1)
        · refine EvS.step (fun k => by rw [spec_LeastPay.l0]) ?_
          refine EvS.pos hlt ?_
          rw [em, em1]
          exact EvS.bindv (by simp only [spec_paidIn.f]; exact ps) (EvS.neg (by simp) e2)
    · obtain rfl : lo = hi := by omega
      refine ⟨lo, ?_, ?_, h0, h2, h4, h5⟩
      · refine EvS.step (fun k => by rw [impl_LeastPay.l0]) ?_
        exact EvS.neg (by omega) (EvS.now rfl)
      · refine EvS.step (fun k => by rw [spec_LeastPay.l0]) ?_
        exact EvS.neg (by omega) (EvS.now rfl)

theorem both (n num den m : Int) : ∃ r, EvS (fun k => impl_LeastPay.f k n num den m) (· = r) ∧ EvS (fun k => spec_LeastPay.f k n num den m) (· = r) ∧
    (r = -1 ∨ (VPart n num den ∧ 1 ≤ m ∧ m ≤ 60 ∧ 0 ≤ r ∧ r ≤ 2000000 ∧ (r < 2000000 → paidI num den r m.toNat n = true) ∧ (0 < r → paidI num den (r - 1) m.toNat n = false))) := by
  have sv : spec_validAmount.f n = some (decide (0 ≤ n ∧ n ≤ 1000000)) := by
    unfold spec_validAmount.f spec_inRange.f
    split
    · simp only [Option.bind_some]; exact congrArg some (decide_eq_decide.2 (by omega))
    · simp only [Option.bind_some]; exact congrArg some (decide_eq_false (by omega)).symm
  have sr : spec_validRate.f num den = some (decide (1 ≤ den ∧ den ≤ 1000 ∧ 0 ≤ num ∧ num ≤ den)) := by
    unfold spec_validRate.f spec_inRange.f
    split
    · simp only [Option.bind_some]
      by_cases c : den ≤ 1000
      · rw [if_pos (by simp [c])]
        split
        · simp only [Option.bind_some]; exact congrArg some (decide_eq_decide.2 (by omega))
        · simp only [Option.bind_some]; exact congrArg some (decide_eq_false (by omega)).symm
      · rw [if_neg (by simp [c])]; exact congrArg some (decide_eq_false (by omega)).symm
    · simp only [Option.bind_some]; rw [if_neg (by simp)]; exact congrArg some (decide_eq_false (by omega)).symm
  have si : spec_inRange.f m 1 60 = some (decide (1 ≤ m ∧ m ≤ 60)) := by
    unfold spec_inRange.f
    split
    · exact congrArg some (decide_eq_decide.2 (by omega))
    · exact congrArg some (decide_eq_false (by omega)).symm
  have j1 : EvS (fun k => impl_LeastPay.j0 k n m true num den) (· = -1) := by
    refine EvS.step (fun k => by rw [impl_LeastPay.j0]) ?_
    exact EvS.pos rfl (EvS.now rfl)
  have j2 : EvS (fun k => spec_LeastPay.j0 k n m true num den) (· = -1) := by
    refine EvS.step (fun k => by rw [spec_LeastPay.j0]) ?_
    exact EvS.pos rfl (EvS.now rfl)
  by_cases hv : VPart n num den ∧ 1 ≤ m ∧ m ≤ 60
  · obtain ⟨hv, h1, h2⟩ := hv
    obtain ⟨r, e1, e2, e3⟩ := search n num den m hv h1 h2 2000000 0 2000000 (by omega) (by omega) (by omega) (by omega) (by omega) (by omega)
    refine ⟨r, ?_, ?_, .inr ⟨hv, h1, h2, e3⟩⟩
    · simp only [impl_LeastPay.f]
      refine EvS.call (validPart_eq n num den) ?_
      refine EvS.pos (by simp [hv]) (EvS.neg (by omega) ?_)
      refine EvS.step (fun k => by rw [impl_LeastPay.j0]) ?_
      exact EvS.neg (by simp; omega) e1
    · simp only [spec_LeastPay.f]
      refine EvS.call sv (EvS.pos (by simp; exact ⟨hv.1, hv.2.1⟩) (EvS.call sr (EvS.pos (by simp; exact hv.2.2) (EvS.call si ?_))))
      refine EvS.step (fun k => by rw [spec_LeastPay.j0]) ?_
      exact EvS.neg (by simp; omega) e2
  · refine ⟨-1, ?_, ?_, .inl rfl⟩
    · simp only [impl_LeastPay.f]
      refine EvS.call (validPart_eq n num den) ?_
      refine EvS.ite (fun c => EvS.ite (fun _ => j1) (fun c2 => ?_)) (fun _ => j1)
      have : decide (m > 60) = true := by
        simp at c ⊢
        have : ¬ m ≤ 60 := fun h => hv ⟨c, by omega, h⟩
        omega
      rw [this]; exact j1
    · simp only [spec_LeastPay.f]
      refine EvS.call sv (EvS.ite (fun c => EvS.call sr (EvS.ite (fun c2 => EvS.call si ?_) (fun _ => j2))) (fun _ => j2))
      have : (!decide (1 ≤ m ∧ m ≤ 60)) = true := by
        simp at c c2 ⊢
        have : ¬ (1 ≤ m ∧ m ≤ 60) := fun h => hv ⟨⟨c.1, c.2, c2⟩, h⟩
        omega
      rw [this]; exact j2

theorem payBack_ok (num den pay : Int) (hp : 0 ≤ pay) (hp2 : pay ≤ 1000000) (d : Nat) : ∀ (n x10 : Int) (acc : List Int), VPart n num den → acc.length + d = 60 → ∃ t : Int × Bool,
    EvS (fun k => impl_payBack.l0 k n pay acc x10 num den) (fun r => r.1 = match owedL num den pay d n with | none => [] | some l => acc ++ l) := by
  induction d with
  | zero =>
    intro n x10 acc hv hl
    refine ⟨(0, true), ?_⟩
    refine EvS.step (fun k => by rw [impl_payBack.l0]) ?_
    have key : EvS (fun k => impl_payBack.j2 k n pay acc x10 false num den) (fun r => r.1 = match owedL num den pay 0 n with | none => [] | some l => acc ++ l) := by
      refine EvS.step (fun k => by rw [impl_payBack.j2]) ?_
      exact EvS.neg (by simp) (EvS.now (by simp [owedL]))
    refine EvS.ite (fun _ => ?_) (fun _ => key)
    rw [show decide ((acc.length : Int) < 60) = false by simp; omega]
    exact key
  | succ d ih =>
    intro n x10 acc hv hl
    refine ⟨(0, true), ?_⟩
    refine EvS.step (fun k => by rw [impl_payBack.l0]) ?_
    by_cases hz : n > 0
    · refine EvS.pos hz ?_
      refine EvS.step (fun k => by rw [impl_payBack.j2]) ?_
      refine EvS.pos (by simp; omega) (EvS.call (roundEven_eq hv) ?_)
      rw [owedL, if_pos hz]
      have hb := rEven_bound hv.2.2.1 hv.2.2.2.2.1 hv.2.2.2.2.2 hv.1
      have h1 := hv.2.1
      have h2 := hv.1
      rw [w64 (x := n + rEven n num den) (by omega) (by omega), w64 (x := n + rEven n num den - pay) (by omega) (by omega)]
      have hm0 : mx (n + rEven n num den - pay) 0 = if n + rEven n num den - pay < 0 then 0 else n + rEven n num den - pay := rfl
      generalize mx (n + rEven n num den - pay) 0 = q at *
      by_cases hge : q > 1000000
      · rw [if_pos hge]; exact EvS.pos hge (EvS.now rfl)
      · rw [if_neg hge]
        refine EvS.neg hge (EvS.pos (by omega) ?_)
        obtain ⟨_, h⟩ := ih q (wrap64 (x10 + rEven n num den)) (acc ++ [q]) ⟨by split at hm0 <;> omega, by omega, hv.2.2⟩ (by simp; omega)
        refine EvS.mono h (fun r hr => ?_)
        rw [hr]
        cases owedL num den pay d q <;> simp
    · refine EvS.neg hz ?_
      refine EvS.step (fun k => by rw [impl_payBack.j2]) ?_
      exact EvS.neg (by simp) (EvS.now (by simp [owedL, hz]))

theorem owedAfter_ok (n num den pay : Int) (hv : VPart n num den) : EvS (fun k => impl_OwedAfter.f k n num den pay) (· = if 0 ≤ pay ∧ pay ≤ 1000000 then (owedL num den pay 60 n).getD [] else []) := by
  have j1 : EvS (fun k => impl_payBack.j0 k n pay true num den) (fun r => r.1 = []) := by
    refine EvS.step (fun k => by rw [impl_payBack.j0]) ?_
    exact EvS.pos rfl (EvS.now rfl)
  simp only [impl_OwedAfter.f, impl_payBack.f]
  by_cases h : 0 ≤ pay ∧ pay ≤ 1000000
  · rw [if_pos h]
    obtain ⟨_, e⟩ := payBack_ok num den pay h.1 h.2 60 n 0 [] hv (by simp)
    refine EvS.bind (Q := fun r => r.1 = (owedL num den pay 60 n).getD []) ?_ (fun r hr => EvS.now hr)
    refine EvS.call (validPart_eq n num den) (EvS.pos (by simp [hv]) (EvS.neg (by omega) ?_))
    refine EvS.step (fun k => by rw [impl_payBack.j0]) ?_
    refine EvS.neg (by simp; omega) (EvS.mono e (fun r hr => ?_))
    rw [hr]
    cases owedL num den pay 60 n <;> simp
  · rw [if_neg h]
    refine EvS.bind (Q := fun r => r.1 = []) ?_ (fun r hr => EvS.now hr)
    refine EvS.call (validPart_eq n num den) (EvS.pos (by simp [hv]) (EvS.ite (fun _ => j1) (fun _ => ?_)))
    rw [show decide (pay > 1000000) = true by simp; omega]
    exact j1

theorem last_rd (l : List Int) (h : 1 ≤ l.length) (hl : l.length ≤ 1000) : wrap64 ((l.length : Int) - 1) = l.length - 1 ∧ l.getLast? = some (rd l ((l.length : Int) - 1)) := by
  refine ⟨w64 (by omega) (by omega), ?_⟩
  rw [List.getLast?_eq_getElem?]
  unfold rd
  rw [show ((l.length : Int) - 1).toNat = l.length - 1 by omega, List.getD_eq_getElem?_getD, List.getElem?_eq_getElem (by omega)]
  rfl
theorem owedL_len (num den pay : Int) (d : Nat) : ∀ (n : Int) (l : List Int), owedL num den pay d n = some l → l.length ≤ d ∧ ∀ x ∈ l, 0 ≤ x := by
  induction d with
  | zero => intro n l h; simp [owedL] at h; subst h; simp
  | succ d ih =>
    intro n l h
    rw [owedL] at h
    split at h
    · split at h
      · cases h
      · obtain ⟨l', e1, rfl⟩ := Option.map_eq_some_iff.1 h
        have := ih _ _ e1
        refine ⟨by simp; omega, fun x hx => ?_⟩
        rcases List.mem_cons.1 hx with rfl | hx
        · rw [mx0]; split <;> omega
        · exact this.2 x hx
    · injection h with h; subst h; simp

theorem FnLeastPay : laws_FnLeastPay.Pure := by
  intro l0 _ _ hw
  refine EvS.holds ?_
  simp only [laws_FnLeastPay.f]
  refine EvS.ite (fun _ => EvS.now rfl) (fun _ => ?_)
  refine EvS.bind (draw_ok l0 (fun x hx => u8_range (hw x hx))) ?_
  rintro ⟨n, num, den, m⟩ _
  obtain ⟨r, e1, e2, e3⟩ := both n num den m
  refine EvS.bindv e1 (EvS.bindv e2 (EvS.pos rfl ?_))
  have jt : EvS (fun k => laws_FnLeastPay.j0 k n m r true num den) (· = true) := by
    refine EvS.step (fun k => by rw [laws_FnLeastPay.j0]) ?_
    exact EvS.pos rfl (EvS.bindv e2 (EvS.now (by simp)))
  refine EvS.ite (fun _ => jt) (fun c1 => EvS.ite (fun _ => jt) (fun c2 => ?_))
  by_cases hz : n = 0
  · rw [show (n == 0) = true by simp [hz]]; exact jt
  · refine EvS.step (fun k => by rw [laws_FnLeastPay.j0]) ?_
    refine EvS.neg (by simp [hz]) ?_
    rcases e3 with rfl | ⟨hv, h1, h2, h3, h4, h5, h6⟩
    · omega
    · have hn : 0 < n := by have := hv.1; omega
      obtain ⟨l, g1, g2, g3, g4⟩ := owed_of_paid m.toNat 60 n (by omega) hn hv.2.1 (h5 (by omega))
      have o1 := owedAfter_ok n num den r hv
      rw [if_pos (by omega), g1] at o1
      have hlr := last_rd l g2 (by omega)
      refine EvS.bindv o1 ?_
      simp only [Option.getD_some]
      rw [hlr.1]
      have hr0 : rd l ((l.length : Int) - 1) = 0 := by
        have := hlr.2.symm.trans g4
        injection this
      refine EvS.neg (by omega) (EvS.neg (by omega) (EvS.pos (by omega) (EvS.pos (by omega) (EvS.pos hr0 ?_))))
      rw [w64 (x := r - 1) (by omega) (by omega)]
      have o2 := owedAfter_ok n num den (r - 1) hv
      by_cases hr : 0 < r
      · rw [if_pos (show 0 ≤ r - 1 ∧ r - 1 ≤ 1000000 by omega)] at o2
        cases ho : owedL num den (r - 1) 60 n with
        | none =>
          rw [ho] at o2
          exact EvS.bindv (a := []) o2 (EvS.pos (by simp) (EvS.now rfl))
        | some l2 =>
          rw [ho] at o2
          refine EvS.bindv (a := l2) o2 ?_
          have hb2 := owedL_len _ _ _ _ _ _ ho
          by_cases hl0 : l2.length = 0
          · exact EvS.pos (by omega) (EvS.now rfl)
          · have hlr2 := last_rd l2 (by omega) (by omega)
            rw [hlr2.1]
            refine EvS.neg (by omega) (EvS.ite (fun _ => EvS.now rfl) (fun c3 => EvS.pos (by omega) (EvS.pos (by omega) (EvS.now ?_))))
            have hge : 0 ≤ rd l2 ((l2.length : Int) - 1) := hb2.2 _ (rd_mem _ (by omega) (by omega))
            have hne : rd l2 ((l2.length : Int) - 1) ≠ 0 := by
              intro hz2
              have := paid_of_owed hv.2.2.1 hv.2.2.2.2.1 60 m.toNat n l2 hv.1 hv.2.1 ho (by omega) (by rw [hlr2.2, hz2])
              rw [h6 hr] at this
              cases this
            simp; omega
      · rw [if_neg (show ¬ (0 ≤ r - 1 ∧ r - 1 ≤ 1000000) by omega)] at o2
        exact EvS.bindv (a := []) o2 (EvS.pos (by simp) (EvS.now rfl))
end Go.Proofs.Ytimjnncfnoggeaa.Pure

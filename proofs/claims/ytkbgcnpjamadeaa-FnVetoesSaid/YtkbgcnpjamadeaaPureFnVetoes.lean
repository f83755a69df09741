/- Vetoes are those in each least coalition, and those who win alone in the dual body; and Vetoes is what the reference tells: for every code. Conditions: none. -/
import Derived.Test.YtkbgcnpjamadeaaMFnVetoesx0
import Derived.Test.YtkbgcnpjamadeaaMFnVetoesx1
import Derived.Test.YtkbgcnpjamadeaaMFnVetoesx2
import Derived.Test.YtkbgcnpjamadeaaMFnVetoesx3
import Derived.Test.YtkbgcnpjamadeaaMFnVetoesx4
import Derived.Test.YtkbgcnpjamadeaaMFnVetoesx5
import Derived.Test.YtkbgcnpjamadeaaMFnVetoesx6
import Derived.Test.YtkbgcnpjamadeaaBase
set_option linter.unusedVariables false
set_option linter.unusedSimpArgs false
namespace Go.Proofs.Ytkbgcnpjamadeaa.Pure
open Go.RowKit Go.Proofs.Ytkbgcnpjamadeaa.PFnVetoes Go.Proofs.YtkbgcnpjamadeaaW.PrintWords Go.Proofs.YtkbgcnpjamadeaaW.PrintLast Go.Proofs.YtkbgcnpjamadeaaW.PrintMore Go.Proofs.Ytkbgcnpjamadeaa.Base
theorem u8_range {x : Int} (h : (Lit.int .u8 x).wf = true) : 0 ≤ x ∧ x ≤ 255 := by
  simp [Lit.wf, IntKind.min, IntKind.max, IntKind.bits, IntKind.signed] at h
  omega
/-! ## The reader that draws. -/
structure BytesOk (b : List Int) : Prop where
  len : b.length ≤ 2000
  mem : ∀ x ∈ b, 0 ≤ x ∧ x ≤ 255

theorem newReader_ok (l : List Int) (h : ∀ x ∈ l, 0 ≤ x ∧ x ≤ 255) : ∃ b, spec_newReader.f l = some (b, 0) ∧ BytesOk b := by
  unfold spec_newReader.f
  by_cases c : (l.length : Int) > 2000
  · rw [if_pos c, if_pos (by omega)]
    exact ⟨_, rfl, by rw [List.length_take]; omega, fun x hx => h x (List.mem_of_mem_take hx)⟩
  · rw [if_neg c]
    exact ⟨_, rfl, by omega, h⟩

theorem pick_ok (b : List Int) (p n : Int) (hb : BytesOk b) (h0 : 0 ≤ p) (h1 : p ≤ 100000) :
    EvS (fun k => spec_reader_pick.f k b p n) (fun r => 0 ≤ r.1 ∧ (1 ≤ n → r.1 < n) ∧ (n < 1 → r.1 = 0) ∧ r.2 = p + 1) := by
  have hp : wrap64 (p + 1) = p + 1 := w64 (by omega) (by omega)
  have hq : wrap64 (p + 1 - 1) = p := by rw [show p + 1 - 1 = p by omega]; exact w64 (by omega) (by omega)
  have hbl := hb.len
  simp only [spec_reader_pick.f]
  rw [hp]
  by_cases hn : n < 1
  · refine EvS.pos hn ?_
    refine EvS.step (fun k => by rw [spec_reader_pick.j0]) ?_
    refine EvS.pos rfl ?_
    exact EvS.now ⟨by simp, fun h => by omega, fun _ => rfl, rfl⟩
  · refine EvS.neg hn ?_
    refine EvS.step (fun k => by rw [spec_reader_pick.j0]) ?_
    simp only [hq]
    by_cases hl : b.length = 0
    · refine EvS.pos (by simp [hl]) ?_
      exact EvS.now ⟨by simp, fun h => by simp; omega, fun _ => rfl, rfl⟩
    · refine EvS.neg (by simp; intro h; exact hl (by simp [h])) ?_
      by_cases hpl : p < b.length
      · refine EvS.pos hpl (EvS.pos h0 (EvS.neg (by omega) ?_))
        have hr := rd_range hb.mem p h0 hpl
        rw [w64 (by omega) (by omega)]
        have ht := tmod_range (rd b p) n (by omega) (by omega)
        exact EvS.now ⟨ht.1, fun _ => ht.2, fun h => by omega, rfl⟩
      · refine EvS.neg hpl (EvS.neg (by omega) ?_)
        have e1 : wrap64 (wrap64 (p * 7) + 3) = p * 7 + 3 := by
          rw [w64 (x := p * 7) (by omega) (by omega)]; exact w64 (by omega) (by omega)
        simp only [e1]
        have i1 := tmod_range p b.length h0 (by omega)
        have i2 := tmod_range (p * 7 + 3) b.length (by omega) (by omega)
        refine EvS.pos i1.1 (EvS.pos i1.2 (EvS.pos i2.1 (EvS.pos i2.2 (EvS.neg (by omega) ?_))))
        have r1 := rd_range hb.mem _ i1.1 i1.2
        have r2 := rd_range hb.mem _ i2.1 i2.2
        generalize rd b (Int.tmod p b.length) = v1 at r1 ⊢
        generalize rd b (Int.tmod (p * 7 + 3) b.length) = v2 at r2 ⊢
        have d0 : 0 ≤ Int.tdiv p b.length ∧ Int.tdiv p b.length ≤ p := by
          rw [tdiv_pos _ _ h0]
          exact ⟨Int.ediv_nonneg h0 (by omega), Int.ediv_le_self _ h0⟩
        generalize Int.tdiv p b.length = dv at d0 ⊢
        simp (disch := omega) only [w64]
        have hx0 : 0 ≤ v1 * 131 + v2 * 1117 + p * 29 + dv * 53 := by omega
        have hx1 : v1 * 131 + v2 * 1117 + p * 29 + dv * 53 < 1000000000 := by omega
        generalize v1 * 131 + v2 * 1117 + p * 29 + dv * 53 = X at hx0 hx1 ⊢
        rw [tdiv_pos X 64 hx0, w64 (x := X / 64) (by omega) (by omega)]
        have ht := tmod_range (Go.bits .xor .i64 X (X / 64)) n (xor_nonneg _ _ (by omega) (by omega) (by omega) (by omega)) (by omega)
        exact EvS.now ⟨ht.1, fun _ => ht.2, fun h => by omega, rfl⟩

theorem one_ok (b : List Int) (p : Int) (l : List Int) (hb : BytesOk b) (h0 : 0 ≤ p) (h1 : p ≤ 100000) (hl : 1 ≤ l.length) :
    EvS (fun k => spec_reader_one.f k b p l) (fun r => r.1 ∈ l ∧ r.2 = p + 1) := by
  simp only [spec_reader_one.f]
  refine EvS.bind (pick_ok b p l.length hb h0 h1) ?_
  rintro ⟨v, q⟩ ⟨a1, a2, a3, a4⟩
  have a5 := a2 (by omega)
  refine EvS.pos a1 (EvS.pos a5 ?_)
  exact EvS.now ⟨rd_mem _ a1 a5, a4⟩
/-! ## Lists of numbers. -/
theorem inRange_eq (n lo hi : Int) : spec_inRange.f n lo hi = some (decide (lo ≤ n ∧ n ≤ hi)) := by
  unfold spec_inRange.f
  split
  · exact congrArg some (decide_eq_decide.2 (by omega))
  · exact congrArg some (decide_eq_false (by omega)).symm
def AllW (xs : List Int) (lo hi : Int) : Prop := ∀ x ∈ xs, lo ≤ x ∧ x ≤ hi
instance (xs : List Int) (lo hi : Int) : Decidable (AllW xs lo hi) := by unfold AllW; infer_instance
theorem allW_cons (y : Int) (ys : List Int) (lo hi : Int) : AllW (y :: ys) lo hi ↔ (lo ≤ y ∧ y ≤ hi) ∧ AllW ys lo hi := by
  unfold AllW; simp
theorem allWithin_l0 (xs : List Int) (hl : xs.length ≤ 1099511627776) (lo hi : Int) (ys : List Int) : ∀ i : Int, At xs i ys → EvS (fun k => impl_allWithin.l0 k lo hi xs xs.length i) (· = decide (AllW ys lo hi)) := by
  induction ys with
  | nil =>
    intro i h
    refine EvS.step (fun k => by rw [impl_allWithin.l0]) ?_
    exact EvS.neg (by have := h.ge; omega) (EvS.now (by simp [AllW]))
  | cons y ys ih =>
    intro i h
    refine EvS.step (fun k => by rw [impl_allWithin.l0]) ?_
    refine EvS.pos h.lt (EvS.pos h.nonneg (EvS.pos h.lt ?_))
    rw [At.rd h]
    refine EvS.ite (fun c => EvS.now (decide_eq_false (fun g => by have := (allW_cons _ _ _ _).1 g; omega)).symm) (fun c1 => EvS.ite (fun c => EvS.now (decide_eq_false (fun g => by have := (allW_cons _ _ _ _).1 g; omega)).symm) (fun c2 => ?_))
    refine EvS.mono (ih _ (h.wnext (by omega))) (fun r hr => ?_)
    rw [hr]
    exact decide_eq_decide.2 ⟨fun g => (allW_cons _ _ _ _).2 ⟨by omega, g⟩, fun g => ((allW_cons _ _ _ _).1 g).2⟩
theorem allWithin_ok (xs : List Int) (hl : xs.length ≤ 1099511627776) (lo hi : Int) : EvS (fun k => impl_allWithin.f k xs lo hi) (· = decide (AllW xs lo hi)) := by
  simp only [impl_allWithin.f]
  exact allWithin_l0 xs hl lo hi xs 0 (At.zero xs)
theorem allIn_l0 (xs : List Int) (hl : xs.length ≤ 1099511627776) (lo hi : Int) (ys : List Int) : ∀ i : Int, At xs i ys → EvS (fun k => spec_allIn.l0 k xs lo hi i) (· = decide (AllW ys lo hi)) := by
  induction ys with
  | nil =>
    intro i h
    refine EvS.step (fun k => by rw [spec_allIn.l0]) ?_
    exact EvS.neg (by have := h.ge; omega) (EvS.now (by simp [AllW]))
  | cons y ys ih =>
    intro i h
    refine EvS.step (fun k => by rw [spec_allIn.l0]) ?_
    refine EvS.pos h.lt (EvS.pos h.nonneg ?_)
    rw [At.rd h]
    refine EvS.call (inRange_eq _ _ _) (EvS.ite (fun c => ?_) (fun c => EvS.now ?_))
    · have c := of_decide_eq_true c
      refine EvS.mono (ih _ (h.wnext (by omega))) (fun r hr => ?_)
      rw [hr]
      exact decide_eq_decide.2 ⟨fun g => (allW_cons _ _ _ _).2 ⟨by omega, g⟩, fun g => ((allW_cons _ _ _ _).1 g).2⟩
    · have c := ndec c
      exact (decide_eq_false (fun g => c ((allW_cons _ _ _ _).1 g).1)).symm
theorem allIn_ok (xs : List Int) (hl : xs.length ≤ 1099511627776) (lo hi : Int) : EvS (fun k => spec_allIn.f k xs lo hi) (· = decide (AllW xs lo hi)) := by
  simp only [spec_allIn.f]
  exact allIn_l0 xs hl lo hi xs 0 (At.zero xs)
/-- The first place of a number, counted from i on; -1 if it is not there. -/
def posF (v : Int) : Int → List Int → Int
  | _, [] => -1
  | i, x :: xs => if x = v then i else posF v (i + 1) xs
theorem posF_range (v : Int) (xs : List Int) : ∀ i : Int, 0 ≤ i → (v ∈ xs → i ≤ posF v i xs ∧ posF v i xs < i + xs.length) ∧ (v ∉ xs → posF v i xs = -1) := by
  induction xs with
  | nil => intro i h0; exact ⟨fun h => by simp at h, fun _ => rfl⟩
  | cons x xs ih =>
    intro i h0
    have h := ih (i + 1) (by omega)
    simp only [posF, List.length_cons]
    by_cases c : x = v
    · rw [if_pos c]; exact ⟨fun _ => by omega, fun g => absurd (by simp [c]) g⟩
    · rw [if_neg c]
      refine ⟨fun g => ?_, fun g => h.2 (fun g2 => g (List.mem_cons_of_mem _ g2))⟩
      have := h.1 ((List.mem_cons.1 g).resolve_left (fun e => c e.symm))
      omega
theorem posF_nonneg (v : Int) (xs : List Int) (i : Int) (h : 0 ≤ i) : (0 ≤ posF v i xs) ↔ v ∈ xs := by
  by_cases c : v ∈ xs
  · have := (posF_range v xs i h).1 c; exact ⟨fun _ => c, fun _ => by omega⟩
  · have := (posF_range v xs i h).2 c; exact ⟨fun g => by omega, fun g => absurd g c⟩
theorem isIn_l0 (xs : List Int) (hl : xs.length ≤ 1099511627776) (v : Int) (ys : List Int) : ∀ i : Int, At xs i ys → EvS (fun k => laws_isIn.l0 k xs v i) (· = decide (v ∈ ys)) := by
  induction ys with
  | nil =>
    intro i h
    refine EvS.step (fun k => by rw [laws_isIn.l0]) ?_
    exact EvS.neg (by have := h.ge; omega) (EvS.now (by simp))
  | cons y ys ih =>
    intro i h
    refine EvS.step (fun k => by rw [laws_isIn.l0]) ?_
    refine EvS.pos h.lt (EvS.pos h.nonneg ?_)
    rw [At.rd h]
    by_cases c : y = v
    · exact EvS.pos c (EvS.now (by simp [c]))
    · refine EvS.neg c (EvS.mono (ih _ (h.wnext (by omega))) (fun r hr => ?_))
      rw [hr]
      exact decide_eq_decide.2 ⟨fun g => List.mem_cons_of_mem _ g, fun g => (List.mem_cons.1 g).resolve_left (fun e => c e.symm)⟩
theorem isIn_ok (xs : List Int) (hl : xs.length ≤ 1099511627776) (v : Int) : EvS (fun k => laws_isIn.f k xs v) (· = decide (v ∈ xs)) := by
  simp only [laws_isIn.f]
  exact isIn_l0 xs hl v xs 0 (At.zero xs)
theorem equalInts_l0 (xs : List Int) (hl : xs.length ≤ 1099511627776) (ys : List Int) : ∀ i : Int, At xs i ys → EvS (fun k => laws_equalInts.l0 k xs xs i) (· = true) := by
  induction ys with
  | nil =>
    intro i h
    refine EvS.step (fun k => by rw [laws_equalInts.l0]) ?_
    exact EvS.neg (by have := h.ge; omega) (EvS.now rfl)
  | cons y ys ih =>
    intro i h
    refine EvS.step (fun k => by rw [laws_equalInts.l0]) ?_
    exact EvS.pos h.lt (EvS.pos h.nonneg (EvS.pos h.lt (EvS.pos (by simp) (ih _ (h.wnext (by omega))))))
theorem equalInts_ok (xs : List Int) (hl : xs.length ≤ 1099511627776) : EvS (fun k => laws_equalInts.f k xs xs) (· = true) := by
  simp only [laws_equalInts.f]
  exact EvS.pos (by trivial) (equalInts_l0 xs hl xs 0 (At.zero xs))
/-- Different numbers from 0 to n - 1. -/
def Diff (xs : List Int) (n : Int) : Prop := xs.Nodup ∧ ∀ x ∈ xs, 0 ≤ x ∧ x < n
instance (xs : List Int) (n : Int) : Decidable (Diff xs n) := by unfold Diff; infer_instance
def DiffF (pre ys : List Int) (n : Int) : Prop := ys.Nodup ∧ ∀ y ∈ ys, 0 ≤ y ∧ y < n ∧ y ∉ pre
instance (pre ys : List Int) (n : Int) : Decidable (DiffF pre ys n) := by unfold DiffF; infer_instance
theorem diffF_cons (pre : List Int) (y : Int) (ys : List Int) (n : Int) : DiffF pre (y :: ys) n ↔ (0 ≤ y ∧ y < n ∧ y ∉ pre) ∧ DiffF (y :: pre) ys n := by
  unfold DiffF
  constructor
  · rintro ⟨h1, h2⟩
    have h1 := List.nodup_cons.1 h1
    refine ⟨h2 y List.mem_cons_self, h1.2, fun z hz => ?_⟩
    have := h2 z (List.mem_cons_of_mem _ hz)
    refine ⟨this.1, this.2.1, fun hm => ?_⟩
    rcases List.mem_cons.1 hm with rfl | hm
    · exact h1.1 hz
    · exact this.2.2 hm
  · rintro ⟨h1, h2, h3⟩
    refine ⟨List.nodup_cons.2 ⟨fun hm => (h3 y hm).2.2 List.mem_cons_self, h2⟩, fun z hz => ?_⟩
    rcases List.mem_cons.1 hz with rfl | hz
    · exact h1
    · have := h3 z hz
      exact ⟨this.1, this.2.1, fun hm => this.2.2 (List.mem_cons_of_mem _ hm)⟩
theorem diffF_congr {p q ys : List Int} {n : Int} (h : ∀ x, x ∈ p ↔ x ∈ q) : DiffF p ys n ↔ DiffF q ys n := by
  unfold DiffF
  simp only [h]
theorem diffF_nil (xs : List Int) (n : Int) : DiffF [] xs n ↔ Diff xs n := by
  unfold DiffF Diff; simp
theorem diff_len {xs : List Int} {n : Int} (h : Diff xs n) : (xs.length : Int) ≤ n ∨ xs = [] := by
  rcases xs with _ | ⟨x, xs⟩
  · exact .inr rfl
  · left
    have h1 : 0 ≤ n := by have := h.2 x List.mem_cons_self; omega
    have h2 : (x :: xs) ⊆ (List.range n.toNat).map (fun m : Nat => (m : Int)) := by
      intro y hy
      have := h.2 y hy
      exact List.mem_map.2 ⟨y.toNat, List.mem_range.2 (by omega), by omega⟩
    have h3 := h.1.length_le_of_subset h2
    rw [List.length_map, List.length_range] at h3
    omega
theorem differentBelow_l0 (xs : List Int) (hl : xs.length ≤ 1099511627776) (n : Int) (ys : List Int) : ∀ (i : Int) (seen : List Bool) (pre : List Int), At xs i ys → (seen.length : Int) = n → (∀ v : Int, 0 ≤ v → v < n → (rdOf false seen v = true ↔ v ∈ pre)) →
    EvS (fun k => impl_differentBelow.l0 k n seen xs xs.length i) (· = decide (DiffF pre ys n)) := by
  induction ys with
  | nil =>
    intro i seen pre h hs hv
    refine EvS.step (fun k => by rw [impl_differentBelow.l0]) ?_
    exact EvS.neg (by have := h.ge; omega) (EvS.now (by simp [DiffF]))
  | cons y ys ih =>
    intro i seen pre h hs hv
    refine EvS.step (fun k => by rw [impl_differentBelow.l0]) ?_
    refine EvS.pos h.lt (EvS.pos h.nonneg (EvS.pos h.lt ?_))
    rw [At.rd h]
    refine EvS.ite (fun c => EvS.now (decide_eq_false (fun g => by have := ((diffF_cons _ _ _ _).1 g).1; omega)).symm) (fun c1 => EvS.ite (fun c => EvS.now (decide_eq_false (fun g => by have := ((diffF_cons _ _ _ _).1 g).1; omega)).symm) (fun c2 => EvS.pos (by omega) (EvS.pos (by omega) ?_)))
    have hy := hv y (by omega) (by omega)
    refine EvS.ite (fun c => EvS.now (decide_eq_false (fun g => ((diffF_cons _ _ _ _).1 g).1.2.2 (hy.1 c))).symm) (fun c3 => ?_)
    refine EvS.mono (ih _ (seen.set y.toNat true) (y :: pre) (h.wnext (by omega)) (by simpa using hs) (fun v h0 h1 => ?_)) (fun r hr => ?_)
    · unfold rdOf
      rw [List.getD_eq_getElem?_getD, List.getElem?_set]
      by_cases e : y = v
      · subst e
        rw [if_pos rfl, if_pos (by omega)]
        exact ⟨fun _ => List.mem_cons_self, fun _ => rfl⟩
      · rw [if_neg (by omega)]
        have := hv v h0 h1
        unfold rdOf at this
        rw [List.getD_eq_getElem?_getD] at this
        rw [this, List.mem_cons]
        exact ⟨fun g => .inr g, fun g => g.resolve_left (fun e2 => e e2.symm)⟩
    · rw [hr]
      exact decide_eq_decide.2 ⟨fun g => (diffF_cons _ _ _ _).2 ⟨⟨by omega, by omega, fun hm => c3 (hy.2 hm)⟩, g⟩, fun g => ((diffF_cons _ _ _ _).1 g).2⟩
theorem differentBelow_ok (xs : List Int) (hl : xs.length ≤ 1099511627776) (n : Int) (hn : n ≤ 1099511627776) (h0 : 0 ≤ n) : EvS (fun k => impl_differentBelow.f k xs n) (· = decide (Diff xs n)) := by
  simp only [impl_differentBelow.f]
  refine EvS.ite (fun c => EvS.now (decide_eq_false (fun g => ?_)).symm) (fun c => EvS.pos h0 (EvS.pos (by omega) ?_))
  · rcases diff_len g with h | h
    · omega
    · subst h; simp at c; omega
  · refine EvS.mono (differentBelow_l0 xs hl n xs 0 _ [] (At.zero xs) (by simp; omega) (fun v _ _ => ?_)) (fun r hr => ?_)
    · unfold rdOf
      rw [List.getD_eq_getElem?_getD, List.getElem?_replicate]
      split <;> simp
    · rw [hr]
      exact decide_eq_decide.2 (diffF_nil xs n)
/-! ## Bodies that vote. -/
def tot : List Int → Int
  | [] => 0
  | x :: xs => x + tot xs
theorem tot_range {xs : List Int} {hi : Int} (h0 : 0 ≤ hi) (h : AllW xs 0 hi) : 0 ≤ tot xs ∧ tot xs ≤ xs.length * hi := by
  induction xs with
  | nil => simp [tot]
  | cons x xs ih =>
    have h1 := (allW_cons _ _ _ _).1 h
    have h2 := ih h1.2
    simp only [tot, List.length_cons, Int.natCast_add, Int.add_mul]
    omega
theorem tot_bound {xs : List Int} (h : ∀ x ∈ xs, -1000000000000 ≤ x ∧ x ≤ 1000000000000) : -(1000000000000 * (xs.length : Int)) ≤ tot xs ∧ tot xs ≤ 1000000000000 * xs.length := by
  induction xs with
  | nil => simp [tot]
  | cons x xs ih =>
    have h1 := h x List.mem_cons_self
    have h2 := ih (fun y hy => h y (List.mem_cons_of_mem _ hy))
    simp only [tot, List.length_cons]
    omega
theorem spec_total_l0 (xs : List Int) (hl : xs.length ≤ 1000) (hx : ∀ x ∈ xs, -1000000000000 ≤ x ∧ x ≤ 1000000000000) (ys : List Int) : ∀ (i acc : Int), At xs i ys → acc + tot ys = tot xs → EvS (fun k => spec_total.l0 k xs acc i) (· = tot xs) := by
  induction ys with
  | nil =>
    intro i acc h e
    refine EvS.step (fun k => by rw [spec_total.l0]) ?_
    exact EvS.neg (by have := h.ge; omega) (EvS.now (by simp [tot] at e; exact e))
  | cons y ys ih =>
    intro i acc h e
    have h1 := h.len
    have h2 := h.nonneg
    have b1 := tot_bound hx
    have b2 := tot_bound (xs := ys) (fun z hz => hx z (h.sub z (List.mem_cons_of_mem _ hz)))
    have b3 := hx y h.mem
    simp only [tot, List.length_cons] at e h1
    refine EvS.step (fun k => by rw [spec_total.l0]) ?_
    refine EvS.pos h.lt (EvS.pos h.nonneg ?_)
    rw [At.rd h, w64 (x := acc + y) (by omega) (by omega)]
    exact ih _ _ (h.wnext (by omega)) (by omega)
theorem spec_total_ok (xs : List Int) (hl : xs.length ≤ 1000) (hx : ∀ x ∈ xs, -1000000000000 ≤ x ∧ x ≤ 1000000000000) : EvS (fun k => spec_total.f k xs) (· = tot xs) := by
  simp only [spec_total.f]
  exact spec_total_l0 xs hl hx xs 0 0 (At.zero _) (by omega)
theorem sumOf_l0 (xs : List Int) (hl : xs.length ≤ 1000) (hx : ∀ x ∈ xs, -1000000000000 ≤ x ∧ x ≤ 1000000000000) (ys : List Int) : ∀ (i acc : Int), At xs i ys → acc + tot ys = tot xs → EvS (fun k => impl_sumOf.l0 k acc xs xs.length i) (· = tot xs) := by
  induction ys with
  | nil =>
    intro i acc h e
    refine EvS.step (fun k => by rw [impl_sumOf.l0]) ?_
    exact EvS.neg (by have := h.ge; omega) (EvS.now (by simp [tot] at e; exact e))
  | cons y ys ih =>
    intro i acc h e
    have h1 := h.len
    have h2 := h.nonneg
    have b1 := tot_bound hx
    have b2 := tot_bound (xs := ys) (fun z hz => hx z (h.sub z (List.mem_cons_of_mem _ hz)))
    have b3 := hx y h.mem
    simp only [tot, List.length_cons] at e h1
    refine EvS.step (fun k => by rw [impl_sumOf.l0]) ?_
    refine EvS.pos h.lt (EvS.pos h.nonneg (EvS.pos h.lt ?_))
    rw [At.rd h, w64 (x := acc + y) (by omega) (by omega)]
    exact ih _ _ (h.wnext (by omega)) (by omega)
theorem sumOf_ok (xs : List Int) (hl : xs.length ≤ 1000) (hx : ∀ x ∈ xs, -1000000000000 ≤ x ∧ x ≤ 1000000000000) : EvS (fun k => impl_sumOf.f k xs) (· = tot xs) := by
  simp only [impl_sumOf.f]
  exact sumOf_l0 xs hl hx xs 0 0 (At.zero _) (by omega)
def VBody (ws : List Int) (need : Int) : Prop := (1 ≤ ws.length ∧ ws.length ≤ 12) ∧ AllW ws 0 100 ∧ 1 ≤ need ∧ need ≤ tot ws
instance (ws : List Int) (need : Int) : Decidable (VBody ws need) := by unfold VBody; infer_instance
theorem impl_ValidBody_ok (ws : List Int) (hl : ws.length ≤ 4000000) (need : Int) : EvS (fun k => impl_ValidBody.f k ws need) (· = decide (VBody ws need)) := by
  simp only [impl_ValidBody.f]
  refine EvS.ite (fun c => EvS.now (decide_eq_false (fun g => by have := g.1; omega)).symm) (fun c1 => EvS.ite (fun c => EvS.now (decide_eq_false (fun g => by have := g.1; omega)).symm) (fun c2 => ?_))
  refine EvS.bindv (allWithin_ok ws (by omega) 0 100) (EvS.ite (fun c3 => EvS.ite (fun c4 => ?_) (fun c4 => EvS.now (decide_eq_false (fun g => c4 g.2.2.1)).symm)) (fun c3 => EvS.now (decide_eq_false (fun g => ndec c3 g.2.1)).symm))
  have c3 := of_decide_eq_true c3
  exact EvS.bindv (sumOf_ok ws (by omega) (fun x hx => by have := c3 x hx; omega)) (EvS.now (decide_eq_decide.2 ⟨fun g => ⟨by omega, c3, c4, g⟩, fun g => g.2.2.2⟩))
theorem spec_validBody_ok (ws : List Int) (hl : ws.length ≤ 4000000) (need : Int) : EvS (fun k => spec_validBody.f k ws need) (· = decide (VBody ws need)) := by
  simp only [spec_validBody.f]
  refine EvS.call (inRange_eq _ _ _) (EvS.ite (fun c1 => EvS.bindv (allIn_ok ws (by omega) 0 100) (EvS.ite (fun c3 => ?_) (fun c3 => EvS.now (decide_eq_false (fun g => ndec c3 g.2.1)).symm))) (fun c1 => EvS.now (decide_eq_false (fun g => ndec c1 (by have := g.1; omega))).symm))
  have c1 := of_decide_eq_true c1
  have c3 := of_decide_eq_true c3
  exact EvS.bindv (spec_total_ok ws (by omega) (fun x hx => by have := c3 x hx; omega)) (EvS.call (inRange_eq _ _ _) (EvS.now (decide_eq_decide.2 ⟨fun g => ⟨by omega, c3, g⟩, fun g => g.2.2⟩)))
/-! ## Bodies that are drawn. -/
theorem someBody_l0 (b : List Int) (hb : BytesOk b) (d : Nat) : ∀ (n p : Int) (ws : List Int), n ≤ d → 0 ≤ p → p + 2 * d + 10 ≤ 10000 → ws.length + d ≤ 9 → AllW ws 0 100 → 1 ≤ ws.length + n →
    EvS (fun k => spec_someBody.l0 k n b p ws 0) (fun r => (1 ≤ r.1.length ∧ r.1.length ≤ ws.length + d ∧ AllW r.1 0 100) ∧ p ≤ r.2.2 ∧ r.2.2 ≤ p + 2 * d + 2) := by
  induction d with
  | zero =>
    intro n p ws h1 h2 h3 h4 h5 h6
    refine EvS.step (fun k => by rw [spec_someBody.l0]) ?_
    refine EvS.neg (by omega) (EvS.bindv (spec_total_ok ws (by omega) (fun x hx => by have := h5 x hx; omega)) ?_)
    refine EvS.bind (pick_ok _ _ _ hb (by omega) (by omega)) ?_
    rintro ⟨v1, _⟩ ⟨v1_0, v1_1, v1_2, rfl⟩
    dsimp only at v1_0 v1_1 v1_2 ⊢
    refine EvS.bind (one_ok _ _ _ hb (by omega) (by omega) (by simp)) ?_
    rintro ⟨v2, _⟩ ⟨v2_m, rfl⟩
    dsimp only at v2_m ⊢
    exact EvS.now ⟨⟨by dsimp only; omega, by dsimp only; omega, h5⟩, by dsimp only; omega, by dsimp only; omega⟩
  | succ d ih =>
    intro n p ws h1 h2 h3 h4 h5 h6
    refine EvS.step (fun k => by rw [spec_someBody.l0]) ?_
    refine EvS.ite (fun c => ?_) (fun c => ?_)
    · refine EvS.bind (pick_ok _ _ _ hb (by omega) (by omega)) ?_
      rintro ⟨v1, _⟩ ⟨v1_0, v1_1, v1_2, rfl⟩
      dsimp only at v1_0 v1_1 v1_2 ⊢
      refine EvS.bind (one_ok _ _ _ hb (by omega) (by omega) (by simp)) ?_
      rintro ⟨v2, _⟩ ⟨v2_m, rfl⟩
      dsimp only at v2_m ⊢
      rw [w64 (x := 1 + v1) (by omega) (by omega), w64 (x := n - 1) (by omega) (by omega)] at *
      refine EvS.pos (by omega) ?_
      have hv : 0 ≤ v2 ∧ v2 ≤ 100 := by
        have := v1_1 (by omega)
        simp at v2_m; omega
      refine EvS.mono (ih _ _ _ (by omega) (by omega) (by omega) (by simp; omega) ?_ (by simp; omega)) (fun r hr => ?_)
      · intro x hx
        rcases List.mem_append.1 hx with hx | hx
        · exact h5 x hx
        · rw [List.mem_singleton] at hx; omega
      · obtain ⟨⟨g1, g2, g3⟩, g4, g5⟩ := hr
        simp at g2
        exact ⟨⟨g1, by omega, g3⟩, by omega, by omega⟩
    · refine EvS.bindv (spec_total_ok ws (by omega) (fun x hx => by have := h5 x hx; omega)) ?_
      refine EvS.bind (pick_ok _ _ _ hb (by omega) (by omega)) ?_
      rintro ⟨v1, _⟩ ⟨v1_0, v1_1, v1_2, rfl⟩
      dsimp only at v1_0 v1_1 v1_2 ⊢
      refine EvS.bind (one_ok _ _ _ hb (by omega) (by omega) (by simp)) ?_
      rintro ⟨v2, _⟩ ⟨v2_m, rfl⟩
      dsimp only at v2_m ⊢
      exact EvS.now ⟨⟨by dsimp only; omega, by dsimp only; omega, h5⟩, by dsimp only; omega, by dsimp only; omega⟩
theorem someBody_ok (b : List Int) (p : Int) (hb : BytesOk b) (h0 : 0 ≤ p) (h1 : p ≤ 1000) :
    EvS (fun k => spec_someBody.f k b p) (fun r => (1 ≤ r.1.length ∧ r.1.length ≤ 8 ∧ AllW r.1 0 100) ∧ p ≤ r.2.2 ∧ r.2.2 ≤ p + 19) := by
  simp only [spec_someBody.f]
  refine EvS.bind (one_ok _ _ _ hb (by omega) (by omega) (by simp)) ?_
  rintro ⟨v1, _⟩ ⟨v1_m, rfl⟩
  dsimp only at v1_m ⊢
  have hv : 1 ≤ v1 ∧ v1 ≤ (8 : Nat) := by simp at v1_m; omega
  refine EvS.mono (someBody_l0 b hb 8 v1 _ [] hv.2 (by omega) (by omega) (by simp) (by simp [AllW]) (by simp; omega)) (fun r hr => ?_)
  obtain ⟨⟨g1, g2, g3⟩, g4, g5⟩ := hr
  simp at g2
  exact ⟨⟨g1, by omega, g3⟩, by omega, by omega⟩
theorem anyBody_l0 (b : List Int) (p need : Int) (d : Nat) : ∀ ws : List Int, ws.length + d = 9 → 1 ≤ ws.length → AllW ws (-1) 101 → EvS (fun k => spec_anyBody.l0 k b p ws need) (fun r => (1 ≤ r.1.length ∧ r.1.length ≤ 9 ∧ AllW r.1 (-1) 101) ∧ r.2.2 = p) := by
  induction d with
  | zero =>
    intro ws h1 h2 h3
    refine EvS.step (fun k => by rw [spec_anyBody.l0]) ?_
    exact EvS.neg (by omega) (EvS.now ⟨⟨h2, by dsimp only; omega, h3⟩, rfl⟩)
  | succ d ih =>
    intro ws h1 h2 h3
    refine EvS.step (fun k => by rw [spec_anyBody.l0]) ?_
    refine EvS.pos (by omega) (EvS.pos (by omega) (ih _ (by simp; omega) (by simp) ?_))
    intro x hx
    rcases List.mem_append.1 hx with hx | hx
    · exact h3 x hx
    · rw [List.mem_singleton] at hx; omega
theorem anyBody_ok (b : List Int) (p : Int) (hb : BytesOk b) (h0 : 0 ≤ p) (h1 : p ≤ 1000) :
    EvS (fun k => spec_anyBody.f k b p) (fun r => (1 ≤ r.1.length ∧ r.1.length ≤ 9 ∧ AllW r.1 (-1) 101) ∧ p ≤ r.2.2 ∧ r.2.2 ≤ p + 22) := by
  simp only [spec_anyBody.f]
  refine EvS.bind (someBody_ok b p hb h0 h1) ?_
  rintro ⟨ws, need, q⟩ ⟨⟨g1, g2, g3⟩, g4, g5⟩
  dsimp only at g1 g2 g3 g4 g5 ⊢
  have g6 : AllW ws (-1) 101 := fun x hx => by have := g3 x hx; omega
  refine EvS.bind (pick_ok _ _ _ hb (by omega) (by omega)) ?_
  rintro ⟨v1, _⟩ ⟨v1_0, v1_1, v1_2, rfl⟩
  dsimp only at v1_0 v1_1 v1_2 ⊢
  refine EvS.ite (fun _ => ?_) (fun _ => EvS.ite (fun _ => ?_) (fun _ => EvS.ite (fun _ => ?_) (fun _ => ?_)))
  · refine EvS.bindv (spec_total_ok ws (by omega) (fun x hx => by have := g3 x hx; omega)) ?_
    refine EvS.bind (one_ok _ _ _ hb (by omega) (by omega) (by simp)) ?_
    rintro ⟨v2, _⟩ ⟨v2_m, rfl⟩
    dsimp only at v2_m ⊢
    exact EvS.now ⟨⟨g1, by dsimp only; omega, g6⟩, by dsimp only; omega, by dsimp only; omega⟩
  · refine EvS.bind (one_ok _ _ _ hb (by omega) (by omega) (by simp)) ?_
    rintro ⟨v2, _⟩ ⟨v2_m, rfl⟩
    dsimp only at v2_m ⊢
    refine EvS.pos (by omega) (EvS.now ⟨⟨by simp; omega, by simp; omega, fun x hx => ?_⟩, by dsimp only; omega, by dsimp only; omega⟩)
    rcases List.mem_or_eq_of_mem_set hx with hx | hx
    · exact g6 x hx
    · simp at v2_m; omega
  · refine EvS.mono (anyBody_l0 b _ need (9 - ws.length) ws (by omega) g1 g6) (fun r hr => ?_)
    exact ⟨hr.1, by omega, by omega⟩
  · exact EvS.now ⟨⟨g1, by dsimp only; omega, g6⟩, by dsimp only; omega, by dsimp only; omega⟩
/-! ## Members who win. -/
def wsum (ws : List Int) : List Int → Int
  | [] => 0
  | m :: ms => rd ws m + wsum ws ms
theorem wsum_range {ws ms : List Int} (hw : AllW ws 0 100) (hm : ∀ m ∈ ms, 0 ≤ m ∧ m < ws.length) : 0 ≤ wsum ws ms ∧ wsum ws ms ≤ 100 * (ms.length : Int) := by
  induction ms with
  | nil => simp [wsum]
  | cons m ms ih =>
    have h1 := ih (fun x hx => hm x (List.mem_cons_of_mem _ hx))
    have h2 := hm m List.mem_cons_self
    have h3 := rd_range hw m h2.1 h2.2
    simp only [wsum, List.length_cons]; omega
def winP (ws : List Int) (need : Int) (ms : List Int) : Bool := decide (VBody ws need ∧ Diff ms ws.length ∧ wsum ws ms ≥ need)
theorem impl_wins_l0 (ws : List Int) (need : Int) (hw : AllW ws 0 100) (ms : List Int) (hl : ms.length ≤ 12) (hm : ∀ m ∈ ms, 0 ≤ m ∧ m < ws.length) (ys : List Int) : ∀ i acc : Int, At ms i ys → 0 ≤ acc → acc ≤ 100 * i →
    EvS (fun k => impl_Wins.l0 k acc ms ms.length i ws need) (· = decide (acc + wsum ws ys ≥ need)) := by
  induction ys with
  | nil =>
    intro i acc h a0 a1
    refine EvS.step (fun k => by rw [impl_Wins.l0]) ?_
    exact EvS.neg (by have := h.ge; omega) (EvS.now (by simp [wsum]))
  | cons y ys ih =>
    intro i acc h a0 a1
    have h1 := h.lt
    have h2 := h.nonneg
    have hy := hm y h.mem
    have hr := rd_range hw y hy.1 hy.2
    refine EvS.step (fun k => by rw [impl_Wins.l0]) ?_
    refine EvS.pos h.lt (EvS.pos h.nonneg (EvS.pos h.lt ?_))
    rw [At.rd h, w64 (x := acc + rd ws y) (by omega) (by omega), w64 (x := i + 1) (by omega) (by omega)]
    refine EvS.pos hy.1 (EvS.pos hy.2 (EvS.mono (ih (i + 1) (acc + rd ws y) h.next (by omega) (by omega)) (fun r hr => ?_)))
    rw [hr]
    exact decide_eq_decide.2 (by simp only [wsum]; omega)
theorem impl_Wins_ok (ws : List Int) (hl : ws.length ≤ 4000000) (need : Int) (ms : List Int) (hm : ms.length ≤ 4000000) : EvS (fun k => impl_Wins.f k ws need ms) (· = winP ws need ms) := by
  have jt : ¬ (VBody ws need ∧ Diff ms ws.length) → EvS (fun k => impl_Wins.j0 k ms true ws need) (· = winP ws need ms) := by
    intro g
    refine EvS.step (fun k => by rw [impl_Wins.j0]) ?_
    exact EvS.pos rfl (EvS.now (decide_eq_false (fun h => g ⟨h.1, h.2.1⟩)).symm)
  simp only [impl_Wins.f]
  refine EvS.bindv (impl_ValidBody_ok ws hl need) (EvS.ite (fun c1 => EvS.bindv (differentBelow_ok ms (by omega) _ (by omega) (by omega)) ?_) (fun c1 => jt (fun g => ndec c1 g.1)))
  have c1 := of_decide_eq_true c1
  by_cases c2 : Diff ms ws.length
  · rw [decide_eq_true c2]
    have hn := c1.1
    have hlen : ms.length ≤ 12 := by rcases diff_len c2 with g | g; · omega
                                     · subst g; simp
    refine EvS.step (fun k => by rw [impl_Wins.j0]) ?_
    refine EvS.neg (by simp) (EvS.mono (impl_wins_l0 ws need c1.2.1 ms hlen c2.2 ms 0 0 (At.zero _) (by omega) (by omega)) (fun r hr => ?_))
    rw [hr]
    exact decide_eq_decide.2 ⟨fun g => ⟨c1, c2, by omega⟩, fun g => by have := g.2.2; omega⟩
  · rw [decide_eq_false c2]
    exact jt (fun g => c2 g.2)
/-! ## Sets told as numbers. -/
def hasB (s : Int) : Nat → Bool
  | 0 => s % 2 == 1
  | n + 1 => hasB (s / 2) n
def pow2 : Nat → Int
  | 0 => 1
  | n + 1 => 2 * pow2 n
theorem pow2_pos (n : Nat) : 1 ≤ pow2 n := by
  induction n with
  | zero => simp [pow2]
  | succ n ih => simp only [pow2]; omega
theorem pow2_le (n : Nat) (h : n ≤ 40) : pow2 n ≤ 1099511627776 := by
  have mono : ∀ d n : Nat, pow2 n ≤ pow2 (n + d) := by
    intro d
    induction d with
    | zero => intro n; exact Int.le_refl _
    | succ d ih => intro n; have h1 := ih n; have h2 := pow2_pos (n + d); show pow2 n ≤ 2 * pow2 (n + d); omega
  have := mono (40 - n) n
  rw [show n + (40 - n) = 40 by omega] at this
  have e : pow2 40 = 1099511627776 := by decide
  omega
theorem pow2_12 (n : Nat) (h : n ≤ 12) : pow2 n ≤ 4096 := by
  have : ∀ n : Fin 13, pow2 n.val ≤ 4096 := by decide
  exact this ⟨n, by omega⟩
theorem hasB_add (m : Nat) : ∀ (s : Int) (i : Nat), 0 ≤ s → hasB s m = false → hasB (s + pow2 m) i = (decide (i = m) || hasB s i) := by
  induction m with
  | zero =>
    intro s i h0 h
    have h1 : s % 2 ≠ 1 := by simpa [hasB] using h
    cases i with
    | zero => simp only [hasB, pow2]; have : (s + 1) % 2 = 1 := by omega
              simp [this]
    | succ i => simp only [hasB, pow2]; have : (s + 1) / 2 = s / 2 := by omega
                simp [this]
  | succ m ih =>
    intro s i h0 h
    simp only [hasB] at h
    cases i with
    | zero =>
      simp only [hasB, pow2]
      have : (s + 2 * pow2 m) % 2 = s % 2 := by omega
      simp [this]
    | succ i =>
      simp only [hasB, pow2]
      have : (s + 2 * pow2 m) / 2 = s / 2 + pow2 m := by omega
      rw [this, ih _ _ (by omega) h]
      simp
def setS : List Int → Int
  | [] => 0
  | m :: ms => pow2 m.toNat + setS ms
theorem setS_nonneg (ms : List Int) : 0 ≤ setS ms := by
  induction ms with
  | nil => simp [setS]
  | cons m ms ih => have := pow2_pos m.toNat; simp only [setS]; omega
theorem hasB_zero (i : Nat) : hasB 0 i = false := by
  induction i with
  | zero => rfl
  | succ i ih => exact ih
theorem hasB_setS (ms : List Int) (hd : ms.Nodup) (h0 : ∀ m ∈ ms, 0 ≤ m) (i : Int) (hi : 0 ≤ i) : hasB (setS ms) i.toNat = decide (i ∈ ms) := by
  induction ms generalizing i with
  | nil => simp [setS, hasB_zero]
  | cons m ms ih =>
    have h1 := List.nodup_cons.1 hd
    have h2 := h0 m List.mem_cons_self
    have ih := ih h1.2 (fun x hx => h0 x (List.mem_cons_of_mem _ hx))
    simp only [setS]
    rw [Int.add_comm, hasB_add _ _ _ (setS_nonneg ms) (by rw [ih m h2]; exact decide_eq_false h1.1), ih i hi]
    rw [Bool.eq_iff_iff]
    simp only [Bool.or_eq_true, decide_eq_true_eq, List.mem_cons]
    have e : i.toNat = m.toNat ↔ i = m := by omega
    rw [e]
/-- The sum of those of the numbers, from place i on, whose place p tells. -/
def selW (p : Int → Bool) : Int → List Int → Int
  | _, [] => 0
  | i, y :: ys => (if p i = true then y else 0) + selW p (i + 1) ys
theorem selW_congr {p q : Int → Bool} (ys : List Int) : ∀ i : Int, (∀ j, i ≤ j → p j = q j) → selW p i ys = selW q i ys := by
  induction ys with
  | nil => intro i _; rfl
  | cons y ys ih => intro i h; simp only [selW]; rw [h i (Int.le_refl _), ih (i + 1) (fun j hj => h j (by omega))]
theorem selW_none (ys : List Int) : ∀ i : Int, selW (fun _ => false) i ys = 0 := by
  induction ys with
  | nil => intro i; rfl
  | cons y ys ih => intro i; simp [selW, ih]
theorem rd_cons_0 (y : Int) (ys : List Int) : rd (y :: ys) 0 = y := rfl
theorem rd_cons_s (y : Int) (ys : List Int) (i : Int) (h : 0 < i) : rd (y :: ys) i = rd ys (i - 1) := by
  unfold rd
  rw [show i.toNat = (i - 1).toNat + 1 by omega, List.getD_cons_succ]
theorem selW_add (p : Int → Bool) (m : Int) (hp : p m = false) (ys : List Int) : ∀ i : Int, i ≤ m → m < i + ys.length → selW (fun j => decide (j = m) || p j) i ys = rd ys (m - i) + selW p i ys := by
  induction ys with
  | nil => intro i h1 h2; simp at h2; omega
  | cons y ys ih =>
    intro i h1 h2
    rw [List.length_cons] at h2
    simp only [selW]
    by_cases e : i = m
    · subst e
      rw [Int.sub_self, rd_cons_0, selW_congr (p := fun j => decide (j = i) || p j) (q := p) ys (i + 1) (fun j hj => by rw [decide_eq_false (by omega), Bool.false_or])]
      simp [hp]
    · rw [ih (i + 1) (by omega) (by omega), rd_cons_s _ _ _ (by omega), show m - i - 1 = m - (i + 1) by omega]
      simp only [decide_eq_false e, Bool.false_or]
      omega
theorem selW_wsum (ws : List Int) (ms : List Int) (hd : ms.Nodup) (hm : ∀ m ∈ ms, 0 ≤ m ∧ m < ws.length) : selW (fun i => decide (i ∈ ms)) 0 ws = wsum ws ms := by
  induction ms with
  | nil => simp only [List.not_mem_nil, decide_false, wsum]; exact selW_none ws 0
  | cons m ms ih =>
    have h1 := List.nodup_cons.1 hd
    have h2 := hm m List.mem_cons_self
    have e : (fun i => decide (i ∈ m :: ms)) = (fun j => decide (j = m) || decide (j ∈ ms)) := by
      funext i
      rw [Bool.eq_iff_iff]
      simp
    rw [e, selW_add (fun j => decide (j ∈ ms)) m (decide_eq_false h1.1) ws 0 h2.1 (by omega), Int.sub_zero, ih h1.2 (fun x hx => hm x (List.mem_cons_of_mem _ hx))]
    rfl
theorem selW_range (p : Int → Bool) (ys : List Int) (hy : AllW ys 0 100) : ∀ i : Int, 0 ≤ selW p i ys ∧ selW p i ys ≤ 100 * (ys.length : Int) := by
  induction ys with
  | nil => intro i; simp [selW]
  | cons y ys ih =>
    intro i
    have h1 := (allW_cons _ _ _ _).1 hy
    have h2 := ih h1.2 (i + 1)
    simp only [selW, List.length_cons]
    split <;> omega
/-! ## The dual body. -/
theorem clone_eq (l : List Int) (h : l.length ≤ 4000000) : slices_Clone_int_int.f l = some l := by
  unfold slices_Clone_int_int.f
  simp only [Option.bind_some, List.length_nil, List.nil_append]
  rw [if_pos (by omega)]
theorem impl_DualBody_ok (ws : List Int) (hl : ws.length ≤ 4000000) (need : Int) : EvS (fun k => impl_DualBody.f k ws need) (· = if VBody ws need then (ws, tot ws - need + 1) else ([], 0)) := by
  simp only [impl_DualBody.f]
  refine EvS.bindv (impl_ValidBody_ok ws hl need) (EvS.ite (fun c => ?_) (fun c => EvS.now (by rw [if_neg (ndec c)])))
  have c := of_decide_eq_true c
  have ht := tot_range (by omega) c.2.1
  have hn := c.1
  have hx := c.2.2
  rw [if_pos c]
  refine EvS.call (clone_eq ws hl) (EvS.bindv (sumOf_ok ws (by omega) (fun x hx => by have := c.2.1 x hx; omega)) (EvS.now ?_))
  rw [w64 (x := tot ws - need) (by omega) (by omega), w64 (x := tot ws - need + 1) (by omega) (by omega)]
theorem dual_valid {ws : List Int} {need : Int} (h : VBody ws need) : VBody ws (tot ws - need + 1) := ⟨h.1, h.2.1, by have := h.2.2; omega, by have := h.2.2; omega⟩
/-! ## Amounts divided into equal parts. -/
theorem list_ext {xs ys : List Int} (hl : xs.length = ys.length) (h : ∀ i : Int, 0 ≤ i → i < xs.length → rd xs i = rd ys i) : xs = ys := by
  apply List.ext_getElem hl
  intro n h1 h2
  have := h n (by omega) (by omega)
  unfold rd at this
  simp only [Int.toNat_natCast] at this
  rw [List.getD_eq_getElem?_getD, List.getD_eq_getElem?_getD, List.getElem?_eq_getElem h1, List.getElem?_eq_getElem h2] at this
  exact this
theorem rd_set (xs : List Int) (i j v : Int) (h0 : 0 ≤ i) (h1 : i < xs.length) (h2 : 0 ≤ j) : rd (xs.set i.toNat v) j = if i = j then v else rd xs j := by
  unfold rd
  rw [List.getD_eq_getElem?_getD, List.getElem?_set]
  by_cases c : i = j
  · subst c; rw [if_pos rfl, if_pos (by omega), if_pos rfl]; rfl
  · rw [if_neg (by omega), if_neg c, List.getD_eq_getElem?_getD]
theorem rd_zeros (n : Nat) (j : Int) : rd (List.replicate n 0) j = 0 := by
  unfold rd
  rw [List.getD_eq_getElem?_getD, List.getElem?_replicate]
  split <;> rfl
theorem rd_snoc (xs : List Int) (v j : Int) (h0 : 0 ≤ j) : rd (xs ++ [v]) j = if j < xs.length then rd xs j else if j = xs.length then v else 0 := by
  unfold rd
  rw [List.getD_eq_getElem?_getD, List.getD_eq_getElem?_getD]
  by_cases c : j < xs.length
  · rw [if_pos c, List.getElem?_append_left (by omega)]
  · rw [if_neg c, List.getElem?_append_right (by omega)]
    by_cases c2 : j = xs.length
    · rw [if_pos c2, c2]; simp
    · rw [if_neg c2, List.getElem?_eq_none (by simp; omega)]; rfl
theorem draw_ok (l : List Int) (hl : ∀ x ∈ l, 0 ≤ x ∧ x ≤ 255) : EvS (fun k => spec_DrawVetoes.f k l) (fun r => r.1.length ≤ 9) := by
  simp only [spec_DrawVetoes.f]
  obtain ⟨b, be, hb⟩ := newReader_ok l hl
  refine EvS.call be ?_
  dsimp only
  refine EvS.bind (anyBody_ok b 0 hb (by omega) (by omega)) ?_
  rintro ⟨ws, need, q⟩ ⟨⟨g1, g2, g3⟩, g4, g5⟩
  dsimp only at g1 g2 g3 g4 g5 ⊢
  exact EvS.now g2
/-! ### bits -/
theorem and_bit (s : Nat) (hs : s < 256) (m : Nat) (hm : m < 9) : Go.bits .and .i64 (shr .i64 (s : Int) (m : Int)) 1 = if hasB s m = true then 1 else 0 := by
  have h : ∀ m : Fin 9, ∀ s : Fin 256, Go.bits .and .i64 (shr .i64 (s.val : Int) ((m.val : Nat) : Int)) 1 = if hasB s.val m.val = true then 1 else 0 := by decide +kernel
  exact h ⟨m, hm⟩ ⟨s, hs⟩
theorem shr_stop (s : Nat) (hs : s < 256) (i : Nat) (hi : i < 9) : shr .i64 (s : Int) (i : Int) > 0 ∨ ∀ j, i ≤ j → j < 8 → hasB s j = false := by
  have h : ∀ i : Fin 9, ∀ s : Fin 256, shr .i64 (s.val : Int) ((i.val : Nat) : Int) > 0 ∨ ∀ j : Fin 8, i.val ≤ j.val → hasB s.val j.val = false := by decide +kernel
  rcases h ⟨i, hi⟩ ⟨s, hs⟩ with q | q
  · exact .inl q
  · exact .inr (fun j j0 j1 => q ⟨j, j1⟩ j0)
theorem shr_end (s : Nat) (hs : s < 256) : ¬ shr .i64 (s : Int) ((8 : Nat) : Int) > 0 := by
  have h : ∀ s : Fin 256, ¬ shr .i64 (s.val : Int) ((8 : Nat) : Int) > 0 := by decide +kernel
  exact h ⟨s, hs⟩
theorem shl_bit (m : Nat) (hm : m < 9) : shl .i64 1 (m : Int) = pow2 m := by
  have h : ∀ m : Fin 9, shl .i64 1 ((m.val : Nat) : Int) = pow2 m.val := by decide +kernel
  exact h ⟨m, hm⟩
theorem pow2_8 (n : Nat) (h : n ≤ 8) : pow2 n ≤ 256 := by
  have : ∀ n : Fin 9, pow2 n.val ≤ 256 := by decide
  exact this ⟨n, by omega⟩
theorem bit_high (n : Nat) (hn : n ≤ 8) (s : Nat) (hs : (s : Int) < pow2 n) (j : Nat) (hj : j < 8) (hb : hasB s j = true) : j < n := by
  have h : ∀ n : Fin 9, ∀ s : Fin 256, (s.val : Int) < pow2 n.val → ∀ j : Fin 8, hasB s.val j.val = true → j.val < n.val := by decide +kernel
  have := pow2_8 n hn
  exact h ⟨n, by omega⟩ ⟨s, by omega⟩ hs ⟨j, hj⟩ hb
theorem bit_off (s : Nat) (hs : s < 256) (j : Nat) (hj : j < 8) (hb : hasB s j = true) : pow2 j ≤ s ∧ hasB (s - pow2 j) j = false ∧ ∀ i, i < 8 → i ≠ j → hasB (s - pow2 j) i = hasB s i := by
  have h : ∀ s : Fin 256, ∀ j : Fin 8, hasB s.val j.val = true → pow2 j.val ≤ s.val ∧ hasB (s.val - pow2 j.val) j.val = false ∧ ∀ i : Fin 8, i ≠ j → hasB (s.val - pow2 j.val) i.val = hasB s.val i.val := by decide +kernel
  have q := h ⟨s, hs⟩ ⟨j, hj⟩ hb
  exact ⟨q.1, q.2.1, fun i h1 h2 => q.2.2 ⟨i, h1⟩ (fun e => h2 (by have := congrArg Fin.val e; exact this))⟩
theorem bit_full (n : Nat) (hn : n ≤ 8) (j : Nat) (hj : j < n) : hasB (pow2 n - 1) j = true ∧ pow2 j ≤ pow2 n - 1 := by
  have h : ∀ n : Fin 9, ∀ j : Fin 8, j.val < n.val → hasB (pow2 n.val - 1) j.val = true ∧ pow2 j.val ≤ pow2 n.val - 1 := by decide +kernel
  exact h ⟨n, by omega⟩ ⟨j, by omega⟩ hj
def Mem (s : Int) (r : List Int) : Prop := r.length ≤ 8 ∧ ∀ x, x ∈ r ↔ (0 ≤ x ∧ x < 8) ∧ hasB s x.toNat = true
theorem members_l0 (s : Int) (s0 : 0 ≤ s) (s1 : s < 256) (d : Nat) : ∀ (i : Int) (out : List Int), i + d = 8 → 0 ≤ i → out.length ≤ i → EvS (fun k => impl_membersIn.l0 k s out i) (fun r => r.length ≤ 8 ∧ ∀ x, x ∈ r ↔ x ∈ out ∨ (i ≤ x ∧ x < 8) ∧ hasB s x.toNat = true) := by
  obtain ⟨n, rfl⟩ := Int.eq_ofNat_of_zero_le s0
  induction d with
  | zero =>
    intro i out e h0 ho
    have : i = ((8 : Nat) : Int) := by omega
    subst this
    refine EvS.step (fun k => by rw [impl_membersIn.l0]) ?_
    exact EvS.pos (by omega) (EvS.neg (shr_end n (by omega)) (EvS.now ⟨by omega, fun x => ⟨.inl, fun q => q.elim id (fun q => by omega)⟩⟩))
  | succ d ih =>
    intro i out e h0 ho
    obtain ⟨m, rfl⟩ := Int.eq_ofNat_of_zero_le h0
    refine EvS.step (fun k => by rw [impl_membersIn.l0]) ?_
    rw [w64 (x := (m : Int) + 1) (by omega) (by omega), and_bit n (by omega) m (by omega)]
    refine EvS.pos h0 (EvS.ite (fun c => ?_) (fun c => EvS.now ⟨by omega, fun x => ⟨.inl, fun q => q.elim id (fun q => ?_)⟩⟩))
    · by_cases hb : hasB (n : Int) m = true
      · rw [if_pos hb]
        refine EvS.pos rfl (EvS.pos (by omega) (EvS.mono (ih _ _ (by omega) (by omega) (by simp; omega)) (fun r hr => ⟨hr.1, fun x => ?_⟩)))
        rw [hr.2 x, List.mem_append, List.mem_singleton]
        constructor
        · rintro ((q | q) | ⟨q, q2⟩)
          · exact .inl q
          · subst q; exact .inr ⟨by omega, by simpa using hb⟩
          · exact .inr ⟨by omega, q2⟩
        · rintro (q | ⟨q, q2⟩)
          · exact .inl (.inl q)
          · by_cases e2 : x = m
            · exact .inl (.inr e2)
            · exact .inr ⟨by omega, q2⟩
      · rw [if_neg hb]
        refine EvS.neg (by omega) (EvS.mono (ih _ _ (by omega) (by omega) (by omega)) (fun r hr => ⟨hr.1, fun x => ?_⟩))
        rw [hr.2 x]
        constructor
        · rintro (q | ⟨q, q2⟩)
          · exact .inl q
          · exact .inr ⟨by omega, q2⟩
        · rintro (q | ⟨q, q2⟩)
          · exact .inl q
          · by_cases e2 : x = m
            · subst e2; exact absurd (by simpa using q2) hb
            · exact .inr ⟨by omega, q2⟩
    · exfalso
      rcases shr_stop n (by omega) m (by omega) with z | z
      · exact c z
      · have := z x.toNat (by omega) (by omega)
        rw [this] at q; exact absurd q.2 (by simp)
theorem membersIn_ok (s : Int) (s0 : 0 ≤ s) (s1 : s < 256) : EvS (fun k => impl_membersIn.f k s) (Mem s) := by
  simp only [impl_membersIn.f]
  exact EvS.mono (members_l0 s s0 s1 8 0 [] (by omega) (by omega) (by simp)) (fun r hr => ⟨hr.1, fun x => by rw [hr.2 x]; simp⟩)
def wS (ws : List Int) (s : Int) : Int := selW (fun j => hasB s j.toNat) 0 ws
theorem votes_l0 (ws : List Int) (hl : ws.length ≤ 8) (hw : AllW ws 0 100) (need s : Int) (s0 : 0 ≤ s) (s1 : s < 256) (ys : List Int) : ∀ i acc : Int, At ws i ys → 0 ≤ acc → acc ≤ 100 * i →
    EvS (fun k => impl_votesOf.l0 k s acc ws ws.length i) (· = acc + selW (fun j => hasB s j.toNat) i ys) := by
  obtain ⟨n, rfl⟩ := Int.eq_ofNat_of_zero_le s0
  induction ys with
  | nil =>
    intro i acc h a0 a1
    refine EvS.step (fun k => by rw [impl_votesOf.l0]) ?_
    exact EvS.neg (by have := h.ge; omega) (EvS.now (by simp [selW]))
  | cons y ys ih =>
    intro i acc h a0 a1
    have g1 := h.lt
    have g2 := h.nonneg
    have hr := hw y h.mem
    obtain ⟨m, rfl⟩ := Int.eq_ofNat_of_zero_le g2
    refine EvS.step (fun k => by rw [impl_votesOf.l0]) ?_
    refine EvS.pos h.lt (EvS.pos h.nonneg (EvS.pos h.lt ?_))
    rw [At.rd h, and_bit n (by omega) m (by omega), w64 (x := (m : Int) + 1) (by omega) (by omega)]
    by_cases c : hasB (n : Int) m = true
    · rw [if_pos c, w64 (x := acc + y) (by omega) (by omega)]
      refine EvS.pos rfl (EvS.mono (ih _ (acc + y) h.next (by omega) (by omega)) (fun r hr => ?_))
      rw [hr]
      simp only [selW, Int.toNat_natCast]
      rw [if_pos c]; omega
    · rw [if_neg c]
      refine EvS.neg (by omega) (EvS.mono (ih _ acc h.next (by omega) (by omega)) (fun r hr => ?_))
      rw [hr]
      simp only [selW, Int.toNat_natCast]
      rw [if_neg c]; omega
theorem votesOf_ok (ws : List Int) (hl : ws.length ≤ 8) (hw : AllW ws 0 100) (need s : Int) (s0 : 0 ≤ s) (s1 : s < 256) : EvS (fun k => impl_votesOf.f k ws need s) (· = wS ws s) := by
  simp only [impl_votesOf.f]
  refine EvS.mono (votes_l0 ws hl hw need s s0 s1 ws 0 0 (At.zero _) (by omega) (by omega)) (fun r hr => ?_)
  rw [hr, wS]; omega
theorem wS_add (ws : List Int) (s i : Int) (s0 : 0 ≤ s) (i0 : 0 ≤ i) (i1 : i < ws.length) (hb : hasB s i.toNat = false) : wS ws (s + pow2 i.toNat) = wS ws s + rd ws i := by
  unfold wS
  rw [selW_congr (q := fun j => decide (j = i) || hasB s j.toNat) ws 0 (fun j hj => by
    rw [hasB_add i.toNat s j.toNat s0 hb]
    have : decide (j.toNat = i.toNat) = decide (j = i) := decide_eq_decide.2 (by omega)
    rw [this]), selW_add (fun j => hasB s j.toNat) i hb ws 0 i0 (by omega), Int.sub_zero]
  omega
def Lst (ws : List Int) (need s : Int) : Prop := wS ws s ≥ need ∧ ∀ j : Int, 0 ≤ j → j < 8 → hasB s j.toNat = true → wS ws s - rd ws j < need
def LC (ws : List Int) (need N : Int) (xs : List (List Int)) : Prop := (xs.length : Int) ≤ N ∧ (∀ r ∈ xs, ∃ s, (0 ≤ s ∧ s < N) ∧ Lst ws need s ∧ Mem s r) ∧ ∀ s, 0 ≤ s → s < N → Lst ws need s → ∃ r ∈ xs, Mem s r
theorem lc_l1 {P : List (List Int) → Prop} (ws : List Int) (hl : ws.length ≤ 8) (hw : AllW ws 0 100) (need s N v : Int) (hv : 0 ≤ v ∧ v ≤ 800) (xs : List (List Int)) (hx : xs.length ≤ 1000) (ms : List Int) (hm : ms.length ≤ 8) (hr : ∀ m ∈ ms, 0 ≤ m ∧ m < ws.length) (ys : List Int) : ∀ (i : Int) (b : Bool), At ms i ys →
    EvS (fun k => impl_LeastCoalitions.l0 k (if b = true ∧ ∀ m ∈ ys, v - rd ws m < need then xs ++ [ms] else xs) N (wrap64 (s + 1)) ws need) P → EvS (fun k => impl_LeastCoalitions.l1 k xs v ms b N s ms ms.length i ws need) P := by
  induction ys with
  | nil =>
    intro i b h K
    refine EvS.step (fun k => by rw [impl_LeastCoalitions.l1]) ?_
    refine EvS.neg (by have := h.ge; omega) (EvS.ite (fun c => EvS.pos (by omega) ?_) (fun c => ?_))
    · rw [if_pos ⟨c, fun m hm => by simp at hm⟩] at K; exact K
    · rw [if_neg (fun q => c q.1)] at K; exact K
  | cons y ys ih =>
    intro i b h K
    have g1 := h.lt
    have g2 := h.nonneg
    have hy := hr y h.mem
    have hrd := rd_range hw y hy.1 hy.2
    refine EvS.step (fun k => by rw [impl_LeastCoalitions.l1]) ?_
    rw [At.rd h, w64 (x := i + 1) (by omega) (by omega), w64 (x := v - rd ws y) (by omega) (by omega)]
    refine EvS.pos h.lt (EvS.pos h.nonneg (EvS.pos h.lt (EvS.ite (fun c => EvS.pos hy.1 (EvS.pos hy.2 (ih _ _ h.next ?_))) (fun c => ih _ _ h.next ?_))))
    · by_cases q : v - rd ws y < need
      · by_cases q2 : ∀ m ∈ ys, v - rd ws m < need
        · rw [if_pos ⟨decide_eq_true q, q2⟩]
          rw [if_pos ⟨c, fun m hm => by rcases List.mem_cons.1 hm with rfl | hm; exact q; exact q2 m hm⟩] at K
          exact K
        · rw [if_neg (fun z => q2 z.2)]
          rw [if_neg (fun z => q2 (fun m hm => z.2 m (List.mem_cons_of_mem _ hm)))] at K
          exact K
      · rw [if_neg (fun z => q (of_decide_eq_true z.1))]
        rw [if_neg (fun z => q (z.2 y List.mem_cons_self))] at K
        exact K
    · rw [if_neg (fun z => by simp at z)]
      rw [if_neg (fun z => c z.1)] at K
      exact K
theorem wS_range (ws : List Int) (hl : ws.length ≤ 8) (hw : AllW ws 0 100) (s : Int) : 0 ≤ wS ws s ∧ wS ws s ≤ 800 := by
  have := selW_range (fun j => hasB s j.toNat) ws hw 0
  unfold wS; omega
theorem lc_l0 (ws : List Int) (hl : ws.length ≤ 8) (hw : AllW ws 0 100) (need : Int) (d : Nat) : ∀ (s : Int) (xs : List (List Int)), s + d = pow2 ws.length → 0 ≤ s → LC ws need s xs → EvS (fun k => impl_LeastCoalitions.l0 k xs (pow2 ws.length) s ws need) (LC ws need (pow2 ws.length)) := by
  have h256 := pow2_8 ws.length hl
  induction d with
  | zero =>
    intro s xs e s0 h
    refine EvS.step (fun k => by rw [impl_LeastCoalitions.l0]) ?_
    have : s = pow2 ws.length := by omega
    subst this
    exact EvS.neg (by omega) (EvS.now h)
  | succ d ih =>
    intro s xs e s0 h
    have hW := wS_range ws hl hw s
    refine EvS.step (fun k => by rw [impl_LeastCoalitions.l0]) ?_
    refine EvS.pos (by omega) (EvS.bindv (votesOf_ok ws hl hw need s s0 (by omega)) (EvS.bind (membersIn_ok s s0 (by omega)) (fun ms hms => ?_)))
    have hin : ∀ m ∈ ms, 0 ≤ m ∧ m < ws.length := fun m hm => by
      have h1 := (hms.2 m).1 hm
      obtain ⟨n, rfl⟩ := Int.eq_ofNat_of_zero_le s0
      have := bit_high ws.length hl n (by omega) m.toNat (by omega) h1.2
      omega
    have hx : xs.length ≤ 1000 := by have := h.1; omega
    refine lc_l1 ws hl hw need s (pow2 ws.length) (wS ws s) hW xs hx ms hms.1 hin ms 0 _ (At.zero _) ?_
    rw [w64 (x := s + 1) (by omega) (by omega)]
    refine ih (s + 1) _ (by omega) (by omega) ?_
    have hL : (decide (wS ws s ≥ need) = true ∧ ∀ m ∈ ms, wS ws s - rd ws m < need) ↔ Lst ws need s := by
      constructor
      · rintro ⟨a, b⟩
        exact ⟨of_decide_eq_true a, fun j j0 j1 hb => b j ((hms.2 j).2 ⟨⟨j0, j1⟩, hb⟩)⟩
      · rintro ⟨a, b⟩
        exact ⟨decide_eq_true a, fun m hm => by have := (hms.2 m).1 hm; exact b m this.1.1 this.1.2 this.2⟩
    by_cases c : Lst ws need s
    · rw [if_pos (hL.2 c)]
      refine ⟨by have := h.1; simp; omega, fun r hr => ?_, fun t t0 t1 ht => ?_⟩
      · rcases List.mem_append.1 hr with hr | hr
        · obtain ⟨t, a, b⟩ := h.2.1 r hr
          exact ⟨t, ⟨a.1, by omega⟩, b⟩
        · rw [List.mem_singleton] at hr; subst hr
          exact ⟨s, ⟨s0, by omega⟩, c, hms⟩
      · by_cases e2 : t = s
        · subst e2; exact ⟨ms, by simp, hms⟩
        · obtain ⟨r, a, b⟩ := h.2.2 t t0 (by omega) ht
          exact ⟨r, by simp [a], b⟩
    · rw [if_neg (fun q => c (hL.1 q))]
      refine ⟨by have := h.1; omega, fun r hr => ?_, fun t t0 t1 ht => ?_⟩
      · obtain ⟨t, a, b⟩ := h.2.1 r hr
        exact ⟨t, ⟨a.1, by omega⟩, b⟩
      · by_cases e2 : t = s
        · subst e2; exact absurd ht c
        · exact h.2.2 t t0 (by omega) ht
theorem lc_ok (ws : List Int) (need : Int) (c : VBody ws need ∧ ws.length ≤ 8) : EvS (fun k => impl_LeastCoalitions.f k ws need) (LC ws need (pow2 ws.length)) := by
  have hp := pow2_pos ws.length
  have h8 := c.2
  simp only [impl_LeastCoalitions.f, impl_smallBody.f]
  refine EvS.bindv (a := true) (EvS.pos (by omega) (EvS.bindv (impl_ValidBody_ok ws (by omega) need) (EvS.now (decide_eq_true c.1)))) (EvS.pos rfl ?_)
  rw [shl_bit ws.length (by omega)]
  exact lc_l0 ws c.2 c.1.2.1 need (pow2 ws.length).toNat 0 [] (by omega) (by omega) ⟨by simp, fun r hr => by simp at hr, fun s s0 s1 _ => by omega⟩
/-! ### who is in all of them -/
theorem wS_tot (ws : List Int) (s : Int) (hw : AllW ws 0 100) : wS ws s ≤ tot ws := by
  have h1 : ∀ (ys : List Int), AllW ys 0 100 → ∀ i, selW (fun j => hasB s j.toNat) i ys ≤ tot ys := by
    intro ys
    induction ys with
    | nil => intro _ i; exact Int.le_refl _
    | cons y ys ih =>
      intro hy i
      have q := (allW_cons _ _ _ _).1 hy
      have := ih q.2 (i + 1)
      simp only [selW, tot]
      split <;> omega
  exact h1 ws hw 0
theorem wS_full (ws : List Int) (hl : ws.length ≤ 8) : wS ws (pow2 ws.length - 1) = tot ws := by
  have h1 : ∀ (ys : List Int) (i : Int), 0 ≤ i → i + ys.length = ws.length → selW (fun j => hasB (pow2 ws.length - 1) j.toNat) i ys = tot ys := by
    intro ys
    induction ys with
    | nil => intro i _ _; rfl
    | cons y ys ih =>
      intro i i0 e
      rw [List.length_cons] at e
      simp only [selW, tot]
      rw [if_pos (bit_full ws.length hl i.toNat (by omega)).1, ih (i + 1) (by omega) (by omega)]
  exact h1 ws 0 (by omega) (by omega)
theorem drop_to (ws : List Int) (hl : ws.length ≤ 8) (need i : Int) (i0 : 0 ≤ i) (i1 : i < ws.length) (d : Nat) : ∀ s : Int, 0 ≤ s → s < pow2 ws.length → s < d → hasB s i.toNat = false → wS ws s ≥ need → ∃ t, (0 ≤ t ∧ t < pow2 ws.length) ∧ Lst ws need t ∧ hasB t i.toNat = false := by
  have h256 := pow2_8 ws.length hl
  induction d with
  | zero => intro s s0 _ q; omega
  | succ d ih =>
    intro s s0 s1 q hb hw
    by_cases c : Lst ws need s
    · exact ⟨s, ⟨s0, s1⟩, c, hb⟩
    · have : ∃ j : Int, 0 ≤ j ∧ j < 8 ∧ hasB s j.toNat = true ∧ wS ws s - rd ws j ≥ need := by
        refine Classical.byContradiction fun z => c ⟨hw, fun j j0 j1 hj => ?_⟩
        refine Classical.byContradiction fun z2 => z ⟨j, j0, j1, hj, by omega⟩
      obtain ⟨j, j0, j1, hj, hge⟩ := this
      obtain ⟨n, rfl⟩ := Int.eq_ofNat_of_zero_le s0
      have hoff := bit_off n (by omega) j.toNat (by omega) hj
      have hjn := bit_high ws.length hl n s1 j.toNat (by omega) hj
      have hp := pow2_pos j.toNat
      have hji : j ≠ i := fun e => by subst e; rw [hj] at hb; simp at hb
      have hadd := wS_add ws ((n : Int) - pow2 j.toNat) j (by omega) j0 (by omega) hoff.2.1
      rw [show (n : Int) - pow2 j.toNat + pow2 j.toNat = n by omega] at hadd
      exact ih ((n : Int) - pow2 j.toNat) (by omega) (by omega) (by omega) (by rw [hoff.2.2 i.toNat (by omega) (by omega)]; exact hb) (by omega)
theorem veto_iff (ws : List Int) (need : Int) (c : VBody ws need ∧ ws.length ≤ 8) (xs : List (List Int)) (hx : LC ws need (pow2 ws.length) xs) (i : Int) (i0 : 0 ≤ i) (i1 : i < ws.length) : (∀ r ∈ xs, i ∈ r) ↔ tot ws - rd ws i < need := by
  have hl := c.2
  have h256 := pow2_8 ws.length hl
  constructor
  · intro h
    refine Classical.byContradiction fun z => ?_
    have hf := bit_full ws.length hl i.toNat (by omega)
    have hpp := pow2_pos ws.length
    obtain ⟨n, hn⟩ := Int.eq_ofNat_of_zero_le (show 0 ≤ pow2 ws.length - 1 by omega)
    have hoff := bit_off n (by omega) i.toNat (by omega) (by rw [← hn]; exact hf.1)
    rw [← hn] at hoff
    have hp := pow2_pos i.toNat
    have hadd := wS_add ws (pow2 ws.length - 1 - pow2 i.toNat) i (by omega) i0 i1 hoff.2.1
    rw [show pow2 ws.length - 1 - pow2 i.toNat + pow2 i.toNat = pow2 ws.length - 1 by omega, wS_full ws hl] at hadd
    obtain ⟨t, ht, hL, hb⟩ := drop_to ws hl need i i0 i1 256 (pow2 ws.length - 1 - pow2 i.toNat) (by omega) (by omega) (by omega) hoff.2.1 (by omega)
    obtain ⟨r, hr, hm⟩ := hx.2.2 t ht.1 ht.2 hL
    have := (hm.2 i).1 (h r hr)
    rw [hb] at this
    exact absurd this.2 (by simp)
  · intro h r hr
    obtain ⟨s, hs, hL, hm⟩ := hx.2.1 r hr
    refine (hm.2 i).2 ⟨⟨i0, by omega⟩, ?_⟩
    refine Classical.byContradiction fun z => ?_
    have z : hasB s i.toNat = false := by simpa using z
    have hadd := wS_add ws s i hs.1 i0 i1 z
    have := wS_tot ws (s + pow2 i.toNat) c.1.2.1
    have := hL.1
    omega
/-! ### Vetoes -/
def vetL (ws : List Int) (need : Int) : List Int → Int → List Int
  | [], _ => []
  | y :: ys, i => if tot ws - y < need then i :: vetL ws need ys (i + 1) else vetL ws need ys (i + 1)
theorem vetL_len (ws : List Int) (need : Int) (ys : List Int) : ∀ i : Int, (vetL ws need ys i).length ≤ ys.length := by
  induction ys with
  | nil => intro i; simp [vetL]
  | cons y ys ih => intro i; have := ih (i + 1); simp only [vetL]; split <;> simp <;> omega
theorem vetL_mem (ws : List Int) (need : Int) (ys : List Int) : ∀ i x : Int, x ∈ vetL ws need ys i ↔ (i ≤ x ∧ x < i + ys.length) ∧ tot ws - rd ys (x - i) < need := by
  induction ys with
  | nil => intro i x; simp [vetL]; omega
  | cons y ys ih =>
    intro i x
    have h := ih (i + 1) x
    simp only [vetL, List.length_cons]
    by_cases e : x = i
    · subst e
      rw [Int.sub_self, rd_cons_0]
      by_cases c : tot ws - y < need
      · rw [if_pos c]; simp; omega
      · rw [if_neg c, h]; constructor
        · rintro ⟨q, _⟩; omega
        · rintro ⟨_, q⟩; exact absurd q c
    · have e2 : (x ∈ if tot ws - y < need then i :: vetL ws need ys (i + 1) else vetL ws need ys (i + 1)) ↔ x ∈ vetL ws need ys (i + 1) := by
        split
        · rw [List.mem_cons]; exact ⟨fun q => q.resolve_left e, .inr⟩
        · rfl
      rw [e2, h]
      by_cases g : i ≤ x
      · rw [rd_cons_s y ys (x - i) (by omega), show x - i - 1 = x - (i + 1) by omega]
        exact ⟨fun q => ⟨by omega, q.2⟩, fun q => ⟨by omega, q.2⟩⟩
      · exact ⟨fun q => by omega, fun q => by omega⟩
def veto (ws : List Int) (need : Int) : List Int := if VBody ws need then vetL ws need ws 0 else []
theorem impl_vet_l0 (ws : List Int) (need : Int) (c : VBody ws need) (ys : List Int) : ∀ (i : Int) (out : List Int), At ws i ys → out.length ≤ i → EvS (fun k => impl_Vetoes.l0 k (tot ws) out ws ws.length i ws need) (· = out ++ vetL ws need ys i) := by
  have hn := c.1
  have ht := tot_range (by omega) c.2.1
  induction ys with
  | nil =>
    intro i out h ho
    refine EvS.step (fun k => by rw [impl_Vetoes.l0]) ?_
    exact EvS.neg (by have := h.ge; omega) (EvS.now (by simp [vetL]))
  | cons y ys ih =>
    intro i out h ho
    have h1 := h.lt
    have hy := c.2.1 y h.mem
    refine EvS.step (fun k => by rw [impl_Vetoes.l0]) ?_
    rw [At.rd h, w64 (x := i + 1) (by have := h.nonneg; omega) (by omega), w64 (x := tot ws - y) (by omega) (by omega)]
    refine EvS.pos h.lt (EvS.pos h.nonneg (EvS.pos h.lt (EvS.ite (fun q => EvS.pos (by omega) (EvS.mono (ih _ _ h.next (by simp; omega)) (fun r hr => ?_))) (fun q => EvS.mono (ih _ _ h.next (by omega)) (fun r hr => ?_)))))
    · rw [hr, vetL, if_pos q]; simp
    · rw [hr, vetL, if_neg q]
theorem impl_Vetoes_ok (ws : List Int) (hl : ws.length ≤ 4000000) (need : Int) : EvS (fun k => impl_Vetoes.f k ws need) (· = veto ws need) := by
  simp only [impl_Vetoes.f]
  refine EvS.bindv (impl_ValidBody_ok ws hl need) (EvS.ite (fun c => ?_) (fun c => EvS.now (by unfold veto; rw [if_neg (ndec c)])))
  have c := of_decide_eq_true c
  have hn := c.1
  refine EvS.bindv (sumOf_ok ws (by omega) (fun x hx => by have := c.2.1 x hx; omega)) (EvS.mono (impl_vet_l0 ws need c ws 0 [] (At.zero _) (by simp)) (fun r hr => ?_))
  rw [hr]; unfold veto; rw [if_pos c]; rfl
theorem spec_vet_l0 (ws : List Int) (need : Int) (c : VBody ws need) (ys : List Int) : ∀ (i : Int) (out : List Int), At ws i ys → out.length ≤ i → EvS (fun k => spec_Vetoes.l0 k out i ws need) (· = out ++ vetL ws need ys i) := by
  have hn := c.1
  have ht := tot_range (by omega) c.2.1
  induction ys with
  | nil =>
    intro i out h ho
    refine EvS.step (fun k => by rw [spec_Vetoes.l0]) ?_
    exact EvS.neg (by have := h.ge; omega) (EvS.now (by simp [vetL]))
  | cons y ys ih =>
    intro i out h ho
    have h1 := h.lt
    have hy := c.2.1 y h.mem
    refine EvS.step (fun k => by rw [spec_Vetoes.l0]) ?_
    rw [At.rd h, w64 (x := i + 1) (by have := h.nonneg; omega) (by omega)]
    refine EvS.pos h.lt (EvS.bindv (spec_total_ok ws (by omega) (fun x hx => by have := c.2.1 x hx; omega)) (EvS.pos h.nonneg ?_))
    rw [w64 (x := tot ws - y) (by omega) (by omega)]
    refine EvS.ite (fun q => EvS.pos (by omega) (EvS.mono (ih _ _ h.next (by simp; omega)) (fun r hr => ?_))) (fun q => EvS.mono (ih _ _ h.next (by omega)) (fun r hr => ?_))
    · rw [hr, vetL, if_pos q]; simp
    · rw [hr, vetL, if_neg q]
theorem spec_Vetoes_ok (ws : List Int) (hl : ws.length ≤ 4000000) (need : Int) : EvS (fun k => spec_Vetoes.f k ws need) (· = veto ws need) := by
  simp only [spec_Vetoes.f]
  refine EvS.bindv (spec_validBody_ok ws hl need) (EvS.ite (fun c => ?_) (fun c => EvS.now (by unfold veto; rw [if_neg (ndec c)])))
  have c := of_decide_eq_true c
  refine EvS.mono (spec_vet_l0 ws need c ws 0 [] (At.zero _) (by simp)) (fun r hr => ?_)
  rw [hr]; unfold veto; rw [if_pos c]; rfl
/-! ### the law -/
theorem law_l1 (ws : List Int) (need : Int) (c : VBody ws need ∧ ws.length ≤ 8) (xs : List (List Int)) (hx : LC ws need (pow2 ws.length) xs) (i : Int) (i0 : 0 ≤ i) (i1 : i < ws.length) (K : EvS (fun k => laws_FnVetoes.l0 k (veto ws need) xs (i + 1) ws need) (· = true)) (ys : List (List Int)) : ∀ (j : Int) (b : Bool), At xs j ys → ((b = true ∧ ∀ r ∈ ys, i ∈ r) ↔ ∀ r ∈ xs, i ∈ r) → EvS (fun k => laws_FnVetoes.l1 k (veto ws need) xs i b j ws need) (· = true) := by
  have h256 := pow2_8 ws.length c.2
  have hxl := hx.1
  have h8 := c.2
  have hvl : (veto ws need).length ≤ 8 := by unfold veto; rw [if_pos c.1]; have := vetL_len ws need ws 0; omega
  induction ys with
  | nil =>
    intro j b h hb
    refine EvS.step (fun k => by rw [laws_FnVetoes.l1]) ?_
    refine EvS.neg (by have := h.ge; omega) (EvS.bindv (isIn_ok _ (by omega) i) ?_)
    have hv := veto_iff ws need c xs hx i i0 i1
    have hmem : i ∈ veto ws need ↔ tot ws - rd ws i < need := by
      unfold veto
      rw [if_pos c.1, vetL_mem, Int.sub_zero]
      exact ⟨fun q => q.2, fun q => ⟨by omega, q⟩⟩
    have e1 : decide (i ∈ veto ws need) = b := by
      rw [Bool.eq_iff_iff, decide_eq_true_eq, hmem, ← hv, ← hb]
      exact ⟨fun q => q.1, fun q => ⟨q, fun r hr => by simp at hr⟩⟩
    rw [e1]
    refine EvS.neg (by simp) (EvS.bindv (isIn_ok _ (by omega) i) (EvS.bindv (impl_DualBody_ok ws (by omega) need) ?_))
    rw [e1, if_pos c.1, w64 (x := i + 1) (by omega) (by omega)]
    refine EvS.bindv (impl_Wins_ok ws (by omega) _ [i] (by simp)) ?_
    have e2 : winP ws (tot ws - need + 1) [i] = b := by
      rw [← e1]
      refine decide_eq_decide.2 ?_
      rw [hmem]
      simp only [wsum]
      exact ⟨fun q => by have := q.2.2; omega, fun q => ⟨dual_valid c.1, ⟨by simp, fun x hx => by simp at hx; omega⟩, by omega⟩⟩
    dsimp only
    rw [e2]
    exact EvS.neg (by simp) K
  | cons y ys ih =>
    intro j b h hb
    have hj := h.lt
    have hy : y.length ≤ 8 := by obtain ⟨s, _, _, hm⟩ := hx.2.1 y h.mem; exact hm.1
    refine EvS.step (fun k => by rw [laws_FnVetoes.l1]) ?_
    have hrd : rd_L3 xs j = y := h.getD _
    rw [hrd, w64 (x := j + 1) (by have := h.nonneg; omega) (by omega)]
    refine EvS.pos h.lt (EvS.ite (fun cb => EvS.pos h.nonneg (EvS.bindv (isIn_ok y (by omega) i) (ih _ _ h.next ?_))) (fun cb => ih _ _ h.next ?_))
    · rw [← hb, decide_eq_true_eq]
      exact ⟨fun q => ⟨cb, fun r hr => by rcases List.mem_cons.1 hr with rfl | hr; exact q.1; exact q.2 r hr⟩, fun q => ⟨q.2 y List.mem_cons_self, fun r hr => q.2 r (List.mem_cons_of_mem _ hr)⟩⟩
    · rw [← hb]
      exact ⟨fun q => absurd q.1 (by simp), fun q => absurd q.1 cb⟩
theorem law_l0 (ws : List Int) (need : Int) (c : VBody ws need ∧ ws.length ≤ 8) (xs : List (List Int)) (hx : LC ws need (pow2 ws.length) xs) (d : Nat) : ∀ i : Int, i + d = ws.length → 0 ≤ i → EvS (fun k => laws_FnVetoes.l0 k (veto ws need) xs i ws need) (· = true) := by
  induction d with
  | zero =>
    intro i e i0
    refine EvS.step (fun k => by rw [laws_FnVetoes.l0]) ?_
    exact EvS.neg (by omega) (EvS.now rfl)
  | succ d ih =>
    intro i e i0
    refine EvS.step (fun k => by rw [laws_FnVetoes.l0]) ?_
    exact EvS.pos (by omega) (law_l1 ws need c xs hx i i0 (by omega) (ih (i + 1) (by omega) (by omega)) xs 0 true (At.zero _) ⟨fun q => q.2, fun q => ⟨rfl, q⟩⟩)
theorem FnVetoes : laws_FnVetoes.Pure := by
  intro l0 _ _ hw
  refine EvS.holds ?_
  simp only [laws_FnVetoes.f]
  refine EvS.ite (fun _ => EvS.now rfl) (fun _ => ?_)
  refine EvS.bind (draw_ok l0 (fun x hx => u8_range (hw x hx))) ?_
  rintro ⟨ws, need⟩ g1
  dsimp only at g1 ⊢
  have hvl : (veto ws need).length ≤ 9 := by
    unfold veto
    split
    · have := vetL_len ws need ws 0; omega
    · simp
  have no : EvS (fun k => laws_FnVetoes.j0 k (veto ws need) true ws need) (· = true) := by
    refine EvS.step (fun k => by rw [laws_FnVetoes.j0]) ?_
    exact EvS.pos rfl (EvS.bindv (spec_Vetoes_ok ws (by omega) need) (EvS.bindv (equalInts_ok _ (by omega)) (EvS.now rfl)))
  refine EvS.bindv (impl_Vetoes_ok ws (by omega) need) (EvS.bindv (spec_Vetoes_ok ws (by omega) need) (EvS.bindv (equalInts_ok _ (by omega)) (EvS.pos rfl (EvS.bindv (impl_ValidBody_ok ws (by omega) need) (EvS.ite (fun c => ?_) (fun _ => no))))))
  have c := of_decide_eq_true c
  by_cases c8 : (ws.length : Int) > 8
  · rw [decide_eq_true c8]; exact no
  · rw [decide_eq_false c8]
    refine EvS.step (fun k => by rw [laws_FnVetoes.j0]) ?_
    exact EvS.neg (by simp) (EvS.bind (lc_ok ws need ⟨c, by omega⟩) (fun xs hx => law_l0 ws need ⟨c, by omega⟩ xs hx ws.length 0 (by omega) (by omega)))
end Go.Proofs.Ytkbgcnpjamadeaa.Pure

/- More votes decide no less often, and in the dual body each decides as often; and SwingsOf is what the reference tells: for every code. Conditions: none. -/
import Derived.Test.YtkbgcnpjamadeaaMFnSwingsOfx0
import Derived.Test.YtkbgcnpjamadeaaMFnSwingsOfx1
import Derived.Test.YtkbgcnpjamadeaaMFnSwingsOfx2
import Derived.Test.YtkbgcnpjamadeaaMFnSwingsOfx3
import Derived.Test.YtkbgcnpjamadeaaMFnSwingsOfx4
import Derived.Test.YtkbgcnpjamadeaaMFnSwingsOfx5
import Derived.Test.YtkbgcnpjamadeaaMFnSwingsOfx6
import Derived.Test.YtkbgcnpjamadeaaMFnSwingsOfx7
import Derived.Test.YtkbgcnpjamadeaaBase
set_option linter.unusedVariables false
set_option linter.unusedSimpArgs false
namespace Go.Proofs.Ytkbgcnpjamadeaa.Pure
open Go.RowKit Go.Proofs.Ytkbgcnpjamadeaa.PFnSwingsOf Go.Proofs.YtkbgcnpjamadeaaW.PrintWords Go.Proofs.YtkbgcnpjamadeaaW.PrintLast Go.Proofs.YtkbgcnpjamadeaaW.PrintMore Go.Proofs.Ytkbgcnpjamadeaa.Base
theorem u8_range {x : Int} (h : (Lit.int .u8 x).wf = true) : 0 ≤ x ∧ x ≤ 255 := by
  simp [Lit.wf, IntKind.min, IntKind.max, IntKind.bits, IntKind.signed] at h
  omega
/-! ## The reader that draws. -/
structure BytesOk (b : List Int) : Prop where
  len : b.length ≤ 2000
  mem : ∀ x ∈ b, 0 ≤ x ∧ x ≤ 255

theorem newReader_ok (l : List Int) (h : ∀ x ∈ l, 0 ≤ x ∧ x ≤ 255) : ∃ b, spec_newReader.f l = some (b, 0) ∧ BytesOk b := by
  unfold spec_newReader.f
  by_cases c : (l.length : Int) > 2000
  · rw [if_pos c, if_pos (by omega)]
    exact ⟨_, rfl, by rw [List.length_take]; omega, fun x hx => h x (List.mem_of_mem_take hx)⟩
  · rw [if_neg c]
    exact ⟨_, rfl, by omega, h⟩

theorem pick_ok (b : List Int) (p n : Int) (hb : BytesOk b) (h0 : 0 ≤ p) (h1 : p ≤ 100000) :
    EvS (fun k => spec_reader_pick.f k b p n) (fun r => 0 ≤ r.1 ∧ (1 ≤ n → r.1 < n) ∧ (n < 1 → r.1 = 0) ∧ r.2 = p + 1) := by
  have hp : wrap64 (p + 1) = p + 1 := w64 (by omega) (by omega)
  have hq : wrap64 (p + 1 - 1) = p := by rw [show p + 1 - 1 = p by omega]; exact w64 (by omega) (by omega)
  have hbl := hb.len
  simp only [spec_reader_pick.f]
  rw [hp]
  by_cases hn : n < 1
  · refine EvS.pos hn ?_
    refine EvS.step (fun k => by rw [spec_reader_pick.j0]) ?_
    refine EvS.pos rfl ?_
    exact EvS.now ⟨by simp, fun h => by omega, fun _ => rfl, rfl⟩
  · refine EvS.neg hn ?_
    refine EvS.step (fun k => by rw [spec_reader_pick.j0]) ?_
    simp only [hq]
    by_cases hl : b.length = 0
    · refine EvS.pos (by simp [hl]) ?_
      exact EvS.now ⟨by simp, fun h => by simp; omega, fun _ => rfl, rfl⟩
    · refine EvS.neg (by simp; intro h; exact hl (by simp [h])) ?_
      by_cases hpl : p < b.length
      · refine EvS.pos hpl (EvS.pos h0 (EvS.neg (by omega) ?_))
        have hr := rd_range hb.mem p h0 hpl
        rw [w64 (by omega) (by omega)]
        have ht := tmod_range (rd b p) n (by omega) (by omega)
        exact EvS.now ⟨ht.1, fun _ => ht.2, fun h => by omega, rfl⟩
      · refine EvS.neg hpl (EvS.neg (by omega) ?_)
        have e1 : wrap64 (wrap64 (p * 7) + 3) = p * 7 + 3 := by
          rw [w64 (x := p * 7) (by omega) (by omega)]; exact w64 (by omega) (by omega)
        simp only [e1]
        have i1 := tmod_range p b.length h0 (by omega)
        have i2 := tmod_range (p * 7 + 3) b.length (by omega) (by omega)
        refine EvS.pos i1.1 (EvS.pos i1.2 (EvS.pos i2.1 (EvS.pos i2.2 (EvS.neg (by omega) ?_))))
        have r1 := rd_range hb.mem _ i1.1 i1.2
        have r2 := rd_range hb.mem _ i2.1 i2.2
        generalize rd b (Int.tmod p b.length) = v1 at r1 ⊢
        generalize rd b (Int.tmod (p * 7 + 3) b.length) = v2 at r2 ⊢
        have d0 : 0 ≤ Int.tdiv p b.length ∧ Int.tdiv p b.length ≤ p := by
          rw [tdiv_pos _ _ h0]
          exact ⟨Int.ediv_nonneg h0 (by omega), Int.ediv_le_self _ h0⟩
        generalize Int.tdiv p b.length = dv at d0 ⊢
        simp (disch := omega) only [w64]
        have hx0 : 0 ≤ v1 * 131 + v2 * 1117 + p * 29 + dv * 53 := by omega
        have hx1 : v1 * 131 + v2 * 1117 + p * 29 + dv * 53 < 1000000000 := by omega
        generalize v1 * 131 + v2 * 1117 + p * 29 + dv * 53 = X at hx0 hx1 ⊢
        rw [tdiv_pos X 64 hx0, w64 (x := X / 64) (by omega) (by omega)]
        have ht := tmod_range (Go.bits .xor .i64 X (X / 64)) n (xor_nonneg _ _ (by omega) (by omega) (by omega) (by omega)) (by omega)
        exact EvS.now ⟨ht.1, fun _ => ht.2, fun h => by omega, rfl⟩

theorem one_ok (b : List Int) (p : Int) (l : List Int) (hb : BytesOk b) (h0 : 0 ≤ p) (h1 : p ≤ 100000) (hl : 1 ≤ l.length) :
    EvS (fun k => spec_reader_one.f k b p l) (fun r => r.1 ∈ l ∧ r.2 = p + 1) := by
  simp only [spec_reader_one.f]
  refine EvS.bind (pick_ok b p l.length hb h0 h1) ?_
  rintro ⟨v, q⟩ ⟨a1, a2, a3, a4⟩
  have a5 := a2 (by omega)
  refine EvS.pos a1 (EvS.pos a5 ?_)
  exact EvS.now ⟨rd_mem _ a1 a5, a4⟩
/-! ## Lists of numbers. -/
theorem inRange_eq (n lo hi : Int) : spec_inRange.f n lo hi = some (decide (lo ≤ n ∧ n ≤ hi)) := by
  unfold spec_inRange.f
  split
  · exact congrArg some (decide_eq_decide.2 (by omega))
  · exact congrArg some (decide_eq_false (by omega)).symm
def AllW (xs : List Int) (lo hi : Int) : Prop := ∀ x ∈ xs, lo ≤ x ∧ x ≤ hi
instance (xs : List Int) (lo hi : Int) : Decidable (AllW xs lo hi) := by unfold AllW; infer_instance
theorem allW_cons (y : Int) (ys : List Int) (lo hi : Int) : AllW (y :: ys) lo hi ↔ (lo ≤ y ∧ y ≤ hi) ∧ AllW ys lo hi := by
  unfold AllW; simp
theorem allWithin_l0 (xs : List Int) (hl : xs.length ≤ 1099511627776) (lo hi : Int) (ys : List Int) : ∀ i : Int, At xs i ys → EvS (fun k => impl_allWithin.l0 k lo hi xs xs.length i) (· = decide (AllW ys lo hi)) := by
  induction ys with
  | nil =>
    intro i h
    refine EvS.step (fun k => by rw [impl_allWithin.l0]) ?_
    exact EvS.neg (by have := h.ge; omega) (EvS.now (by simp [AllW]))
  | cons y ys ih =>
    intro i h
    refine EvS.step (fun k => by rw [impl_allWithin.l0]) ?_
    refine EvS.pos h.lt (EvS.pos h.nonneg (EvS.pos h.lt ?_))
    rw [At.rd h]
    refine EvS.ite (fun c => EvS.now (decide_eq_false (fun g => by have := (allW_cons _ _ _ _).1 g; omega)).symm) (fun c1 => EvS.ite (fun c => EvS.now (decide_eq_false (fun g => by have := (allW_cons _ _ _ _).1 g; omega)).symm) (fun c2 => ?_))
    refine EvS.mono (ih _ (h.wnext (by omega))) (fun r hr => ?_)
    rw [hr]
    exact decide_eq_decide.2 ⟨fun g => (allW_cons _ _ _ _).2 ⟨by omega, g⟩, fun g => ((allW_cons _ _ _ _).1 g).2⟩
theorem allWithin_ok (xs : List Int) (hl : xs.length ≤ 1099511627776) (lo hi : Int) : EvS (fun k => impl_allWithin.f k xs lo hi) (· = decide (AllW xs lo hi)) := by
  simp only [impl_allWithin.f]
  exact allWithin_l0 xs hl lo hi xs 0 (At.zero xs)
theorem allIn_l0 (xs : List Int) (hl : xs.length ≤ 1099511627776) (lo hi : Int) (ys : List Int) : ∀ i : Int, At xs i ys → EvS (fun k => spec_allIn.l0 k xs lo hi i) (· = decide (AllW ys lo hi)) := by
  induction ys with
  | nil =>
    intro i h
    refine EvS.step (fun k => by rw [spec_allIn.l0]) ?_
    exact EvS.neg (by have := h.ge; omega) (EvS.now (by simp [AllW]))
  | cons y ys ih =>
    intro i h
    refine EvS.step (fun k => by rw [spec_allIn.l0]) ?_
    refine EvS.pos h.lt (EvS.pos h.nonneg ?_)
    rw [At.rd h]
    refine EvS.call (inRange_eq _ _ _) (EvS.ite (fun c => ?_) (fun c => EvS.now ?_))
    · have c := of_decide_eq_true c
      refine EvS.mono (ih _ (h.wnext (by omega))) (fun r hr => ?_)
      rw [hr]
      exact decide_eq_decide.2 ⟨fun g => (allW_cons _ _ _ _).2 ⟨by omega, g⟩, fun g => ((allW_cons _ _ _ _).1 g).2⟩
    · have c := ndec c
      exact (decide_eq_false (fun g => c ((allW_cons _ _ _ _).1 g).1)).symm
theorem allIn_ok (xs : List Int) (hl : xs.length ≤ 1099511627776) (lo hi : Int) : EvS (fun k => spec_allIn.f k xs lo hi) (· = decide (AllW xs lo hi)) := by
  simp only [spec_allIn.f]
  exact allIn_l0 xs hl lo hi xs 0 (At.zero xs)
/-- The first place of a number, counted from i on; -1 if it is not there. -/
def posF (v : Int) : Int → List Int → Int
  | _, [] => -1
  | i, x :: xs => if x = v then i else posF v (i + 1) xs
theorem posF_range (v : Int) (xs : List Int) : ∀ i : Int, 0 ≤ i → (v ∈ xs → i ≤ posF v i xs ∧ posF v i xs < i + xs.length) ∧ (v ∉ xs → posF v i xs = -1) := by
  induction xs with
  | nil => intro i h0; exact ⟨fun h => by simp at h, fun _ => rfl⟩
  | cons x xs ih =>
    intro i h0
    have h := ih (i + 1) (by omega)
    simp only [posF, List.length_cons]
    by_cases c : x = v
    · rw [if_pos c]; exact ⟨fun _ => by omega, fun g => absurd (by simp [c]) g⟩
    · rw [if_neg c]
      refine ⟨fun g => ?_, fun g => h.2 (fun g2 => g (List.mem_cons_of_mem _ g2))⟩
      have := h.1 ((List.mem_cons.1 g).resolve_left (fun e => c e.symm))
      omega
theorem posF_nonneg (v : Int) (xs : List Int) (i : Int) (h : 0 ≤ i) : (0 ≤ posF v i xs) ↔ v ∈ xs := by
  by_cases c : v ∈ xs
  · have := (posF_range v xs i h).1 c; exact ⟨fun _ => c, fun _ => by omega⟩
  · have := (posF_range v xs i h).2 c; exact ⟨fun g => by omega, fun g => absurd g c⟩
theorem equalInts_l0 (xs : List Int) (hl : xs.length ≤ 1099511627776) (ys : List Int) : ∀ i : Int, At xs i ys → EvS (fun k => laws_equalInts.l0 k xs xs i) (· = true) := by
  induction ys with
  | nil =>
    intro i h
    refine EvS.step (fun k => by rw [laws_equalInts.l0]) ?_
    exact EvS.neg (by have := h.ge; omega) (EvS.now rfl)
  | cons y ys ih =>
    intro i h
    refine EvS.step (fun k => by rw [laws_equalInts.l0]) ?_
    exact EvS.pos h.lt (EvS.pos h.nonneg (EvS.pos h.lt (EvS.pos (by simp) (ih _ (h.wnext (by omega))))))
theorem equalInts_ok (xs : List Int) (hl : xs.length ≤ 1099511627776) : EvS (fun k => laws_equalInts.f k xs xs) (· = true) := by
  simp only [laws_equalInts.f]
  exact EvS.pos (by trivial) (equalInts_l0 xs hl xs 0 (At.zero xs))
/-- Different numbers from 0 to n - 1. -/
def Diff (xs : List Int) (n : Int) : Prop := xs.Nodup ∧ ∀ x ∈ xs, 0 ≤ x ∧ x < n
instance (xs : List Int) (n : Int) : Decidable (Diff xs n) := by unfold Diff; infer_instance
def DiffF (pre ys : List Int) (n : Int) : Prop := ys.Nodup ∧ ∀ y ∈ ys, 0 ≤ y ∧ y < n ∧ y ∉ pre
instance (pre ys : List Int) (n : Int) : Decidable (DiffF pre ys n) := by unfold DiffF; infer_instance
theorem diffF_cons (pre : List Int) (y : Int) (ys : List Int) (n : Int) : DiffF pre (y :: ys) n ↔ (0 ≤ y ∧ y < n ∧ y ∉ pre) ∧ DiffF (y :: pre) ys n := by
  unfold DiffF
  constructor
  · rintro ⟨h1, h2⟩
    have h1 := List.nodup_cons.1 h1
    refine ⟨h2 y List.mem_cons_self, h1.2, fun z hz => ?_⟩
    have := h2 z (List.mem_cons_of_mem _ hz)
    refine ⟨this.1, this.2.1, fun hm => ?_⟩
    rcases List.mem_cons.1 hm with rfl | hm
    · exact h1.1 hz
    · exact this.2.2 hm
  · rintro ⟨h1, h2, h3⟩
    refine ⟨List.nodup_cons.2 ⟨fun hm => (h3 y hm).2.2 List.mem_cons_self, h2⟩, fun z hz => ?_⟩
    rcases List.mem_cons.1 hz with rfl | hz
    · exact h1
    · have := h3 z hz
      exact ⟨this.1, this.2.1, fun hm => this.2.2 (List.mem_cons_of_mem _ hm)⟩
theorem diffF_congr {p q ys : List Int} {n : Int} (h : ∀ x, x ∈ p ↔ x ∈ q) : DiffF p ys n ↔ DiffF q ys n := by
  unfold DiffF
  simp only [h]
theorem diffF_nil (xs : List Int) (n : Int) : DiffF [] xs n ↔ Diff xs n := by
  unfold DiffF Diff; simp
theorem diff_len {xs : List Int} {n : Int} (h : Diff xs n) : (xs.length : Int) ≤ n ∨ xs = [] := by
  rcases xs with _ | ⟨x, xs⟩
  · exact .inr rfl
  · left
    have h1 : 0 ≤ n := by have := h.2 x List.mem_cons_self; omega
    have h2 : (x :: xs) ⊆ (List.range n.toNat).map (fun m : Nat => (m : Int)) := by
      intro y hy
      have := h.2 y hy
      exact List.mem_map.2 ⟨y.toNat, List.mem_range.2 (by omega), by omega⟩
    have h3 := h.1.length_le_of_subset h2
    rw [List.length_map, List.length_range] at h3
    omega
/-! ## Bodies that vote. -/
def tot : List Int → Int
  | [] => 0
  | x :: xs => x + tot xs
theorem tot_range {xs : List Int} {hi : Int} (h0 : 0 ≤ hi) (h : AllW xs 0 hi) : 0 ≤ tot xs ∧ tot xs ≤ xs.length * hi := by
  induction xs with
  | nil => simp [tot]
  | cons x xs ih =>
    have h1 := (allW_cons _ _ _ _).1 h
    have h2 := ih h1.2
    simp only [tot, List.length_cons, Int.natCast_add, Int.add_mul]
    omega
theorem tot_bound {xs : List Int} (h : ∀ x ∈ xs, -1000000000000 ≤ x ∧ x ≤ 1000000000000) : -(1000000000000 * (xs.length : Int)) ≤ tot xs ∧ tot xs ≤ 1000000000000 * xs.length := by
  induction xs with
  | nil => simp [tot]
  | cons x xs ih =>
    have h1 := h x List.mem_cons_self
    have h2 := ih (fun y hy => h y (List.mem_cons_of_mem _ hy))
    simp only [tot, List.length_cons]
    omega
theorem spec_total_l0 (xs : List Int) (hl : xs.length ≤ 1000) (hx : ∀ x ∈ xs, -1000000000000 ≤ x ∧ x ≤ 1000000000000) (ys : List Int) : ∀ (i acc : Int), At xs i ys → acc + tot ys = tot xs → EvS (fun k => spec_total.l0 k xs acc i) (· = tot xs) := by
  induction ys with
  | nil =>
    intro i acc h e
    refine EvS.step (fun k => by rw [spec_total.l0]) ?_
    exact EvS.neg (by have := h.ge; omega) (EvS.now (by simp [tot] at e; exact e))
  | cons y ys ih =>
    intro i acc h e
    have h1 := h.len
    have h2 := h.nonneg
    have b1 := tot_bound hx
    have b2 := tot_bound (xs := ys) (fun z hz => hx z (h.sub z (List.mem_cons_of_mem _ hz)))
    have b3 := hx y h.mem
    simp only [tot, List.length_cons] at e h1
    refine EvS.step (fun k => by rw [spec_total.l0]) ?_
    refine EvS.pos h.lt (EvS.pos h.nonneg ?_)
    rw [At.rd h, w64 (x := acc + y) (by omega) (by omega)]
    exact ih _ _ (h.wnext (by omega)) (by omega)
theorem spec_total_ok (xs : List Int) (hl : xs.length ≤ 1000) (hx : ∀ x ∈ xs, -1000000000000 ≤ x ∧ x ≤ 1000000000000) : EvS (fun k => spec_total.f k xs) (· = tot xs) := by
  simp only [spec_total.f]
  exact spec_total_l0 xs hl hx xs 0 0 (At.zero _) (by omega)
theorem sumOf_l0 (xs : List Int) (hl : xs.length ≤ 1000) (hx : ∀ x ∈ xs, -1000000000000 ≤ x ∧ x ≤ 1000000000000) (ys : List Int) : ∀ (i acc : Int), At xs i ys → acc + tot ys = tot xs → EvS (fun k => impl_sumOf.l0 k acc xs xs.length i) (· = tot xs) := by
  induction ys with
  | nil =>
    intro i acc h e
    refine EvS.step (fun k => by rw [impl_sumOf.l0]) ?_
    exact EvS.neg (by have := h.ge; omega) (EvS.now (by simp [tot] at e; exact e))
  | cons y ys ih =>
    intro i acc h e
    have h1 := h.len
    have h2 := h.nonneg
    have b1 := tot_bound hx
    have b2 := tot_bound (xs := ys) (fun z hz => hx z (h.sub z (List.mem_cons_of_mem _ hz)))
    have b3 := hx y h.mem
    simp only [tot, List.length_cons] at e h1
    refine EvS.step (fun k => by rw [impl_sumOf.l0]) ?_
    refine EvS.pos h.lt (EvS.pos h.nonneg (EvS.pos h.lt ?_))
    rw [At.rd h, w64 (x := acc + y) (by omega) (by omega)]
    exact ih _ _ (h.wnext (by omega)) (by omega)
theorem sumOf_ok (xs : List Int) (hl : xs.length ≤ 1000) (hx : ∀ x ∈ xs, -1000000000000 ≤ x ∧ x ≤ 1000000000000) : EvS (fun k => impl_sumOf.f k xs) (· = tot xs) := by
  simp only [impl_sumOf.f]
  exact sumOf_l0 xs hl hx xs 0 0 (At.zero _) (by omega)
def VBody (ws : List Int) (need : Int) : Prop := (1 ≤ ws.length ∧ ws.length ≤ 12) ∧ AllW ws 0 100 ∧ 1 ≤ need ∧ need ≤ tot ws
instance (ws : List Int) (need : Int) : Decidable (VBody ws need) := by unfold VBody; infer_instance
theorem impl_ValidBody_ok (ws : List Int) (hl : ws.length ≤ 4000000) (need : Int) : EvS (fun k => impl_ValidBody.f k ws need) (· = decide (VBody ws need)) := by
  simp only [impl_ValidBody.f]
  refine EvS.ite (fun c => EvS.now (decide_eq_false (fun g => by have := g.1; omega)).symm) (fun c1 => EvS.ite (fun c => EvS.now (decide_eq_false (fun g => by have := g.1; omega)).symm) (fun c2 => ?_))
  refine EvS.bindv (allWithin_ok ws (by omega) 0 100) (EvS.ite (fun c3 => EvS.ite (fun c4 => ?_) (fun c4 => EvS.now (decide_eq_false (fun g => c4 g.2.2.1)).symm)) (fun c3 => EvS.now (decide_eq_false (fun g => ndec c3 g.2.1)).symm))
  have c3 := of_decide_eq_true c3
  exact EvS.bindv (sumOf_ok ws (by omega) (fun x hx => by have := c3 x hx; omega)) (EvS.now (decide_eq_decide.2 ⟨fun g => ⟨by omega, c3, c4, g⟩, fun g => g.2.2.2⟩))
theorem spec_validBody_ok (ws : List Int) (hl : ws.length ≤ 4000000) (need : Int) : EvS (fun k => spec_validBody.f k ws need) (· = decide (VBody ws need)) := by
  simp only [spec_validBody.f]
  refine EvS.call (inRange_eq _ _ _) (EvS.ite (fun c1 => EvS.bindv (allIn_ok ws (by omega) 0 100) (EvS.ite (fun c3 => ?_) (fun c3 => EvS.now (decide_eq_false (fun g => ndec c3 g.2.1)).symm))) (fun c1 => EvS.now (decide_eq_false (fun g => ndec c1 (by have := g.1; omega))).symm))
  have c1 := of_decide_eq_true c1
  have c3 := of_decide_eq_true c3
  exact EvS.bindv (spec_total_ok ws (by omega) (fun x hx => by have := c3 x hx; omega)) (EvS.call (inRange_eq _ _ _) (EvS.now (decide_eq_decide.2 ⟨fun g => ⟨by omega, c3, g⟩, fun g => g.2.2⟩)))
/-! ## Bodies that are drawn. -/
theorem someBody_l0 (b : List Int) (hb : BytesOk b) (d : Nat) : ∀ (n p : Int) (ws : List Int), n ≤ d → 0 ≤ p → p + 2 * d + 10 ≤ 10000 → ws.length + d ≤ 9 → AllW ws 0 100 → 1 ≤ ws.length + n →
    EvS (fun k => spec_someBody.l0 k n b p ws 0) (fun r => (1 ≤ r.1.length ∧ r.1.length ≤ ws.length + d ∧ AllW r.1 0 100) ∧ p ≤ r.2.2 ∧ r.2.2 ≤ p + 2 * d + 2) := by
  induction d with
  | zero =>
    intro n p ws h1 h2 h3 h4 h5 h6
    refine EvS.step (fun k => by rw [spec_someBody.l0]) ?_
    refine EvS.neg (by omega) (EvS.bindv (spec_total_ok ws (by omega) (fun x hx => by have := h5 x hx; omega)) ?_)
    refine EvS.bind (pick_ok _ _ _ hb (by omega) (by omega)) ?_
    rintro ⟨v1, _⟩ ⟨v1_0, v1_1, v1_2, rfl⟩
    dsimp only at v1_0 v1_1 v1_2 ⊢
    refine EvS.bind (one_ok _ _ _ hb (by omega) (by omega) (by simp)) ?_
    rintro ⟨v2, _⟩ ⟨v2_m, rfl⟩
    dsimp only at v2_m ⊢
    exact EvS.now ⟨⟨by dsimp only; omega, by dsimp only; omega, h5⟩, by dsimp only; omega, by dsimp only; omega⟩
  | succ d ih =>
    intro n p ws h1 h2 h3 h4 h5 h6
    refine EvS.step (fun k => by rw [spec_someBody.l0]) ?_
    refine EvS.ite (fun c => ?_) (fun c => ?_)
    · refine EvS.bind (pick_ok _ _ _ hb (by omega) (by omega)) ?_
      rintro ⟨v1, _⟩ ⟨v1_0, v1_1, v1_2, rfl⟩
      dsimp only at v1_0 v1_1 v1_2 ⊢
      refine EvS.bind (one_ok _ _ _ hb (by omega) (by omega) (by simp)) ?_
      rintro ⟨v2, _⟩ ⟨v2_m, rfl⟩
      dsimp only at v2_m ⊢
      rw [w64 (x := 1 + v1) (by omega) (by omega), w64 (x := n - 1) (by omega) (by omega)] at *
      refine EvS.pos (by omega) ?_
      have hv : 0 ≤ v2 ∧ v2 ≤ 100 := by
        have := v1_1 (by omega)
        simp at v2_m; omega
      refine EvS.mono (ih _ _ _ (by omega) (by omega) (by omega) (by simp; omega) ?_ (by simp; omega)) (fun r hr => ?_)
      · intro x hx
        rcases List.mem_append.1 hx with hx | hx
        · exact h5 x hx
        · rw [List.mem_singleton] at hx; omega
      · obtain ⟨⟨g1, g2, g3⟩, g4, g5⟩ := hr
        simp at g2
        exact ⟨⟨g1, by omega, g3⟩, by omega, by omega⟩
    · refine EvS.bindv (spec_total_ok ws (by omega) (fun x hx => by have := h5 x hx; omega)) ?_
      refine EvS.bind (pick_ok _ _ _ hb (by omega) (by omega)) ?_
      rintro ⟨v1, _⟩ ⟨v1_0, v1_1, v1_2, rfl⟩
      dsimp only at v1_0 v1_1 v1_2 ⊢
      refine EvS.bind (one_ok _ _ _ hb (by omega) (by omega) (by simp)) ?_
      rintro ⟨v2, _⟩ ⟨v2_m, rfl⟩
      dsimp only at v2_m ⊢
      exact EvS.now ⟨⟨by dsimp only; omega, by dsimp only; omega, h5⟩, by dsimp only; omega, by dsimp only; omega⟩
theorem someBody_ok (b : List Int) (p : Int) (hb : BytesOk b) (h0 : 0 ≤ p) (h1 : p ≤ 1000) :
    EvS (fun k => spec_someBody.f k b p) (fun r => (1 ≤ r.1.length ∧ r.1.length ≤ 8 ∧ AllW r.1 0 100) ∧ p ≤ r.2.2 ∧ r.2.2 ≤ p + 19) := by
  simp only [spec_someBody.f]
  refine EvS.bind (one_ok _ _ _ hb (by omega) (by omega) (by simp)) ?_
  rintro ⟨v1, _⟩ ⟨v1_m, rfl⟩
  dsimp only at v1_m ⊢
  have hv : 1 ≤ v1 ∧ v1 ≤ (8 : Nat) := by simp at v1_m; omega
  refine EvS.mono (someBody_l0 b hb 8 v1 _ [] hv.2 (by omega) (by omega) (by simp) (by simp [AllW]) (by simp; omega)) (fun r hr => ?_)
  obtain ⟨⟨g1, g2, g3⟩, g4, g5⟩ := hr
  simp at g2
  exact ⟨⟨g1, by omega, g3⟩, by omega, by omega⟩
theorem anyBody_l0 (b : List Int) (p need : Int) (d : Nat) : ∀ ws : List Int, ws.length + d = 9 → 1 ≤ ws.length → AllW ws (-1) 101 → EvS (fun k => spec_anyBody.l0 k b p ws need) (fun r => (1 ≤ r.1.length ∧ r.1.length ≤ 9 ∧ AllW r.1 (-1) 101) ∧ r.2.2 = p) := by
  induction d with
  | zero =>
    intro ws h1 h2 h3
    refine EvS.step (fun k => by rw [spec_anyBody.l0]) ?_
    exact EvS.neg (by omega) (EvS.now ⟨⟨h2, by dsimp only; omega, h3⟩, rfl⟩)
  | succ d ih =>
    intro ws h1 h2 h3
    refine EvS.step (fun k => by rw [spec_anyBody.l0]) ?_
    refine EvS.pos (by omega) (EvS.pos (by omega) (ih _ (by simp; omega) (by simp) ?_))
    intro x hx
    rcases List.mem_append.1 hx with hx | hx
    · exact h3 x hx
    · rw [List.mem_singleton] at hx; omega
theorem anyBody_ok (b : List Int) (p : Int) (hb : BytesOk b) (h0 : 0 ≤ p) (h1 : p ≤ 1000) :
    EvS (fun k => spec_anyBody.f k b p) (fun r => (1 ≤ r.1.length ∧ r.1.length ≤ 9 ∧ AllW r.1 (-1) 101) ∧ p ≤ r.2.2 ∧ r.2.2 ≤ p + 22) := by
  simp only [spec_anyBody.f]
  refine EvS.bind (someBody_ok b p hb h0 h1) ?_
  rintro ⟨ws, need, q⟩ ⟨⟨g1, g2, g3⟩, g4, g5⟩
  dsimp only at g1 g2 g3 g4 g5 ⊢
  have g6 : AllW ws (-1) 101 := fun x hx => by have := g3 x hx; omega
  refine EvS.bind (pick_ok _ _ _ hb (by omega) (by omega)) ?_
  rintro ⟨v1, _⟩ ⟨v1_0, v1_1, v1_2, rfl⟩
  dsimp only at v1_0 v1_1 v1_2 ⊢
  refine EvS.ite (fun _ => ?_) (fun _ => EvS.ite (fun _ => ?_) (fun _ => EvS.ite (fun _ => ?_) (fun _ => ?_)))
  · refine EvS.bindv (spec_total_ok ws (by omega) (fun x hx => by have := g3 x hx; omega)) ?_
    refine EvS.bind (one_ok _ _ _ hb (by omega) (by omega) (by simp)) ?_
    rintro ⟨v2, _⟩ ⟨v2_m, rfl⟩
    dsimp only at v2_m ⊢
    exact EvS.now ⟨⟨g1, by dsimp only; omega, g6⟩, by dsimp only; omega, by dsimp only; omega⟩
  · refine EvS.bind (one_ok _ _ _ hb (by omega) (by omega) (by simp)) ?_
    rintro ⟨v2, _⟩ ⟨v2_m, rfl⟩
    dsimp only at v2_m ⊢
    refine EvS.pos (by omega) (EvS.now ⟨⟨by simp; omega, by simp; omega, fun x hx => ?_⟩, by dsimp only; omega, by dsimp only; omega⟩)
    rcases List.mem_or_eq_of_mem_set hx with hx | hx
    · exact g6 x hx
    · simp at v2_m; omega
  · refine EvS.mono (anyBody_l0 b _ need (9 - ws.length) ws (by omega) g1 g6) (fun r hr => ?_)
    exact ⟨hr.1, by omega, by omega⟩
  · exact EvS.now ⟨⟨g1, by dsimp only; omega, g6⟩, by dsimp only; omega, by dsimp only; omega⟩
/-! ## Members who win. -/
def wsum (ws : List Int) : List Int → Int
  | [] => 0
  | m :: ms => rd ws m + wsum ws ms
theorem wsum_range {ws ms : List Int} (hw : AllW ws 0 100) (hm : ∀ m ∈ ms, 0 ≤ m ∧ m < ws.length) : 0 ≤ wsum ws ms ∧ wsum ws ms ≤ 100 * (ms.length : Int) := by
  induction ms with
  | nil => simp [wsum]
  | cons m ms ih =>
    have h1 := ih (fun x hx => hm x (List.mem_cons_of_mem _ hx))
    have h2 := hm m List.mem_cons_self
    have h3 := rd_range hw m h2.1 h2.2
    simp only [wsum, List.length_cons]; omega
def winP (ws : List Int) (need : Int) (ms : List Int) : Bool := decide (VBody ws need ∧ Diff ms ws.length ∧ wsum ws ms ≥ need)
/-! ## Sets told as numbers. -/
def hasB (s : Int) : Nat → Bool
  | 0 => s % 2 == 1
  | n + 1 => hasB (s / 2) n
def pow2 : Nat → Int
  | 0 => 1
  | n + 1 => 2 * pow2 n
theorem pow2_pos (n : Nat) : 1 ≤ pow2 n := by
  induction n with
  | zero => simp [pow2]
  | succ n ih => simp only [pow2]; omega
theorem pow2_le (n : Nat) (h : n ≤ 40) : pow2 n ≤ 1099511627776 := by
  have mono : ∀ d n : Nat, pow2 n ≤ pow2 (n + d) := by
    intro d
    induction d with
    | zero => intro n; exact Int.le_refl _
    | succ d ih => intro n; have h1 := ih n; have h2 := pow2_pos (n + d); show pow2 n ≤ 2 * pow2 (n + d); omega
  have := mono (40 - n) n
  rw [show n + (40 - n) = 40 by omega] at this
  have e : pow2 40 = 1099511627776 := by decide
  omega
theorem pow2_12 (n : Nat) (h : n ≤ 12) : pow2 n ≤ 4096 := by
  have : ∀ n : Fin 13, pow2 n.val ≤ 4096 := by decide
  exact this ⟨n, by omega⟩
theorem hasB_add (m : Nat) : ∀ (s : Int) (i : Nat), 0 ≤ s → hasB s m = false → hasB (s + pow2 m) i = (decide (i = m) || hasB s i) := by
  induction m with
  | zero =>
    intro s i h0 h
    have h1 : s % 2 ≠ 1 := by simpa [hasB] using h
    cases i with
    | zero => simp only [hasB, pow2]; have : (s + 1) % 2 = 1 := by omega
              simp [this]
    | succ i => simp only [hasB, pow2]; have : (s + 1) / 2 = s / 2 := by omega
                simp [this]
  | succ m ih =>
    intro s i h0 h
    simp only [hasB] at h
    cases i with
    | zero =>
      simp only [hasB, pow2]
      have : (s + 2 * pow2 m) % 2 = s % 2 := by omega
      simp [this]
    | succ i =>
      simp only [hasB, pow2]
      have : (s + 2 * pow2 m) / 2 = s / 2 + pow2 m := by omega
      rw [this, ih _ _ (by omega) h]
      simp
def setS : List Int → Int
  | [] => 0
  | m :: ms => pow2 m.toNat + setS ms
theorem setS_nonneg (ms : List Int) : 0 ≤ setS ms := by
  induction ms with
  | nil => simp [setS]
  | cons m ms ih => have := pow2_pos m.toNat; simp only [setS]; omega
theorem hasB_zero (i : Nat) : hasB 0 i = false := by
  induction i with
  | zero => rfl
  | succ i ih => exact ih
theorem hasB_setS (ms : List Int) (hd : ms.Nodup) (h0 : ∀ m ∈ ms, 0 ≤ m) (i : Int) (hi : 0 ≤ i) : hasB (setS ms) i.toNat = decide (i ∈ ms) := by
  induction ms generalizing i with
  | nil => simp [setS, hasB_zero]
  | cons m ms ih =>
    have h1 := List.nodup_cons.1 hd
    have h2 := h0 m List.mem_cons_self
    have ih := ih h1.2 (fun x hx => h0 x (List.mem_cons_of_mem _ hx))
    simp only [setS]
    rw [Int.add_comm, hasB_add _ _ _ (setS_nonneg ms) (by rw [ih m h2]; exact decide_eq_false h1.1), ih i hi]
    rw [Bool.eq_iff_iff]
    simp only [Bool.or_eq_true, decide_eq_true_eq, List.mem_cons]
    have e : i.toNat = m.toNat ↔ i = m := by omega
    rw [e]
/-- The sum of those of the numbers, from place i on, whose place p tells. -/
def selW (p : Int → Bool) : Int → List Int → Int
  | _, [] => 0
  | i, y :: ys => (if p i = true then y else 0) + selW p (i + 1) ys
theorem selW_congr {p q : Int → Bool} (ys : List Int) : ∀ i : Int, (∀ j, i ≤ j → p j = q j) → selW p i ys = selW q i ys := by
  induction ys with
  | nil => intro i _; rfl
  | cons y ys ih => intro i h; simp only [selW]; rw [h i (Int.le_refl _), ih (i + 1) (fun j hj => h j (by omega))]
theorem selW_none (ys : List Int) : ∀ i : Int, selW (fun _ => false) i ys = 0 := by
  induction ys with
  | nil => intro i; rfl
  | cons y ys ih => intro i; simp [selW, ih]
theorem rd_cons_0 (y : Int) (ys : List Int) : rd (y :: ys) 0 = y := rfl
theorem rd_cons_s (y : Int) (ys : List Int) (i : Int) (h : 0 < i) : rd (y :: ys) i = rd ys (i - 1) := by
  unfold rd
  rw [show i.toNat = (i - 1).toNat + 1 by omega, List.getD_cons_succ]
theorem selW_add (p : Int → Bool) (m : Int) (hp : p m = false) (ys : List Int) : ∀ i : Int, i ≤ m → m < i + ys.length → selW (fun j => decide (j = m) || p j) i ys = rd ys (m - i) + selW p i ys := by
  induction ys with
  | nil => intro i h1 h2; simp at h2; omega
  | cons y ys ih =>
    intro i h1 h2
    rw [List.length_cons] at h2
    simp only [selW]
    by_cases e : i = m
    · subst e
      rw [Int.sub_self, rd_cons_0, selW_congr (p := fun j => decide (j = i) || p j) (q := p) ys (i + 1) (fun j hj => by rw [decide_eq_false (by omega), Bool.false_or])]
      simp [hp]
    · rw [ih (i + 1) (by omega) (by omega), rd_cons_s _ _ _ (by omega), show m - i - 1 = m - (i + 1) by omega]
      simp only [decide_eq_false e, Bool.false_or]
      omega
theorem selW_wsum (ws : List Int) (ms : List Int) (hd : ms.Nodup) (hm : ∀ m ∈ ms, 0 ≤ m ∧ m < ws.length) : selW (fun i => decide (i ∈ ms)) 0 ws = wsum ws ms := by
  induction ms with
  | nil => simp only [List.not_mem_nil, decide_false, wsum]; exact selW_none ws 0
  | cons m ms ih =>
    have h1 := List.nodup_cons.1 hd
    have h2 := hm m List.mem_cons_self
    have e : (fun i => decide (i ∈ m :: ms)) = (fun j => decide (j = m) || decide (j ∈ ms)) := by
      funext i
      rw [Bool.eq_iff_iff]
      simp
    rw [e, selW_add (fun j => decide (j ∈ ms)) m (decide_eq_false h1.1) ws 0 h2.1 (by omega), Int.sub_zero, ih h1.2 (fun x hx => hm x (List.mem_cons_of_mem _ hx))]
    rfl
theorem selW_range (p : Int → Bool) (ys : List Int) (hy : AllW ys 0 100) : ∀ i : Int, 0 ≤ selW p i ys ∧ selW p i ys ≤ 100 * (ys.length : Int) := by
  induction ys with
  | nil => intro i; simp [selW]
  | cons y ys ih =>
    intro i
    have h1 := (allW_cons _ _ _ _).1 hy
    have h2 := ih h1.2 (i + 1)
    simp only [selW, List.length_cons]
    split <;> omega
theorem spec_has_l0 (n : Int) (hn : n ≤ 1000) (d : Nat) : ∀ (s i : Int), 0 ≤ s → s ≤ 4611686018427387904 → i + d = n → 0 ≤ i → EvS (fun k => spec_has.l0 k s n i) (· = hasB s d) := by
  induction d with
  | zero =>
    intro s i h0 h1 e i0
    refine EvS.step (fun k => by rw [spec_has.l0]) ?_
    refine EvS.neg (by omega) (EvS.now ?_)
    rw [tmod_pos s 2 h0]; rfl
  | succ d ih =>
    intro s i h0 h1 e i0
    refine EvS.step (fun k => by rw [spec_has.l0]) ?_
    rw [tdiv_pos s 2 h0, w64 (x := s / 2) (by omega) (by omega), w64 (x := i + 1) (by omega) (by omega)]
    exact EvS.pos (by omega) (ih (s / 2) (i + 1) (by omega) (by omega) (by omega) (by omega))
theorem spec_has_ok (s i : Int) (h0 : 0 ≤ s) (h1 : s ≤ 4611686018427387904) (i0 : 0 ≤ i) (i1 : i ≤ 1000) : EvS (fun k => spec_has.f k s i) (· = hasB s i.toNat) := by
  simp only [spec_has.f]
  exact spec_has_l0 i i1 i.toNat s 0 h0 h1 (by omega) (by omega)
theorem spec_weightOf_l0 (ws : List Int) (hl : ws.length ≤ 12) (hw : AllW ws 0 100) (need s : Int) (h0 : 0 ≤ s) (h1 : s ≤ 4611686018427387904) (ys : List Int) : ∀ i acc : Int, At ws i ys → 0 ≤ acc → acc ≤ 100 * i →
    EvS (fun k => spec_weightOf.l0 k s acc i ws need) (· = acc + selW (fun j => hasB s j.toNat) i ys) := by
  induction ys with
  | nil =>
    intro i acc h a0 a1
    refine EvS.step (fun k => by rw [spec_weightOf.l0]) ?_
    exact EvS.neg (by have := h.ge; omega) (EvS.now (by simp [selW]))
  | cons y ys ih =>
    intro i acc h a0 a1
    have g1 := h.lt
    have g2 := h.nonneg
    have hr := hw y h.mem
    refine EvS.step (fun k => by rw [spec_weightOf.l0]) ?_
    refine EvS.pos h.lt (EvS.bindv (spec_has_ok s i h0 h1 g2 (by omega)) ?_)
    rw [At.rd h, w64 (x := i + 1) (by omega) (by omega)]
    refine EvS.ite (fun c => EvS.pos g2 ?_) (fun c => ?_)
    · rw [w64 (x := acc + y) (by omega) (by omega)]
      refine EvS.mono (ih (i + 1) (acc + y) h.next (by omega) (by omega)) (fun r hr => ?_)
      rw [hr, selW, if_pos c]
      omega
    · refine EvS.mono (ih (i + 1) acc h.next (by omega) (by omega)) (fun r hr => ?_)
      rw [hr, selW, if_neg c]
      omega
theorem spec_weightOf_ok (ws : List Int) (hl : ws.length ≤ 12) (hw : AllW ws 0 100) (need s : Int) (h0 : 0 ≤ s) (h1 : s ≤ 4611686018427387904) : EvS (fun k => spec_weightOf.f k ws need s) (· = selW (fun j => hasB s j.toNat) 0 ws) := by
  simp only [spec_weightOf.f]
  refine EvS.mono (spec_weightOf_l0 ws hl hw need s h0 h1 ws 0 0 (At.zero _) (by omega) (by omega)) (fun r hr => ?_)
  rw [hr]; omega
theorem spec_wins_ok (ws : List Int) (hl : ws.length ≤ 12) (hw : AllW ws 0 100) (need s : Int) (h0 : 0 ≤ s) (h1 : s ≤ 4611686018427387904) : EvS (fun k => spec_wins.f k ws need s) (· = decide (selW (fun j => hasB s j.toNat) 0 ws ≥ need)) := by
  simp only [spec_wins.f]
  exact EvS.bindv (spec_weightOf_ok ws hl hw need s h0 h1) (EvS.now rfl)
theorem spec_power_l0 (n : Int) (hn : n ≤ 40) (d : Nat) : ∀ (i : Int) (e : Nat), i + d = n → i = e → EvS (fun k => spec_power.l0 k n (pow2 e) i) (· = pow2 (e + d)) := by
  induction d with
  | zero =>
    intro i e h1 h2
    refine EvS.step (fun k => by rw [spec_power.l0]) ?_
    exact EvS.neg (by omega) (EvS.now rfl)
  | succ d ih =>
    intro i e h1 h2
    have hp := pow2_le e (by omega)
    have hp2 := pow2_pos e
    refine EvS.step (fun k => by rw [spec_power.l0]) ?_
    rw [w64 (x := 2 * pow2 e) (by omega) (by omega), w64 (x := i + 1) (by omega) (by omega)]
    refine EvS.pos (by omega) (EvS.mono (ih (i + 1) (e + 1) (by omega) (by omega)) (fun r hr => ?_))
    rw [hr, show e + (d + 1) = e + 1 + d by omega]
theorem spec_power_ok (n : Int) (h0 : 0 ≤ n) (hn : n ≤ 40) : EvS (fun k => spec_power.f k n) (· = pow2 n.toNat) := by
  simp only [spec_power.f]
  have := spec_power_l0 n hn n.toNat 0 0 (by omega) rfl
  rwa [Nat.zero_add] at this
/-! ## The dual body. -/
theorem clone_eq (l : List Int) (h : l.length ≤ 4000000) : slices_Clone_int_int.f l = some l := by
  unfold slices_Clone_int_int.f
  simp only [Option.bind_some, List.length_nil, List.nil_append]
  rw [if_pos (by omega)]
theorem impl_DualBody_ok (ws : List Int) (hl : ws.length ≤ 4000000) (need : Int) : EvS (fun k => impl_DualBody.f k ws need) (· = if VBody ws need then (ws, tot ws - need + 1) else ([], 0)) := by
  simp only [impl_DualBody.f]
  refine EvS.bindv (impl_ValidBody_ok ws hl need) (EvS.ite (fun c => ?_) (fun c => EvS.now (by rw [if_neg (ndec c)])))
  have c := of_decide_eq_true c
  have ht := tot_range (by omega) c.2.1
  have hn := c.1
  have hx := c.2.2
  rw [if_pos c]
  refine EvS.call (clone_eq ws hl) (EvS.bindv (sumOf_ok ws (by omega) (fun x hx => by have := c.2.1 x hx; omega)) (EvS.now ?_))
  rw [w64 (x := tot ws - need) (by omega) (by omega), w64 (x := tot ws - need + 1) (by omega) (by omega)]
theorem dual_valid {ws : List Int} {need : Int} (h : VBody ws need) : VBody ws (tot ws - need + 1) := ⟨h.1, h.2.1, by have := h.2.2; omega, by have := h.2.2; omega⟩
/-! ## Amounts divided into equal parts. -/
theorem list_ext {xs ys : List Int} (hl : xs.length = ys.length) (h : ∀ i : Int, 0 ≤ i → i < xs.length → rd xs i = rd ys i) : xs = ys := by
  apply List.ext_getElem hl
  intro n h1 h2
  have := h n (by omega) (by omega)
  unfold rd at this
  simp only [Int.toNat_natCast] at this
  rw [List.getD_eq_getElem?_getD, List.getD_eq_getElem?_getD, List.getElem?_eq_getElem h1, List.getElem?_eq_getElem h2] at this
  exact this
theorem rd_set (xs : List Int) (i j v : Int) (h0 : 0 ≤ i) (h1 : i < xs.length) (h2 : 0 ≤ j) : rd (xs.set i.toNat v) j = if i = j then v else rd xs j := by
  unfold rd
  rw [List.getD_eq_getElem?_getD, List.getElem?_set]
  by_cases c : i = j
  · subst c; rw [if_pos rfl, if_pos (by omega), if_pos rfl]; rfl
  · rw [if_neg (by omega), if_neg c, List.getD_eq_getElem?_getD]
theorem rd_zeros (n : Nat) (j : Int) : rd (List.replicate n 0) j = 0 := by
  unfold rd
  rw [List.getD_eq_getElem?_getD, List.getElem?_replicate]
  split <;> rfl
theorem rd_snoc (xs : List Int) (v j : Int) (h0 : 0 ≤ j) : rd (xs ++ [v]) j = if j < xs.length then rd xs j else if j = xs.length then v else 0 := by
  unfold rd
  rw [List.getD_eq_getElem?_getD, List.getD_eq_getElem?_getD]
  by_cases c : j < xs.length
  · rw [if_pos c, List.getElem?_append_left (by omega)]
  · rw [if_neg c, List.getElem?_append_right (by omega)]
    by_cases c2 : j = xs.length
    · rw [if_pos c2, c2]; simp
    · rw [if_neg c2, List.getElem?_eq_none (by simp; omega)]; rfl
/-! ## Who decides, and how often. -/
theorem and_bit (s : Nat) (hs : s < 256) (m : Nat) (hm : m < 9) : Go.bits .and .i64 (shr .i64 (s : Int) (m : Int)) 1 = if hasB s m = true then 1 else 0 := by
  have h : ∀ m : Fin 9, ∀ s : Fin 256, Go.bits .and .i64 (shr .i64 (s.val : Int) ((m.val : Nat) : Int)) 1 = if hasB s m.val = true then 1 else 0 := by decide +kernel
  exact h ⟨m, hm⟩ ⟨s, hs⟩
theorem shr_end (s : Nat) (hs : s < 256) : shr .i64 (s : Int) ((8 : Nat) : Int) = 0 := by
  have h : ∀ s : Fin 256, shr .i64 (s.val : Int) ((8 : Nat) : Int) = 0 := by decide +kernel
  exact h ⟨s, hs⟩
theorem shl_bit (m : Nat) (hm : m < 9) : shl .i64 1 (m : Int) = pow2 m := by
  have h : ∀ m : Fin 9, shl .i64 1 ((m.val : Nat) : Int) = pow2 m.val := by decide +kernel
  exact h ⟨m, hm⟩
theorem pow2_8 (n : Nat) (h : n ≤ 8) : pow2 n ≤ 256 := by
  have : ∀ n : Fin 9, pow2 n.val ≤ 256 := by decide
  exact this ⟨n, by omega⟩
theorem members_l0 (s : Int) (s0 : 0 ≤ s) (s1 : s < 256) (d : Nat) : ∀ (i : Int) (out : List Int), i + d = 8 → 0 ≤ i → out.length ≤ i → EvS (fun k => impl_membersIn.l0 k s out i) (fun r => r.length ≤ 8) := by
  obtain ⟨n, rfl⟩ := Int.eq_ofNat_of_zero_le s0
  induction d with
  | zero =>
    intro i out e h0 ho
    have : i = ((8 : Nat) : Int) := by omega
    subst this
    refine EvS.step (fun k => by rw [impl_membersIn.l0]) ?_
    refine EvS.pos (by omega) (EvS.neg (by rw [shr_end n (by omega)]; omega) (EvS.now (by omega)))
  | succ d ih =>
    intro i out e h0 ho
    refine EvS.step (fun k => by rw [impl_membersIn.l0]) ?_
    rw [w64 (x := i + 1) (by omega) (by omega)]
    refine EvS.pos h0 (EvS.ite (fun _ => EvS.ite (fun _ => EvS.pos (by omega) ?_) (fun _ => ?_)) (fun _ => EvS.now (by omega)))
    · exact ih _ _ (by omega) (by omega) (by simp; omega)
    · exact ih _ _ (by omega) (by omega) (by omega)
theorem members_any (s : Int) (s0 : 0 ≤ s) (s1 : s < 256) : EvS (fun k => impl_membersIn.f k s) (fun r => r.length ≤ 8) := by
  simp only [impl_membersIn.f]
  exact members_l0 s s0 s1 8 0 [] (by omega) (by omega) (by simp)
/-- The votes of a set. -/
def wS (ws : List Int) (s : Int) : Int := selW (fun j => hasB s j.toNat) 0 ws
theorem votes_l0 (ws : List Int) (hl : ws.length ≤ 8) (hw : AllW ws 0 100) (need s : Int) (s0 : 0 ≤ s) (s1 : s < 256) (ys : List Int) : ∀ i acc : Int, At ws i ys → 0 ≤ acc → acc ≤ 100 * i →
    EvS (fun k => impl_votesOf.l0 k s acc ws ws.length i) (· = acc + selW (fun j => hasB s j.toNat) i ys) := by
  obtain ⟨n, rfl⟩ := Int.eq_ofNat_of_zero_le s0
  induction ys with
  | nil =>
    intro i acc h a0 a1
    refine EvS.step (fun k => by rw [impl_votesOf.l0]) ?_
    exact EvS.neg (by have := h.ge; omega) (EvS.now (by simp [selW]))
  | cons y ys ih =>
    intro i acc h a0 a1
    have g1 := h.lt
    have g2 := h.nonneg
    have hr := hw y h.mem
    obtain ⟨m, rfl⟩ := Int.eq_ofNat_of_zero_le g2
    refine EvS.step (fun k => by rw [impl_votesOf.l0]) ?_
    refine EvS.pos h.lt (EvS.pos h.nonneg (EvS.pos h.lt ?_))
    rw [At.rd h, and_bit n (by omega) m (by omega), w64 (x := (m : Int) + 1) (by omega) (by omega)]
    by_cases c : hasB (n : Int) m = true
    · rw [if_pos c, w64 (x := acc + y) (by omega) (by omega)]
      refine EvS.pos rfl (EvS.mono (ih _ (acc + y) h.next (by omega) (by omega)) (fun r hr => ?_))
      rw [hr]
      simp only [selW, Int.toNat_natCast]
      rw [if_pos c]; omega
    · rw [if_neg c]
      refine EvS.neg (by omega) (EvS.mono (ih _ acc h.next (by omega) (by omega)) (fun r hr => ?_))
      rw [hr]
      simp only [selW, Int.toNat_natCast]
      rw [if_neg c]; omega
theorem votesOf_ok (ws : List Int) (hl : ws.length ≤ 8) (hw : AllW ws 0 100) (need s : Int) (s0 : 0 ≤ s) (s1 : s < 256) : EvS (fun k => impl_votesOf.f k ws need s) (· = wS ws s) := by
  simp only [impl_votesOf.f]
  refine EvS.mono (votes_l0 ws hl hw need s s0 s1 ws 0 0 (At.zero _) (by omega) (by omega)) (fun r hr => ?_)
  rw [hr, wS]; omega
/-- A set's counts, from member i on. -/
def inc1 (ws : List Int) (need s : Int) : List Int → Int → List Int → List Int
  | [], _, acc => acc
  | y :: ys, i, acc => if hasB s i.toNat = false ∧ wS ws s < need ∧ wS ws s + y ≥ need then inc1 ws need s ys (i + 1) (acc.set i.toNat (rd acc i + 1)) else inc1 ws need s ys (i + 1) acc
def runS (ws : List Int) (need : Int) : Nat → Int → List Int → List Int
  | 0, _, acc => acc
  | d + 1, s, acc => runS ws need d (s + 1) (inc1 ws need s ws 0 acc)
def Bd (n : Nat) (b : Int) (acc : List Int) : Prop := acc.length = n ∧ ∀ j : Int, 0 ≤ j → j < n → 0 ≤ rd acc j ∧ rd acc j ≤ b
theorem inc1_skip (ws : List Int) (need s : Int) (h : wS ws s ≥ need) (ys : List Int) : ∀ (i : Int) (acc : List Int), inc1 ws need s ys i acc = acc := by
  induction ys with
  | nil => intro i acc; rfl
  | cons y ys ih => intro i acc; simp only [inc1]; rw [if_neg (by omega), ih]
theorem inc1_len (ws : List Int) (need s : Int) (ys : List Int) : ∀ (i : Int) (acc : List Int), (inc1 ws need s ys i acc).length = acc.length := by
  induction ys with
  | nil => intro i acc; rfl
  | cons y ys ih =>
    intro i acc
    simp only [inc1]
    split
    · rw [ih, List.length_set]
    · exact ih _ _
theorem runS_len (ws : List Int) (need : Int) (d : Nat) : ∀ (s : Int) (acc : List Int), (runS ws need d s acc).length = acc.length := by
  induction d with
  | zero => intro s acc; rfl
  | succ d ih => intro s acc; rw [runS, ih, inc1_len]
theorem inc1_bd (ws : List Int) (need s : Int) (n : Nat) (b : Int) (ys : List Int) : ∀ (i : Int) (acc : List Int), 0 ≤ i → i + ys.length = n → acc.length = n → (∀ j : Int, 0 ≤ j → j < n → 0 ≤ rd acc j ∧ rd acc j ≤ b + if j < i then 1 else 0) → Bd n (b + 1) (inc1 ws need s ys i acc) := by
  induction ys with
  | nil =>
    intro i acc h0 e hl hb
    refine ⟨hl, fun j j0 j1 => ?_⟩
    have := hb j j0 j1
    simp only [inc1]
    split at this <;> omega
  | cons y ys ih =>
    intro i acc h0 e hl hb
    rw [List.length_cons] at e
    simp only [inc1]
    split
    · refine ih (i + 1) _ (by omega) (by omega) (by rw [List.length_set]; exact hl) (fun j j0 j1 => ?_)
      rw [rd_set _ _ _ _ h0 (by omega) j0]
      have hj := hb j j0 j1
      by_cases q : i = j
      · subst q
        rw [if_pos rfl, if_pos (by omega)]
        rw [if_neg (by omega)] at hj
        omega
      · rw [if_neg q]
        by_cases q2 : j < i
        · rw [if_pos q2] at hj; rw [if_pos (by omega)]; exact hj
        · rw [if_neg q2] at hj; rw [if_neg (by omega)]; exact hj
    · refine ih (i + 1) _ (by omega) (by omega) hl (fun j j0 j1 => ?_)
      have hj := hb j j0 j1
      by_cases q2 : j < i
      · rw [if_pos q2] at hj; rw [if_pos (by omega)]; exact hj
      · rw [if_neg q2] at hj; split <;> omega
theorem inc1_Bd {ws : List Int} {need s : Int} {b : Int} {acc : List Int} (h : Bd ws.length b acc) : Bd ws.length (b + 1) (inc1 ws need s ws 0 acc) :=
  inc1_bd ws need s ws.length b ws 0 acc (by omega) (by omega) h.1 (fun j j0 j1 => by have := h.2 j j0 j1; rw [if_neg (by omega)]; omega)
/-! ### the program's -/
theorem dec_l1 {P : List Int → Prop} (ws : List Int) (hl : ws.length ≤ 8) (hw : AllW ws 0 100) (need s : Int) (hn : wS ws s < need) (s0 : 0 ≤ s) (s1 : s < 256) (sz N t : Int) (ys : List Int) : ∀ (i : Int) (acc : List Int), At ws i ys → acc.length = ws.length → (∀ j : Int, 0 ≤ j → j < ws.length → 0 ≤ rd acc j ∧ rd acc j ≤ 1000) →
    (∀ j : Int, i ≤ j → j < ws.length → rd acc j ≤ 900) → EvS (fun k => impl_decisions.l0 k (inc1 ws need s ys i acc) N (wrap64 (t + 1)) ws need) P → EvS (fun k => impl_decisions.l1 k acc s (wS ws s) sz N t ws ws.length i ws need) P := by
  obtain ⟨n, rfl⟩ := Int.eq_ofNat_of_zero_le s0
  have hW := selW_range (fun j => hasB (n : Int) j.toNat) ws hw 0
  have hW' : 0 ≤ wS ws (n : Int) ∧ wS ws (n : Int) ≤ 800 := by unfold wS; omega
  induction ys with
  | nil =>
    intro i acc h ha hb hb2 K
    refine EvS.step (fun k => by rw [impl_decisions.l1]) ?_
    exact EvS.neg (by have := h.ge; omega) K
  | cons y ys ih =>
    intro i acc h ha hb hb2 K
    have g1 := h.lt
    have g2 := h.nonneg
    have hr := hw y h.mem
    have hrd := hb i g2 g1
    have hrd2 := hb2 i (by omega) g1
    have hab : Go.bits .and .i64 (shr .i64 (n : Int) i) 1 = if hasB (n : Int) i.toNat = true then 1 else 0 := by
      have := and_bit n (by omega) i.toNat (by omega)
      rwa [Int.toNat_of_nonneg g2] at this
    simp only [inc1] at K
    refine EvS.step (fun k => by rw [impl_decisions.l1]) ?_
    refine EvS.pos h.lt (EvS.pos h.nonneg (EvS.pos h.lt ?_))
    rw [At.rd h, hab, w64 (x := i + 1) (by omega) (by omega), w64 (x := wS ws (n : Int) + y) (by omega) (by omega)]
    by_cases c : hasB (n : Int) i.toNat = true
    · rw [if_pos c]
      rw [if_neg (fun q => by rw [c] at q; exact absurd q.1 (by simp))] at K
      exact EvS.neg (by omega) (ih _ acc h.next ha hb (fun j j0 j1 => hb2 j (by omega) j1) K)
    · rw [if_neg c]
      have c' : hasB (n : Int) i.toNat = false := by simpa using c
      refine EvS.pos rfl (EvS.ite (fun c2 => EvS.pos (by omega) (EvS.call rfl ?_)) (fun c2 => ?_))
      · rw [if_pos ⟨c', hn, c2⟩] at K
        rw [w64 (x := rd acc i + 1) (by omega) (by omega)]
        refine ih _ _ h.next (by rw [List.length_set]; exact ha) (fun j j0 j1 => ?_) (fun j j0 j1 => ?_) K
        · rw [rd_set _ _ _ _ g2 (by omega) j0]
          split
          · omega
          · exact hb j j0 j1
        · rw [rd_set _ _ _ _ g2 (by omega) (by omega), if_neg (by omega)]
          exact hb2 j (by omega) j1
      · rw [if_neg (fun q => c2 q.2.2)] at K
        exact ih _ acc h.next ha hb (fun j j0 j1 => hb2 j (by omega) j1) K
theorem dec_l0 (ws : List Int) (hl : ws.length ≤ 8) (hw : AllW ws 0 100) (need : Int) (N : Int) (hN : N ≤ 256) (d : Nat) : ∀ (s : Int) (acc : List Int), s + d = N → 0 ≤ s → Bd ws.length s acc → EvS (fun k => impl_decisions.l0 k acc N s ws need) (· = runS ws need d s acc) := by
  induction d with
  | zero =>
    intro s acc e h0 hb
    refine EvS.step (fun k => by rw [impl_decisions.l0]) ?_
    exact EvS.neg (by omega) (EvS.now rfl)
  | succ d ih =>
    intro s acc e h0 hb
    refine EvS.step (fun k => by rw [impl_decisions.l0]) ?_
    have h2 := ih (s + 1) (inc1 ws need s ws 0 acc) (by omega) (by omega) (inc1_Bd hb)
    have hw1 : wrap64 (s + 1) = s + 1 := w64 (by omega) (by omega)
    refine EvS.pos (by omega) (EvS.bindv (votesOf_ok ws hl hw need s h0 (by omega)) (EvS.ite (fun c => ?_) (fun c => EvS.bind (members_any s h0 (by omega)) (fun m hm => ?_))))
    · rw [inc1_skip ws need s c] at h2
      rw [hw1, runS, inc1_skip ws need s c]
      exact h2
    · refine dec_l1 ws hl hw need s (by omega) h0 (by omega) _ N s ws 0 acc (At.zero _) hb.1 (fun j j0 j1 => by have := hb.2 j j0 j1; omega) (fun j j0 j1 => by have := hb.2 j j0 j1; omega) ?_
      rw [hw1]
      exact h2
def swL (ws : List Int) (need : Int) : List Int := if VBody ws need ∧ ws.length ≤ 8 then runS ws need (pow2 ws.length).toNat 0 (List.replicate ws.length 0) else []
theorem swL_len (ws : List Int) (need : Int) : (swL ws need).length ≤ 8 := by
  unfold swL
  split
  · rename_i h
    rw [runS_len, List.length_replicate]; exact h.2
  · simp
theorem zeros_Bd (n : Nat) : Bd n 0 (List.replicate n 0) := ⟨by simp, fun j _ _ => by rw [rd_zeros]; omega⟩
theorem impl_SwingsOf_ok (ws : List Int) (hl : ws.length ≤ 4000000) (need : Int) : EvS (fun k => impl_SwingsOf.f k ws need) (· = swL ws need) := by
  simp only [impl_SwingsOf.f, impl_smallBody.f]
  have hs : EvS (fun k => if (ws.length : Int) ≤ 8 then ((impl_ValidBody.f k ws need).bind fun t => some t) else some false) (· = decide (VBody ws need ∧ ws.length ≤ 8)) := by
    refine EvS.ite (fun c => EvS.bindv (impl_ValidBody_ok ws hl need) (EvS.now ?_)) (fun c => EvS.now (decide_eq_false (fun q => c (by have := q.2; omega))).symm)
    exact decide_eq_decide.2 ⟨fun q => ⟨q, by omega⟩, fun q => q.1⟩
  refine EvS.bindv hs (EvS.ite (fun c => ?_) (fun c => EvS.now (by unfold swL; rw [if_neg (ndec c)])))
  have c := of_decide_eq_true c
  have hp := pow2_pos ws.length
  have hp8 := pow2_8 ws.length c.2
  simp only [impl_decisions.f]
  rw [shl_bit ws.length (by omega)]
  refine EvS.bindv (a := swL ws need) (EvS.pos (by omega) (EvS.pos (by omega) ?_)) (EvS.now rfl)
  rw [Int.toNat_natCast]
  refine EvS.mono (dec_l0 ws c.2 c.1.2.1 need (pow2 ws.length) hp8 (pow2 ws.length).toNat 0 _ (by omega) (by omega) (zeros_Bd _)) (fun r hr => ?_)
  rw [hr]; unfold swL; rw [if_pos c]
/-! ### the reference's -/
theorem wS_add (ws : List Int) (s i : Int) (s0 : 0 ≤ s) (i0 : 0 ≤ i) (i1 : i < ws.length) (hb : hasB s i.toNat = false) : wS ws (s + pow2 i.toNat) = wS ws s + rd ws i := by
  unfold wS
  rw [selW_congr (q := fun j => decide (j = i) || hasB s j.toNat) ws 0 (fun j hj => by
    rw [hasB_add i.toNat s j.toNat s0 hb]
    have : decide (j.toNat = i.toNat) = decide (j = i) := decide_eq_decide.2 (by omega)
    rw [this]), selW_add (fun j => hasB s j.toNat) i hb ws 0 i0 (by omega), Int.sub_zero]
  omega
theorem spec_sw_l1 {P : List Int → Prop} (ws : List Int) (hl : ws.length ≤ 8) (hw : AllW ws 0 100) (need s : Int) (s0 : 0 ≤ s) (s1 : s < 256) (ys : List Int) : ∀ (i : Int) (acc : List Int), At ws i ys → acc.length = ws.length → (∀ j : Int, 0 ≤ j → j < ws.length → 0 ≤ rd acc j ∧ rd acc j ≤ 1000) →
    (∀ j : Int, i ≤ j → j < ws.length → rd acc j ≤ 900) → EvS (fun k => spec_swings.l0 k (inc1 ws need s ys i acc) (wrap64 (s + 1)) ws need) P → EvS (fun k => spec_swings.l1 k acc s i ws need) P := by
  induction ys with
  | nil =>
    intro i acc h ha hb hb2 K
    refine EvS.step (fun k => by rw [spec_swings.l1]) ?_
    exact EvS.neg (by have := h.ge; omega) K
  | cons y ys ih =>
    intro i acc h ha hb hb2 K
    have g1 := h.lt
    have g2 := h.nonneg
    have hrd := hb i g2 g1
    have hrd2 := hb2 i (by omega) g1
    have hpi := pow2_8 i.toNat (by omega)
    have hpp := pow2_pos i.toNat
    have hy : rd ws i = y := At.rd h
    simp only [inc1] at K
    refine EvS.step (fun k => by rw [spec_swings.l1]) ?_
    rw [w64 (x := i + 1) (by omega) (by omega)]
    have skip : ¬ (hasB s i.toNat = false ∧ wS ws s < need ∧ wS ws s + y ≥ need) → EvS (fun k => spec_swings.l1 k acc s (i + 1) ws need) P := by
      intro q
      rw [if_neg q] at K
      exact ih _ acc h.next ha hb (fun j j0 j1 => hb2 j (by omega) j1) K
    refine EvS.pos h.lt (EvS.bindv (spec_has_ok s i s0 (by omega) g2 (by omega)) (EvS.ite (fun c => skip (fun q => by rw [c] at q; exact absurd q.1 (by simp))) (fun c => EvS.bindv (spec_wins_ok ws (by omega) hw need s s0 (by omega)) (EvS.ite (fun c2 => skip (fun q => by have := of_decide_eq_true c2; unfold wS at q; omega)) (fun c2 => EvS.bindv (spec_power_ok i g2 (by omega)) ?_)))))
    have c' : hasB s i.toNat = false := by simpa using c
    have c2' := ndec c2
    rw [w64 (x := s + pow2 i.toNat) (by omega) (by omega)]
    have ha2 := wS_add ws s i s0 g2 g1 c'
    rw [hy] at ha2
    refine EvS.bindv (spec_wins_ok ws (by omega) hw need (s + pow2 i.toNat) (by omega) (by omega)) (EvS.ite (fun c3 => EvS.pos g2 (EvS.pos (by omega) ?_)) (fun c3 => skip (fun q => ?_)))
    · have c3 := of_decide_eq_true c3
      rw [if_pos ⟨c', by unfold wS; omega, by rw [← ha2]; exact c3⟩] at K
      rw [w64 (x := rd acc i + 1) (by omega) (by omega)]
      refine ih _ _ h.next (by rw [List.length_set]; exact ha) (fun j j0 j1 => ?_) (fun j j0 j1 => ?_) K
      · rw [rd_set _ _ _ _ g2 (by omega) j0]
        split
        · omega
        · exact hb j j0 j1
      · rw [rd_set _ _ _ _ g2 (by omega) (by omega), if_neg (by omega)]
        exact hb2 j (by omega) j1
    · have c3 := ndec c3
      have := q.2.2
      rw [← ha2] at this
      exact c3 this
theorem spec_sw_l0 (ws : List Int) (hl : ws.length ≤ 8) (hw : AllW ws 0 100) (need : Int) (d : Nat) : ∀ (s : Int) (acc : List Int), s + d = pow2 ws.length → 0 ≤ s → Bd ws.length s acc → EvS (fun k => spec_swings.l0 k acc s ws need) (· = runS ws need d s acc) := by
  have hp8 := pow2_8 ws.length hl
  induction d with
  | zero =>
    intro s acc e h0 hb
    refine EvS.step (fun k => by rw [spec_swings.l0]) ?_
    refine EvS.bindv (spec_power_ok ws.length (by omega) (by omega)) (EvS.neg ?_ (EvS.now rfl))
    rw [Int.toNat_natCast]; omega
  | succ d ih =>
    intro s acc e h0 hb
    refine EvS.step (fun k => by rw [spec_swings.l0]) ?_
    refine EvS.bindv (spec_power_ok ws.length (by omega) (by omega)) (EvS.pos (by rw [Int.toNat_natCast]; omega) ?_)
    refine spec_sw_l1 ws hl hw need s h0 (by omega) ws 0 acc (At.zero _) hb.1 (fun j j0 j1 => by have := hb.2 j j0 j1; omega) (fun j j0 j1 => by have := hb.2 j j0 j1; omega) ?_
    rw [w64 (x := s + 1) (by omega) (by omega)]
    exact ih (s + 1) _ (by omega) (by omega) (inc1_Bd hb)
theorem spec_swings_ok (ws : List Int) (need : Int) (c : VBody ws need ∧ ws.length ≤ 8) : EvS (fun k => spec_swings.f k ws need) (· = swL ws need) := by
  have hp := pow2_pos ws.length
  simp only [spec_swings.f]
  refine EvS.pos (by omega) (EvS.pos (by omega) ?_)
  rw [Int.toNat_natCast]
  refine EvS.mono (spec_sw_l0 ws c.2 c.1.2.1 need (pow2 ws.length).toNat 0 _ (by omega) (by omega) (zeros_Bd _)) (fun r hr => ?_)
  rw [hr]; unfold swL; rw [if_pos c]
theorem spec_validSmall_ok (ws : List Int) (hl : ws.length ≤ 4000000) (need : Int) : EvS (fun k => spec_validSmall.f k ws need) (· = decide (VBody ws need ∧ ws.length ≤ 8)) := by
  simp only [spec_validSmall.f]
  refine EvS.bindv (spec_validBody_ok ws hl need) (EvS.ite (fun c => EvS.now ?_) (fun c => EvS.now (decide_eq_false (fun q => ndec c q.1)).symm))
  exact decide_eq_decide.2 ⟨fun q => ⟨of_decide_eq_true c, by omega⟩, fun q => by have := q.2; omega⟩
theorem spec_SwingsOf_ok (ws : List Int) (hl : ws.length ≤ 4000000) (need : Int) : EvS (fun k => spec_SwingsOf.f k ws need) (· = swL ws need) := by
  simp only [spec_SwingsOf.f]
  refine EvS.bindv (spec_validSmall_ok ws hl need) (EvS.ite (fun c => EvS.bindv (spec_swings_ok ws need (of_decide_eq_true c)) (EvS.now rfl)) (fun c => EvS.now (by unfold swL; rw [if_neg (ndec c)])))
/-! ## What the counts are. -/
def sumF : Nat → Int → (Int → Int) → Int
  | 0, _, _ => 0
  | d + 1, s, g => g s + sumF d (s + 1) g
theorem sumF_congr {g h : Int → Int} (d : Nat) : ∀ s : Int, (∀ t, s ≤ t → t < s + d → g t = h t) → sumF d s g = sumF d s h := by
  induction d with
  | zero => intro s _; rfl
  | succ d ih => intro s q; simp only [sumF]; rw [q s (by omega) (by omega), ih (s + 1) (fun t t0 t1 => q t (by omega) (by omega))]
theorem sumF_add (g h : Int → Int) (d : Nat) : ∀ s : Int, sumF d s (fun t => g t + h t) = sumF d s g + sumF d s h := by
  induction d with
  | zero => intro s; rfl
  | succ d ih => intro s; simp only [sumF]; rw [ih]; omega
theorem sumF_two (g : Int → Int) (d : Nat) : ∀ s : Int, sumF (2 * d) (2 * s) g = sumF d s (fun t => g (2 * t) + g (2 * t + 1)) := by
  induction d with
  | zero => intro s; rfl
  | succ d ih =>
    intro s
    rw [show 2 * (d + 1) = 2 * d + 1 + 1 by omega]
    simp only [sumF]
    rw [show 2 * s + 1 + 1 = 2 * (s + 1) by omega, ih]
    omega
def cw : List Int → (Int → Int) → Int
  | [], f => f 0
  | w :: ws, f => cw ws f + cw ws (fun x => f (x + w))
theorem selW_shift (p : Int → Bool) (ys : List Int) : ∀ i : Int, selW p (i + 1) ys = selW (fun j => p (j + 1)) i ys := by
  induction ys with
  | nil => intro i; rfl
  | cons y ys ih => intro i; simp only [selW]; rw [ih]
theorem wS_cons (w : Int) (ws : List Int) (s : Int) : wS (w :: ws) s = (if hasB s 0 = true then w else 0) + wS ws (s / 2) := by
  unfold wS
  simp only [selW]
  have h := selW_shift (fun j => hasB s j.toNat) ws 0
  rw [h, selW_congr (p := fun j => hasB s (j + 1).toNat) (q := fun j => hasB (s / 2) j.toNat) ws 0 (fun j hj => by rw [show (j + 1).toNat = j.toNat + 1 by omega]; rfl)]
  rfl
theorem hasB_even (t : Int) (i : Nat) : hasB (2 * t) (i + 1) = hasB t i := by simp only [hasB]; rw [show 2 * t / 2 = t by omega]
theorem hasB_odd (t : Int) (i : Nat) : hasB (2 * t + 1) (i + 1) = hasB t i := by simp only [hasB]; rw [show (2 * t + 1) / 2 = t by omega]
theorem hasB_even0 (t : Int) : hasB (2 * t) 0 = false := by simp only [hasB]; rw [show 2 * t % 2 = 0 by omega]; rfl
theorem hasB_odd0 (t : Int) : hasB (2 * t + 1) 0 = true := by simp only [hasB]; rw [show (2 * t + 1) % 2 = 1 by omega]; rfl
theorem wS_even (w : Int) (ws : List Int) (t : Int) : wS (w :: ws) (2 * t) = wS ws t := by
  rw [wS_cons, hasB_even0, show 2 * t / 2 = t by omega]; simp
theorem wS_odd (w : Int) (ws : List Int) (t : Int) : wS (w :: ws) (2 * t + 1) = wS ws t + w := by
  rw [wS_cons, hasB_odd0, show (2 * t + 1) / 2 = t by omega, if_pos rfl]; omega
theorem p2_succ (n : Nat) : (pow2 (n + 1)).toNat = 2 * (pow2 n).toNat := by have := pow2_pos n; simp only [pow2]; omega
theorem all_cw (ws : List Int) : ∀ f : Int → Int, sumF (pow2 ws.length).toNat 0 (fun s => f (wS ws s)) = cw ws f := by
  induction ws with
  | nil => intro f; simp [pow2, sumF, wS, selW, cw]
  | cons w ws ih =>
    intro f
    rw [List.length_cons, p2_succ]
    have h := sumF_two (fun s => f (wS (w :: ws) s)) (pow2 ws.length).toNat 0
    rw [Int.mul_zero] at h
    rw [h]
    simp only [wS_even, wS_odd]
    rw [sumF_add, ih f, ih (fun x => f (x + w)), cw]
theorem one_cw (ws : List Int) : ∀ (i : Nat) (f : Int → Int), i < ws.length → sumF (pow2 ws.length).toNat 0 (fun s => if hasB s i = false then f (wS ws s) else 0) = cw (ws.eraseIdx i) f := by
  induction ws with
  | nil => intro i f h; simp at h
  | cons w ws ih =>
    intro i f hi
    rw [List.length_cons, p2_succ]
    have h := sumF_two (fun s => if hasB s i = false then f (wS (w :: ws) s) else 0) (pow2 ws.length).toNat 0
    rw [Int.mul_zero] at h
    rw [h]
    cases i with
    | zero =>
      simp only [wS_even, wS_odd, hasB_even0, hasB_odd0, if_true, Bool.true_eq_false, if_false, Int.add_zero, List.eraseIdx_cons_zero]
      exact all_cw ws f
    | succ i =>
      rw [List.length_cons] at hi
      simp only [wS_even, wS_odd, hasB_even, hasB_odd, List.eraseIdx_cons_succ]
      rw [sumF_add, ih i f (by omega), ih i (fun x => f (x + w)) (by omega), cw]
theorem cw_mono (ws : List Int) : ∀ {f g : Int → Int}, (∀ x, f x ≤ g x) → cw ws f ≤ cw ws g := by
  induction ws with
  | nil => intro f g h; exact h 0
  | cons w ws ih => intro f g h; have h1 := ih h; have h2 := ih (f := fun x => f (x + w)) (g := fun x => g (x + w)) (fun x => h (x + w)); simp only [cw]; omega
theorem cw_perm {l l' : List Int} (h : l.Perm l') : ∀ f : Int → Int, cw l f = cw l' f := by
  induction h with
  | nil => intro f; rfl
  | cons x _ ih => intro f; simp only [cw]; rw [ih, ih]
  | swap x y l =>
    intro f
    simp only [cw]
    rw [show (fun z => f (z + y + x)) = (fun z => f (z + x + y)) from funext fun z => by rw [Int.add_right_comm]]
    omega
  | trans _ _ ih1 ih2 => intro f; rw [ih1, ih2]
theorem cw_turn (ws : List Int) : ∀ f : Int → Int, cw ws (fun x => f (tot ws - x)) = cw ws f := by
  induction ws with
  | nil => intro f; simp [cw, tot]
  | cons w ws ih =>
    intro f
    simp only [cw, tot]
    rw [show (fun x => f (w + tot ws - (x + w))) = (fun x => f (tot ws - x)) from funext fun x => by congr 1; omega, ih f,
      show (fun x => f (w + tot ws - x)) = (fun x => (fun y => f (y + w)) (tot ws - x)) from funext fun x => by show f _ = f _; congr 1; omega, ih (fun y => f (y + w))]
    omega
/-- What decides: with a member's votes it is enough, without it is not. -/
def dec1 (need v : Int) (x : Int) : Int := if x < need ∧ x + v ≥ need then 1 else 0
theorem inc1_rd (ws : List Int) (need s : Int) (ys : List Int) : ∀ (i0 : Int) (acc : List Int), 0 ≤ i0 → i0 + ys.length = acc.length → ∀ i : Int, 0 ≤ i → i < acc.length → rd (inc1 ws need s ys i0 acc) i = rd acc i + if i0 ≤ i ∧ hasB s i.toNat = false then dec1 need (rd ys (i - i0)) (wS ws s) else 0 := by
  induction ys with
  | nil => intro i0 acc h0 e i j0 j1; simp at e; rw [inc1, if_neg (by omega)]; omega
  | cons y ys ih =>
    intro i0 acc h0 e i j0 j1
    rw [List.length_cons] at e
    simp only [inc1]
    by_cases q : i = i0
    · subst q
      rw [Int.sub_self, rd_cons_0]
      by_cases c : hasB s i.toNat = false ∧ wS ws s < need ∧ wS ws s + y ≥ need
      · rw [if_pos c, ih (i + 1) _ (by omega) (by rw [List.length_set]; omega) i j0 (by rw [List.length_set]; exact j1), if_neg (by omega), rd_set _ _ _ _ j0 j1 j0, if_pos rfl, if_pos ⟨Int.le_refl _, c.1⟩, dec1, if_pos c.2]; omega
      · rw [if_neg c, ih (i + 1) _ (by omega) (by omega) i j0 j1, if_neg (by omega)]
        by_cases c1 : hasB s i.toNat = false
        · rw [if_pos ⟨Int.le_refl _, c1⟩, dec1, if_neg (fun z => c ⟨c1, z⟩)]
        · rw [if_neg (fun z => c1 z.2)]
    · have key : ∀ acc' : List Int, acc'.length = acc.length → rd acc' i = rd acc i → rd (inc1 ws need s ys (i0 + 1) acc') i = rd acc i + if i0 ≤ i ∧ hasB s i.toNat = false then dec1 need (rd (y :: ys) (i - i0)) (wS ws s) else 0 := by
        intro acc' hl hr
        rw [ih (i0 + 1) acc' (by omega) (by omega) i j0 (by omega), hr]
        by_cases c : i0 + 1 ≤ i
        · rw [rd_cons_s y ys (i - i0) (by omega), show i - i0 - 1 = i - (i0 + 1) by omega]
          by_cases c1 : hasB s i.toNat = false
          · rw [if_pos ⟨c, c1⟩, if_pos ⟨by omega, c1⟩]
          · rw [if_neg (fun z => c1 z.2), if_neg (fun z => c1 z.2)]
        · rw [if_neg (by omega), if_neg (by omega)]
      split
      · exact key _ List.length_set (by rw [rd_set _ _ _ _ h0 (by omega) j0, if_neg (fun z => q z.symm)])
      · exact key acc rfl rfl
theorem runS_rd (ws : List Int) (need : Int) (i : Int) (i0 : 0 ≤ i) (i1 : i < ws.length) (d : Nat) : ∀ (s : Int) (acc : List Int), acc.length = ws.length → rd (runS ws need d s acc) i = rd acc i + sumF d s (fun t => if hasB t i.toNat = false then dec1 need (rd ws i) (wS ws t) else 0) := by
  induction d with
  | zero => intro s acc h; simp [runS, sumF]
  | succ d ih =>
    intro s acc h
    rw [runS, ih (s + 1) _ (by rw [inc1_len]; exact h), inc1_rd ws need s ws 0 acc (by omega) (by omega) i i0 (by omega), Int.sub_zero]
    simp only [sumF]
    by_cases c : hasB s i.toNat = false
    · rw [if_pos ⟨i0, c⟩, if_pos c]; omega
    · rw [if_neg (fun z => c z.2), if_neg c]; omega
/-- How often i decides. -/
theorem swL_rd (ws : List Int) (need : Int) (c : VBody ws need ∧ ws.length ≤ 8) (i : Int) (i0 : 0 ≤ i) (i1 : i < ws.length) : rd (swL ws need) i = cw (ws.eraseIdx i.toNat) (dec1 need (rd ws i)) := by
  unfold swL
  rw [if_pos c, runS_rd ws need i i0 i1 _ 0 _ (by simp), rd_zeros, one_cw ws i.toNat _ (by omega)]
  omega
theorem cons_erase_perm (l : List Int) : ∀ (i : Nat) (h : i < l.length), (l[i] :: l.eraseIdx i).Perm l := by
  induction l with
  | nil => intro i h; simp at h
  | cons a l ih =>
    intro i h
    cases i with
    | zero => exact List.Perm.refl _
    | succ i =>
      have := ih i (by simpa using h)
      simp only [List.getElem_cons_succ, List.eraseIdx_cons_succ]
      exact (List.Perm.swap _ _ _).trans (this.cons a)
theorem rd_get (l : List Int) (q : Int) (h0 : 0 ≤ q) (h : q.toNat < l.length) : rd l q = l[q.toNat] := by
  unfold rd
  rw [List.getD_eq_getElem?_getD, List.getElem?_eq_getElem h]; rfl
/-- More votes decide no less often. -/
theorem sw_mono (ws : List Int) (need : Int) (i k : Int) (i0 : 0 ≤ i) (i1 : i < ws.length) (k0 : 0 ≤ k) (k1 : k < ws.length) (h : rd ws i ≥ rd ws k) : cw (ws.eraseIdx k.toNat) (dec1 need (rd ws k)) ≤ cw (ws.eraseIdx i.toNat) (dec1 need (rd ws i)) := by
  have pi := cons_erase_perm ws i.toNat (by omega)
  have pk := cons_erase_perm ws k.toNat (by omega)
  rw [← rd_get ws i i0 (by omega)] at pi
  rw [← rd_get ws k k0 (by omega)] at pk
  by_cases e : rd ws i = rd ws k
  · have := cw_perm ((e ▸ pi).trans pk.symm).cons_inv (dec1 need (rd ws i))
    rw [this, e]
    exact Int.le_refl _
  · have hk : rd ws k ∈ ws.eraseIdx i.toNat := by
      have : rd ws k ∈ rd ws i :: ws.eraseIdx i.toNat := pi.mem_iff.2 (pk.mem_iff.1 List.mem_cons_self)
      rcases List.mem_cons.1 this with q | q
      · exact absurd q.symm e
      · exact q
    have p1 := List.perm_cons_erase hk
    have p2 : (ws.eraseIdx k.toNat).Perm (rd ws i :: (ws.eraseIdx i.toNat).erase (rd ws k)) := by
      have := (pk.trans pi.symm).trans (p1.cons (rd ws i))
      exact (this.trans (List.Perm.swap _ _ _)).cons_inv
    rw [cw_perm p1, cw_perm p2]
    simp only [cw]
    have a1 := cw_mono ((ws.eraseIdx i.toNat).erase (rd ws k)) (f := dec1 need (rd ws k)) (g := dec1 need (rd ws i)) (fun x => by
      unfold dec1
      by_cases c : x < need ∧ x + rd ws k ≥ need
      · rw [if_pos c, if_pos ⟨c.1, by omega⟩]; exact Int.le_refl _
      · rw [if_neg c]; split <;> omega)
    have a2 := cw_mono ((ws.eraseIdx i.toNat).erase (rd ws k)) (f := fun x => dec1 need (rd ws k) (x + rd ws i)) (g := fun x => dec1 need (rd ws i) (x + rd ws k)) (fun x => by
      show dec1 need (rd ws k) (x + rd ws i) ≤ dec1 need (rd ws i) (x + rd ws k)
      unfold dec1
      by_cases c : x + rd ws i < need ∧ x + rd ws i + rd ws k ≥ need
      · rw [if_pos c, if_pos ⟨by omega, by omega⟩]; exact Int.le_refl _
      · rw [if_neg c]; split <;> omega)
    omega
theorem tot_erase (l : List Int) : ∀ (n : Nat) (h : n < l.length), tot (l.eraseIdx n) = tot l - l[n] := by
  induction l with
  | nil => intro n h; simp at h
  | cons x l ih =>
    intro n h
    cases n with
    | zero => simp [tot]; omega
    | succ n => have := ih n (by simpa using h); simp only [List.eraseIdx_cons_succ, tot, List.getElem_cons_succ]; omega
/-- In the dual body each decides as often. -/
theorem sw_dual (ws : List Int) (need : Int) (i : Int) (i0 : 0 ≤ i) (i1 : i < ws.length) : cw (ws.eraseIdx i.toNat) (dec1 (tot ws - need + 1) (rd ws i)) = cw (ws.eraseIdx i.toNat) (dec1 need (rd ws i)) := by
  have ht := tot_erase ws i.toNat (by omega)
  rw [← rd_get ws i i0 (by omega)] at ht
  rw [← cw_turn (ws.eraseIdx i.toNat) (dec1 need (rd ws i)), ht]
  congr 1
  funext x
  unfold dec1
  by_cases c : x < tot ws - need + 1 ∧ x + rd ws i ≥ tot ws - need + 1
  · rw [if_pos c, if_pos ⟨by omega, by omega⟩]
  · rw [if_neg c, if_neg (fun q => c ⟨by omega, by omega⟩)]
theorem draw_ok (l : List Int) (hl : ∀ x ∈ l, 0 ≤ x ∧ x ≤ 255) : EvS (fun k => spec_DrawSwingsOf.f k l) (fun r => r.1.length ≤ 9) := by
  simp only [spec_DrawSwingsOf.f]
  obtain ⟨b, be, hb⟩ := newReader_ok l hl
  refine EvS.call be ?_
  dsimp only
  refine EvS.bind (anyBody_ok b 0 hb (by omega) (by omega)) ?_
  rintro ⟨ws, need, q⟩ ⟨⟨g1, g2, g3⟩, g4, g5⟩
  dsimp only at g1 g2 g3 g4 g5 ⊢
  exact EvS.now g2
theorem swL_full {ws : List Int} {need : Int} (c : VBody ws need ∧ ws.length ≤ 8) : (swL ws need).length = ws.length := by
  unfold swL
  rw [if_pos c, runS_len, List.length_replicate]
theorem swL_dual (ws : List Int) (need : Int) (c : VBody ws need ∧ ws.length ≤ 8) : swL ws (tot ws - need + 1) = swL ws need := by
  have c' : VBody ws (tot ws - need + 1) ∧ ws.length ≤ 8 := ⟨dual_valid c.1, c.2⟩
  have h1 := swL_full c
  have h2 := swL_full c'
  refine list_ext (by rw [h1, h2]) (fun j j0 j1 => ?_)
  rw [swL_rd ws _ c' j j0 (by omega), swL_rd ws _ c j j0 (by omega)]
  exact sw_dual ws need j j0 (by omega)
theorem law_l1 (ws : List Int) (need : Int) (c : VBody ws need ∧ ws.length ≤ 8) (i : Int) (i0 : 0 ≤ i) (i1 : i < ws.length) (K : EvS (fun k => laws_FnSwingsOf.l0 k (swL ws need) (wrap64 (i + 1)) ws need) (· = true)) (d : Nat) : ∀ j : Int, j + d = ws.length → 0 ≤ j → EvS (fun k => laws_FnSwingsOf.l1 k (swL ws need) i j ws need) (· = true) := by
  have hl := swL_full c
  have h8 := c.2
  induction d with
  | zero =>
    intro j e j0
    refine EvS.step (fun k => by rw [laws_FnSwingsOf.l1]) ?_
    exact EvS.neg (by omega) K
  | succ d ih =>
    intro j e j0
    refine EvS.step (fun k => by rw [laws_FnSwingsOf.l1]) ?_
    rw [w64 (x := j + 1) (by omega) (by omega)]
    have nx := ih (j + 1) (by omega) (by omega)
    refine EvS.pos (by omega) (EvS.pos i0 (EvS.pos i1 (EvS.pos j0 (EvS.pos (by omega) (EvS.ite (fun h => EvS.pos (by omega) (EvS.neg ?_ nx)) (fun _ => nx))))))
    rw [swL_rd ws need c i i0 i1, swL_rd ws need c j j0 (by omega)]
    have := sw_mono ws need i j i0 i1 j0 (by omega) h
    omega
theorem law_l0 (ws : List Int) (need : Int) (c : VBody ws need ∧ ws.length ≤ 8) (d : Nat) : ∀ i : Int, i + d = ws.length → 0 ≤ i → EvS (fun k => laws_FnSwingsOf.l0 k (swL ws need) i ws need) (· = true) := by
  have hl := swL_full c
  have h8 := c.2
  induction d with
  | zero =>
    intro i e i0
    refine EvS.step (fun k => by rw [laws_FnSwingsOf.l0]) ?_
    refine EvS.neg (by omega) (EvS.bindv (impl_DualBody_ok ws (by omega) need) ?_)
    rw [if_pos c.1]
    refine EvS.bindv (impl_SwingsOf_ok ws (by omega) _) ?_
    rw [swL_dual ws need c]
    exact EvS.bindv (equalInts_ok _ (by omega)) (EvS.now rfl)
  | succ d ih =>
    intro i e i0
    refine EvS.step (fun k => by rw [laws_FnSwingsOf.l0]) ?_
    refine EvS.pos (by omega) (law_l1 ws need c i i0 (by omega) ?_ ws.length 0 (by omega) (by omega))
    rw [w64 (x := i + 1) (by omega) (by omega)]
    exact ih (i + 1) (by omega) (by omega)
theorem FnSwingsOf : laws_FnSwingsOf.Pure := by
  intro l0 _ _ hw
  refine EvS.holds ?_
  simp only [laws_FnSwingsOf.f]
  refine EvS.ite (fun _ => EvS.now rfl) (fun _ => ?_)
  refine EvS.bind (draw_ok l0 (fun x hx => u8_range (hw x hx))) ?_
  rintro ⟨ws, need⟩ g1
  dsimp only at g1 ⊢
  have hl8 := swL_len ws need
  refine EvS.bindv (impl_SwingsOf_ok ws (by omega) need) (EvS.bindv (spec_SwingsOf_ok ws (by omega) need) (EvS.bindv (equalInts_ok _ (by omega)) (EvS.pos rfl ?_)))
  by_cases c : VBody ws need ∧ ws.length ≤ 8
  · have hl := swL_full c
    have hn := c.1.1
    rw [show (((swL ws need).length : Int) == 0) = false by rw [hl]; simp; intro q; rw [q] at hn; simp at hn]
    refine EvS.step (fun k => by rw [laws_FnSwingsOf.j0]) ?_
    exact EvS.neg (by simp) (law_l0 ws need c ws.length 0 (by omega) (by omega))
  · have e : swL ws need = [] := by unfold swL; rw [if_neg c]
    have hs := spec_SwingsOf_ok ws (by omega) need
    rw [e] at hs ⊢
    refine EvS.step (fun k => by rw [laws_FnSwingsOf.j0]) ?_
    exact EvS.pos rfl (EvS.bindv hs (EvS.bindv (equalInts_ok [] (by simp)) (EvS.now rfl)))
end Go.Proofs.Ytkbgcnpjamadeaa.Pure

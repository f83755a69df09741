/- Who beats all others: BeatsAll is what the reference tells; and where it names one, it is preferred to each other by more than half. -/
import Derived.Test.YtlagpccnhbobiaaPFnBeatsAllx0
import Derived.Test.YtlagpccnhbobiaaMFnBeatsAllx1
import Derived.Test.YtlagpccnhbobiaaMFnBeatsAllx2
import Derived.Test.YtlagpccnhbobiaaMFnBeatsAllx3
import Derived.Test.YtlagpccnhbobiaaMFnBeatsAllx4
import Derived.Test.YtlagpccnhbobiaaMFnBeatsAllx5
import Derived.Test.YtlagpccnhbobiaaBase
set_option linter.unusedVariables false
set_option linter.unusedSimpArgs false
namespace Go.Proofs.Ytlagpccnhbobiaa.Pure
open Go.RowKit Go.Proofs.Ytlagpccnhbobiaa.PFnBeatsAll Go.Proofs.YtlagpccnhbobiaaW.PrintWords Go.Proofs.YtlagpccnhbobiaaW.PrintLast Go.Proofs.YtlagpccnhbobiaaW.PrintMore Go.Proofs.Ytlagpccnhbobiaa.Base
theorem u8_range {x : Int} (h : (Lit.int .u8 x).wf = true) : 0 ≤ x ∧ x ≤ 255 := by
  simp [Lit.wf, IntKind.min, IntKind.max, IntKind.bits, IntKind.signed] at h
  omega
/-! ## The reader that draws. -/
structure BytesOk (b : List Int) : Prop where
  len : b.length ≤ 2000
  mem : ∀ x ∈ b, 0 ≤ x ∧ x ≤ 255

theorem newReader_ok (l : List Int) (h : ∀ x ∈ l, 0 ≤ x ∧ x ≤ 255) : ∃ b, spec_newReader.f l = some (b, 0) ∧ BytesOk b := by
  unfold spec_newReader.f
  by_cases c : (l.length : Int) > 2000
  · rw [if_pos c, if_pos (by omega)]
    exact ⟨_, rfl, by rw [List.length_take]; omega, fun x hx => h x (List.mem_of_mem_take hx)⟩
  · rw [if_neg c]
    exact ⟨_, rfl, by omega, h⟩

theorem pick_ok (b : List Int) (p n : Int) (hb : BytesOk b) (h0 : 0 ≤ p) (h1 : p ≤ 100000) :
    EvS (fun k => spec_reader_pick.f k b p n) (fun r => 0 ≤ r.1 ∧ (1 ≤ n → r.1 < n) ∧ (n < 1 → r.1 = 0) ∧ r.2 = p + 1) := by
  have hp : wrap64 (p + 1) = p + 1 := w64 (by omega) (by omega)
  have hq : wrap64 (p + 1 - 1) = p := by rw [show p + 1 - 1 = p by omega]; exact w64 (by omega) (by omega)
  have hbl := hb.len
  simp only [spec_reader_pick.f]
  rw [hp]
  by_cases hn : n < 1
  · refine EvS.pos hn ?_
    refine EvS.step (fun k => by rw [spec_reader_pick.j0]) ?_
    refine EvS.pos rfl ?_
    exact EvS.now ⟨by simp, fun h => by omega, fun _ => rfl, rfl⟩
  · refine EvS.neg hn ?_
    refine EvS.step (fun k => by rw [spec_reader_pick.j0]) ?_
    simp only [hq]
    by_cases hl : b.length = 0
    · refine EvS.pos (by simp [hl]) ?_
      exact EvS.now ⟨by simp, fun h => by simp; omega, fun _ => rfl, rfl⟩
    · refine EvS.neg (by simp; intro h; exact hl (by simp [h])) ?_
      by_cases hpl : p < b.length
      · refine EvS.pos hpl (EvS.pos h0 (EvS.neg (by omega) ?_))
        have hr := rd_range hb.mem p h0 hpl
        rw [w64 (by omega) (by omega)]
        have ht := tmod_range (rd b p) n (by omega) (by omega)
        exact EvS.now ⟨ht.1, fun _ => ht.2, fun h => by omega, rfl⟩
      · refine EvS.neg hpl (EvS.neg (by omega) ?_)
        have e1 : wrap64 (wrap64 (p * 7) + 3) = p * 7 + 3 := by
          rw [w64 (x := p * 7) (by omega) (by omega)]; exact w64 (by omega) (by omega)
        simp only [e1]
        have i1 := tmod_range p b.length h0 (by omega)
        have i2 := tmod_range (p * 7 + 3) b.length (by omega) (by omega)
        refine EvS.pos i1.1 (EvS.pos i1.2 (EvS.pos i2.1 (EvS.pos i2.2 (EvS.neg (by omega) ?_))))
        have r1 := rd_range hb.mem _ i1.1 i1.2
        have r2 := rd_range hb.mem _ i2.1 i2.2
        generalize rd b (Int.tmod p b.length) = v1 at r1 ⊢
        generalize rd b (Int.tmod (p * 7 + 3) b.length) = v2 at r2 ⊢
        have d0 : 0 ≤ Int.tdiv p b.length ∧ Int.tdiv p b.length ≤ p := by
          rw [tdiv_pos _ _ h0]
          exact ⟨Int.ediv_nonneg h0 (by omega), Int.ediv_le_self _ h0⟩
        generalize Int.tdiv p b.length = dv at d0 ⊢
        simp (disch := omega) only [w64]
        have hx0 : 0 ≤ v1 * 131 + v2 * 1117 + p * 29 + dv * 53 := by omega
        have hx1 : v1 * 131 + v2 * 1117 + p * 29 + dv * 53 < 1000000000 := by omega
        generalize v1 * 131 + v2 * 1117 + p * 29 + dv * 53 = X at hx0 hx1 ⊢
        rw [tdiv_pos X 64 hx0, w64 (x := X / 64) (by omega) (by omega)]
        have ht := tmod_range (Go.bits .xor .i64 X (X / 64)) n (xor_nonneg _ _ (by omega) (by omega) (by omega) (by omega)) (by omega)
        exact EvS.now ⟨ht.1, fun _ => ht.2, fun h => by omega, rfl⟩

theorem one_ok (b : List Int) (p : Int) (l : List Int) (hb : BytesOk b) (h0 : 0 ≤ p) (h1 : p ≤ 100000) (hl : 1 ≤ l.length) :
    EvS (fun k => spec_reader_one.f k b p l) (fun r => r.1 ∈ l ∧ r.2 = p + 1) := by
  simp only [spec_reader_one.f]
  refine EvS.bind (pick_ok b p l.length hb h0 h1) ?_
  rintro ⟨v, q⟩ ⟨a1, a2, a3, a4⟩
  have a5 := a2 (by omega)
  refine EvS.pos a1 (EvS.pos a5 ?_)
  exact EvS.now ⟨rd_mem _ a1 a5, a4⟩
/-! ## Lists of numbers. -/
theorem inRange_eq (n lo hi : Int) : spec_inRange.f n lo hi = some (decide (lo ≤ n ∧ n ≤ hi)) := by
  unfold spec_inRange.f
  split
  · exact congrArg some (decide_eq_decide.2 (by omega))
  · exact congrArg some (decide_eq_false (by omega)).symm
def AllW (xs : List Int) (lo hi : Int) : Prop := ∀ x ∈ xs, lo ≤ x ∧ x ≤ hi
instance (xs : List Int) (lo hi : Int) : Decidable (AllW xs lo hi) := by unfold AllW; infer_instance
theorem allW_cons (y : Int) (ys : List Int) (lo hi : Int) : AllW (y :: ys) lo hi ↔ (lo ≤ y ∧ y ≤ hi) ∧ AllW ys lo hi := by
  unfold AllW; simp
/-- The first place of a number, counted from i on; -1 if it is not there. -/
def posF (v : Int) : Int → List Int → Int
  | _, [] => -1
  | i, x :: xs => if x = v then i else posF v (i + 1) xs
theorem posF_range (v : Int) (xs : List Int) : ∀ i : Int, 0 ≤ i → (v ∈ xs → i ≤ posF v i xs ∧ posF v i xs < i + xs.length) ∧ (v ∉ xs → posF v i xs = -1) := by
  induction xs with
  | nil => intro i h0; exact ⟨fun h => by simp at h, fun _ => rfl⟩
  | cons x xs ih =>
    intro i h0
    have h := ih (i + 1) (by omega)
    simp only [posF, List.length_cons]
    by_cases c : x = v
    · rw [if_pos c]; exact ⟨fun _ => by omega, fun g => absurd (by simp [c]) g⟩
    · rw [if_neg c]
      refine ⟨fun g => ?_, fun g => h.2 (fun g2 => g (List.mem_cons_of_mem _ g2))⟩
      have := h.1 ((List.mem_cons.1 g).resolve_left (fun e => c e.symm))
      omega
theorem posF_nonneg (v : Int) (xs : List Int) (i : Int) (h : 0 ≤ i) : (0 ≤ posF v i xs) ↔ v ∈ xs := by
  by_cases c : v ∈ xs
  · have := (posF_range v xs i h).1 c; exact ⟨fun _ => c, fun _ => by omega⟩
  · have := (posF_range v xs i h).2 c; exact ⟨fun g => by omega, fun g => absurd g c⟩
theorem placeIn_l0 (xs : List Int) (hl : xs.length ≤ 1099511627776) (v : Int) (ys : List Int) : ∀ i : Int, At xs i ys → EvS (fun k => spec_placeIn.l0 k xs v i) (· = posF v i ys) := by
  induction ys with
  | nil =>
    intro i h
    refine EvS.step (fun k => by rw [spec_placeIn.l0]) ?_
    exact EvS.neg (by have := h.ge; omega) (EvS.now rfl)
  | cons y ys ih =>
    intro i h
    have h1 := h.lt
    have h2 := h.nonneg
    have hw : wrap64 (i + 1) = i + 1 := w64 (by omega) (by omega)
    refine EvS.step (fun k => by rw [spec_placeIn.l0]) ?_
    refine EvS.pos h.lt (EvS.pos h.nonneg ?_)
    rw [At.rd h, hw, posF]
    by_cases c : y = v
    · rw [if_pos c]; exact EvS.pos c (EvS.now rfl)
    · rw [if_neg c]; exact EvS.neg c (ih _ h.next)
theorem placeIn_ok (xs : List Int) (hl : xs.length ≤ 1099511627776) (v : Int) : EvS (fun k => spec_placeIn.f k xs v) (· = posF v 0 xs) := by
  simp only [spec_placeIn.f]
  exact placeIn_l0 xs hl v xs 0 (At.zero xs)
theorem index_l0 (xs : List Int) (hl : xs.length ≤ 1099511627776) (v : Int) (ys : List Int) : ∀ i : Int, At xs i ys → EvS (fun k => slices_Index_int_int.l0 k xs v xs.length i) (· = posF v i ys) := by
  induction ys with
  | nil =>
    intro i h
    refine EvS.step (fun k => by rw [slices_Index_int_int.l0]) ?_
    exact EvS.neg (by have := h.ge; omega) (EvS.now rfl)
  | cons y ys ih =>
    intro i h
    have h1 := h.lt
    have h2 := h.nonneg
    have hw : wrap64 (i + 1) = i + 1 := w64 (by omega) (by omega)
    refine EvS.step (fun k => by rw [slices_Index_int_int.l0]) ?_
    refine EvS.pos h.lt (EvS.pos h.nonneg (EvS.pos h.lt ?_))
    rw [At.rd h, hw, posF]
    by_cases c : y = v
    · rw [if_pos c]; exact EvS.pos c.symm (EvS.now rfl)
    · rw [if_neg c]; exact EvS.neg (fun g => c g.symm) (ih _ h.next)
theorem index_ok (xs : List Int) (hl : xs.length ≤ 1099511627776) (v : Int) : EvS (fun k => slices_Index_int_int.f k xs v) (· = posF v 0 xs) := by
  simp only [slices_Index_int_int.f]
  exact index_l0 xs hl v xs 0 (At.zero xs)
/-- Different numbers from 0 to n - 1. -/
def Diff (xs : List Int) (n : Int) : Prop := xs.Nodup ∧ ∀ x ∈ xs, 0 ≤ x ∧ x < n
instance (xs : List Int) (n : Int) : Decidable (Diff xs n) := by unfold Diff; infer_instance
def DiffF (pre ys : List Int) (n : Int) : Prop := ys.Nodup ∧ ∀ y ∈ ys, 0 ≤ y ∧ y < n ∧ y ∉ pre
instance (pre ys : List Int) (n : Int) : Decidable (DiffF pre ys n) := by unfold DiffF; infer_instance
theorem diffF_cons (pre : List Int) (y : Int) (ys : List Int) (n : Int) : DiffF pre (y :: ys) n ↔ (0 ≤ y ∧ y < n ∧ y ∉ pre) ∧ DiffF (y :: pre) ys n := by
  unfold DiffF
  constructor
  · rintro ⟨h1, h2⟩
    have h1 := List.nodup_cons.1 h1
    refine ⟨h2 y List.mem_cons_self, h1.2, fun z hz => ?_⟩
    have := h2 z (List.mem_cons_of_mem _ hz)
    refine ⟨this.1, this.2.1, fun hm => ?_⟩
    rcases List.mem_cons.1 hm with rfl | hm
    · exact h1.1 hz
    · exact this.2.2 hm
  · rintro ⟨h1, h2, h3⟩
    refine ⟨List.nodup_cons.2 ⟨fun hm => (h3 y hm).2.2 List.mem_cons_self, h2⟩, fun z hz => ?_⟩
    rcases List.mem_cons.1 hz with rfl | hz
    · exact h1
    · have := h3 z hz
      exact ⟨this.1, this.2.1, fun hm => this.2.2 (List.mem_cons_of_mem _ hm)⟩
theorem diffF_congr {p q ys : List Int} {n : Int} (h : ∀ x, x ∈ p ↔ x ∈ q) : DiffF p ys n ↔ DiffF q ys n := by
  unfold DiffF
  simp only [h]
theorem diffF_nil (xs : List Int) (n : Int) : DiffF [] xs n ↔ Diff xs n := by
  unfold DiffF Diff; simp
theorem diff_len {xs : List Int} {n : Int} (h : Diff xs n) : (xs.length : Int) ≤ n ∨ xs = [] := by
  rcases xs with _ | ⟨x, xs⟩
  · exact .inr rfl
  · left
    have h1 : 0 ≤ n := by have := h.2 x List.mem_cons_self; omega
    have h2 : (x :: xs) ⊆ (List.range n.toNat).map (fun m : Nat => (m : Int)) := by
      intro y hy
      have := h.2 y hy
      exact List.mem_map.2 ⟨y.toNat, List.mem_range.2 (by omega), by omega⟩
    have h3 := h.1.length_le_of_subset h2
    rw [List.length_map, List.length_range] at h3
    omega
theorem differentBelow_l0 (xs : List Int) (hl : xs.length ≤ 1099511627776) (n : Int) (ys : List Int) : ∀ (i : Int) (seen : List Bool) (pre : List Int), At xs i ys → (seen.length : Int) = n → (∀ v : Int, 0 ≤ v → v < n → (rdOf false seen v = true ↔ v ∈ pre)) →
    EvS (fun k => impl_differentBelow.l0 k n seen xs xs.length i) (· = decide (DiffF pre ys n)) := by
  induction ys with
  | nil =>
    intro i seen pre h hs hv
    refine EvS.step (fun k => by rw [impl_differentBelow.l0]) ?_
    exact EvS.neg (by have := h.ge; omega) (EvS.now (by simp [DiffF]))
  | cons y ys ih =>
    intro i seen pre h hs hv
    refine EvS.step (fun k => by rw [impl_differentBelow.l0]) ?_
    refine EvS.pos h.lt (EvS.pos h.nonneg (EvS.pos h.lt ?_))
    rw [At.rd h]
    refine EvS.ite (fun c => EvS.now (decide_eq_false (fun g => by have := ((diffF_cons _ _ _ _).1 g).1; omega)).symm) (fun c1 => EvS.ite (fun c => EvS.now (decide_eq_false (fun g => by have := ((diffF_cons _ _ _ _).1 g).1; omega)).symm) (fun c2 => EvS.pos (by omega) (EvS.pos (by omega) ?_)))
    have hy := hv y (by omega) (by omega)
    refine EvS.ite (fun c => EvS.now (decide_eq_false (fun g => ((diffF_cons _ _ _ _).1 g).1.2.2 (hy.1 c))).symm) (fun c3 => ?_)
    refine EvS.mono (ih _ (seen.set y.toNat true) (y :: pre) (h.wnext (by omega)) (by simpa using hs) (fun v h0 h1 => ?_)) (fun r hr => ?_)
    · unfold rdOf
      rw [List.getD_eq_getElem?_getD, List.getElem?_set]
      by_cases e : y = v
      · subst e
        rw [if_pos rfl, if_pos (by omega)]
        exact ⟨fun _ => List.mem_cons_self, fun _ => rfl⟩
      · rw [if_neg (by omega)]
        have := hv v h0 h1
        unfold rdOf at this
        rw [List.getD_eq_getElem?_getD] at this
        rw [this, List.mem_cons]
        exact ⟨fun g => .inr g, fun g => g.resolve_left (fun e2 => e e2.symm)⟩
    · rw [hr]
      exact decide_eq_decide.2 ⟨fun g => (diffF_cons _ _ _ _).2 ⟨⟨by omega, by omega, fun hm => c3 (hy.2 hm)⟩, g⟩, fun g => ((diffF_cons _ _ _ _).1 g).2⟩
theorem differentBelow_ok (xs : List Int) (hl : xs.length ≤ 1099511627776) (n : Int) (hn : n ≤ 1099511627776) (h0 : 0 ≤ n) : EvS (fun k => impl_differentBelow.f k xs n) (· = decide (Diff xs n)) := by
  simp only [impl_differentBelow.f]
  refine EvS.ite (fun c => EvS.now (decide_eq_false (fun g => ?_)).symm) (fun c => EvS.pos h0 (EvS.pos (by omega) ?_))
  · rcases diff_len g with h | h
    · omega
    · subst h; simp at c; omega
  · refine EvS.mono (differentBelow_l0 xs hl n xs 0 _ [] (At.zero xs) (by simp; omega) (fun v _ _ => ?_)) (fun r hr => ?_)
    · unfold rdOf
      rw [List.getD_eq_getElem?_getD, List.getElem?_replicate]
      split <;> simp
    · rw [hr]
      exact decide_eq_decide.2 (diffF_nil xs n)
theorem validMembers_l0 (xs : List Int) (hl : xs.length ≤ 1099511627776) (n : Int) (hn : n ≤ 1099511627776) (h0 : 0 ≤ n) (ys : List Int) : ∀ i : Int, At xs i ys → EvS (fun k => spec_validMembers.l0 k xs n i) (· = decide (DiffF (xs.take i.toNat) ys n)) := by
  induction ys with
  | nil =>
    intro i h
    refine EvS.step (fun k => by rw [spec_validMembers.l0]) ?_
    exact EvS.neg (by have := h.ge; omega) (EvS.now (by simp [DiffF]))
  | cons y ys ih =>
    intro i h
    have h1 := h.lt
    have h2 := h.nonneg
    have hw : wrap64 (i + 1) = i + 1 := w64 (by omega) (by omega)
    refine EvS.step (fun k => by rw [spec_validMembers.l0]) ?_
    refine EvS.pos h.lt (EvS.pos h.nonneg ?_)
    rw [At.rd h, hw, w64 (x := n - 1) (by omega) (by omega)]
    refine EvS.call (inRange_eq _ _ _) (EvS.ite (fun c => EvS.pos (by omega) ?_) (fun c => EvS.now ?_))
    · have c := of_decide_eq_true c
      refine EvS.bindv (placeIn_ok _ (by rw [List.length_take]; omega) y) ?_
      have hp := posF_nonneg y (xs.take i.toNat) 0 (by omega)
      refine EvS.ite (fun g => EvS.now (decide_eq_false (fun g2 => ((diffF_cons _ _ _ _).1 g2).1.2.2 (hp.1 g))).symm) (fun g => ?_)
      refine EvS.mono (ih _ h.next) (fun r hr => ?_)
      rw [hr]
      refine decide_eq_decide.2 (Iff.trans (diffF_congr (q := y :: xs.take i.toNat) (fun x => ?_)) ⟨fun g2 => (diffF_cons _ _ _ _).2 ⟨⟨c.1, by omega, fun hm => g (hp.2 hm)⟩, g2⟩, fun g2 => ((diffF_cons _ _ _ _).1 g2).2⟩)
      simp only [h.take, List.mem_append, List.mem_cons, List.not_mem_nil, or_false]
      exact or_comm
    · have c := ndec c
      exact (decide_eq_false (fun g => c (by have := ((diffF_cons _ _ _ _).1 g).1; omega))).symm
theorem validMembers_ok (xs : List Int) (hl : xs.length ≤ 1099511627776) (n : Int) (hn : n ≤ 1099511627776) (h0 : 0 ≤ n) : EvS (fun k => spec_validMembers.f k xs n) (· = decide (Diff xs n)) := by
  simp only [spec_validMembers.f]
  refine EvS.mono (validMembers_l0 xs hl n hn h0 xs 0 (At.zero xs)) (fun r hr => ?_)
  rw [hr]
  exact decide_eq_decide.2 (diffF_nil xs n)
/-! ## Rankings. -/
def rowN (xs : List (List Int)) : Int := ((rd_L2 xs 0).length : Int)
def VR (xs : List (List Int)) : Prop := (1 ≤ xs.length ∧ xs.length ≤ 12) ∧ (1 ≤ rowN xs ∧ rowN xs ≤ 6) ∧ ∀ r ∈ xs, (r.length : Int) = rowN xs ∧ Diff r (rowN xs)
instance (xs : List (List Int)) : Decidable (VR xs) := by unfold VR; infer_instance
def ShR (xs : List (List Int)) : Prop := xs.length ≤ 1000000 ∧ ∀ r ∈ xs, r.length ≤ 1000000
theorem at_rdR {xs ys : List (List Int)} {i : Int} {y : List Int} (h : At xs i (y :: ys)) : rd_L2 xs i = y := h.getD _
theorem all_cons {α : Type} {P : α → Prop} {y : α} {ys : List α} (h : P y) : (∀ e ∈ y :: ys, P e) ↔ ∀ e ∈ ys, P e :=
  ⟨fun g e he => g e (List.mem_cons_of_mem _ he), fun g e he => by rcases List.mem_cons.1 he with rfl | he; exact h; exact g e he⟩
theorem rowN_range {xs : List (List Int)} (h : ShR xs) : 0 ≤ rowN xs ∧ rowN xs ≤ 1000000 := by
  unfold rowN
  refine ⟨by omega, ?_⟩
  cases xs with
  | nil => show (([] : List Int).length : Int) ≤ 1000000; simp
  | cons r l => have := h.2 r List.mem_cons_self; show (r.length : Int) ≤ 1000000; omega
theorem impl_ValidRanks_l0 (xs : List (List Int)) (hl : ShR xs) (ys : List (List Int)) : ∀ i : Int, At xs i ys → EvS (fun k => impl_ValidRanks.l0 k (rowN xs) xs xs.length i) (· = decide (∀ r ∈ ys, (r.length : Int) = rowN xs ∧ Diff r (rowN xs))) := by
  have hxl := hl.1
  have hn := rowN_range hl
  induction ys with
  | nil =>
    intro i h
    refine EvS.step (fun k => by rw [impl_ValidRanks.l0]) ?_
    exact EvS.neg (by have := h.ge; omega) (EvS.now (by simp))
  | cons y ys ih =>
    intro i h
    have hy := hl.2 y h.mem
    refine EvS.step (fun k => by rw [impl_ValidRanks.l0]) ?_
    refine EvS.pos h.lt (EvS.pos h.nonneg (EvS.pos h.lt ?_))
    rw [at_rdR h]
    have no : ¬ ((y.length : Int) = rowN xs ∧ Diff y (rowN xs)) → false = decide (∀ r ∈ y :: ys, (r.length : Int) = rowN xs ∧ Diff r (rowN xs)) := fun g => (decide_eq_false (fun q => g (q y List.mem_cons_self))).symm
    refine EvS.ite (fun c1 => EvS.bindv (differentBelow_ok y (by omega) _ (by omega) (by omega)) (EvS.ite (fun c2 => ?_) (fun c2 => EvS.now (no (fun g => ndec c2 g.2))))) (fun c1 => EvS.now (no (fun g => c1 g.1)))
    refine EvS.mono (ih _ (h.wnext (by omega))) (fun r hr => ?_)
    rw [hr]
    exact decide_eq_decide.2 (all_cons (P := fun r : List Int => (r.length : Int) = rowN xs ∧ Diff r (rowN xs)) ⟨c1, of_decide_eq_true c2⟩).symm
theorem impl_ValidRanks_ok (xs : List (List Int)) (hl : ShR xs) : EvS (fun k => impl_ValidRanks.f k xs) (· = decide (VR xs)) := by
  have jt : ¬ VR xs → EvS (fun k => impl_ValidRanks.j0 k xs true) (· = decide (VR xs)) := by
    intro g
    refine EvS.step (fun k => by rw [impl_ValidRanks.j0]) ?_
    exact EvS.pos rfl (EvS.now (decide_eq_false g).symm)
  have jt1 : ¬ VR xs → EvS (fun k => impl_ValidRanks.j1 k xs (rowN xs) true) (· = decide (VR xs)) := by
    intro g
    refine EvS.step (fun k => by rw [impl_ValidRanks.j1]) ?_
    exact EvS.pos rfl (EvS.now (decide_eq_false g).symm)
  simp only [impl_ValidRanks.f]
  refine EvS.ite (fun c => jt (fun g => by have := g.1; omega)) (fun c1 => ?_)
  by_cases c2 : (xs.length : Int) > 12
  · rw [decide_eq_true c2]; exact jt (fun g => by have := g.1; omega)
  · rw [decide_eq_false c2]
    refine EvS.step (fun k => by rw [impl_ValidRanks.j0]) ?_
    refine EvS.neg (by simp) (EvS.pos (by omega) (EvS.ite (fun c => jt1 (fun g => by have := g.2.1; unfold rowN at this; omega)) (fun c3 => ?_)))
    by_cases c4 : rowN xs > 6
    · rw [show decide (((rd_L2 xs 0).length : Int) > 6) = true from decide_eq_true c4]; exact jt1 (fun g => by have := g.2.1; omega)
    · rw [show decide (((rd_L2 xs 0).length : Int) > 6) = false from decide_eq_false c4]
      refine EvS.step (fun k => by rw [impl_ValidRanks.j1]) ?_
      refine EvS.neg (by simp) (EvS.mono (impl_ValidRanks_l0 xs hl xs 0 (At.zero _)) (fun r hr => ?_))
      rw [hr]
      exact decide_eq_decide.2 ⟨fun g => ⟨by omega, by unfold rowN at c4 ⊢; omega, g⟩, fun g => g.2.2⟩
theorem spec_validRanks_l0 (xs : List (List Int)) (hl : ShR xs) (ys : List (List Int)) : ∀ i : Int, At xs i ys → EvS (fun k => spec_validRanks.l0 k xs i) (· = decide ((1 ≤ xs.length ∧ xs.length ≤ 12) ∧ (1 ≤ rowN xs ∧ rowN xs ≤ 6) ∧ ∀ r ∈ ys, (r.length : Int) = rowN xs ∧ Diff r (rowN xs))) := by
  have hxl := hl.1
  have hn := rowN_range hl
  induction ys with
  | nil =>
    intro i h
    refine EvS.step (fun k => by rw [spec_validRanks.l0]) ?_
    refine EvS.neg (by have := h.ge; omega) (EvS.call (inRange_eq _ _ _) (EvS.ite (fun c => ?_) (fun c => EvS.now ?_)))
    · have c := of_decide_eq_true c
      refine EvS.pos (by omega) (EvS.call (inRange_eq _ _ _) (EvS.now ?_))
      exact decide_eq_decide.2 ⟨fun g => ⟨by omega, g, by simp⟩, fun g => g.2.1⟩
    · exact (decide_eq_false (fun g => ndec c (by have := g.1; omega))).symm
  | cons y ys ih =>
    intro i h
    have hy := hl.2 y h.mem
    have hlt := h.lt
    have h0 := h.nonneg
    refine EvS.step (fun k => by rw [spec_validRanks.l0]) ?_
    refine EvS.pos h.lt (EvS.pos h.nonneg (EvS.pos (by omega) ?_))
    rw [at_rdR h]
    have no : ¬ ((y.length : Int) = rowN xs ∧ Diff y (rowN xs)) → false = decide ((1 ≤ xs.length ∧ xs.length ≤ 12) ∧ (1 ≤ rowN xs ∧ rowN xs ≤ 6) ∧ ∀ r ∈ y :: ys, (r.length : Int) = rowN xs ∧ Diff r (rowN xs)) := fun g => (decide_eq_false (fun q => g (q.2.2 y List.mem_cons_self))).symm
    refine EvS.ite (fun c1 => EvS.bindv (validMembers_ok y (by omega) (rowN xs) (by omega) (by omega)) (EvS.ite (fun c2 => ?_) (fun c2 => EvS.now (no (fun g => ndec c2 g.2))))) (fun c1 => EvS.now (no (fun g => c1 g.1)))
    refine EvS.mono (ih _ (h.wnext (by omega))) (fun r hr => ?_)
    rw [hr]
    exact decide_eq_decide.2 (and_congr_right fun _ => and_congr_right fun _ => (all_cons (P := fun r : List Int => (r.length : Int) = rowN xs ∧ Diff r (rowN xs)) ⟨c1, of_decide_eq_true c2⟩).symm)
theorem spec_validRanks_ok (xs : List (List Int)) (hl : ShR xs) : EvS (fun k => spec_validRanks.f k xs) (· = decide (VR xs)) := by
  simp only [spec_validRanks.f]
  exact spec_validRanks_l0 xs hl xs 0 (At.zero _)
/-- How many rank a before b. -/
def pref : List (List Int) → Int → Int → Int
  | [], _, _ => 0
  | r :: l, a, b => (if posF a 0 r < posF b 0 r then 1 else 0) + pref l a b
theorem pref_range (l : List (List Int)) (a b : Int) : 0 ≤ pref l a b ∧ pref l a b ≤ l.length := by
  induction l with
  | nil => simp [pref]
  | cons r l ih => simp only [pref, List.length_cons]; split <;> omega
theorem prefer_l0 (xs : List (List Int)) (hl : ShR xs) (a b : Int) (ys : List (List Int)) : ∀ (i acc : Int), At xs i ys → 0 ≤ acc → acc + pref ys a b = pref xs a b → EvS (fun k => impl_Prefer.l0 k a b acc xs xs.length i) (· = pref xs a b) := by
  have hxl := hl.1
  have hb := pref_range xs a b
  induction ys with
  | nil =>
    intro i acc h h0 e
    refine EvS.step (fun k => by rw [impl_Prefer.l0]) ?_
    exact EvS.neg (by have := h.ge; omega) (EvS.now (by simp [pref] at e; exact e))
  | cons y ys ih =>
    intro i acc h h0 e
    have hy := hl.2 y h.mem
    have hb2 := pref_range ys a b
    simp only [pref] at e
    refine EvS.step (fun k => by rw [impl_Prefer.l0]) ?_
    refine EvS.pos h.lt (EvS.pos h.nonneg (EvS.pos h.lt ?_))
    rw [at_rdR h]
    refine EvS.bindv (index_ok y (by omega) a) (EvS.bindv (index_ok y (by omega) b) (EvS.ite (fun c => ?_) (fun c => ?_)))
    · rw [if_pos c] at e
      rw [w64 (x := acc + 1) (by omega) (by omega)]
      exact ih _ _ (h.wnext (by omega)) (by omega) (by omega)
    · rw [if_neg c] at e
      exact ih _ _ (h.wnext (by omega)) h0 (by omega)
theorem diff_two {a b n : Int} (ha : 0 ≤ a ∧ a < n) (hb : 0 ≤ b ∧ b < n) (ne : a ≠ b) : Diff [a, b] n := by
  refine ⟨by simp [ne], fun x hx => ?_⟩
  simp only [List.mem_cons, List.not_mem_nil, or_false] at hx
  rcases hx with rfl | rfl
  · exact ha
  · exact hb
theorem prefer_ok (xs : List (List Int)) (hl : ShR xs) (hv : VR xs) (a b : Int) (ha : 0 ≤ a ∧ a < rowN xs) (hb : 0 ≤ b ∧ b < rowN xs) (ne : a ≠ b) : EvS (fun k => impl_Prefer.f k xs a b) (· = pref xs a b) := by
  have hn := rowN_range hl
  simp only [impl_Prefer.f]
  refine EvS.bindv (impl_ValidRanks_ok xs hl) (EvS.pos (decide_eq_true hv) (EvS.neg ne (EvS.pos (by have := hv.1; omega) (EvS.bindv (differentBelow_ok [a, b] (by simp) (rowN xs) (by omega) (by omega)) ?_))))
  rw [decide_eq_true (diff_two ha hb ne)]
  refine EvS.step (fun k => by rw [impl_Prefer.j0]) ?_
  exact EvS.neg (by simp) (prefer_l0 xs hl a b xs 0 0 (At.zero _) (by omega) (by omega))
/-! ## The draw. -/
def Rows (m : Int) (l : List (List Int)) : Prop := ∀ r ∈ l, (r.length : Int) = m
theorem Rows.snoc {m : Int} {l : List (List Int)} (h : Rows m l) {r : List Int} (hr : (r.length : Int) = m) : Rows m (l ++ [r]) := by
  intro x hx
  rcases List.mem_append.1 hx with hx | hx
  · exact h x hx
  · simp only [List.mem_singleton] at hx; subst hx; exact hr
theorem copyInts_eq (l : List Int) (h : l.length ≤ 1000000) : spec_copyInts.f l = some l := by
  simp only [spec_copyInts.f, Option.bind_some, List.length_nil, List.nil_append]
  rw [if_pos (by omega)]
theorem someRanks_l0 (b : List Int) (hb : BytesOk b) (m : Int) (hm : 1 ≤ m ∧ m ≤ 6) (d : Nat) : ∀ (x4 : List (List Int)) (x5 p : Int), x5 = d → 0 ≤ p → p + 6 * d ≤ 10000 → x4.length + d ≤ 1000 → Rows m x4 →
    EvS (fun k => spec_someRanks.l0 k m x4 x5 b p) (fun r => r.1.length = x4.length + d ∧ Rows m r.1 ∧ p ≤ r.2 ∧ r.2 ≤ p + 6 * d) := by
  induction d with
  | zero =>
    intro x4 x5 p h1 h2 h3 h4 h5
    refine EvS.step (fun k => by rw [spec_someRanks.l0]) ?_
    exact EvS.neg (by omega) (EvS.now ⟨by simp, h5, by simp, by simp⟩)
  | succ d ih =>
    intro x4 x5 p h1 h2 h3 h4 h5
    have inner : ∀ (e : Nat) (j q : Int) (row : List Int), j + e = m → 0 ≤ j → (row.length : Int) = j → p ≤ q → q ≤ p + j →
        EvS (fun k => spec_someRanks.l1 k m x4 x5 row j b q) (fun r => r.1.length = x4.length + (d + 1) ∧ Rows m r.1 ∧ p ≤ r.2 ∧ r.2 ≤ p + 6 * (d + 1 : Nat)) := by
      intro e
      induction e with
      | zero =>
        intro j q row g1 g2 g3 g4 g5
        refine EvS.step (fun k => by rw [spec_someRanks.l1]) ?_
        refine EvS.neg (by omega) (EvS.pos (by omega) ?_)
        rw [w64 (x := x5 - 1) (by omega) (by omega)]
        refine EvS.mono (ih _ _ _ (by omega) (by omega) (by omega) (by simp; omega) (h5.snoc (by omega))) (fun r hr => ?_)
        obtain ⟨a1, a2, a3, a4⟩ := hr
        simp only [List.length_append, List.length_cons, List.length_nil] at a1
        exact ⟨by omega, a2, by omega, by omega⟩
      | succ e ihe =>
        intro j q row g1 g2 g3 g4 g5
        refine EvS.step (fun k => by rw [spec_someRanks.l1]) ?_
        refine EvS.pos (by omega) ?_
        rw [w64 (x := (row.length : Int) + 1) (by omega) (by omega), w64 (x := j + 1) (by omega) (by omega)]
        refine EvS.bind (pick_ok b q _ hb (by omega) (by omega)) ?_
        rintro ⟨v, q2⟩ ⟨e1, e2, -, e4⟩
        dsimp only at e1 e2 e4 ⊢
        subst e4
        have e2 := e2 (by omega)
        refine EvS.pos e1 (EvS.pos (by omega) (EvS.call (copyInts_eq _ (by rw [List.length_drop]; omega)) (EvS.onsome (EvS.pos (by rw [List.length_take]; omega) (EvS.onsome (EvS.pos (by simp; omega) ?_))))))
        exact ihe _ _ _ (by omega) (by omega) (by simp; omega) (by omega) (by omega)
    refine EvS.step (fun k => by rw [spec_someRanks.l0]) ?_
    exact EvS.pos (by omega) (inner m.toNat 0 p [] (by omega) (by omega) (by simp) (by omega) (by omega))
theorem anyRanks_ok (b : List Int) (hb : BytesOk b) (p : Int) (h0 : 0 ≤ p) (h1 : p ≤ 900) : EvS (fun k => spec_anyRanks.f k b p) (fun r => ShR r.1) := by
  simp only [spec_anyRanks.f, spec_someRanks.f]
  have hsome : EvS (fun k => (spec_reader_one.f k b p [3, 4, 2, 5, 1, 6]).bind fun bt => (spec_reader_one.f k b bt.2 [3, 5, 4, 1, 7, 2]).bind fun bt2 => spec_someRanks.l0 k bt.1 [] bt2.1 b bt2.2) (fun r => (1 ≤ r.1.length ∧ r.1.length ≤ 7) ∧ (∃ m, (1 ≤ m ∧ m ≤ 6) ∧ Rows m r.1) ∧ p ≤ r.2 ∧ r.2 ≤ p + 50) := by
    refine EvS.bind (one_ok _ _ _ hb (by omega) (by omega) (by simp)) ?_
    rintro ⟨v1, _⟩ ⟨v1_m, rfl⟩
    dsimp only at v1_m ⊢
    refine EvS.bind (one_ok _ _ _ hb (by omega) (by omega) (by simp)) ?_
    rintro ⟨v2, _⟩ ⟨v2_m, rfl⟩
    dsimp only at v2_m ⊢
    have a1 : 1 ≤ v1 ∧ v1 ≤ 6 := by simp at v1_m; omega
    have a2 : 1 ≤ v2 ∧ v2 ≤ 7 := by simp at v2_m; omega
    refine EvS.mono (someRanks_l0 b hb v1 a1 v2.toNat [] v2 _ (by omega) (by omega) (by omega) (by simp; omega) (fun r hr => by simp at hr)) (fun r hr => ?_)
    obtain ⟨g1, g2, g3, g4⟩ := hr
    simp at g1
    exact ⟨by omega, ⟨v1, a1, g2⟩, by omega, by omega⟩
  refine EvS.bind hsome ?_
  rintro ⟨l, q⟩ ⟨g1, ⟨m, gm, g2⟩, g3, g4⟩
  dsimp only at g1 g2 g3 g4 ⊢
  have sh : ShR l := ⟨by omega, fun r hr => by have := g2 r hr; omega⟩
  refine EvS.bind (pick_ok _ _ _ hb (by omega) (by omega)) ?_
  rintro ⟨v1, _⟩ ⟨v1_0, v1_1, v1_2, rfl⟩
  dsimp only at v1_0 v1_1 v1_2 ⊢
  refine EvS.ite (fun _ => ?_) (fun _ => EvS.ite (fun _ => ?_) (fun _ => EvS.now sh))
  · obtain ⟨x, l', rfl⟩ : ∃ x l', l = x :: l' := by
      cases l with
      | nil => simp at g1
      | cons x l' => exact ⟨x, l', rfl⟩
    have hx := g2 x List.mem_cons_self
    have hr : rd_L2 (x :: l') 0 = x := rfl
    simp only [hr]
    rw [w64 (x := (x.length : Int) - 1) (by omega) (by omega)]
    refine EvS.pos (by omega) (EvS.pos (by omega) (EvS.pos (by omega) ?_))
    refine EvS.bind (one_ok _ _ _ hb (by omega) (by omega) (by simp)) ?_
    rintro ⟨v3, _⟩ ⟨v3_m, rfl⟩
    dsimp only at v3_m ⊢
    refine EvS.pos (by omega) (EvS.now ⟨by simpa using sh.1, fun r hr => ?_⟩)
    rcases List.mem_or_eq_of_mem_set hr with hr | rfl
    · exact sh.2 r hr
    · simp; omega
  · refine EvS.pos (by omega) (EvS.now ⟨by simp; omega, fun r hr => ?_⟩)
    rcases List.mem_append.1 hr with hr | hr
    · exact sh.2 r hr
    · simp only [List.mem_singleton] at hr; subst hr; simp
/-! ## Who beats all. -/
def Bt (xs : List (List Int)) (a b : Int) : Prop := a = b ∨ 2 * pref xs a b > xs.length
instance (xs : List (List Int)) (a b : Int) : Decidable (Bt xs a b) := by unfold Bt; infer_instance
def Btp (xs : List (List Int)) (a n : Int) : Prop := ∀ c, 0 ≤ c → c < n → Bt xs a c
theorem btp_succ {xs : List (List Int)} {a n : Int} (hn : 0 ≤ n) : Btp xs a (n + 1) ↔ Btp xs a n ∧ Bt xs a n :=
  ⟨fun g => ⟨fun c c0 c1 => g c c0 (by omega), g n hn (by omega)⟩, fun g c c0 c1 => by
    by_cases e : c = n
    · subst e; exact g.2
    · exact g.1 c c0 (by omega)⟩
def IsBeat (xs : List (List Int)) (r : Int) : Prop := ((0 ≤ r ∧ r < rowN xs) ∧ Btp xs r (rowN xs) ∧ ∀ a, 0 ≤ a → a < r → ¬ Btp xs a (rowN xs)) ∨ (r = -1 ∧ ∀ a, 0 ≤ a → a < rowN xs → ¬ Btp xs a (rowN xs))
theorem IsBeat.eq {xs : List (List Int)} {r q : Int} (h : IsBeat xs r) (g : IsBeat xs q) : r = q := by
  rcases h with ⟨h1, h2, h3⟩ | ⟨h1, h2⟩
  · rcases g with ⟨g1, g2, g3⟩ | ⟨g1, g2⟩
    · rcases Int.lt_trichotomy r q with c | c | c
      · exact absurd h2 (g3 r h1.1 c)
      · exact c
      · exact absurd g2 (h3 q g1.1 c)
    · exact absurd h2 (g2 r h1.1 h1.2)
  · rcases g with ⟨g1, g2, g3⟩ | ⟨g1, g2⟩
    · exact absurd g2 (h2 q g1.1 g1.2)
    · omega
theorem impl_beats_l1 (xs : List (List Int)) (hl : ShR xs) (hv : VR xs) (a : Int) (ha : 0 ≤ a ∧ a < rowN xs) (K : ¬ Btp xs a (rowN xs) → EvS (fun k => impl_BeatsAll.l0 k xs (rowN xs) (wrap64 (a + 1))) (IsBeat xs)) (hp : ∀ c, 0 ≤ c → c < a → ¬ Btp xs c (rowN xs)) (d : Nat) : ∀ (b : Int) (f : Bool), b + d = rowN xs → 0 ≤ b → (f = true ↔ Btp xs a b) →
    EvS (fun k => impl_BeatsAll.l1 k xs a f (rowN xs) a (rowN xs) b) (IsBeat xs) := by
  have hn := hv.2.1
  have hxl := hv.1
  induction d with
  | zero =>
    intro b f e h0 hf
    have : b = rowN xs := by omega
    subst this
    refine EvS.step (fun k => by rw [impl_BeatsAll.l1]) ?_
    exact EvS.neg (by omega) (EvS.ite (fun c => EvS.now (.inl ⟨ha, hf.1 c, hp⟩)) (fun c => K (fun g => c (hf.2 g))))
  | succ d ih =>
    intro b f e h0 hf
    have hr := pref_range xs a b
    refine EvS.step (fun k => by rw [impl_BeatsAll.l1]) ?_
    rw [w64 (x := b + 1) (by omega) (by omega)]
    refine EvS.pos (by omega) (EvS.ite (fun c => EvS.ite (fun c2 => ih _ _ (by omega) (by omega) ?_) (fun c2 => EvS.bindv (prefer_ok xs hl hv a b ha (by omega) c2) ?_)) (fun c => ih _ _ (by omega) (by omega) ?_))
    · rw [btp_succ h0]; exact ⟨fun _ => ⟨hf.1 c, .inl c2⟩, fun _ => rfl⟩
    · rw [w64 (x := 2 * pref xs a b) (by omega) (by omega)]
      refine ih _ _ (by omega) (by omega) ?_
      rw [btp_succ h0]
      exact ⟨fun g => ⟨hf.1 c, .inr (of_decide_eq_true g)⟩, fun g => decide_eq_true (by rcases g.2 with g | g; exact absurd g c2; exact g)⟩
    · rw [btp_succ h0]; exact ⟨fun g => by simp at g, fun g => absurd (hf.2 g.1) c⟩
theorem impl_beats_l0 (xs : List (List Int)) (hl : ShR xs) (hv : VR xs) (d : Nat) : ∀ a : Int, a + d = rowN xs → 0 ≤ a → (∀ c, 0 ≤ c → c < a → ¬ Btp xs c (rowN xs)) → EvS (fun k => impl_BeatsAll.l0 k xs (rowN xs) a) (IsBeat xs) := by
  have hn := hv.2.1
  induction d with
  | zero =>
    intro a e h0 hp
    refine EvS.step (fun k => by rw [impl_BeatsAll.l0]) ?_
    exact EvS.neg (by omega) (EvS.now (.inr ⟨rfl, fun c c0 c1 => hp c c0 (by omega)⟩))
  | succ d ih =>
    intro a e h0 hp
    refine EvS.step (fun k => by rw [impl_BeatsAll.l0]) ?_
    refine EvS.pos (by omega) (EvS.pos (by have := hv.1; omega) (impl_beats_l1 xs hl hv a (by omega) (fun g => ?_) hp (rowN xs).toNat 0 true (by omega) (by omega) ⟨fun _ c c0 c1 => by omega, fun _ => rfl⟩))
    rw [w64 (x := a + 1) (by omega) (by omega)]
    refine ih _ (by omega) (by omega) (fun c c0 c1 => ?_)
    by_cases q : c = a
    · subst q; exact g
    · exact hp c c0 (by omega)
theorem impl_BeatsAll_ok (xs : List (List Int)) (hl : ShR xs) : EvS (fun k => impl_BeatsAll.f k xs) (fun r => if VR xs then IsBeat xs r else r = -1) := by
  simp only [impl_BeatsAll.f]
  refine EvS.bindv (impl_ValidRanks_ok xs hl) ?_
  by_cases hv : VR xs
  · simp only [if_pos hv]
    exact EvS.pos (decide_eq_true hv) (EvS.pos (by have := hv.1; omega) (impl_beats_l0 xs hl hv (rowN xs).toNat 0 (by have := hv.2.1; omega) (by omega) (fun c c0 c1 => by omega)))
  · simp only [if_neg hv]
    exact EvS.neg (by simp [hv]) (EvS.now rfl)
theorem spec_beats_l0' (xs : List (List Int)) (hl : ShR xs) (a b : Int) (ys : List (List Int)) : ∀ (i acc : Int), At xs i ys → 0 ≤ acc → acc + pref ys a b = pref xs a b → EvS (fun k => spec_beats.l0 k xs a b acc i) (· = pref xs a b) := by
  have hxl := hl.1
  have hb := pref_range xs a b
  induction ys with
  | nil =>
    intro i acc h h0 e
    refine EvS.step (fun k => by rw [spec_beats.l0]) ?_
    exact EvS.neg (by have := h.ge; omega) (EvS.now (by simp [pref] at e; exact e))
  | cons y ys ih =>
    intro i acc h h0 e
    have hy := hl.2 y h.mem
    have hb2 := pref_range ys a b
    simp only [pref] at e
    refine EvS.step (fun k => by rw [spec_beats.l0]) ?_
    refine EvS.pos h.lt (EvS.pos h.nonneg ?_)
    rw [at_rdR h]
    refine EvS.bindv (placeIn_ok y (by omega) a) (EvS.bindv (placeIn_ok y (by omega) b) (EvS.ite (fun c => ?_) (fun c => ?_)))
    · rw [if_pos c] at e
      rw [w64 (x := acc + 1) (by omega) (by omega)]
      exact ih _ _ (h.wnext (by omega)) (by omega) (by omega)
    · rw [if_neg c] at e
      exact ih _ _ (h.wnext (by omega)) h0 (by omega)
theorem spec_beats_ok (xs : List (List Int)) (hl : ShR xs) (a b : Int) : EvS (fun k => spec_beats.f k xs a b) (· = pref xs a b) := by
  simp only [spec_beats.f]
  exact spec_beats_l0' xs hl a b xs 0 0 (At.zero _) (by omega) (by omega)
theorem spec_all_l1 (xs : List (List Int)) (hl : ShR xs) (hv : VR xs) (a : Int) (ha : 0 ≤ a ∧ a < rowN xs) (K : ¬ Btp xs a (rowN xs) → EvS (fun k => spec_BeatsAll.l0 k xs (wrap64 (a + 1))) (IsBeat xs)) (hp : ∀ c, 0 ≤ c → c < a → ¬ Btp xs c (rowN xs)) (d : Nat) : ∀ (b : Int) (f : Bool), b + d = rowN xs → 0 ≤ b → (f = true ↔ Btp xs a b) →
    EvS (fun k => spec_BeatsAll.l1 k xs a f b) (IsBeat xs) := by
  have hn := hv.2.1
  have hxl := hv.1
  have hnn : rowN xs = ((rd_L2 xs 0).length : Int) := rfl
  induction d with
  | zero =>
    intro b f e h0 hf
    have : b = rowN xs := by omega
    subst this
    refine EvS.step (fun k => by rw [spec_BeatsAll.l1]) ?_
    exact EvS.pos (by omega) (EvS.neg (by omega) (EvS.ite (fun c => EvS.now (.inl ⟨ha, hf.1 c, hp⟩)) (fun c => K (fun g => c (hf.2 g)))))
  | succ d ih =>
    intro b f e h0 hf
    have hr := pref_range xs a b
    refine EvS.step (fun k => by rw [spec_BeatsAll.l1]) ?_
    rw [w64 (x := b + 1) (by omega) (by omega)]
    refine EvS.pos (by omega) (EvS.pos (by omega) (EvS.ite (fun c => EvS.ite (fun c2 => ih _ _ (by omega) (by omega) ?_) (fun c2 => EvS.bindv (spec_beats_ok xs hl a b) ?_)) (fun c => ih _ _ (by omega) (by omega) ?_)))
    · rw [btp_succ h0]; exact ⟨fun _ => ⟨hf.1 c, .inl c2⟩, fun _ => rfl⟩
    · rw [w64 (x := 2 * pref xs a b) (by omega) (by omega)]
      refine ih _ _ (by omega) (by omega) ?_
      rw [btp_succ h0]
      exact ⟨fun g => ⟨hf.1 c, .inr (of_decide_eq_true g)⟩, fun g => decide_eq_true (by rcases g.2 with g | g; exact absurd g c2; exact g)⟩
    · rw [btp_succ h0]; exact ⟨fun g => by simp at g, fun g => absurd (hf.2 g.1) c⟩
theorem spec_all_l0 (xs : List (List Int)) (hl : ShR xs) (hv : VR xs) (d : Nat) : ∀ a : Int, a + d = rowN xs → 0 ≤ a → (∀ c, 0 ≤ c → c < a → ¬ Btp xs c (rowN xs)) → EvS (fun k => spec_BeatsAll.l0 k xs a) (IsBeat xs) := by
  have hn := hv.2.1
  have hnn : rowN xs = ((rd_L2 xs 0).length : Int) := rfl
  induction d with
  | zero =>
    intro a e h0 hp
    refine EvS.step (fun k => by rw [spec_BeatsAll.l0]) ?_
    exact EvS.pos (by have := hv.1; omega) (EvS.neg (by omega) (EvS.now (.inr ⟨rfl, fun c c0 c1 => hp c c0 (by omega)⟩)))
  | succ d ih =>
    intro a e h0 hp
    refine EvS.step (fun k => by rw [spec_BeatsAll.l0]) ?_
    refine EvS.pos (by have := hv.1; omega) (EvS.pos (by omega) (spec_all_l1 xs hl hv a (by omega) (fun g => ?_) hp (rowN xs).toNat 0 true (by omega) (by omega) ⟨fun _ c c0 c1 => by omega, fun _ => rfl⟩))
    rw [w64 (x := a + 1) (by omega) (by omega)]
    refine ih _ (by omega) (by omega) (fun c c0 c1 => ?_)
    by_cases q : c = a
    · subst q; exact g
    · exact hp c c0 (by omega)
theorem spec_BeatsAll_ok (xs : List (List Int)) (hl : ShR xs) : EvS (fun k => spec_BeatsAll.f k xs) (fun r => if VR xs then IsBeat xs r else r = -1) := by
  simp only [spec_BeatsAll.f]
  refine EvS.bindv (spec_validRanks_ok xs hl) ?_
  by_cases hv : VR xs
  · simp only [if_pos hv]
    exact EvS.pos (decide_eq_true hv) (spec_all_l0 xs hl hv (rowN xs).toNat 0 (by have := hv.2.1; omega) (by omega) (fun c c0 c1 => by omega))
  · simp only [if_neg hv]
    exact EvS.neg (by simp [hv]) (EvS.now rfl)
theorem law_l0 (xs : List (List Int)) (hl : ShR xs) (hv : VR xs) (a : Int) (ha : 0 ≤ a ∧ a < rowN xs) (hb : Btp xs a (rowN xs)) (d : Nat) : ∀ b : Int, b + d = rowN xs → 0 ≤ b → EvS (fun k => laws_FnBeatsAll.l0 k xs a b) (· = true) := by
  have hn := hv.2.1
  have hxl := hv.1
  have hnn : rowN xs = ((rd_L2 xs 0).length : Int) := rfl
  induction d with
  | zero =>
    intro b e h0
    refine EvS.step (fun k => by rw [laws_FnBeatsAll.l0]) ?_
    exact EvS.pos (by omega) (EvS.neg (by omega) (EvS.now (decide_eq_true (by omega))))
  | succ d ih =>
    intro b e h0
    have hr := pref_range xs a b
    refine EvS.step (fun k => by rw [laws_FnBeatsAll.l0]) ?_
    rw [w64 (x := b + 1) (by omega) (by omega)]
    refine EvS.pos (by omega) (EvS.pos (by omega) (EvS.ite (fun _ => ih _ (by omega) (by omega)) (fun c => EvS.bindv (prefer_ok xs hl hv a b ha (by omega) (fun g => c g.symm)) ?_)))
    rw [w64 (x := 2 * pref xs a b) (by omega) (by omega)]
    refine EvS.neg ?_ (ih _ (by omega) (by omega))
    rcases hb b h0 (by omega) with g | g
    · exact absurd g.symm c
    · omega
theorem FnBeatsAll : laws_FnBeatsAll.Pure := by
  intro l0 _ _ hw
  refine EvS.holds ?_
  simp only [laws_FnBeatsAll.f, spec_DrawBeatsAll.f]
  refine EvS.ite (fun _ => EvS.now rfl) (fun _ => ?_)
  have hdraw : EvS (fun k => (spec_newReader.f l0).bind fun bt => (spec_anyRanks.f k bt.1 bt.2).bind fun bt2 => some bt2.1) ShR := by
    have hl : ∀ x ∈ l0, 0 ≤ x ∧ x ≤ 255 := fun x hx => u8_range (hw x hx)
    obtain ⟨b, eb, hb⟩ := newReader_ok l0 hl
    exact EvS.call eb (EvS.bind (anyRanks_ok b hb 0 (by omega) (by omega)) (fun r hr => EvS.now hr))
  refine EvS.bind hdraw (fun xs hl => EvS.bind (impl_BeatsAll_ok xs hl) (fun r1 hr1 => EvS.bind (spec_BeatsAll_ok xs hl) (fun r2 hr2 => ?_)))
  have eqr : ∀ q, (if VR xs then IsBeat xs q else q = -1) → r1 = q := by
    intro q hq
    by_cases hv : VR xs
    · simp only [if_pos hv] at hr1 hq; exact hr1.eq hq
    · simp only [if_neg hv] at hr1 hq; rw [hr1, hq]
  refine EvS.pos (eqr r2 hr2) ?_
  by_cases c : r1 < 0
  · rw [decide_eq_true c]
    refine EvS.step (fun k => by rw [laws_FnBeatsAll.j0]) ?_
    refine EvS.pos rfl (EvS.bind (spec_BeatsAll_ok xs hl) (fun r3 hr3 => EvS.now ?_))
    rw [beq_dec]; exact decide_eq_true (eqr r3 hr3)
  · rw [decide_eq_false c]
    refine EvS.step (fun k => by rw [laws_FnBeatsAll.j0]) ?_
    refine EvS.neg (by simp) ?_
    by_cases hv : VR xs
    · simp only [if_pos hv] at hr1
      rcases hr1 with ⟨h1, h2, h3⟩ | ⟨h1, h2⟩
      · exact law_l0 xs hl hv r1 h1 h2 (rowN xs).toNat 0 (by omega) (by omega)
      · omega
    · simp only [if_neg hv] at hr1; omega
end Go.Proofs.Ytlagpccnhbobiaa.Pure

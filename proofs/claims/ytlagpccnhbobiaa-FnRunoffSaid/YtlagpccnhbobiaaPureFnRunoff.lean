/- Runoff: it is what the reference tells; a majority's first choice wins; and nobody wins whom all rank last. Conditions: none. -/
import Derived.Test.YtlagpccnhbobiaaMFnRunoffx0
import Derived.Test.YtlagpccnhbobiaaMFnRunoffx1
import Derived.Test.YtlagpccnhbobiaaMFnRunoffx2
import Derived.Test.YtlagpccnhbobiaaMFnRunoffx3
import Derived.Test.YtlagpccnhbobiaaMFnRunoffx4
import Derived.Test.YtlagpccnhbobiaaMFnRunoffx5
import Derived.Test.YtlagpccnhbobiaaMFnRunoffx6
import Derived.Test.YtlagpccnhbobiaaMFnRunoffx7
import Derived.Test.YtlagpccnhbobiaaMFnRunoffx8
import Derived.Test.YtlagpccnhbobiaaBase
set_option linter.unusedVariables false
set_option linter.unusedSimpArgs false
namespace Go.Proofs.Ytlagpccnhbobiaa.Pure
open Go.RowKit Go.Proofs.Ytlagpccnhbobiaa.PFnRunoff Go.Proofs.YtlagpccnhbobiaaW.PrintWords Go.Proofs.YtlagpccnhbobiaaW.PrintLast Go.Proofs.YtlagpccnhbobiaaW.PrintMore Go.Proofs.Ytlagpccnhbobiaa.Base
theorem u8_range {x : Int} (h : (Lit.int .u8 x).wf = true) : 0 ≤ x ∧ x ≤ 255 := by
  simp [Lit.wf, IntKind.min, IntKind.max, IntKind.bits, IntKind.signed] at h
  omega
/-! ## The reader that draws. -/
structure BytesOk (b : List Int) : Prop where
  len : b.length ≤ 2000
  mem : ∀ x ∈ b, 0 ≤ x ∧ x ≤ 255

theorem newReader_ok (l : List Int) (h : ∀ x ∈ l, 0 ≤ x ∧ x ≤ 255) : ∃ b, spec_newReader.f l = some (b, 0) ∧ BytesOk b := by
  unfold spec_newReader.f
  by_cases c : (l.length : Int) > 2000
  · rw [if_pos c, if_pos (by omega)]
    exact ⟨_, rfl, by rw [List.length_take]; omega, fun x hx => h x (List.mem_of_mem_take hx)⟩
  · rw [if_neg c]
    exact ⟨_, rfl, by omega, h⟩

theorem pick_ok (b : List Int) (p n : Int) (hb : BytesOk b) (h0 : 0 ≤ p) (h1 : p ≤ 100000) :
    EvS (fun k => spec_reader_pick.f k b p n) (fun r => 0 ≤ r.1 ∧ (1 ≤ n → r.1 < n) ∧ (n < 1 → r.1 = 0) ∧ r.2 = p + 1) := by
  have hp : wrap64 (p + 1) = p + 1 := w64 (by omega) (by omega)
  have hq : wrap64 (p + 1 - 1) = p := by rw [show p + 1 - 1 = p by omega]; exact w64 (by omega) (by omega)
  have hbl := hb.len
  simp only [spec_reader_pick.f]
  rw [hp]
  by_cases hn : n < 1
  · refine EvS.pos hn ?_
    refine EvS.step (fun k => by rw [spec_reader_pick.j0]) ?_
    refine EvS.pos rfl ?_
    exact EvS.now ⟨by simp, fun h => by omega, fun _ => rfl, rfl⟩
  · refine EvS.neg hn ?_
    refine EvS.step (fun k => by rw [spec_reader_pick.j0]) ?_
    simp only [hq]
    by_cases hl : b.length = 0
    · refine EvS.pos (by simp [hl]) ?_
      exact EvS.now ⟨by simp, fun h => by simp; omega, fun _ => rfl, rfl⟩
    · refine EvS.neg (by simp; intro h; exact hl (by simp [h])) ?_
      by_cases hpl : p < b.length
      · refine EvS.pos hpl (EvS.pos h0 (EvS.neg (by omega) ?_))
        have hr := rd_range hb.mem p h0 hpl
        rw [w64 (by omega) (by omega)]
        have ht := tmod_range (rd b p) n (by omega) (by omega)
        exact EvS.now ⟨ht.1, fun _ => ht.2, fun h => by omega, rfl⟩
      · refine EvS.neg hpl (EvS.neg (by omega) ?_)
        have e1 : wrap64 (wrap64 (p * 7) + 3) = p * 7 + 3 := by
          rw [w64 (x := p * 7) (by omega) (by omega)]; exact w64 (by omega) (by omega)
        simp only [e1]
        have i1 := tmod_range p b.length h0 (by omega)
        have i2 := tmod_range (p * 7 + 3) b.length (by omega) (by omega)
        refine EvS.pos i1.1 (EvS.pos i1.2 (EvS.pos i2.1 (EvS.pos i2.2 (EvS.neg (by omega) ?_))))
        have r1 := rd_range hb.mem _ i1.1 i1.2
        have r2 := rd_range hb.mem _ i2.1 i2.2
        generalize rd b (Int.tmod p b.length) = v1 at r1 ⊢
        generalize rd b (Int.tmod (p * 7 + 3) b.length) = v2 at r2 ⊢
        have d0 : 0 ≤ Int.tdiv p b.length ∧ Int.tdiv p b.length ≤ p := by
          rw [tdiv_pos _ _ h0]
          exact ⟨Int.ediv_nonneg h0 (by omega), Int.ediv_le_self _ h0⟩
        generalize Int.tdiv p b.length = dv at d0 ⊢
        simp (disch := omega) only [w64]
        have hx0 : 0 ≤ v1 * 131 + v2 * 1117 + p * 29 + dv * 53 := by omega
        have hx1 : v1 * 131 + v2 * 1117 + p * 29 + dv * 53 < 1000000000 := by omega
        generalize v1 * 131 + v2 * 1117 + p * 29 + dv * 53 = X at hx0 hx1 ⊢
        rw [tdiv_pos X 64 hx0, w64 (x := X / 64) (by omega) (by omega)]
        have ht := tmod_range (Go.bits .xor .i64 X (X / 64)) n (xor_nonneg _ _ (by omega) (by omega) (by omega) (by omega)) (by omega)
        exact EvS.now ⟨ht.1, fun _ => ht.2, fun h => by omega, rfl⟩

theorem one_ok (b : List Int) (p : Int) (l : List Int) (hb : BytesOk b) (h0 : 0 ≤ p) (h1 : p ≤ 100000) (hl : 1 ≤ l.length) :
    EvS (fun k => spec_reader_one.f k b p l) (fun r => r.1 ∈ l ∧ r.2 = p + 1) := by
  simp only [spec_reader_one.f]
  refine EvS.bind (pick_ok b p l.length hb h0 h1) ?_
  rintro ⟨v, q⟩ ⟨a1, a2, a3, a4⟩
  have a5 := a2 (by omega)
  refine EvS.pos a1 (EvS.pos a5 ?_)
  exact EvS.now ⟨rd_mem _ a1 a5, a4⟩
/-! ## Lists of numbers. -/
theorem inRange_eq (n lo hi : Int) : spec_inRange.f n lo hi = some (decide (lo ≤ n ∧ n ≤ hi)) := by
  unfold spec_inRange.f
  split
  · exact congrArg some (decide_eq_decide.2 (by omega))
  · exact congrArg some (decide_eq_false (by omega)).symm
def AllW (xs : List Int) (lo hi : Int) : Prop := ∀ x ∈ xs, lo ≤ x ∧ x ≤ hi
instance (xs : List Int) (lo hi : Int) : Decidable (AllW xs lo hi) := by unfold AllW; infer_instance
theorem allW_cons (y : Int) (ys : List Int) (lo hi : Int) : AllW (y :: ys) lo hi ↔ (lo ≤ y ∧ y ≤ hi) ∧ AllW ys lo hi := by
  unfold AllW; simp
/-- The first place of a number, counted from i on; -1 if it is not there. -/
def posF (v : Int) : Int → List Int → Int
  | _, [] => -1
  | i, x :: xs => if x = v then i else posF v (i + 1) xs
theorem posF_range (v : Int) (xs : List Int) : ∀ i : Int, 0 ≤ i → (v ∈ xs → i ≤ posF v i xs ∧ posF v i xs < i + xs.length) ∧ (v ∉ xs → posF v i xs = -1) := by
  induction xs with
  | nil => intro i h0; exact ⟨fun h => by simp at h, fun _ => rfl⟩
  | cons x xs ih =>
    intro i h0
    have h := ih (i + 1) (by omega)
    simp only [posF, List.length_cons]
    by_cases c : x = v
    · rw [if_pos c]; exact ⟨fun _ => by omega, fun g => absurd (by simp [c]) g⟩
    · rw [if_neg c]
      refine ⟨fun g => ?_, fun g => h.2 (fun g2 => g (List.mem_cons_of_mem _ g2))⟩
      have := h.1 ((List.mem_cons.1 g).resolve_left (fun e => c e.symm))
      omega
theorem posF_nonneg (v : Int) (xs : List Int) (i : Int) (h : 0 ≤ i) : (0 ≤ posF v i xs) ↔ v ∈ xs := by
  by_cases c : v ∈ xs
  · have := (posF_range v xs i h).1 c; exact ⟨fun _ => c, fun _ => by omega⟩
  · have := (posF_range v xs i h).2 c; exact ⟨fun g => by omega, fun g => absurd g c⟩
theorem placeIn_l0 (xs : List Int) (hl : xs.length ≤ 1099511627776) (v : Int) (ys : List Int) : ∀ i : Int, At xs i ys → EvS (fun k => spec_placeIn.l0 k xs v i) (· = posF v i ys) := by
  induction ys with
  | nil =>
    intro i h
    refine EvS.step (fun k => by rw [spec_placeIn.l0]) ?_
    exact EvS.neg (by have := h.ge; omega) (EvS.now rfl)
  | cons y ys ih =>
    intro i h
    have h1 := h.lt
    have h2 := h.nonneg
    have hw : wrap64 (i + 1) = i + 1 := w64 (by omega) (by omega)
    refine EvS.step (fun k => by rw [spec_placeIn.l0]) ?_
    refine EvS.pos h.lt (EvS.pos h.nonneg ?_)
    rw [At.rd h, hw, posF]
    by_cases c : y = v
    · rw [if_pos c]; exact EvS.pos c (EvS.now rfl)
    · rw [if_neg c]; exact EvS.neg c (ih _ h.next)
theorem placeIn_ok (xs : List Int) (hl : xs.length ≤ 1099511627776) (v : Int) : EvS (fun k => spec_placeIn.f k xs v) (· = posF v 0 xs) := by
  simp only [spec_placeIn.f]
  exact placeIn_l0 xs hl v xs 0 (At.zero xs)
/-- Different numbers from 0 to n - 1. -/
def Diff (xs : List Int) (n : Int) : Prop := xs.Nodup ∧ ∀ x ∈ xs, 0 ≤ x ∧ x < n
instance (xs : List Int) (n : Int) : Decidable (Diff xs n) := by unfold Diff; infer_instance
def DiffF (pre ys : List Int) (n : Int) : Prop := ys.Nodup ∧ ∀ y ∈ ys, 0 ≤ y ∧ y < n ∧ y ∉ pre
instance (pre ys : List Int) (n : Int) : Decidable (DiffF pre ys n) := by unfold DiffF; infer_instance
theorem diffF_cons (pre : List Int) (y : Int) (ys : List Int) (n : Int) : DiffF pre (y :: ys) n ↔ (0 ≤ y ∧ y < n ∧ y ∉ pre) ∧ DiffF (y :: pre) ys n := by
  unfold DiffF
  constructor
  · rintro ⟨h1, h2⟩
    have h1 := List.nodup_cons.1 h1
    refine ⟨h2 y List.mem_cons_self, h1.2, fun z hz => ?_⟩
    have := h2 z (List.mem_cons_of_mem _ hz)
    refine ⟨this.1, this.2.1, fun hm => ?_⟩
    rcases List.mem_cons.1 hm with rfl | hm
    · exact h1.1 hz
    · exact this.2.2 hm
  · rintro ⟨h1, h2, h3⟩
    refine ⟨List.nodup_cons.2 ⟨fun hm => (h3 y hm).2.2 List.mem_cons_self, h2⟩, fun z hz => ?_⟩
    rcases List.mem_cons.1 hz with rfl | hz
    · exact h1
    · have := h3 z hz
      exact ⟨this.1, this.2.1, fun hm => this.2.2 (List.mem_cons_of_mem _ hm)⟩
theorem diffF_congr {p q ys : List Int} {n : Int} (h : ∀ x, x ∈ p ↔ x ∈ q) : DiffF p ys n ↔ DiffF q ys n := by
  unfold DiffF
  simp only [h]
theorem diffF_nil (xs : List Int) (n : Int) : DiffF [] xs n ↔ Diff xs n := by
  unfold DiffF Diff; simp
theorem diff_len {xs : List Int} {n : Int} (h : Diff xs n) : (xs.length : Int) ≤ n ∨ xs = [] := by
  rcases xs with _ | ⟨x, xs⟩
  · exact .inr rfl
  · left
    have h1 : 0 ≤ n := by have := h.2 x List.mem_cons_self; omega
    have h2 : (x :: xs) ⊆ (List.range n.toNat).map (fun m : Nat => (m : Int)) := by
      intro y hy
      have := h.2 y hy
      exact List.mem_map.2 ⟨y.toNat, List.mem_range.2 (by omega), by omega⟩
    have h3 := h.1.length_le_of_subset h2
    rw [List.length_map, List.length_range] at h3
    omega
theorem differentBelow_l0 (xs : List Int) (hl : xs.length ≤ 1099511627776) (n : Int) (ys : List Int) : ∀ (i : Int) (seen : List Bool) (pre : List Int), At xs i ys → (seen.length : Int) = n → (∀ v : Int, 0 ≤ v → v < n → (rdOf false seen v = true ↔ v ∈ pre)) →
    EvS (fun k => impl_differentBelow.l0 k n seen xs xs.length i) (· = decide (DiffF pre ys n)) := by
  induction ys with
  | nil =>
    intro i seen pre h hs hv
    refine EvS.step (fun k => by rw [impl_differentBelow.l0]) ?_
    exact EvS.neg (by have := h.ge; omega) (EvS.now (by simp [DiffF]))
  | cons y ys ih =>
    intro i seen pre h hs hv
    refine EvS.step (fun k => by rw [impl_differentBelow.l0]) ?_
    refine EvS.pos h.lt (EvS.pos h.nonneg (EvS.pos h.lt ?_))
    rw [At.rd h]
    refine EvS.ite (fun c => EvS.now (decide_eq_false (fun g => by have := ((diffF_cons _ _ _ _).1 g).1; omega)).symm) (fun c1 => EvS.ite (fun c => EvS.now (decide_eq_false (fun g => by have := ((diffF_cons _ _ _ _).1 g).1; omega)).symm) (fun c2 => EvS.pos (by omega) (EvS.pos (by omega) ?_)))
    have hy := hv y (by omega) (by omega)
    refine EvS.ite (fun c => EvS.now (decide_eq_false (fun g => ((diffF_cons _ _ _ _).1 g).1.2.2 (hy.1 c))).symm) (fun c3 => ?_)
    refine EvS.mono (ih _ (seen.set y.toNat true) (y :: pre) (h.wnext (by omega)) (by simpa using hs) (fun v h0 h1 => ?_)) (fun r hr => ?_)
    · unfold rdOf
      rw [List.getD_eq_getElem?_getD, List.getElem?_set]
      by_cases e : y = v
      · subst e
        rw [if_pos rfl, if_pos (by omega)]
        exact ⟨fun _ => List.mem_cons_self, fun _ => rfl⟩
      · rw [if_neg (by omega)]
        have := hv v h0 h1
        unfold rdOf at this
        rw [List.getD_eq_getElem?_getD] at this
        rw [this, List.mem_cons]
        exact ⟨fun g => .inr g, fun g => g.resolve_left (fun e2 => e e2.symm)⟩
    · rw [hr]
      exact decide_eq_decide.2 ⟨fun g => (diffF_cons _ _ _ _).2 ⟨⟨by omega, by omega, fun hm => c3 (hy.2 hm)⟩, g⟩, fun g => ((diffF_cons _ _ _ _).1 g).2⟩
theorem differentBelow_ok (xs : List Int) (hl : xs.length ≤ 1099511627776) (n : Int) (hn : n ≤ 1099511627776) (h0 : 0 ≤ n) : EvS (fun k => impl_differentBelow.f k xs n) (· = decide (Diff xs n)) := by
  simp only [impl_differentBelow.f]
  refine EvS.ite (fun c => EvS.now (decide_eq_false (fun g => ?_)).symm) (fun c => EvS.pos h0 (EvS.pos (by omega) ?_))
  · rcases diff_len g with h | h
    · omega
    · subst h; simp at c; omega
  · refine EvS.mono (differentBelow_l0 xs hl n xs 0 _ [] (At.zero xs) (by simp; omega) (fun v _ _ => ?_)) (fun r hr => ?_)
    · unfold rdOf
      rw [List.getD_eq_getElem?_getD, List.getElem?_replicate]
      split <;> simp
    · rw [hr]
      exact decide_eq_decide.2 (diffF_nil xs n)
theorem validMembers_l0 (xs : List Int) (hl : xs.length ≤ 1099511627776) (n : Int) (hn : n ≤ 1099511627776) (h0 : 0 ≤ n) (ys : List Int) : ∀ i : Int, At xs i ys → EvS (fun k => spec_validMembers.l0 k xs n i) (· = decide (DiffF (xs.take i.toNat) ys n)) := by
  induction ys with
  | nil =>
    intro i h
    refine EvS.step (fun k => by rw [spec_validMembers.l0]) ?_
    exact EvS.neg (by have := h.ge; omega) (EvS.now (by simp [DiffF]))
  | cons y ys ih =>
    intro i h
    have h1 := h.lt
    have h2 := h.nonneg
    have hw : wrap64 (i + 1) = i + 1 := w64 (by omega) (by omega)
    refine EvS.step (fun k => by rw [spec_validMembers.l0]) ?_
    refine EvS.pos h.lt (EvS.pos h.nonneg ?_)
    rw [At.rd h, hw, w64 (x := n - 1) (by omega) (by omega)]
    refine EvS.call (inRange_eq _ _ _) (EvS.ite (fun c => EvS.pos (by omega) ?_) (fun c => EvS.now ?_))
    · have c := of_decide_eq_true c
      refine EvS.bindv (placeIn_ok _ (by rw [List.length_take]; omega) y) ?_
      have hp := posF_nonneg y (xs.take i.toNat) 0 (by omega)
      refine EvS.ite (fun g => EvS.now (decide_eq_false (fun g2 => ((diffF_cons _ _ _ _).1 g2).1.2.2 (hp.1 g))).symm) (fun g => ?_)
      refine EvS.mono (ih _ h.next) (fun r hr => ?_)
      rw [hr]
      refine decide_eq_decide.2 (Iff.trans (diffF_congr (q := y :: xs.take i.toNat) (fun x => ?_)) ⟨fun g2 => (diffF_cons _ _ _ _).2 ⟨⟨c.1, by omega, fun hm => g (hp.2 hm)⟩, g2⟩, fun g2 => ((diffF_cons _ _ _ _).1 g2).2⟩)
      simp only [h.take, List.mem_append, List.mem_cons, List.not_mem_nil, or_false]
      exact or_comm
    · have c := ndec c
      exact (decide_eq_false (fun g => c (by have := ((diffF_cons _ _ _ _).1 g).1; omega))).symm
theorem validMembers_ok (xs : List Int) (hl : xs.length ≤ 1099511627776) (n : Int) (hn : n ≤ 1099511627776) (h0 : 0 ≤ n) : EvS (fun k => spec_validMembers.f k xs n) (· = decide (Diff xs n)) := by
  simp only [spec_validMembers.f]
  refine EvS.mono (validMembers_l0 xs hl n hn h0 xs 0 (At.zero xs)) (fun r hr => ?_)
  rw [hr]
  exact decide_eq_decide.2 (diffF_nil xs n)
/-! ## Amounts divided into equal parts. -/
theorem list_ext {xs ys : List Int} (hl : xs.length = ys.length) (h : ∀ i : Int, 0 ≤ i → i < xs.length → rd xs i = rd ys i) : xs = ys := by
  apply List.ext_getElem hl
  intro n h1 h2
  have := h n (by omega) (by omega)
  unfold rd at this
  simp only [Int.toNat_natCast] at this
  rw [List.getD_eq_getElem?_getD, List.getD_eq_getElem?_getD, List.getElem?_eq_getElem h1, List.getElem?_eq_getElem h2] at this
  exact this
theorem rd_set (xs : List Int) (i j v : Int) (h0 : 0 ≤ i) (h1 : i < xs.length) (h2 : 0 ≤ j) : rd (xs.set i.toNat v) j = if i = j then v else rd xs j := by
  unfold rd
  rw [List.getD_eq_getElem?_getD, List.getElem?_set]
  by_cases c : i = j
  · subst c; rw [if_pos rfl, if_pos (by omega), if_pos rfl]; rfl
  · rw [if_neg (by omega), if_neg c, List.getD_eq_getElem?_getD]
theorem rd_zeros (n : Nat) (j : Int) : rd (List.replicate n 0) j = 0 := by
  unfold rd
  rw [List.getD_eq_getElem?_getD, List.getElem?_replicate]
  split <;> rfl
theorem rd_snoc (xs : List Int) (v j : Int) (h0 : 0 ≤ j) : rd (xs ++ [v]) j = if j < xs.length then rd xs j else if j = xs.length then v else 0 := by
  unfold rd
  rw [List.getD_eq_getElem?_getD, List.getD_eq_getElem?_getD]
  by_cases c : j < xs.length
  · rw [if_pos c, List.getElem?_append_left (by omega)]
  · rw [if_neg c, List.getElem?_append_right (by omega)]
    by_cases c2 : j = xs.length
    · rw [if_pos c2, c2]; simp
    · rw [if_neg c2, List.getElem?_eq_none (by simp; omega)]; rfl
/-! ## Rankings. -/
def rowN (xs : List (List Int)) : Int := ((rd_L2 xs 0).length : Int)
def VR (xs : List (List Int)) : Prop := (1 ≤ xs.length ∧ xs.length ≤ 12) ∧ (1 ≤ rowN xs ∧ rowN xs ≤ 6) ∧ ∀ r ∈ xs, (r.length : Int) = rowN xs ∧ Diff r (rowN xs)
instance (xs : List (List Int)) : Decidable (VR xs) := by unfold VR; infer_instance
def ShR (xs : List (List Int)) : Prop := xs.length ≤ 2000000 ∧ ∀ r ∈ xs, r.length ≤ 2000000
theorem at_rdR {xs ys : List (List Int)} {i : Int} {y : List Int} (h : At xs i (y :: ys)) : rd_L2 xs i = y := h.getD _
theorem all_cons {α : Type} {P : α → Prop} {y : α} {ys : List α} (h : P y) : (∀ e ∈ y :: ys, P e) ↔ ∀ e ∈ ys, P e :=
  ⟨fun g e he => g e (List.mem_cons_of_mem _ he), fun g e he => by rcases List.mem_cons.1 he with rfl | he; exact h; exact g e he⟩
theorem rowN_range {xs : List (List Int)} (h : ShR xs) : 0 ≤ rowN xs ∧ rowN xs ≤ 2000000 := by
  unfold rowN
  refine ⟨by omega, ?_⟩
  cases xs with
  | nil => show (([] : List Int).length : Int) ≤ 2000000; simp
  | cons r l => have := h.2 r List.mem_cons_self; show (r.length : Int) ≤ 2000000; omega
theorem impl_ValidRanks_l0 (xs : List (List Int)) (hl : ShR xs) (ys : List (List Int)) : ∀ i : Int, At xs i ys → EvS (fun k => impl_ValidRanks.l0 k (rowN xs) xs xs.length i) (· = decide (∀ r ∈ ys, (r.length : Int) = rowN xs ∧ Diff r (rowN xs))) := by
  have hxl := hl.1
  have hn := rowN_range hl
  induction ys with
  | nil =>
    intro i h
    refine EvS.step (fun k => by rw [impl_ValidRanks.l0]) ?_
    exact EvS.neg (by have := h.ge; omega) (EvS.now (by simp))
  | cons y ys ih =>
    intro i h
    have hy := hl.2 y h.mem
    refine EvS.step (fun k => by rw [impl_ValidRanks.l0]) ?_
    refine EvS.pos h.lt (EvS.pos h.nonneg (EvS.pos h.lt ?_))
    rw [at_rdR h]
    have no : ¬ ((y.length : Int) = rowN xs ∧ Diff y (rowN xs)) → false = decide (∀ r ∈ y :: ys, (r.length : Int) = rowN xs ∧ Diff r (rowN xs)) := fun g => (decide_eq_false (fun q => g (q y List.mem_cons_self))).symm
    refine EvS.ite (fun c1 => EvS.bindv (differentBelow_ok y (by omega) _ (by omega) (by omega)) (EvS.ite (fun c2 => ?_) (fun c2 => EvS.now (no (fun g => ndec c2 g.2))))) (fun c1 => EvS.now (no (fun g => c1 g.1)))
    refine EvS.mono (ih _ (h.wnext (by omega))) (fun r hr => ?_)
    rw [hr]
    exact decide_eq_decide.2 (all_cons (P := fun r : List Int => (r.length : Int) = rowN xs ∧ Diff r (rowN xs)) ⟨c1, of_decide_eq_true c2⟩).symm
theorem impl_ValidRanks_ok (xs : List (List Int)) (hl : ShR xs) : EvS (fun k => impl_ValidRanks.f k xs) (· = decide (VR xs)) := by
  have jt : ¬ VR xs → EvS (fun k => impl_ValidRanks.j0 k xs true) (· = decide (VR xs)) := by
    intro g
    refine EvS.step (fun k => by rw [impl_ValidRanks.j0]) ?_
    exact EvS.pos rfl (EvS.now (decide_eq_false g).symm)
  have jt1 : ¬ VR xs → EvS (fun k => impl_ValidRanks.j1 k xs (rowN xs) true) (· = decide (VR xs)) := by
    intro g
    refine EvS.step (fun k => by rw [impl_ValidRanks.j1]) ?_
    exact EvS.pos rfl (EvS.now (decide_eq_false g).symm)
  simp only [impl_ValidRanks.f]
  refine EvS.ite (fun c => jt (fun g => by have := g.1; omega)) (fun c1 => ?_)
  by_cases c2 : (xs.length : Int) > 12
  · rw [decide_eq_true c2]; exact jt (fun g => by have := g.1; omega)
  · rw [decide_eq_false c2]
    refine EvS.step (fun k => by rw [impl_ValidRanks.j0]) ?_
    refine EvS.neg (by simp) (EvS.pos (by omega) (EvS.ite (fun c => jt1 (fun g => by have := g.2.1; unfold rowN at this; omega)) (fun c3 => ?_)))
    by_cases c4 : rowN xs > 6
    · rw [show decide (((rd_L2 xs 0).length : Int) > 6) = true from decide_eq_true c4]; exact jt1 (fun g => by have := g.2.1; omega)
    · rw [show decide (((rd_L2 xs 0).length : Int) > 6) = false from decide_eq_false c4]
      refine EvS.step (fun k => by rw [impl_ValidRanks.j1]) ?_
      refine EvS.neg (by simp) (EvS.mono (impl_ValidRanks_l0 xs hl xs 0 (At.zero _)) (fun r hr => ?_))
      rw [hr]
      exact decide_eq_decide.2 ⟨fun g => ⟨by omega, by unfold rowN at c4 ⊢; omega, g⟩, fun g => g.2.2⟩
theorem spec_validRanks_l0 (xs : List (List Int)) (hl : ShR xs) (ys : List (List Int)) : ∀ i : Int, At xs i ys → EvS (fun k => spec_validRanks.l0 k xs i) (· = decide ((1 ≤ xs.length ∧ xs.length ≤ 12) ∧ (1 ≤ rowN xs ∧ rowN xs ≤ 6) ∧ ∀ r ∈ ys, (r.length : Int) = rowN xs ∧ Diff r (rowN xs))) := by
  have hxl := hl.1
  have hn := rowN_range hl
  induction ys with
  | nil =>
    intro i h
    refine EvS.step (fun k => by rw [spec_validRanks.l0]) ?_
    refine EvS.neg (by have := h.ge; omega) (EvS.call (inRange_eq _ _ _) (EvS.ite (fun c => ?_) (fun c => EvS.now ?_)))
    · have c := of_decide_eq_true c
      refine EvS.pos (by omega) (EvS.call (inRange_eq _ _ _) (EvS.now ?_))
      exact decide_eq_decide.2 ⟨fun g => ⟨by omega, g, by simp⟩, fun g => g.2.1⟩
    · exact (decide_eq_false (fun g => ndec c (by have := g.1; omega))).symm
  | cons y ys ih =>
    intro i h
    have hy := hl.2 y h.mem
    have hlt := h.lt
    have h0 := h.nonneg
    refine EvS.step (fun k => by rw [spec_validRanks.l0]) ?_
    refine EvS.pos h.lt (EvS.pos h.nonneg (EvS.pos (by omega) ?_))
    rw [at_rdR h]
    have no : ¬ ((y.length : Int) = rowN xs ∧ Diff y (rowN xs)) → false = decide ((1 ≤ xs.length ∧ xs.length ≤ 12) ∧ (1 ≤ rowN xs ∧ rowN xs ≤ 6) ∧ ∀ r ∈ y :: ys, (r.length : Int) = rowN xs ∧ Diff r (rowN xs)) := fun g => (decide_eq_false (fun q => g (q.2.2 y List.mem_cons_self))).symm
    refine EvS.ite (fun c1 => EvS.bindv (validMembers_ok y (by omega) (rowN xs) (by omega) (by omega)) (EvS.ite (fun c2 => ?_) (fun c2 => EvS.now (no (fun g => ndec c2 g.2))))) (fun c1 => EvS.now (no (fun g => c1 g.1)))
    refine EvS.mono (ih _ (h.wnext (by omega))) (fun r hr => ?_)
    rw [hr]
    exact decide_eq_decide.2 (and_congr_right fun _ => and_congr_right fun _ => (all_cons (P := fun r : List Int => (r.length : Int) = rowN xs ∧ Diff r (rowN xs)) ⟨c1, of_decide_eq_true c2⟩).symm)
theorem spec_validRanks_ok (xs : List (List Int)) (hl : ShR xs) : EvS (fun k => spec_validRanks.f k xs) (· = decide (VR xs)) := by
  simp only [spec_validRanks.f]
  exact spec_validRanks_l0 xs hl xs 0 (At.zero _)
def Rows (m : Int) (l : List (List Int)) : Prop := ∀ r ∈ l, (r.length : Int) = m
theorem Rows.snoc {m : Int} {l : List (List Int)} (h : Rows m l) {r : List Int} (hr : (r.length : Int) = m) : Rows m (l ++ [r]) := by
  intro x hx
  rcases List.mem_append.1 hx with hx | hx
  · exact h x hx
  · simp only [List.mem_singleton] at hx; subst hx; exact hr
theorem copyInts_eq (l : List Int) (h : l.length ≤ 1000000) : spec_copyInts.f l = some l := by
  simp only [spec_copyInts.f, Option.bind_some, List.length_nil, List.nil_append]
  rw [if_pos (by omega)]
theorem someRanks_l0 (b : List Int) (hb : BytesOk b) (m : Int) (hm : 1 ≤ m ∧ m ≤ 6) (d : Nat) : ∀ (x4 : List (List Int)) (x5 p : Int), x5 = d → 0 ≤ p → p + 6 * d ≤ 10000 → x4.length + d ≤ 1000 → Rows m x4 →
    EvS (fun k => spec_someRanks.l0 k m x4 x5 b p) (fun r => r.1.length = x4.length + d ∧ Rows m r.1 ∧ p ≤ r.2 ∧ r.2 ≤ p + 6 * d) := by
  induction d with
  | zero =>
    intro x4 x5 p h1 h2 h3 h4 h5
    refine EvS.step (fun k => by rw [spec_someRanks.l0]) ?_
    exact EvS.neg (by omega) (EvS.now ⟨by simp, h5, by simp, by simp⟩)
  | succ d ih =>
    intro x4 x5 p h1 h2 h3 h4 h5
    have inner : ∀ (e : Nat) (j q : Int) (row : List Int), j + e = m → 0 ≤ j → (row.length : Int) = j → p ≤ q → q ≤ p + j →
        EvS (fun k => spec_someRanks.l1 k m x4 x5 row j b q) (fun r => r.1.length = x4.length + (d + 1) ∧ Rows m r.1 ∧ p ≤ r.2 ∧ r.2 ≤ p + 6 * (d + 1 : Nat)) := by
      intro e
      induction e with
      | zero =>
        intro j q row g1 g2 g3 g4 g5
        refine EvS.step (fun k => by rw [spec_someRanks.l1]) ?_
        refine EvS.neg (by omega) (EvS.pos (by omega) ?_)
        rw [w64 (x := x5 - 1) (by omega) (by omega)]
        refine EvS.mono (ih _ _ _ (by omega) (by omega) (by omega) (by simp; omega) (h5.snoc (by omega))) (fun r hr => ?_)
        obtain ⟨a1, a2, a3, a4⟩ := hr
        simp only [List.length_append, List.length_cons, List.length_nil] at a1
        exact ⟨by omega, a2, by omega, by omega⟩
      | succ e ihe =>
        intro j q row g1 g2 g3 g4 g5
        refine EvS.step (fun k => by rw [spec_someRanks.l1]) ?_
        refine EvS.pos (by omega) ?_
        rw [w64 (x := (row.length : Int) + 1) (by omega) (by omega), w64 (x := j + 1) (by omega) (by omega)]
        refine EvS.bind (pick_ok b q _ hb (by omega) (by omega)) ?_
        rintro ⟨v, q2⟩ ⟨e1, e2, -, e4⟩
        dsimp only at e1 e2 e4 ⊢
        subst e4
        have e2 := e2 (by omega)
        refine EvS.pos e1 (EvS.pos (by omega) (EvS.call (copyInts_eq _ (by rw [List.length_drop]; omega)) (EvS.onsome (EvS.pos (by rw [List.length_take]; omega) (EvS.onsome (EvS.pos (by simp; omega) ?_))))))
        exact ihe _ _ _ (by omega) (by omega) (by simp; omega) (by omega) (by omega)
    refine EvS.step (fun k => by rw [spec_someRanks.l0]) ?_
    exact EvS.pos (by omega) (inner m.toNat 0 p [] (by omega) (by omega) (by simp) (by omega) (by omega))
theorem anyRanks_ok (b : List Int) (hb : BytesOk b) (p : Int) (h0 : 0 ≤ p) (h1 : p ≤ 900) : EvS (fun k => spec_anyRanks.f k b p) (fun r => ShR r.1) := by
  simp only [spec_anyRanks.f, spec_someRanks.f]
  have hsome : EvS (fun k => (spec_reader_one.f k b p [3, 4, 2, 5, 1, 6]).bind fun bt => (spec_reader_one.f k b bt.2 [3, 5, 4, 1, 7, 2]).bind fun bt2 => spec_someRanks.l0 k bt.1 [] bt2.1 b bt2.2) (fun r => (1 ≤ r.1.length ∧ r.1.length ≤ 7) ∧ (∃ m, (1 ≤ m ∧ m ≤ 6) ∧ Rows m r.1) ∧ p ≤ r.2 ∧ r.2 ≤ p + 50) := by
    refine EvS.bind (one_ok _ _ _ hb (by omega) (by omega) (by simp)) ?_
    rintro ⟨v1, _⟩ ⟨v1_m, rfl⟩
    dsimp only at v1_m ⊢
    refine EvS.bind (one_ok _ _ _ hb (by omega) (by omega) (by simp)) ?_
    rintro ⟨v2, _⟩ ⟨v2_m, rfl⟩
    dsimp only at v2_m ⊢
    have a1 : 1 ≤ v1 ∧ v1 ≤ 6 := by simp at v1_m; omega
    have a2 : 1 ≤ v2 ∧ v2 ≤ 7 := by simp at v2_m; omega
    refine EvS.mono (someRanks_l0 b hb v1 a1 v2.toNat [] v2 _ (by omega) (by omega) (by omega) (by simp; omega) (fun r hr => by simp at hr)) (fun r hr => ?_)
    obtain ⟨g1, g2, g3, g4⟩ := hr
    simp at g1
    exact ⟨by omega, ⟨v1, a1, g2⟩, by omega, by omega⟩
  refine EvS.bind hsome ?_
  rintro ⟨l, q⟩ ⟨g1, ⟨m, gm, g2⟩, g3, g4⟩
  dsimp only at g1 g2 g3 g4 ⊢
  have sh : ShR l := ⟨by omega, fun r hr => by have := g2 r hr; omega⟩
  refine EvS.bind (pick_ok _ _ _ hb (by omega) (by omega)) ?_
  rintro ⟨v1, _⟩ ⟨v1_0, v1_1, v1_2, rfl⟩
  dsimp only at v1_0 v1_1 v1_2 ⊢
  refine EvS.ite (fun _ => ?_) (fun _ => EvS.ite (fun _ => ?_) (fun _ => EvS.now sh))
  · obtain ⟨x, l', rfl⟩ : ∃ x l', l = x :: l' := by
      cases l with
      | nil => simp at g1
      | cons x l' => exact ⟨x, l', rfl⟩
    have hx := g2 x List.mem_cons_self
    have hr : rd_L2 (x :: l') 0 = x := rfl
    simp only [hr]
    rw [w64 (x := (x.length : Int) - 1) (by omega) (by omega)]
    refine EvS.pos (by omega) (EvS.pos (by omega) (EvS.pos (by omega) ?_))
    refine EvS.bind (one_ok _ _ _ hb (by omega) (by omega) (by simp)) ?_
    rintro ⟨v3, _⟩ ⟨v3_m, rfl⟩
    dsimp only at v3_m ⊢
    refine EvS.pos (by omega) (EvS.now ⟨by simpa using sh.1, fun r hr => ?_⟩)
    rcases List.mem_or_eq_of_mem_set hr with hr | rfl
    · exact sh.2 r hr
    · simp; omega
  · refine EvS.pos (by omega) (EvS.now ⟨by simp; omega, fun r hr => ?_⟩)
    rcases List.mem_append.1 hr with hr | hr
    · exact sh.2 r hr
    · simp only [List.mem_singleton] at hr; subst hr; simp
/-! ## The runoff. -/
def leftL : List Bool → Int → List Int
  | [], _ => []
  | b :: bs, i => if b = true then leftL bs (i + 1) else i :: leftL bs (i + 1)
theorem rdOf_cons (b : Bool) (bs : List Bool) (i : Int) (h : 0 ≤ i) : rdOf false (b :: bs) i = if i = 0 then b else rdOf false bs (i - 1) := by
  unfold rdOf
  by_cases c : i = 0
  · rw [if_pos c, c]; rfl
  · rw [if_neg c, show i.toNat = (i - 1).toNat + 1 by omega, List.getD_cons_succ]
theorem leftL_mem (g : List Bool) : ∀ i c : Int, c ∈ leftL g i ↔ i ≤ c ∧ c < i + g.length ∧ rdOf false g (c - i) = false := by
  induction g with
  | nil => intro i c; simp [leftL]; omega
  | cons b bs ih =>
    intro i c
    have hi := ih (i + 1) c
    simp only [leftL, List.length_cons]
    by_cases e : c = i
    · subst e
      rw [Int.sub_self, rdOf_cons b bs 0 (by omega), if_pos rfl]
      cases b with
      | true => rw [if_pos rfl, hi]; exact ⟨fun ⟨q, _⟩ => by omega, fun ⟨_, _, q⟩ => by simp at q⟩
      | false => rw [if_neg (by simp)]; simp; omega
    · have e2 : (c ∈ if b = true then leftL bs (i + 1) else i :: leftL bs (i + 1)) ↔ c ∈ leftL bs (i + 1) := by
        cases b with
        | true => rw [if_pos rfl]
        | false => rw [if_neg (by simp), List.mem_cons]; exact ⟨fun g => g.resolve_left e, .inr⟩
      rw [e2, hi]
      by_cases h0 : i ≤ c
      · rw [rdOf_cons b bs (c - i) (by omega), if_neg (by omega), show c - i - 1 = c - (i + 1) by omega]
        exact ⟨fun ⟨g1, g2, g3⟩ => ⟨by omega, by omega, g3⟩, fun ⟨g1, g2, g3⟩ => ⟨by omega, by omega, g3⟩⟩
      · exact ⟨fun ⟨g1, _⟩ => by omega, fun ⟨g1, _⟩ => by omega⟩
theorem leftL_ge (g : List Bool) (i c : Int) (h : c ∈ leftL g i) : i ≤ c ∧ c < i + g.length := by
  have := (leftL_mem g i c).1 h
  exact ⟨this.1, this.2.1⟩
theorem leftL_nodup (g : List Bool) : ∀ i : Int, (leftL g i).Nodup := by
  induction g with
  | nil => intro i; simp [leftL]
  | cons b bs ih =>
    intro i
    simp only [leftL]
    cases b with
    | true => rw [if_pos rfl]; exact ih _
    | false =>
      rw [if_neg (by simp)]
      refine List.nodup_cons.2 ⟨fun hm => ?_, ih _⟩
      have := (leftL_ge _ _ _ hm).1
      omega
theorem leftL_set (g : List Bool) : ∀ i c : Int, c ∈ leftL g i → leftL (g.set (c - i).toNat true) i = (leftL g i).erase c := by
  induction g with
  | nil => intro i c h; simp [leftL] at h
  | cons b bs ih =>
    intro i c h
    have hr := leftL_ge _ _ _ h
    by_cases e : c = i
    · subst e
      rw [Int.sub_self]
      simp only [Int.toNat_zero, List.set_cons_zero, leftL]
      simp only [leftL] at h
      cases b with
      | true =>
        rw [if_pos rfl] at h
        have := (leftL_ge _ _ _ h).1
        omega
      | false => simp
    · have h2 : c ∈ leftL bs (i + 1) := by
        simp only [leftL] at h
        cases b with
        | true => rw [if_pos rfl] at h; exact h
        | false => rw [if_neg (by simp), List.mem_cons] at h; exact h.resolve_left e
      rw [show (c - i).toNat = (c - (i + 1)).toNat + 1 by omega, List.set_cons_succ]
      simp only [leftL]
      rw [ih _ _ h2]
      cases b with
      | true => simp
      | false =>
        rw [if_neg (by simp), if_neg (by simp), List.erase_cons_tail]
        simp
        omega
def firstOf (L : List Int) : List Int → Int
  | [] => -1
  | c :: cs => if c ∈ L then c else firstOf L cs
def cnt (L : List Int) : List (List Int) → Int → Int
  | [], _ => 0
  | r :: rs, c => (if firstOf L r = c then 1 else 0) + cnt L rs c
theorem cnt_range (L : List Int) (xs : List (List Int)) (c : Int) : 0 ≤ cnt L xs c ∧ cnt L xs c ≤ xs.length := by
  induction xs with
  | nil => simp [cnt]
  | cons r rs ih => simp only [cnt, List.length_cons]; split <;> omega
def worst (f : Int → Int) (w : Int) : List Int → Int
  | [] => w
  | c :: cs => worst f (if f c ≤ f w then c else w) cs
def wst (f : Int → Int) : List Int → Int
  | [] => -1
  | c :: cs => worst f c cs
theorem worst_mem (f : Int → Int) (cs : List Int) : ∀ w : Int, worst f w cs = w ∨ worst f w cs ∈ cs := by
  induction cs with
  | nil => intro w; exact .inl rfl
  | cons c cs ih =>
    intro w
    simp only [worst]
    split
    · rcases ih c with h | h
      · rw [h]; exact .inr List.mem_cons_self
      · exact .inr (List.mem_cons_of_mem _ h)
    · rcases ih w with h | h
      · exact .inl h
      · exact .inr (List.mem_cons_of_mem _ h)
theorem wst_mem (f : Int → Int) (L : List Int) (h : L ≠ []) : wst f L ∈ L := by
  cases L with
  | nil => exact absurd rfl h
  | cons c cs =>
    rcases worst_mem f cs c with g | g
    · show worst f c cs ∈ _
      rw [g]; exact List.mem_cons_self
    · exact List.mem_cons_of_mem _ g
theorem worst_congr {f g : Int → Int} (cs : List Int) : ∀ w : Int, f w = g w → (∀ c ∈ cs, f c = g c) → worst f w cs = worst g w cs := by
  induction cs with
  | nil => intro w _ _; rfl
  | cons c cs ih =>
    intro w hw h
    simp only [worst]
    rw [hw, h c List.mem_cons_self]
    split
    · exact ih c (h c List.mem_cons_self) (fun d hd => h d (List.mem_cons_of_mem _ hd))
    · exact ih w hw (fun d hd => h d (List.mem_cons_of_mem _ hd))
/-- The choice that is left after d strikes. -/
def runR (xs : List (List Int)) : Nat → List Bool → Int
  | 0, g => match leftL g 0 with
    | [] => -1
    | c :: _ => c
  | d + 1, g => runR xs d (g.set (wst (cnt (leftL g 0) xs) (leftL g 0)).toNat true)
theorem leftL_strike (g : List Bool) (w : Int) (h : w ∈ leftL g 0) : leftL (g.set w.toNat true) 0 = (leftL g 0).erase w := by
  have := leftL_set g 0 w h
  rwa [Int.sub_zero] at this
theorem row_has {xs : List (List Int)} (hv : VR xs) {r : List Int} (hr : r ∈ xs) {c : Int} (h0 : 0 ≤ c) (h1 : c < rowN xs) : c ∈ r := by
  by_cases hc : c ∈ r
  · exact hc
  · have h2 := hv.2.2 r hr
    have h3 : Diff (c :: r) (rowN xs) := ⟨List.nodup_cons.2 ⟨hc, h2.2.1⟩, fun x hx => by
      rcases List.mem_cons.1 hx with rfl | hx
      · exact ⟨h0, h1⟩
      · exact h2.2.2 x hx⟩
    rcases diff_len h3 with h4 | h4
    · rw [List.length_cons] at h4; omega
    · simp at h4
/-! ### the program's -/
theorem isLeft {g : List Bool} {c : Int} (h0 : 0 ≤ c) (h1 : c < g.length) : c ∈ leftL g 0 ↔ ¬ rdOf false g c = true := by
  rw [leftL_mem, Int.sub_zero]
  exact ⟨fun ⟨_, _, q⟩ => by simp [q], fun q => ⟨by omega, by omega, by simpa using q⟩⟩
theorem first_l1 {P : List Int → Prop} (xs : List (List Int)) (g : List Bool) (s : List Int) (i : Int) (r : List Int) (hl : r.length ≤ 2000000) (hr : ∀ c ∈ r, 0 ≤ c ∧ c < g.length) (hs : s.length = g.length) (hb : ∀ c : Int, 0 ≤ c → c < g.length → 0 ≤ rd s c ∧ rd s c ≤ 4000000) (m : Int)
    (zs : List Int) (K : ∀ s' : List Int, s'.length = g.length → (∀ c : Int, 0 ≤ c → c < g.length → rd s' c = rd s c + if firstOf (leftL g 0) zs = c then 1 else 0) → EvS (fun k => impl_firstLists.l0 k g s' xs m (wrap64 (i + 1))) P) :
    ∀ j : Int, At r j zs → EvS (fun k => impl_firstLists.l1 k g s xs m i r r.length j) P := by
  induction zs with
  | nil =>
    intro j h
    refine EvS.step (fun k => by rw [impl_firstLists.l1]) ?_
    refine EvS.neg (by have := h.ge; omega) (K s hs (fun c c0 c1 => ?_))
    rw [firstOf, if_neg (by omega)]; omega
  | cons z zs ih =>
    intro j h
    have hz := hr z h.mem
    refine EvS.step (fun k => by rw [impl_firstLists.l1]) ?_
    refine EvS.pos h.lt (EvS.pos h.nonneg (EvS.pos h.lt ?_))
    rw [At.rd h]
    refine EvS.pos hz.1 (EvS.pos hz.2 (EvS.ite (fun c => ?_) (fun c => EvS.pos (by omega) ?_)))
    · have hn : z ∉ leftL g 0 := fun hm => (isLeft hz.1 hz.2).1 hm c
      simp only [firstOf, if_neg hn] at K
      exact ih K _ (h.wnext (by omega))
    · have hm : z ∈ leftL g 0 := (isLeft hz.1 hz.2).2 c
      simp only [firstOf, if_pos hm] at K
      have hb2 := hb z hz.1 hz.2
      rw [w64 (x := rd s z + 1) (by omega) (by omega)]
      refine K _ (by simpa using hs) (fun v v0 v1 => ?_)
      rw [rd_set _ _ _ _ hz.1 (by omega) v0]
      by_cases e : z = v
      · subst e; rw [if_pos rfl, if_pos rfl]
      · rw [if_neg e, if_neg e]; omega
theorem first_l0 (xs : List (List Int)) (hl : ShR xs) (g : List Bool) (hr : ∀ r ∈ xs, ∀ c ∈ r, 0 ≤ c ∧ c < g.length) (ys : List (List Int)) : ∀ (i : Int) (s : List Int), At xs i ys → s.length = g.length → (∀ c : Int, 0 ≤ c → c < g.length → 0 ≤ rd s c ∧ rd s c + ys.length ≤ 4000000) →
    EvS (fun k => impl_firstLists.l0 k g s xs xs.length i) (fun t => t.length = g.length ∧ ∀ c : Int, 0 ≤ c → c < g.length → rd t c = rd s c + cnt (leftL g 0) ys c) := by
  have hxl := hl.1
  induction ys with
  | nil =>
    intro i s h hs hb
    refine EvS.step (fun k => by rw [impl_firstLists.l0]) ?_
    exact EvS.neg (by have := h.ge; omega) (EvS.now ⟨hs, fun c _ _ => by simp [cnt]⟩)
  | cons y ys ih =>
    intro i s h hs hb
    have hy := hl.2 y h.mem
    refine EvS.step (fun k => by rw [impl_firstLists.l0]) ?_
    refine EvS.pos h.lt (EvS.pos h.nonneg (EvS.pos h.lt ?_))
    rw [at_rdR h]
    refine first_l1 xs g s i y hy (hr y h.mem) hs (fun c c0 c1 => by have := hb c c0 c1; rw [List.length_cons] at this; omega) _ y (fun s' hs' hv => ?_) 0 (At.zero _)
    refine EvS.mono (ih _ s' (h.wnext (by omega)) hs' (fun c c0 c1 => ?_)) (fun t ht => ⟨ht.1, fun c c0 c1 => ?_⟩)
    · have h1 := hb c c0 c1
      have h2 := hv c c0 c1
      rw [List.length_cons] at h1
      split at h2 <;> omega
    · rw [ht.2 c c0 c1, hv c c0 c1, cnt]; omega
theorem rdOf_falses (n : Nat) (j : Int) : rdOf false (List.replicate n false) j = false := by
  unfold rdOf
  rw [List.getD_eq_getElem?_getD, List.getElem?_replicate]
  split <;> rfl
theorem firstLists_ok (xs : List (List Int)) (hl : ShR xs) (g : List Bool) (hg : g.length ≤ 2000000) (hr : ∀ r ∈ xs, ∀ c ∈ r, 0 ≤ c ∧ c < g.length) :
    EvS (fun k => impl_firstLists.f k xs g) (fun t => t.length = g.length ∧ ∀ c : Int, 0 ≤ c → c < g.length → rd t c = cnt (leftL g 0) xs c) := by
  have hxl := hl.1
  simp only [impl_firstLists.f]
  refine EvS.pos (by omega) (EvS.pos (by omega) (EvS.mono (first_l0 xs hl g hr xs 0 _ (At.zero _) (by simp) (fun c c0 c1 => by rw [rd_zeros]; omega)) (fun t ht => ⟨ht.1, fun c c0 c1 => ?_⟩)))
  rw [ht.2 c c0 c1, rd_zeros]; omega
theorem indexB_l0 (g : List Bool) (hl : g.length ≤ 2000000) (bs : List Bool) : ∀ i : Int, At g i bs → EvS (fun k => slices_Index_bool_bool.l0 k g false g.length i) (· = match leftL bs i with
    | [] => -1
    | c :: _ => c) := by
  induction bs with
  | nil =>
    intro i h
    refine EvS.step (fun k => by rw [slices_Index_bool_bool.l0]) ?_
    exact EvS.neg (by have := h.ge; omega) (EvS.now rfl)
  | cons b bs ih =>
    intro i h
    refine EvS.step (fun k => by rw [slices_Index_bool_bool.l0]) ?_
    refine EvS.pos h.lt (EvS.pos h.nonneg (EvS.pos h.lt ?_))
    rw [show rdOf false g i = b from h.getD false]
    have hi := h.nonneg
    have hlt := h.lt
    cases b with
    | true =>
      refine EvS.neg (by simp) ?_
      have := ih _ (h.wnext (by omega))
      rw [w64 (x := i + 1) (by omega) (by omega)] at this ⊢
      simpa [leftL] using this
    | false => exact EvS.pos rfl (EvS.now (by simp [leftL]))
theorem run_l1 {P : Int → Prop} (xs : List (List Int)) (g : List Bool) (hg : g.length ≤ 2000000) (s : List Int) (hs : s.length = g.length) (R j W : Int) (K : EvS (fun k => impl_Runoff.l0 k xs (g.set W.toNat true) R (wrap64 (j + 1))) P) (bs : List Bool) :
    ∀ i w : Int, At g i bs → 0 ≤ w → w < g.length → worst (rd s) w (leftL bs i) = W → EvS (fun k => impl_Runoff.l1 k xs g s w R j s s.length i) P := by
  induction bs with
  | nil =>
    intro i w h w0 w1 e
    refine EvS.step (fun k => by rw [impl_Runoff.l1]) ?_
    subst e
    exact EvS.neg (by have := h.ge; omega) (EvS.pos w0 (EvS.pos w1 K))
  | cons b bs ih =>
    intro i w h w0 w1 e
    have hi := h.nonneg
    have hlt := h.lt
    refine EvS.step (fun k => by rw [impl_Runoff.l1]) ?_
    refine EvS.pos (by omega) (EvS.pos h.nonneg (EvS.pos (by omega) (EvS.pos h.lt ?_)))
    rw [show rdOf false g i = b from h.getD false]
    have hn := h.wnext (by omega)
    rw [w64 (x := i + 1) (by omega) (by omega)] at hn ⊢
    cases b with
    | true => exact EvS.pos rfl (ih _ w hn w0 w1 (by simpa [leftL] using e))
    | false =>
      simp only [leftL, Bool.false_eq_true, if_false, worst] at e
      refine EvS.neg (by simp) (EvS.neg (by omega) (EvS.pos w0 (EvS.pos (by omega) ?_)))
      by_cases c : rd s i ≤ rd s w
      · rw [if_pos c] at e
        exact EvS.pos c (ih _ i hn hi hlt e)
      · rw [if_neg c] at e
        exact EvS.neg c (ih _ w hn w0 w1 e)
theorem run_l1' {P : Int → Prop} (xs : List (List Int)) (g : List Bool) (hg : g.length ≤ 2000000) (s : List Int) (hs : s.length = g.length) (R j W : Int) (K : EvS (fun k => impl_Runoff.l0 k xs (g.set W.toNat true) R (wrap64 (j + 1))) P) (bs : List Bool) :
    ∀ i : Int, At g i bs → leftL bs i ≠ [] → wst (rd s) (leftL bs i) = W → EvS (fun k => impl_Runoff.l1 k xs g s (-1) R j s s.length i) P := by
  induction bs with
  | nil => intro i h hne e; exact absurd rfl hne
  | cons b bs ih =>
    intro i h hne e
    have hi := h.nonneg
    have hlt := h.lt
    refine EvS.step (fun k => by rw [impl_Runoff.l1]) ?_
    refine EvS.pos (by omega) (EvS.pos h.nonneg (EvS.pos (by omega) (EvS.pos h.lt ?_)))
    rw [show rdOf false g i = b from h.getD false]
    have hn := h.wnext (by omega)
    rw [w64 (x := i + 1) (by omega) (by omega)] at hn ⊢
    cases b with
    | true =>
      simp only [leftL, if_true] at e hne
      exact EvS.pos rfl (ih _ hn hne e)
    | false =>
      simp only [leftL, Bool.false_eq_true, if_false, wst] at e
      exact EvS.neg (by simp) (EvS.pos (by omega) (run_l1 xs g hg s hs R j W K bs _ i hn hi hlt e))
theorem wst_congr {f g : Int → Int} (L : List Int) (h : ∀ c ∈ L, f c = g c) : wst f L = wst g L := by
  cases L with
  | nil => rfl
  | cons c cs => exact worst_congr cs c (h c List.mem_cons_self) (fun d hd => h d (List.mem_cons_of_mem _ hd))
theorem run_l0 (xs : List (List Int)) (hl : ShR xs) (n : Nat) (hn : n ≤ 1000) (hr : ∀ r ∈ xs, ∀ c ∈ r, 0 ≤ c ∧ c < (n : Int)) (R : Int) (hR : R ≤ 1000) (d : Nat) : ∀ (g : List Bool) (j : Int), g.length = n → j + d = R → 0 ≤ j → (leftL g 0).length = d + 1 →
    EvS (fun k => impl_Runoff.l0 k xs g R j) (· = runR xs d g) := by
  induction d with
  | zero =>
    intro g j hg hj j0 hL
    refine EvS.step (fun k => by rw [impl_Runoff.l0]) ?_
    refine EvS.neg (by omega) (EvS.bindv (f := fun _ t => some t) (a := runR xs 0 g) ?_ (EvS.now rfl))
    simp only [slices_Index_bool_bool.f]
    exact indexB_l0 g (by omega) g 0 (At.zero g)
  | succ d ih =>
    intro g j hg hj j0 hL
    have hne : leftL g 0 ≠ [] := by intro e; rw [e] at hL; simp at hL
    refine EvS.step (fun k => by rw [impl_Runoff.l0]) ?_
    refine EvS.pos (by omega) (EvS.bind (firstLists_ok xs hl g (by omega) (by rw [hg]; exact hr)) (fun s hs => ?_))
    have hW : wst (rd s) (leftL g 0) = wst (cnt (leftL g 0) xs) (leftL g 0) := wst_congr _ (fun c hc => by
      have := leftL_ge _ _ _ hc
      exact hs.2 c (by omega) (by omega))
    refine run_l1' xs g (by omega) s hs.1 R j _ ?_ g 0 (At.zero g) hne hW
    rw [w64 (x := j + 1) (by omega) (by omega)]
    have hm := wst_mem (cnt (leftL g 0) xs) _ hne
    refine ih _ (j + 1) (by simpa using hg) (by omega) (by omega) ?_
    rw [leftL_strike g _ hm, List.length_erase_of_mem hm]
    omega
theorem leftL_all (n : Nat) : ∀ i : Int, (leftL (List.replicate n false) i).length = n := by
  induction n with
  | zero => intro i; rfl
  | succ n ih => intro i; simp [List.replicate_succ, leftL, ih]
theorem impl_Runoff_ok (xs : List (List Int)) (hl : ShR xs) : EvS (fun k => impl_Runoff.f k xs) (fun r => r = if VR xs then runR xs ((rowN xs).toNat - 1) (List.replicate (rowN xs).toNat false) else -1) := by
  simp only [impl_Runoff.f]
  refine EvS.bindv (impl_ValidRanks_ok xs hl) (EvS.ite (fun c => ?_) (fun c => EvS.now (by rw [if_neg (ndec c)])))
  have hv := of_decide_eq_true c
  have h1 := hv.1
  have h2 := hv.2.1
  rw [if_pos hv]
  unfold rowN at h2
  refine EvS.pos (by omega) (EvS.pos (by omega) (EvS.pos (by omega) (EvS.onsome ?_)))
  rw [List.length_replicate, w64 (by omega) (by omega)]
  have hrn : rowN xs = ((rd_L2 xs 0).length : Int) := rfl
  rw [← hrn] at h2 ⊢
  exact run_l0 xs hl (rowN xs).toNat (by omega) (fun r hr c hc => by have := (hv.2.2 r hr).2.2 c hc; omega) _ (by omega) _ _ 0 (by simp) (by omega) (by omega) (by rw [leftL_all]; omega)
/-! ### the reference's -/
theorem spec_l3 {P : Int → Prop} (xs : List (List Int)) (L : List Int) (n : Nat) (hL : L.length ≤ 2000000) (s : List Int) (i : Int) (r : List Int) (i0 : 0 ≤ i) (i1 : i < xs.length) (hri : rd_L2 xs i = r) (hl : r.length ≤ 2000000) (hr : ∀ c ∈ r, 0 ≤ c ∧ c < (n : Int)) (hs : s.length = n) (hb : ∀ c : Int, 0 ≤ c → c < (n : Int) → 0 ≤ rd s c ∧ rd s c ≤ 4000000)
    (zs : List Int) (hz : ∃ c ∈ zs, c ∈ L) (K : ∀ s' : List Int, s'.length = n → (∀ c : Int, 0 ≤ c → c < (n : Int) → rd s' c = rd s c + if firstOf L zs = c then 1 else 0) → EvS (fun k => spec_runoff.l2 k xs L s' (wrap64 (i + 1))) P) :
    ∀ j : Int, At r j zs → EvS (fun k => spec_runoff.l3 k xs L s i j) P := by
  induction zs with
  | nil => obtain ⟨c, hc, _⟩ := hz; simp at hc
  | cons z zs ih =>
    intro j h
    have hz1 := hr z h.mem
    refine EvS.step (fun k => by rw [spec_runoff.l3]) ?_
    rw [hri]
    refine EvS.pos i0 (EvS.pos i1 (EvS.pos h.nonneg (EvS.pos h.lt ?_)))
    rw [At.rd h]
    have hp := posF_nonneg z L 0 (by omega)
    refine EvS.bindv (placeIn_ok L (by omega) z) (EvS.ite (fun c => ?_) (fun c => EvS.pos hz1.1 (EvS.pos (by omega) ?_)))
    · have hn : z ∉ L := fun hm => by have := hp.2 hm; omega
      simp only [firstOf, if_neg hn] at K
      refine ih ?_ K _ (h.wnext (by omega))
      obtain ⟨c, hc, hcL⟩ := hz
      rcases List.mem_cons.1 hc with rfl | hc
      · exact absurd hcL hn
      · exact ⟨c, hc, hcL⟩
    · have hm : z ∈ L := hp.1 (by omega)
      simp only [firstOf, if_pos hm] at K
      have hb2 := hb z hz1.1 hz1.2
      rw [w64 (x := rd s z + 1) (by omega) (by omega)]
      refine K _ (by simpa using hs) (fun v v0 v1 => ?_)
      rw [rd_set _ _ _ _ hz1.1 (by omega) v0]
      by_cases e : z = v
      · subst e; rw [if_pos rfl, if_pos rfl]
      · rw [if_neg e, if_neg e]; omega
theorem spec_l2 {P : Int → Prop} (xs : List (List Int)) (hl : ShR xs) (L : List Int) (n : Nat) (hL : L.length ≤ 2000000) (hr : ∀ r ∈ xs, ∀ c ∈ r, 0 ≤ c ∧ c < (n : Int)) (hh : ∀ r ∈ xs, ∃ c ∈ r, c ∈ L) (ys : List (List Int)) :
    ∀ (i : Int) (s : List Int), At xs i ys → s.length = n → (∀ c : Int, 0 ≤ c → c < (n : Int) → 0 ≤ rd s c ∧ rd s c + ys.length ≤ 4000000) →
    (∀ t : List Int, t.length = n → (∀ c : Int, 0 ≤ c → c < (n : Int) → rd t c = rd s c + cnt L ys c) → EvS (fun k => spec_runoff.l4 k xs L t 0 0) P) → EvS (fun k => spec_runoff.l2 k xs L s i) P := by
  have hxl := hl.1
  induction ys with
  | nil =>
    intro i s h hs hb K
    refine EvS.step (fun k => by rw [spec_runoff.l2]) ?_
    exact EvS.neg (by have := h.ge; omega) (K s hs (fun c _ _ => by simp [cnt]))
  | cons y ys ih =>
    intro i s h hs hb K
    have hy := hl.2 y h.mem
    refine EvS.step (fun k => by rw [spec_runoff.l2]) ?_
    refine EvS.pos h.lt ?_
    refine spec_l3 xs L n hL s i y h.nonneg h.lt (at_rdR h) hy (hr y h.mem) hs (fun c c0 c1 => by have := hb c c0 c1; rw [List.length_cons] at this; omega) y (hh y h.mem) (fun s' hs' hv => ?_) 0 (At.zero _)
    refine ih _ s' (h.wnext (by omega)) hs' (fun c c0 c1 => ?_) (fun t ht hc => K t ht (fun c c0 c1 => ?_))
    · have h1 := hb c c0 c1
      have h2 := hv c c0 c1
      rw [List.length_cons] at h1
      split at h2 <;> omega
    · rw [hc c c0 c1, hv c c0 c1, cnt]; omega
theorem copyInts_ok (l : List Int) (h : l.length ≤ 2000000) : spec_copyInts.f l = some l := by
  unfold spec_copyInts.f
  simp only [Option.bind_some, List.length_nil, List.nil_append]
  rw [if_pos (by omega)]
theorem erase_at : ∀ (L : List Int) (k : Nat) (h : k < L.length), L.Nodup → L.erase L[k] = L.eraseIdx k
  | [], k, h, _ => by simp at h
  | c :: cs, 0, h, _ => by simp
  | c :: cs, k + 1, h, hd => by
    have h1 := List.nodup_cons.1 hd
    have h2 : k < cs.length := by simpa using h
    rw [List.getElem_cons_succ, List.erase_cons_tail (by
      have : cs[k] ∈ cs := List.getElem_mem h2
      simp
      intro e
      exact h1.1 (e ▸ this)), List.eraseIdx_cons_succ, erase_at cs k h2 h1.2]
theorem spec_l4 {P : Int → Prop} (xs : List (List Int)) (L : List Int) (n : Nat) (hL : L.length ≤ 2000000) (hr : ∀ c ∈ L, 0 ≤ c ∧ c < (n : Int)) (hd : L.Nodup) (s : List Int) (hs : s.length = n) (W : Int) (K : EvS (fun k => spec_runoff.l1 k xs (L.erase W)) P) (ys : List Int) :
    ∀ (i wi : Int), At L i ys → 0 ≤ wi → wi < L.length → worst (rd s) (rd L wi) ys = W → EvS (fun k => spec_runoff.l4 k xs L s wi i) P := by
  induction ys with
  | nil =>
    intro i wi h w0 w1 e
    simp only [worst] at e
    refine EvS.step (fun k => by rw [spec_runoff.l4]) ?_
    rw [w64 (x := wi + 1) (by omega) (by omega)]
    refine EvS.neg (by have := h.ge; omega) (EvS.pos (by omega) (EvS.pos (by omega) ?_))
    refine EvS.call (copyInts_ok _ (by rw [List.length_drop]; omega)) (EvS.pos w0 (EvS.pos (by omega) (EvS.onsome (EvS.pos (by rw [List.length_take, List.length_drop]; omega) ?_))))
    have hlt : wi.toNat < L.length := by omega
    have hW : W = L[wi.toNat] := by
      rw [← e]; unfold rd
      rw [List.getD_eq_getElem?_getD, List.getElem?_eq_getElem hlt]; rfl
    have h2 : L.erase W = L.take wi.toNat ++ L.drop (wi + 1).toNat := by
      rw [hW, erase_at L _ hlt hd, List.eraseIdx_eq_take_drop_succ, show (wi + 1).toNat = wi.toNat + 1 by omega]
    rw [← h2]
    exact K
  | cons y ys ih =>
    intro i wi h w0 w1 e
    have hy := hr y h.mem
    have hw := hr _ (rd_mem wi w0 w1)
    refine EvS.step (fun k => by rw [spec_runoff.l4]) ?_
    refine EvS.pos h.lt (EvS.pos h.nonneg ?_)
    rw [At.rd h]
    refine EvS.pos hy.1 (EvS.pos (by omega) (EvS.pos w0 (EvS.pos w1 (EvS.pos hw.1 (EvS.pos (by omega) ?_)))))
    simp only [worst] at e
    by_cases c : rd s y ≤ rd s (rd L wi)
    · rw [if_pos c] at e
      exact EvS.pos c (ih _ i (h.wnext (by omega)) h.nonneg h.lt (by rw [At.rd h]; exact e))
    · rw [if_neg c] at e
      exact EvS.neg c (ih _ wi (h.wnext (by omega)) w0 w1 e)
theorem spec_l1 (xs : List (List Int)) (hl : ShR xs) (hv : VR xs) (d : Nat) : ∀ g : List Bool, (g.length : Int) = rowN xs → (leftL g 0).length = d + 1 → EvS (fun k => spec_runoff.l1 k xs (leftL g 0)) (· = runR xs d g) := by
  have h1 := hv.1
  have h2 := hv.2.1
  induction d with
  | zero =>
    intro g hg hL
    refine EvS.step (fun k => by rw [spec_runoff.l1]) ?_
    refine EvS.neg (by omega) (EvS.pos (by omega) (EvS.now ?_))
    simp only [runR]
    cases he : leftL g 0 with
    | nil => rw [he] at hL; simp at hL
    | cons c cs => rfl
  | succ d ih =>
    intro g hg hL
    have hne : leftL g 0 ≠ [] := by intro e; rw [e] at hL; simp at hL
    have hll : ((leftL g 0).length : Int) ≤ 2000000 := by
      have h4 : Diff (leftL g 0) (rowN xs) := ⟨leftL_nodup _ _, fun c hc => by have := leftL_ge _ _ _ hc; omega⟩
      rcases diff_len h4 with h5 | h5
      · omega
      · exact absurd h5 hne
    refine EvS.step (fun k => by rw [spec_runoff.l1]) ?_
    have h2' := h2
    unfold rowN at h2'
    refine EvS.pos (by omega) (EvS.pos (by omega) (EvS.pos (by omega) (EvS.pos (by omega) ?_)))
    refine spec_l2 xs hl (leftL g 0) (rowN xs).toNat (by omega) (fun r hr c hc => by have := (hv.2.2 r hr).2.2 c hc; omega) (fun r hr => ?_) xs 0 _ (At.zero _) (by simp [rowN]) (fun c c0 c1 => by rw [rd_zeros]; omega) (fun t ht hc => ?_)
    · have hm := wst_mem (fun _ => 0) _ hne
      have := leftL_ge _ _ _ hm
      exact ⟨_, row_has hv hr (by omega) (by omega), hm⟩
    · have hm := wst_mem (cnt (leftL g 0) xs) _ hne
      have hcg : ∀ c ∈ leftL g 0, rd t c = cnt (leftL g 0) xs c := fun c hcm => by
        have := leftL_ge _ _ _ hcm
        rw [hc c (by omega) (by omega), rd_zeros]; omega
      refine spec_l4 xs (leftL g 0) (rowN xs).toNat (by omega) (fun c hcm => by have := leftL_ge _ _ _ hcm; omega) (leftL_nodup _ _) t ht (wst (cnt (leftL g 0) xs) (leftL g 0)) ?_ (leftL g 0) 0 0 (At.zero _) (by omega) (by omega) ?_
      · rw [← leftL_strike g _ hm]
        refine ih _ (by simpa using hg) ?_
        rw [leftL_strike g _ hm, List.length_erase_of_mem hm]
        omega
      · rw [← wst_congr _ hcg]
        cases he : leftL g 0 with
        | nil => exact absurd he hne
        | cons c cs =>
          show worst (rd t) c (c :: cs) = worst (rd t) c cs
          simp [worst]
theorem spec_l0 {P : Int → Prop} (xs : List (List Int)) (hv : VR xs) (K : EvS (fun k => spec_runoff.l1 k xs (leftL (List.replicate (rowN xs).toNat false) 0)) P) (d : Nat) : ∀ (i : Int) (L : List Int), i + d = rowN xs → 0 ≤ i → (L.length : Int) = i → L ++ leftL (List.replicate d false) i = leftL (List.replicate (rowN xs).toNat false) 0 →
    EvS (fun k => spec_runoff.l0 k xs L i) P := by
  have h1 := hv.1
  have h2 := hv.2.1
  induction d with
  | zero =>
    intro i L hi i0 hL e
    simp only [List.replicate_zero, leftL, List.append_nil] at e
    subst e
    refine EvS.step (fun k => by rw [spec_runoff.l0]) ?_
    exact EvS.pos (by omega) (EvS.neg (by unfold rowN at hi; omega) K)
  | succ d ih =>
    intro i L hi i0 hL e
    refine EvS.step (fun k => by rw [spec_runoff.l0]) ?_
    rw [w64 (x := i + 1) (by omega) (by omega)]
    refine EvS.pos (by omega) (EvS.pos (by unfold rowN at hi; omega) (EvS.pos (by omega) (ih _ _ (by omega) (by omega) (by simp; omega) ?_)))
    rw [← e, List.replicate_succ]
    simp [leftL]
theorem spec_Runoff_ok (xs : List (List Int)) (hl : ShR xs) : EvS (fun k => spec_Runoff.f k xs) (fun r => r = if VR xs then runR xs ((rowN xs).toNat - 1) (List.replicate (rowN xs).toNat false) else -1) := by
  simp only [spec_Runoff.f]
  refine EvS.bindv (spec_validRanks_ok xs hl) (EvS.ite (fun c => ?_) (fun c => EvS.now (by rw [if_neg (ndec c)])))
  have hv := of_decide_eq_true c
  have h2 := hv.2.1
  rw [if_pos hv]
  refine EvS.bindv (a := runR xs ((rowN xs).toNat - 1) (List.replicate (rowN xs).toNat false)) ?_ (EvS.now rfl)
  simp only [spec_runoff.f]
  exact spec_l0 xs hv (spec_l1 xs hl hv _ _ (by rw [List.length_replicate]; omega) (by rw [leftL_all]; omega)) (rowN xs).toNat 0 [] (by omega) (by omega) rfl rfl
theorem firstOf_mem (L : List Int) (r : List Int) (h : ∃ c ∈ r, c ∈ L) : firstOf L r ∈ L ∧ firstOf L r ∈ r := by
  induction r with
  | nil => obtain ⟨c, hc, _⟩ := h; simp at hc
  | cons a r ih =>
    simp only [firstOf]
    by_cases e : a ∈ L
    · rw [if_pos e]; exact ⟨e, List.mem_cons_self⟩
    · rw [if_neg e]
      obtain ⟨c, hc, hL⟩ := h
      rcases List.mem_cons.1 hc with rfl | hc
      · exact absurd hL e
      · have := ih ⟨c, hc, hL⟩
        exact ⟨this.1, List.mem_cons_of_mem _ this.2⟩
theorem firstOf_app (L r s : List Int) (h : ∃ c ∈ r, c ∈ L) : firstOf L (r ++ s) = firstOf L r := by
  induction r with
  | nil => obtain ⟨c, hc, _⟩ := h; simp at hc
  | cons a r ih =>
    simp only [firstOf, List.cons_append]
    by_cases e : a ∈ L
    · rw [if_pos e, if_pos e]
    · rw [if_neg e, if_neg e]
      obtain ⟨c, hc, hL⟩ := h
      rcases List.mem_cons.1 hc with rfl | hc
      · exact absurd hL e
      · exact ih ⟨c, hc, hL⟩
/-- How many rank c first. -/
def fst0 : List (List Int) → Int → Int
  | [], _ => 0
  | r :: rs, c => (if rd r 0 = c then 1 else 0) + fst0 rs c
theorem fst0_range (xs : List (List Int)) (c : Int) : 0 ≤ fst0 xs c ∧ fst0 xs c ≤ xs.length := by
  induction xs with
  | nil => simp [fst0]
  | cons r rs ih => simp only [fst0, List.length_cons]; split <;> omega
theorem fst0_cnt (L : List Int) (c : Int) (hc : c ∈ L) (xs : List (List Int)) (h : ∀ r ∈ xs, r ≠ []) : fst0 xs c ≤ cnt L xs c := by
  induction xs with
  | nil => exact Int.le_refl _
  | cons r rs ih =>
    have h1 := ih (fun q hq => h q (List.mem_cons_of_mem _ hq))
    simp only [fst0, cnt]
    cases r with
    | nil => exact absurd rfl (h _ List.mem_cons_self)
    | cons a r =>
      have e : rd (a :: r) 0 = a := rfl
      rw [e]
      by_cases q : a = c
      · have ef : firstOf L (a :: r) = a := by rw [firstOf, if_pos (by rw [q]; exact hc)]
        rw [if_pos q, ef, if_pos q]; omega
      · rw [if_neg q]; split <;> omega
theorem cnt_two (L : List Int) (a b : Int) (h : a ≠ b) (xs : List (List Int)) : cnt L xs a + cnt L xs b ≤ xs.length := by
  induction xs with
  | nil => simp [cnt]
  | cons r rs ih =>
    simp only [cnt, List.length_cons]
    by_cases e : firstOf L r = a
    · rw [if_pos e, if_neg (by omega)]; omega
    · rw [if_neg e]; split <;> omega
theorem cnt_zero (L : List Int) (z : Int) (xs : List (List Int)) (h : ∀ r ∈ xs, firstOf L r ≠ z) : cnt L xs z = 0 := by
  induction xs with
  | nil => rfl
  | cons r rs ih => simp only [cnt]; rw [if_neg (h r List.mem_cons_self), ih (fun q hq => h q (List.mem_cons_of_mem _ hq))]; rfl
theorem cnt_all (L : List Int) (z : Int) (xs : List (List Int)) (h : ∀ r ∈ xs, firstOf L r = z) : cnt L xs z = xs.length := by
  induction xs with
  | nil => rfl
  | cons r rs ih => simp only [cnt, List.length_cons]; rw [if_pos (h r List.mem_cons_self), ih (fun q hq => h q (List.mem_cons_of_mem _ hq))]; omega
theorem worst_le (f : Int → Int) (cs : List Int) : ∀ w : Int, f (worst f w cs) ≤ f w ∧ ∀ c ∈ cs, f (worst f w cs) ≤ f c := by
  induction cs with
  | nil => intro w; exact ⟨Int.le_refl _, fun c hc => by simp at hc⟩
  | cons c cs ih =>
    intro w
    simp only [worst]
    by_cases e : f c ≤ f w
    · rw [if_pos e]
      have := ih c
      exact ⟨by omega, fun d hd => by
        rcases List.mem_cons.1 hd with rfl | hd
        · exact this.1
        · exact this.2 d hd⟩
    · rw [if_neg e]
      have := ih w
      exact ⟨this.1, fun d hd => by
        rcases List.mem_cons.1 hd with rfl | hd
        · have := this.1; omega
        · exact this.2 d hd⟩
theorem wst_le (f : Int → Int) (L : List Int) (c : Int) (hc : c ∈ L) : f (wst f L) ≤ f c := by
  cases L with
  | nil => simp at hc
  | cons a L =>
    show f (worst f a L) ≤ f c
    rcases List.mem_cons.1 hc with rfl | hc
    · exact (worst_le f L _).1
    · exact (worst_le f L a).2 c hc
/-- Another one of at least two. -/
theorem other (L : List Int) (hd : L.Nodup) (c : Int) (h : 2 ≤ L.length) : ∃ e ∈ L, e ≠ c := by
  match L, h with
  | a :: b :: t, _ =>
    have := (List.nodup_cons.1 hd).1
    by_cases q : a = c
    · exact ⟨b, by simp, fun e => this (by rw [q, ← e]; simp)⟩
    · exact ⟨a, by simp, q⟩
theorem strike_facts (xs : List (List Int)) (g : List Bool) (d : Nat) (h : (leftL g 0).length = d + 1 + 1) : wst (cnt (leftL g 0) xs) (leftL g 0) ∈ leftL g 0 ∧ leftL (g.set (wst (cnt (leftL g 0) xs) (leftL g 0)).toNat true) 0 = (leftL g 0).erase (wst (cnt (leftL g 0) xs) (leftL g 0)) ∧ ((leftL g 0).erase (wst (cnt (leftL g 0) xs) (leftL g 0))).length = d + 1 := by
  have hm := wst_mem (cnt (leftL g 0) xs) (leftL g 0) (fun e => by rw [e] at h; simp at h)
  refine ⟨hm, leftL_strike g _ hm, ?_⟩
  rw [List.length_erase_of_mem hm, h]; rfl
theorem run_mem (xs : List (List Int)) (d : Nat) : ∀ g : List Bool, (leftL g 0).length = d + 1 → runR xs d g ∈ leftL g 0 := by
  induction d with
  | zero =>
    intro g h
    simp only [runR]
    match e : leftL g 0, h with
    | c :: t, _ => simp
  | succ d ih =>
    intro g h
    have hs := strike_facts xs g d h
    simp only [runR]
    have := ih (g.set (wst (cnt (leftL g 0) xs) (leftL g 0)).toNat true) (by rw [hs.2.1]; exact hs.2.2)
    rw [hs.2.1] at this
    exact List.mem_of_mem_erase this
theorem run_keep (xs : List (List Int)) (hr : ∀ r ∈ xs, r ≠ []) (c : Int) (hc2 : 2 * fst0 xs c > xs.length) (d : Nat) : ∀ g : List Bool, (leftL g 0).length = d + 1 → c ∈ leftL g 0 → runR xs d g = c := by
  induction d with
  | zero =>
    intro g h hc
    simp only [runR]
    match e : leftL g 0, h with
    | [a], _ => rw [e] at hc; simp at hc; exact hc.symm
  | succ d ih =>
    intro g h hc
    have hs := strike_facts xs g d h
    simp only [runR]
    have hn : c ≠ wst (cnt (leftL g 0) xs) (leftL g 0) := by
      intro q
      obtain ⟨e, he, hne⟩ := other (leftL g 0) (leftL_nodup g 0) c (by omega)
      have h1 := wst_le (cnt (leftL g 0) xs) (leftL g 0) e he
      rw [← q] at h1
      have h2 := fst0_cnt (leftL g 0) c hc xs hr
      have h3 := cnt_two (leftL g 0) c e (fun z => hne z.symm) xs
      omega
    refine ih _ (by rw [hs.2.1]; exact hs.2.2) ?_
    rw [hs.2.1]
    exact (List.mem_erase_of_ne hn).2 hc
theorem run_last (xs : List (List Int)) (hx : 1 ≤ xs.length) (z : Int) (n : Nat) (hr : ∀ r ∈ xs, (∀ c : Int, 0 ≤ c → c < n → c ∈ r) ∧ r.Nodup ∧ ∃ t, r = t ++ [z]) (d : Nat) : ∀ g : List Bool, g.length = n → (leftL g 0).length = d + 1 + 1 → z ∈ leftL g 0 → runR xs (d + 1) g ≠ z := by
  have hf : ∀ g : List Bool, g.length = n → 2 ≤ (leftL g 0).length → ∀ r ∈ xs, firstOf (leftL g 0) r ≠ z ∧ firstOf (leftL g 0) r ∈ leftL g 0 := by
    intro g hg h r hrm
    obtain ⟨h1, h2, t, rfl⟩ := hr r hrm
    obtain ⟨e, he, hne⟩ := other (leftL g 0) (leftL_nodup g 0) z h
    have hge := leftL_ge g 0 e he
    have het : e ∈ t := by
      have := h1 e hge.1 (by omega)
      rcases List.mem_append.1 this with q | q
      · exact q
      · simp at q; exact absurd q hne
    have hm := firstOf_mem (leftL g 0) t ⟨e, het, he⟩
    rw [firstOf_app _ _ _ ⟨e, het, he⟩]
    exact ⟨fun q => (List.nodup_append.1 h2).2.2 _ hm.2 z (by simp) q, hm.1⟩
  induction d with
  | zero =>
    intro g hg h hz
    have hs := strike_facts xs g 0 h
    have h0 := cnt_zero (leftL g 0) z xs (fun r hrm => (hf g hg (by omega) r hrm).1)
    have hw : wst (cnt (leftL g 0) xs) (leftL g 0) = z := by
      by_cases q : wst (cnt (leftL g 0) xs) (leftL g 0) = z
      · exact q
      · have h1 := wst_le (cnt (leftL g 0) xs) (leftL g 0) z hz
        have h2 := cnt_all (leftL g 0) (wst (cnt (leftL g 0) xs) (leftL g 0)) xs (fun r hrm => by
          have h3 := hf g hg (by omega) r hrm
          have h4 := hs.1
          generalize wst (cnt (leftL g 0) xs) (leftL g 0) = w at q h4
          have hnd := leftL_nodup g 0
          match e : leftL g 0, h with
          | [a, b], _ =>
            rw [e] at h3 h4 hz
            have ha : firstOf [a, b] r = a ∨ firstOf [a, b] r = b := by have := h3.2; simpa using this
            have hb : w = a ∨ w = b := by simpa using h4
            have hc : z = a ∨ z = b := by simpa using hz
            have hd := h3.1
            omega)
        omega
    have := run_mem xs 0 (g.set (wst (cnt (leftL g 0) xs) (leftL g 0)).toNat true) (by rw [hs.2.1]; exact hs.2.2)
    rw [hs.2.1, hw] at this
    rw [runR, hw]
    intro q
    rw [q] at this
    exact (List.Nodup.not_mem_erase (leftL_nodup g 0)) this
  | succ d ih =>
    intro g hg h hz
    have hs := strike_facts xs g (d + 1) h
    by_cases hw : wst (cnt (leftL g 0) xs) (leftL g 0) = z
    · have := run_mem xs (d + 1) (g.set (wst (cnt (leftL g 0) xs) (leftL g 0)).toNat true) (by rw [hs.2.1]; exact hs.2.2)
      rw [hs.2.1, hw] at this
      rw [runR, hw]
      intro q
      rw [q] at this
      exact (List.Nodup.not_mem_erase (leftL_nodup g 0)) this
    · rw [runR]
      refine ih _ (by rw [List.length_set]; exact hg) (by rw [hs.2.1]; exact hs.2.2) ?_
      rw [hs.2.1]
      exact (List.mem_erase_of_ne (fun q => hw q.symm)).2 hz
/-! ### the law -/
theorem law_l1 (xs : List (List Int)) (hxl : xs.length ≤ 12) (m out : Int) (hm : m ≤ 6) (fs : List Int) (hfl : (fs.length : Int) = m) (hv : ∀ c : Int, 0 ≤ c → c < m → rd fs c = fst0 xs c) (hk : ∀ c : Int, 0 ≤ c → c < m → 2 * fst0 xs c > xs.length → out = c) (last : Bool) (hl : m ≠ 1 → last = false) (d : Nat) :
    ∀ i : Int, 0 ≤ i → i + d = m → EvS (fun k => laws_FnRunoff.l1 k xs out m fs last i) (· = true) := by
  induction d with
  | zero =>
    intro i h0 e
    refine EvS.step (fun k => by rw [laws_FnRunoff.l1]) ?_
    refine EvS.neg (by omega) (EvS.ite (fun _ => EvS.now rfl) (fun c => EvS.now ?_))
    rw [hl c]; rfl
  | succ d ih =>
    intro i h0 e
    have hf := fst0_range xs i
    have h1 := ih (i + 1) (by omega) (by omega)
    refine EvS.step (fun k => by rw [laws_FnRunoff.l1]) ?_
    rw [hv i h0 (by omega), w64 (x := 2 * fst0 xs i) (by omega) (by omega), w64 (x := i + 1) (by omega) (by omega)]
    exact EvS.pos (by omega) (EvS.pos h0 (EvS.pos (by omega) (EvS.ite (fun c => EvS.pos (hk i h0 (by omega) c) h1) (fun _ => h1))))
theorem rd0_mem (y : List Int) (h : 1 ≤ y.length) : rd y 0 ∈ y := by
  cases y with
  | nil => simp at h
  | cons a t => exact List.mem_cons_self
theorem law_l0 {P : Bool → Prop} (xs : List (List Int)) (hxl : xs.length ≤ 12) (m out : Int) (hm0 : 1 ≤ m) (hm : m ≤ 6) (hrow : ∀ r ∈ xs, (r.length : Int) = m ∧ Diff r m)
    (K : ∀ (fs : List Int) (last : Bool), (fs.length : Int) = m → (∀ c : Int, 0 ≤ c → c < m → rd fs c = fst0 xs c) → (last = true → ∀ r ∈ xs, rd r (m - 1) = out) → EvS (fun k => laws_FnRunoff.l1 k xs out m fs last 0) P) (ys : List (List Int)) :
    ∀ (i : Int) (fs : List Int) (last : Bool), At xs i ys → (fs.length : Int) = m → (∀ c : Int, 0 ≤ c → c < m → rd fs c + fst0 ys c = fst0 xs c ∧ 0 ≤ rd fs c) → (last = true → ∀ r ∈ xs, r ∈ ys ∨ rd r (m - 1) = out) → EvS (fun k => laws_FnRunoff.l0 k xs out m fs last i) P := by
  induction ys with
  | nil =>
    intro i fs last h hfl hf hl
    refine EvS.step (fun k => by rw [laws_FnRunoff.l0]) ?_
    refine EvS.neg (by have := h.ge; omega) (K fs last hfl (fun c c0 c1 => by have := (hf c c0 c1).1; simp only [fst0] at this; omega) (fun q r hr => ?_))
    rcases hl q r hr with g | g
    · simp at g
    · exact g
  | cons y ys ih =>
    intro i fs last h hfl hf hl
    have hy := hrow y h.mem
    have hi := h.nonneg
    have hlt := h.lt
    have r0 := hy.2.2 _ (rd0_mem y (by omega))
    refine EvS.step (fun k => by rw [laws_FnRunoff.l0]) ?_
    rw [at_rdR h]
    have hb := hf (rd y 0) r0.1 r0.2
    have hfr := fst0_range xs (rd y 0)
    have hfy := fst0_range (y :: ys) (rd y 0)
    rw [w64 (x := i + 1) (by omega) (by omega), w64 (x := m - 1) (by omega) (by omega), w64 (x := rd fs (rd y 0) + 1) (by omega) (by omega)]
    have nx : ∀ last' : Bool, (last' = true → ∀ r ∈ xs, r ∈ ys ∨ rd r (m - 1) = out) → EvS (fun k => laws_FnRunoff.l0 k xs out m (fs.set (rd y 0).toNat (rd fs (rd y 0) + 1)) last' (i + 1)) P := by
      intro last' hl'
      refine ih _ _ _ h.next (by simpa using hfl) (fun c c0 c1 => ?_) hl'
      rw [rd_set _ _ _ _ r0.1 (by omega) c0]
      have hc := hf c c0 c1
      simp only [fst0] at hc
      by_cases e : rd y 0 = c
      · rw [if_pos e] at hc ⊢; rw [e]; omega
      · rw [if_neg e] at hc ⊢; omega
    refine EvS.pos h.lt (EvS.pos h.nonneg (EvS.pos (by omega) (EvS.pos r0.1 (EvS.pos (by omega) (EvS.call rfl (EvS.ite (fun c => EvS.pos (by omega) (EvS.pos (by omega) (nx _ (fun q r hr => ?_)))) (fun c => nx false (fun q => by simp at q))))))))
    rcases hl c r hr with g | g
    · rcases List.mem_cons.1 g with rfl | g
      · exact .inr (beq_iff_eq.1 q)
      · exact .inl g
    · exact .inr g
theorem last_app (r : List Int) (m : Int) (h : (r.length : Int) = m) (h1 : 1 ≤ m) (z : Int) (hz : rd r (m - 1) = z) : ∃ t, r = t ++ [z] := by
  have hne : r ≠ [] := by intro q; rw [q] at h; simp at h; omega
  refine ⟨r.dropLast, ?_⟩
  have e : r.getLast hne = z := by
    rw [← hz]
    unfold rd
    rw [List.getLast_eq_getElem, List.getD_eq_getElem?_getD, List.getElem?_eq_getElem (by omega)]
    simp only [Option.getD_some]
    congr 1
    omega
  rw [← e]
  exact (List.dropLast_concat_getLast hne).symm
theorem draw_ok (l : List Int) (hl : ∀ x ∈ l, 0 ≤ x ∧ x ≤ 255) : EvS (fun k => spec_DrawRunoff.f k l) ShR := by
  simp only [spec_DrawRunoff.f]
  obtain ⟨b, eb, hb⟩ := newReader_ok l hl
  exact EvS.call eb (EvS.bind (anyRanks_ok b hb 0 (by omega) (by omega)) (fun r hr => EvS.now hr))
theorem FnRunoff : laws_FnRunoff.Pure := by
  intro l0 _ _ hw
  refine EvS.holds ?_
  simp only [laws_FnRunoff.f]
  refine EvS.ite (fun _ => EvS.now rfl) (fun _ => EvS.bind (draw_ok l0 (fun x hx => u8_range (hw x hx))) (fun xs hl => EvS.bind (impl_Runoff_ok xs hl) (fun r1 hr1 => EvS.bind (spec_Runoff_ok xs hl) (fun r2 hr2 => ?_))))
  obtain rfl : r1 = r2 := by rw [hr1, hr2]
  refine EvS.pos rfl ?_
  by_cases hv : VR xs
  · rw [if_pos hv] at hr1
    have hn := hv.2.1
    have hxl := hv.1
    obtain ⟨n, hnn⟩ : ∃ n : Nat, (rowN xs).toNat = n + 1 := ⟨(rowN xs).toNat - 1, by omega⟩
    have hn2 : rowN xs = (n : Int) + 1 := by omega
    rw [hnn] at hr1
    simp only [Nat.add_sub_cancel] at hr1
    have hL := leftL_all (n + 1) 0
    have hmem := run_mem xs n (List.replicate (n + 1) false) hL
    rw [← hr1] at hmem
    have hge := leftL_ge _ _ _ hmem
    rw [List.length_replicate] at hge
    have hallL : ∀ c : Int, 0 ≤ c → c < rowN xs → c ∈ leftL (List.replicate (n + 1) false) 0 := by
      intro c c0 c1
      rw [leftL_mem, List.length_replicate]
      exact ⟨by omega, by omega, rdOf_falses _ _⟩
    have hne : ∀ r ∈ xs, r ≠ [] := by intro r hr q; have := (hv.2.2 r hr).1; rw [q] at this; simp at this; omega
    rw [decide_eq_false (show ¬ r1 < 0 by omega)]
    refine EvS.step (fun k => by rw [laws_FnRunoff.j0]) ?_
    have e0 : ((rd_L2 xs 0).length : Int) = rowN xs := rfl
    rw [e0]
    refine EvS.neg (by simp) (EvS.pos (by omega) (EvS.pos (by omega) (EvS.pos (by omega) ?_)))
    refine law_l0 xs (by omega) (rowN xs) r1 hn.1 hn.2 hv.2.2 (fun fs last hfl hf hlast => ?_) xs 0 _ true (At.zero _) (by simp; omega) (fun c c0 c1 => by rw [rd_zeros]; omega) (fun _ r hr => .inl hr)
    refine law_l1 xs (by omega) (rowN xs) r1 hn.2 fs hfl hf (fun c c0 c1 c2 => ?_) last (fun hm => ?_) (rowN xs).toNat 0 (by omega) (by omega)
    · rw [hr1]; exact run_keep xs hne c c2 n _ hL (hallL c c0 c1)
    · cases last with
      | false => rfl
      | true =>
        exfalso
        obtain ⟨d, hd⟩ : ∃ d : Nat, n = d + 1 := ⟨n - 1, by omega⟩
        subst hd
        refine run_last xs (by omega) r1 (d + 1 + 1) (fun r hr => ?_) d (List.replicate (d + 1 + 1) false) (by simp) hL hmem hr1.symm
        have hrr := hv.2.2 r hr
        exact ⟨fun c c0 c1 => row_has hv hr c0 (by omega), hrr.2.1, last_app r (rowN xs) hrr.1 hn.1 r1 (hlast rfl r hr)⟩
  · rw [if_neg hv] at hr1
    subst hr1
    rw [decide_eq_true (show (-1 : Int) < 0 by omega)]
    refine EvS.step (fun k => by rw [laws_FnRunoff.j0]) ?_
    refine EvS.pos rfl (EvS.bind (spec_Runoff_ok xs hl) (fun r3 hr3 => ?_))
    rw [if_neg hv] at hr3
    subst hr3
    exact EvS.now rfl
end Go.Proofs.Ytlagpccnhbobiaa.Pure

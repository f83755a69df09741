-- Written for this claim (gp.py); by hand: spec_partners.calls
import Derived.Test.YtgapjelooefofaaMFnOnlyInx0
import Derived.Test.YtgapjelooefofaaMFnOnlyInx1
import Derived.Test.YtgapjelooefofaaMFnOnlyInx2
namespace Go.Proofs.Ytgapjelooefofaa.PFnOnlyIn
open Go.RowKit Go.Proofs.YtgapjelooefofaaW.PrintWords Go.Proofs.YtgapjelooefofaaW.PrintLast Go.Proofs.YtgapjelooefofaaW.PrintMore
attribute [local go_sem] max2_int min2_int max_two min_two max_three min_three max_four min_four   -- for this text's walks alone
open Go.Proofs.YtgapjelooefofaaW.PrintWords renaming keep_drewN → kn_, keep_drew → kd_, keep_alloc → ka_, keep_far → kf_, keep_size → kz_, blk_cell → bc_
open Go.Proofs.YtgapjelooefofaaW.PrintWords.KeepBut renaming set_ → k1_
open List renaming map_toArray → q4_, map_cons → q5_, map_nil → q6_
open Option renaming bind_some → q7_
open Go.Proofs.YtgapjelooefofaaW.PrintWords renaming blk_drewN → bn_, blk_alloc → bl_, blk_drew → bd_, blk_below → bb_, blk_far → bf_, pw_below_drewN → wn_, below_drew1 → w1_, below_alloc → wa_, below_set → ws_
open Go.Proofs.YtgapjelooefofaaW.PrintWords.Kd renaming R_alloc → ra_, R_drewN → rn_, R_drew → re_
open Go.Proofs.YtgapjelooefofaaW.PrintWords.Aside0 renaming mk → am_
set_option linter.unusedVariables false
set_option linter.unusedSimpArgs false

attribute [local go_sem high] eqA33
/-! ### spec_partners: function 50 -/
mutual
def spec_partners.l0 : Nat → List (S33) → List (S33) → List Bool → List Int → Int → Option (List Int)
 | 0, _, _, _, _, _ => none
 | k + 1, x0, x1, x5, x6, x7 => if x7 < (x0.length : Int) then (spec_partners.l1 k x0 x1 x5 x6 x7 (-1) 0) else (some x6)
def spec_partners.l1 : Nat → List (S33) → List (S33) → List Bool → List Int → Int → Int → Int → Option (List Int)
 | 0, _, _, _, _, _, _, _ => none
 | k + 1, x0, x1, x5, x6, x7, x8, x9 => if x9 < (x1.length : Int) then (spec_partners.j2 k x0 x1 x5 x6 x7 x8 x9 (decide (x8 < 0))) else (spec_partners.j2 k x0 x1 x5 x6 x7 x8 x9 false)
def spec_partners.j2 : Nat → List (S33) → List (S33) → List Bool → List Int → Int → Int → Int → Bool → Option (List Int)
 | 0, _, _, _, _, _, _, _, _ => none
 | k + 1, x0, x1, x5, x6, x7, x8, x9, x27 => if x27 = true then (if 0 ≤ x9 then (if x9 < (x5.length : Int) then (if rdOf false x5 x9 = true then (spec_partners.l1 k x0 x1 x5 x6 x7 x8 (wrap64 (x9 + 1))) else (if 0 ≤ x7 then (if x7 < (x0.length : Int) then (if x9 < (x1.length : Int) then (if (((rd_T33 x0 x7).f0) == ((rd_T33 x1 x9).f0) && (((rd_T33 x0 x7).f1) == ((rd_T33 x1 x9).f1) && (((rd_T33 x0 x7).f2) == ((rd_T33 x1 x9).f2) && (((rd_T33 x0 x7).f3) == ((rd_T33 x1 x9).f3))))) = true then (spec_partners.l1 k x0 x1 (x5.set (x9 : Int).toNat true) x6 x7 x9 (wrap64 (x9 + 1))) else (spec_partners.l1 k x0 x1 x5 x6 x7 x8 (wrap64 (x9 + 1)))) else (none)) else (none)) else (none))) else (none)) else (none)) else (if x6.length < 17592186044416 then (spec_partners.l0 k x0 x1 x5 (x6 ++ [x8]) (wrap64 (x7 + 1))) else (none))
end
def spec_partners.f (k : Nat) (l0 : List (S33)) (l1 : List (S33)) : Option (List Int) := if 0 ≤ (l1.length : Int) then (if ((l1.length : Int) : Int).toNat ≤ 281474976710656 then (spec_partners.l0 k l0 l1 (List.replicate ((l1.length : Int) : Int).toNat false) (([] : List Int)) 0) else (none)) else (none)
theorem spec_partners.mono_l : ∀ k, (∀ y0 y1 y2 y3 y4, LeO (spec_partners.l0 k y0 y1 y2 y3 y4) (spec_partners.l0 (k + 1) y0 y1 y2 y3 y4)) ∧ (∀ y0 y1 y2 y3 y4 y5 y6, LeO (spec_partners.l1 k y0 y1 y2 y3 y4 y5 y6) (spec_partners.l1 (k + 1) y0 y1 y2 y3 y4 y5 y6)) ∧ (∀ y0 y1 y2 y3 y4 y5 y6 y7, LeO (spec_partners.j2 k y0 y1 y2 y3 y4 y5 y6 y7) (spec_partners.j2 (k + 1) y0 y1 y2 y3 y4 y5 y6 y7))
 | 0 => ⟨fun _ _ _ _ _ r h => by simp [spec_partners.l0] at h, fun _ _ _ _ _ _ _ r h => by simp [spec_partners.l1] at h, fun _ _ _ _ _ _ _ _ r h => by simp [spec_partners.j2] at h⟩
 | k + 1 => by
  obtain ⟨ih0, ih1, ih2⟩ := spec_partners.mono_l k
  refine ⟨?_, ?_, ?_⟩
  ·intro y0 y1 y2 y3 y4
   unfold spec_partners.l0
   repeat' first
   | (with_reducible exact ih0 _ _ _ _ _)
   | (with_reducible exact ih1 _ _ _ _ _ _ _)
   | (with_reducible exact ih2 _ _ _ _ _ _ _ _)
   | (with_reducible exact LeO.refl _)
   | (with_reducible exact LeO.none _)
   | (with_reducible refine LeO.ite ?_ ?_)
   | (with_reducible refine LeO.bind ?_ (fun _ => ?_))
   | exact ih0 _ _ _ _ _
   | exact ih1 _ _ _ _ _ _ _
   | exact ih2 _ _ _ _ _ _ _ _
   | exact LeO.none _
   | refine LeO.ite ?_ ?_
   | refine LeO.bind ?_ (fun _ => ?_)
  ·intro y0 y1 y2 y3 y4 y5 y6
   unfold spec_partners.l1
   repeat' first
   | (with_reducible exact ih0 _ _ _ _ _)
   | (with_reducible exact ih1 _ _ _ _ _ _ _)
   | (with_reducible exact ih2 _ _ _ _ _ _ _ _)
   | (with_reducible exact LeO.refl _)
   | (with_reducible exact LeO.none _)
   | (with_reducible refine LeO.ite ?_ ?_)
   | (with_reducible refine LeO.bind ?_ (fun _ => ?_))
   | exact ih0 _ _ _ _ _
   | exact ih1 _ _ _ _ _ _ _
   | exact ih2 _ _ _ _ _ _ _ _
   | exact LeO.none _
   | refine LeO.ite ?_ ?_
   | refine LeO.bind ?_ (fun _ => ?_)
  ·intro y0 y1 y2 y3 y4 y5 y6 y7
   unfold spec_partners.j2
   repeat' first
   | (with_reducible exact ih0 _ _ _ _ _)
   | (with_reducible exact ih1 _ _ _ _ _ _ _)
   | (with_reducible exact ih2 _ _ _ _ _ _ _ _)
   | (with_reducible exact LeO.refl _)
   | (with_reducible exact LeO.none _)
   | (with_reducible refine LeO.ite ?_ ?_)
   | (with_reducible refine LeO.bind ?_ (fun _ => ?_))
   | exact ih0 _ _ _ _ _
   | exact ih1 _ _ _ _ _ _ _
   | exact ih2 _ _ _ _ _ _ _ _
   | exact LeO.none _
   | refine LeO.ite ?_ ?_
   | refine LeO.bind ?_ (fun _ => ?_)
theorem spec_partners.mono : ∀ a0 a1 k, LeO (spec_partners.f k a0 a1) (spec_partners.f (k + 1) a0 a1) := by
 intro a0 a1 k
 obtain ⟨ih0, ih1, ih2⟩ := spec_partners.mono_l k
 unfold spec_partners.f
 repeat' first
   | (with_reducible exact ih0 _ _ _ _ _)
   | (with_reducible exact ih1 _ _ _ _ _ _ _)
   | (with_reducible exact ih2 _ _ _ _ _ _ _ _)
   | (with_reducible exact LeO.refl _)
   | (with_reducible exact LeO.none _)
   | (with_reducible refine LeO.ite ?_ ?_)
   | (with_reducible refine LeO.bind ?_ (fun _ => ?_))
   | exact ih0 _ _ _ _ _
   | exact ih1 _ _ _ _ _ _ _
   | exact ih2 _ _ _ _ _ _ _ _
   | exact LeO.none _
   | refine LeO.ite ?_ ?_
   | refine LeO.bind ?_ (fun _ => ?_)
set_option maxHeartbeats 8000000 in
set_option maxRecDepth 100000 in
theorem spec_partners.calls (k : Nat) (A0 : Option Addr) (c0 : Nat) (l0 : List (S33)) (A1 : Option Addr) (c1 : Nat) (l1 : List (S33)) (r : List Int) (w : World) (hr0 : Kd.C k33 w A0 l0.length l0) (hc0 : l0.length ≤ c0) (hr1 : Kd.C k33 w A1 l1.length l1) (hc1 : l1.length ≤ c1) (h : spec_partners.f k l0 l1 = some r) :
  Calls Try.prog 50 #[.slice A0 l0.length c0, .slice A1 l1.length c1] w fun e w' => ∃ v0_ : Value, e = .returned (v0_) ∧ Kd.R (Kd.int .i64) 3 w' w.heap.size (fun _ => True) v0_ r ∧ Below w.heap.size w w' := by
 have hu33 := Try.underlying33
 have HR0 := am_ hr0
 have HC0 := am_ hc0
 clear hr0 hc0
 have HR1 := am_ hr1
 have HC1 := am_ hc1
 clear hr1 hc1
 have HB := am_ (Below.refl w.heap.size w)
 have H : (if 0 ≤ (l1.length : Int) then (if ((l1.length : Int) : Int).toNat ≤ 281474976710656 then (spec_partners.l0 k l0 l1 (List.replicate ((l1.length : Int) : Int).toNat false) (([] : List Int)) 0) else (none)) else (none)) = some r := h
 clear h
 by_cases c3 : 0 ≤ (l1.length : Int)
 ·rw [if_pos c3] at H
  have c3b0 := eq_true c3
  have c3b1 : decide (0 ≤ (l1.length : Int)) = true := decide_eq_true c3
  clear c3
  by_cases c4 : ((l1.length : Int) : Int).toNat ≤ 281474976710656
  ·rw [if_pos c4] at H
   have c4b0 := eq_true c4
   have c4b1 : decide (((l1.length : Int) : Int).toNat ≤ 281474976710656) = true := decide_eq_true c4
   clear c4
   obtain ⟨y108, hy108⟩ : ∃ y_ : List Bool, y_ = (List.replicate ((l1.length : Int) : Int).toNat false) := ⟨_, rfl⟩
   replace H : (spec_partners.l0 k l0 l1 y108 (([] : List Int)) 0) = some r := by first | (rw [hy108]; with_reducible exact H) | (have H2_ := (q7_ _ _).symm.trans H; rw [hy108]; with_reducible exact H2_) | (have H2_ := (q7_ _ _).symm.trans H; with_reducible exact H2_) | with_reducible exact H | (rw [hy108]; exact H) | exact H
   have Ny108 := am_ hy108
   clear hy108
   obtain ⟨y111, hy111⟩ : ∃ y_ : List Int, y_ = (([] : List Int)) := ⟨_, rfl⟩
   replace H : (spec_partners.l0 k l0 l1 y108 y111 0) = some r := by first | (rw [hy111]; with_reducible exact H) | (have H2_ := (q7_ _ _).symm.trans H; rw [hy111]; with_reducible exact H2_) | (have H2_ := (q7_ _ _).symm.trans H; with_reducible exact H2_) | with_reducible exact H | (rw [hy111]; exact H) | exact H
   have Ny111 := am_ hy111
   clear hy111
   have H' := am_ H
   clear H
   go_enter Try.func50, Try.ntmps50
   go_wp2_with (first | ((with_reducible refine gate_dst (N := 12) rfl ?_); refine Kd.R_make Kd.bool _ 4 rfl (N := 12) rfl 61 _ _ rfl (l1.length : Int) rfl rfl Try.underlying61 (.bool false) 1 info4 rfl (by decide) (by omega) false (ok := fun _ => True) (okp := fun _ => True) rfl (fun _ hk => hk) trivial (of_decide_eq_true (by first | (with_reducible assumption) | assumption)) (Nat.le_trans (Nat.mul_le_mul_right _ (of_decide_eq_true (by first | (with_reducible assumption) | assumption) : (l1.length : Int).toNat ≤ 281474976710656)) (by omega)) (Below.refl _ _) (Nat.le_refl _) ?_; intro v109 w5 ho6 hb hg_ hnew_; clear hg_ hnew_; (first | rw [← Ny108.out] at ho6 | (simp only [Int.reduceToNat] at ho6; rw [← Ny108.out] at ho6)); have n0_ := am_ (Kd.R_lower ho6 (below_size (by repeat (first | (with_reducible first | exact HB.out | apply wa_ | apply wn_ | apply w1_) | exact HB.out)))); have n1_ := am_ (below_step (by repeat (first | (with_reducible first | exact HB.out | apply wa_ | apply wn_ | apply w1_) | exact HB.out)) hb); clear HB; have HO110 := n0_; have HB := n1_; clear n0_ n1_; clear hb ho6) | ((with_reducible refine gate_dst (N := 13) rfl ?_); refine Kd.R_lit (Kd.int .i64) _ 3 ?hg (N := 13) ?hd (xs := ([] : List Int)) (inner := []) (ok := fun _ => True) (okp := fun _ => True) ?hr ?hp (fun _ hk => hk) trivial (Below.refl _ _) (Nat.le_refl _) (by simp) ?_; (case hd => rfl); (case hg => rfl); (case hr => first | (go_simp; done) | (go_simp; rfl)); (case hp => exact (Reps.none _ _)); intro v112 w7 ho8 hb hg_ hnew_; clear hg_ hnew_; (first | rw [← Ny111.out] at ho8 | (simp only [Int.reduceToNat] at ho8; rw [← Ny111.out] at ho8)); have n0_ := am_ (Kd.R_below (by (with_reducible repeat (first | apply ra_ | apply rn_ | apply re_)); exact HO110.out) hb); have n1_ := am_ (Kd.R_lower ho8 (below_size (by repeat (first | (with_reducible first | exact HB.out | apply wa_ | apply wn_ | apply w1_) | exact HB.out)))); have n2_ := am_ (below_step (by repeat (first | (with_reducible first | exact HB.out | apply wa_ | apply wn_ | apply w1_) | exact HB.out)) hb); clear HO110 HB; have HO110 := n0_; have HO113 := n1_; have HB := n2_; clear n0_ n1_ n2_; clear hb ho8))
   repeat (go_quiet (first | ((with_reducible refine gate_dst (N := 12) rfl ?_); refine Kd.R_make Kd.bool _ 4 rfl (N := 12) rfl 61 _ _ rfl (l1.length : Int) rfl rfl Try.underlying61 (.bool false) 1 info4 rfl (by decide) (by omega) false (ok := fun _ => True) (okp := fun _ => True) rfl (fun _ hk => hk) trivial (of_decide_eq_true (by first | (with_reducible assumption) | assumption)) (Nat.le_trans (Nat.mul_le_mul_right _ (of_decide_eq_true (by first | (with_reducible assumption) | assumption) : (l1.length : Int).toNat ≤ 281474976710656)) (by omega)) (Below.refl _ _) (Nat.le_refl _) ?_; intro v109 w5 ho6 hb hg_ hnew_; clear hg_ hnew_; (first | rw [← Ny108.out] at ho6 | (simp only [Int.reduceToNat] at ho6; rw [← Ny108.out] at ho6)); have n0_ := am_ (Kd.R_lower ho6 (below_size (by repeat (first | (with_reducible first | exact HB.out | apply wa_ | apply wn_ | apply w1_) | exact HB.out)))); have n1_ := am_ (below_step (by repeat (first | (with_reducible first | exact HB.out | apply wa_ | apply wn_ | apply w1_) | exact HB.out)) hb); clear HB; have HO110 := n0_; have HB := n1_; clear n0_ n1_; clear hb ho6) | ((with_reducible refine gate_dst (N := 13) rfl ?_); refine Kd.R_lit (Kd.int .i64) _ 3 ?hg (N := 13) ?hd (xs := ([] : List Int)) (inner := []) (ok := fun _ => True) (okp := fun _ => True) ?hr ?hp (fun _ hk => hk) trivial (Below.refl _ _) (Nat.le_refl _) (by simp) ?_; (case hd => rfl); (case hg => rfl); (case hr => first | (go_simp; done) | (go_simp; rfl)); (case hp => exact (Reps.none _ _)); intro v112 w7 ho8 hb hg_ hnew_; clear hg_ hnew_; (first | rw [← Ny111.out] at ho8 | (simp only [Int.reduceToNat] at ho8; rw [← Ny111.out] at ho8)); have n0_ := am_ (Kd.R_below (by (with_reducible repeat (first | apply ra_ | apply rn_ | apply re_)); exact HO110.out) hb); have n1_ := am_ (Kd.R_lower ho8 (below_size (by repeat (first | (with_reducible first | exact HB.out | apply wa_ | apply wn_ | apply w1_) | exact HB.out)))); have n2_ := am_ (below_step (by repeat (first | (with_reducible first | exact HB.out | apply wa_ | apply wn_ | apply w1_) | exact HB.out)) hb); clear HO110 HB; have HO110 := n0_; have HO113 := n1_; have HB := n2_; clear n0_ n1_ n2_; clear hb ho8)); try go_wp2_with (first | ((with_reducible refine gate_dst (N := 12) rfl ?_); refine Kd.R_make Kd.bool _ 4 rfl (N := 12) rfl 61 _ _ rfl (l1.length : Int) rfl rfl Try.underlying61 (.bool false) 1 info4 rfl (by decide) (by omega) false (ok := fun _ => True) (okp := fun _ => True) rfl (fun _ hk => hk) trivial (of_decide_eq_true (by first | (with_reducible assumption) | assumption)) (Nat.le_trans (Nat.mul_le_mul_right _ (of_decide_eq_true (by first | (with_reducible assumption) | assumption) : (l1.length : Int).toNat ≤ 281474976710656)) (by omega)) (Below.refl _ _) (Nat.le_refl _) ?_; intro v109 w5 ho6 hb hg_ hnew_; clear hg_ hnew_; (first | rw [← Ny108.out] at ho6 | (simp only [Int.reduceToNat] at ho6; rw [← Ny108.out] at ho6)); have n0_ := am_ (Kd.R_lower ho6 (below_size (by repeat (first | (with_reducible first | exact HB.out | apply wa_ | apply wn_ | apply w1_) | exact HB.out)))); have n1_ := am_ (below_step (by repeat (first | (with_reducible first | exact HB.out | apply wa_ | apply wn_ | apply w1_) | exact HB.out)) hb); clear HB; have HO110 := n0_; have HB := n1_; clear n0_ n1_; clear hb ho6) | ((with_reducible refine gate_dst (N := 13) rfl ?_); refine Kd.R_lit (Kd.int .i64) _ 3 ?hg (N := 13) ?hd (xs := ([] : List Int)) (inner := []) (ok := fun _ => True) (okp := fun _ => True) ?hr ?hp (fun _ hk => hk) trivial (Below.refl _ _) (Nat.le_refl _) (by simp) ?_; (case hd => rfl); (case hg => rfl); (case hr => first | (go_simp; done) | (go_simp; rfl)); (case hp => exact (Reps.none _ _)); intro v112 w7 ho8 hb hg_ hnew_; clear hg_ hnew_; (first | rw [← Ny111.out] at ho8 | (simp only [Int.reduceToNat] at ho8; rw [← Ny111.out] at ho8)); have n0_ := am_ (Kd.R_below (by (with_reducible repeat (first | apply ra_ | apply rn_ | apply re_)); exact HO110.out) hb); have n1_ := am_ (Kd.R_lower ho8 (below_size (by repeat (first | (with_reducible first | exact HB.out | apply wa_ | apply wn_ | apply w1_) | exact HB.out)))); have n2_ := am_ (below_step (by repeat (first | (with_reducible first | exact HB.out | apply wa_ | apply wn_ | apply w1_) | exact HB.out)) hb); clear HO110 HB; have HO110 := n0_; have HO113 := n1_; have HB := n2_; clear n0_ n1_ n2_; clear hb ho8)))
   go_loopg [6, 7] k (fun kq v6 v7 w' => ∃ (x5_1 : List Bool) (x6_1 : List Int) (x7_1 : Int), v7 = .int .i64 x7_1 ∧ Aside0 (spec_partners.l0 kq l0 l1 x5_1 x6_1 x7_1 = some r) ∧ Aside0 (kq ≤ k) ∧ Aside0 (Kd.R Kd.bool 4 w' w.heap.size (fun _ => True) v109 x5_1) ∧ Aside0 (Kd.R (Kd.int .i64) 3 w' w.heap.size (fun _ => True) v6 x6_1) ∧ Aside0 (Below w.heap.size w w'))
   case atStart => exact ⟨(y108), (y111), (0), (by first | rfl | (simp; done) | (simp [*]; done)), H', ⟨Nat.le_refl _⟩, ⟨by (with_reducible repeat (first | apply ra_ | apply rn_ | apply re_)); exact HO110.out⟩, ⟨by (with_reducible repeat (first | apply ra_ | apply rn_ | apply re_)); exact HO113.out⟩, ⟨by repeat (first | (with_reducible first | exact HB.out | apply wa_ | apply wn_ | apply w1_) | exact HB.out)⟩⟩
   case round =>
    clear H'
    try clear c1; try clear p2; try clear c3; try clear c3b0; try clear c3b1; try clear c4; try clear c4b0; try clear c4b1; try clear c5
    obtain ⟨x5_1, x6_1, x7_1, rfl, HA, HK1, HO_5, HO_6, HB⟩ := hrel
    cases gk with
    | zero => exact absurd HA.out (by simp [spec_partners.l0])
    | succ k1 =>
     have H := HA.out
     clear HA
     simp only [spec_partners.l0] at H
     by_cases c9 : x7_1 < (l0.length : Int)
     ·rw [if_pos c9] at H
      have c9b0 : decide (x7_1 < (l0.length : Int)) = true := decide_eq_true c9
      clear c9
      have H' := am_ H
      clear H
      go_wp2
      repeat (go_quiet (fail); try go_wp2)
      go_loopg [8, 9] k1 (fun kq v8 v9 w' => ∃ (x5_2 : List Bool) (x8_2 : Int) (x9_2 : Int), v8 = .int .i64 x8_2 ∧ v9 = .int .i64 x9_2 ∧ Aside0 (spec_partners.l1 kq l0 l1 x5_2 x6_1 x7_1 x8_2 x9_2 = some r) ∧ Aside0 (kq ≤ k1) ∧ Aside0 (Kd.R Kd.bool 4 w' w.heap.size (fun _ => True) v109 x5_2) ∧ Aside0 (Kd.R (Kd.int .i64) 3 w' w.heap.size (fun _ => True) u6 x6_1) ∧ Aside0 (Below w.heap.size w w'))
      case atStart => exact ⟨(x5_1), ((-1)), (0), (by first | rfl | (simp; done) | (simp [*]; done)), (by first | rfl | (simp; done) | (simp [*]; done)), H', ⟨Nat.le_refl _⟩, ⟨by (with_reducible repeat (first | apply ra_ | apply rn_ | apply re_)); exact HO_5.out⟩, ⟨by (with_reducible repeat (first | apply ra_ | apply rn_ | apply re_)); exact HO_6.out⟩, ⟨by repeat (first | (with_reducible first | exact HB.out | apply wa_ | apply wn_ | apply w1_) | exact HB.out)⟩⟩
      case round =>
       clear H'
       try clear c1; try clear p2; try clear c3; try clear c3b0; try clear c3b1; try clear c4; try clear c4b0; try clear c4b1; try clear c5; try clear c9; try clear c9b0; try clear p2
       obtain ⟨x5_2, x8_2, x9_2, rfl, rfl, HA, HK2, HO_5, HO_6, HB⟩ := hrel
       cases gk with
       | zero => exact absurd HA.out (by simp [spec_partners.l1])
       | succ k2 =>
        have H := HA.out
        clear HA
        simp only [spec_partners.l1] at H
        have HC10 := am_ H
        clear H
        go_upto_region 8 with (fail)
        repeat (go_quiet (fail); go_upto_region 8 with (fail))
        go_cut [27] (fun v27 wc => ∃ (kq : Nat) (x27_9 : Bool), v27 = .bool x27_9 ∧ Aside0 (spec_partners.j2 kq l0 l1 x5_2 x6_1 x7_1 x8_2 x9_2 x27_9 = some r) ∧ Aside0 (kq ≤ k2) ∧ Aside0 (Kd.R Kd.bool 4 wc w.heap.size (fun _ => True) v109 x5_2) ∧ Aside0 (Kd.R (Kd.int .i64) 3 wc w.heap.size (fun _ => True) u6 x6_1) ∧ Aside0 (Below w.heap.size w wc))
        case first =>
         have H := HC10.out
         clear HC10
         by_cases c11 : x9_2 < (l1.length : Int)
         ·rw [if_pos c11] at H
          have c11b0 : decide (x9_2 < (l1.length : Int)) = true := decide_eq_true c11
          clear c11
          (first | rw [c11b0] | (simp only [i64_w, i32_w]; rw [c11b0]) | skip)
          have H' := am_ H
          clear H
          go_wp2
          repeat (go_quiet (fail); try go_wp2)
          go_meet
          case rel => exact ⟨_, (decide (x8_2 < 0)), (by first | rfl | (simp; done) | (simp [*]; done)), H', ⟨by have := HK1.out; have := HK2.out; first | omega | exact Nat.le_refl _⟩, ⟨by (with_reducible repeat (first | apply ra_ | apply rn_ | apply re_)); exact HO_5.out⟩, ⟨by (with_reducible repeat (first | apply ra_ | apply rn_ | apply re_)); exact HO_6.out⟩, ⟨by repeat (first | (with_reducible first | exact HB.out | apply wa_ | apply wn_ | apply w1_) | exact HB.out)⟩⟩
         ·rw [if_neg c11] at H
          have c11b0 : decide (x9_2 < (l1.length : Int)) = false := decide_eq_false c11
          clear c11
          (first | rw [c11b0] | (simp only [i64_w, i32_w]; rw [c11b0]) | skip)
          have H' := am_ H
          clear H
          go_wp2
          repeat (go_quiet (fail); try go_wp2)
          go_meet
          case rel => exact ⟨_, (false), (by first | rfl | (simp; done) | (simp [*]; done)), H', ⟨by have := HK1.out; have := HK2.out; first | omega | exact Nat.le_refl _⟩, ⟨by (with_reducible repeat (first | apply ra_ | apply rn_ | apply re_)); exact HO_5.out⟩, ⟨by (with_reducible repeat (first | apply ra_ | apply rn_ | apply re_)); exact HO_6.out⟩, ⟨by repeat (first | (with_reducible first | exact HB.out | apply wa_ | apply wn_ | apply w1_) | exact HB.out)⟩⟩
        case rest =>
         clear HC10
         try clear c1; try clear p2; try clear c3; try clear c3b0; try clear c3b1; try clear c4; try clear c4b0; try clear c4b1; try clear c5; try clear c9; try clear c9b0; try clear c11; try clear c11b0; try clear p2
         obtain ⟨kq, x27_9, rfl, HA, HJ9, HO_5, HO_6, HB⟩ := hcut
         cases kq with
         | zero => exact absurd HA.out (by simp [spec_partners.j2])
         | succ kj9 =>
          have H := HA.out
          clear HA
          simp only [spec_partners.j2] at H
          by_cases c12 : x27_9 = true
          ·subst c12
           have H1 : (if 0 ≤ x9_2 then (if x9_2 < (x5_2.length : Int) then (if rdOf false x5_2 x9_2 = true then (spec_partners.l1 kj9 l0 l1 x5_2 x6_1 x7_1 x8_2 (wrap64 (x9_2 + 1))) else (if 0 ≤ x7_1 then (if x7_1 < (l0.length : Int) then (if x9_2 < (l1.length : Int) then (if (((rd_T33 l0 x7_1).f0) == ((rd_T33 l1 x9_2).f0) && (((rd_T33 l0 x7_1).f1) == ((rd_T33 l1 x9_2).f1) && (((rd_T33 l0 x7_1).f2) == ((rd_T33 l1 x9_2).f2) && (((rd_T33 l0 x7_1).f3) == ((rd_T33 l1 x9_2).f3))))) = true then (spec_partners.l1 kj9 l0 l1 (x5_2.set (x9_2 : Int).toNat true) x6_1 x7_1 x9_2 (wrap64 (x9_2 + 1))) else (spec_partners.l1 kj9 l0 l1 x5_2 x6_1 x7_1 x8_2 (wrap64 (x9_2 + 1)))) else (none)) else (none)) else (none))) else (none)) else (none)) = some r := by rw [if_pos rfl] at H; exact H
           clear H
           have H := H1
           clear H1
           by_cases c13 : 0 ≤ x9_2
           ·rw [if_pos c13] at H
            have c13b0 : decide (0 ≤ x9_2) = true := decide_eq_true c13
            clear c13
            by_cases c14 : x9_2 < (x5_2.length : Int)
            ·rw [if_pos c14] at H
             have c14b0 : decide (x9_2 < (x5_2.length : Int)) = true := decide_eq_true c14
             clear c14
             obtain ⟨bq15, hbq15⟩ : ∃ b_ : Bool, b_ = (rdOf false x5_2 x9_2) := ⟨_, rfl⟩
             replace H : (if bq15 = true then (spec_partners.l1 kj9 l0 l1 x5_2 x6_1 x7_1 x8_2 (wrap64 (x9_2 + 1))) else (if 0 ≤ x7_1 then (if x7_1 < (l0.length : Int) then (if x9_2 < (l1.length : Int) then (if (((rd_T33 l0 x7_1).f0) == ((rd_T33 l1 x9_2).f0) && (((rd_T33 l0 x7_1).f1) == ((rd_T33 l1 x9_2).f1) && (((rd_T33 l0 x7_1).f2) == ((rd_T33 l1 x9_2).f2) && (((rd_T33 l0 x7_1).f3) == ((rd_T33 l1 x9_2).f3))))) = true then (spec_partners.l1 kj9 l0 l1 (x5_2.set (x9_2 : Int).toNat true) x6_1 x7_1 x9_2 (wrap64 (x9_2 + 1))) else (spec_partners.l1 kj9 l0 l1 x5_2 x6_1 x7_1 x8_2 (wrap64 (x9_2 + 1)))) else (none)) else (none)) else (none))) = some r := by rw [← hbq15] at H; exact H
             have Nbq15 := am_ hbq15
             clear hbq15
             by_cases c16 : bq15 = true
             ·subst c16
              have H1 : (spec_partners.l1 kj9 l0 l1 x5_2 x6_1 x7_1 x8_2 (wrap64 (x9_2 + 1))) = some r := by rw [if_pos rfl] at H; exact H
              clear H
              have H := H1
              clear H1
              have H' := am_ H
              clear H
              obtain ⟨Ao17, co17, eo17⟩ := Kd.R_slice HO_5.out
              subst eo17
              have p114 : 0 ≤ (x9_2 : Int) := of_decide_eq_true (by first | (with_reducible assumption) | assumption)
              have q114 : x9_2 < (x5_2.length : Int) := of_decide_eq_true (by first | (with_reducible assumption) | assumption)
              obtain ⟨ad114, e114, hx114_0⟩ := Kd.at_bool (Kd.R_reads' HO_5.out).2.2 x9_2 p114 q114
              (try rw [← Nbq15.out] at hx114_0)
              cases e114
              replace p114 := eq_true p114
              replace q114 := eq_true q114
              go_wp2
              repeat (go_quiet (fail); try go_wp2)
              go_roundg kj9
              case measure => have := HK1.out; have := HK2.out; have := HJ9.out; omega
              case rel => exact ⟨(x5_2), (x8_2), (wrap64 (x9_2 + 1)), (by first | rfl | (simp; done) | (simp [*]; done)), (by first | rfl | (simp; done) | (simp [*]; done)), H', ⟨by have := HK1.out; have := HK2.out; have := HJ9.out; omega⟩, ⟨by (with_reducible repeat (first | apply ra_ | apply rn_ | apply re_)); exact HO_5.out⟩, ⟨by (with_reducible repeat (first | apply ra_ | apply rn_ | apply re_)); exact HO_6.out⟩, ⟨by repeat (first | (with_reducible first | exact HB.out | apply wa_ | apply wn_ | apply w1_) | exact HB.out)⟩⟩
             ·replace c16 := Bool.eq_false_iff.mpr c16
              subst c16
              have H1 : (if 0 ≤ x7_1 then (if x7_1 < (l0.length : Int) then (if x9_2 < (l1.length : Int) then (if (((rd_T33 l0 x7_1).f0) == ((rd_T33 l1 x9_2).f0) && (((rd_T33 l0 x7_1).f1) == ((rd_T33 l1 x9_2).f1) && (((rd_T33 l0 x7_1).f2) == ((rd_T33 l1 x9_2).f2) && (((rd_T33 l0 x7_1).f3) == ((rd_T33 l1 x9_2).f3))))) = true then (spec_partners.l1 kj9 l0 l1 (x5_2.set (x9_2 : Int).toNat true) x6_1 x7_1 x9_2 (wrap64 (x9_2 + 1))) else (spec_partners.l1 kj9 l0 l1 x5_2 x6_1 x7_1 x8_2 (wrap64 (x9_2 + 1)))) else (none)) else (none)) else (none)) = some r := by rw [if_neg (show ¬ (false = true) by decide)] at H; exact H
              clear H
              have H := H1
              clear H1
              by_cases c18 : 0 ≤ x7_1
              ·rw [if_pos c18] at H
               have c18b0 : decide (0 ≤ x7_1) = true := decide_eq_true c18
               clear c18
               by_cases c19 : x7_1 < (l0.length : Int)
               ·rw [if_pos c19] at H
                have c19b0 : decide (x7_1 < (l0.length : Int)) = true := decide_eq_true c19
                clear c19
                by_cases c20 : x9_2 < (l1.length : Int)
                ·rw [if_pos c20] at H
                 have c20b0 : decide (x9_2 < (l1.length : Int)) = true := decide_eq_true c20
                 clear c20
                 by_cases c21 : (((rd_T33 l0 x7_1).f0) == ((rd_T33 l1 x9_2).f0) && (((rd_T33 l0 x7_1).f1) == ((rd_T33 l1 x9_2).f1) && (((rd_T33 l0 x7_1).f2) == ((rd_T33 l1 x9_2).f2) && (((rd_T33 l0 x7_1).f3) == ((rd_T33 l1 x9_2).f3))))) = true
                 ·rw [if_pos c21] at H
                  have c21b0 : (((rd_T33 l0 x7_1).f0) == ((rd_T33 l1 x9_2).f0) && (((rd_T33 l0 x7_1).f1) == ((rd_T33 l1 x9_2).f1) && (((rd_T33 l0 x7_1).f2) == ((rd_T33 l1 x9_2).f2) && (((rd_T33 l0 x7_1).f3) == ((rd_T33 l1 x9_2).f3))))) = true := c21
                  (try (have c21b1 : decide (((rd_T33 l0 x7_1).f0) = ((rd_T33 l1 x9_2).f0) && (((rd_T33 l0 x7_1).f1) == ((rd_T33 l1 x9_2).f1) && (((rd_T33 l0 x7_1).f2) == ((rd_T33 l1 x9_2).f2) && (((rd_T33 l0 x7_1).f3) == ((rd_T33 l1 x9_2).f3))))) = true := by simpa using c21))
                  (try (have c21b2 : (((rd_T33 l0 x7_1).f0) == ((rd_T33 l1 x9_2).f0) && (((rd_T33 l0 x7_1).f1) == ((rd_T33 l1 x9_2).f1) && (((rd_T33 l0 x7_1).f2) == ((rd_T33 l1 x9_2).f2) && (((rd_T33 l0 x7_1).f3) == ((rd_T33 l1 x9_2).f3))))) = true := by simpa using c21))
                  clear c21
                  obtain ⟨y117, hy117⟩ : ∃ y_ : List Bool, y_ = (x5_2.set (x9_2 : Int).toNat true) := ⟨_, rfl⟩
                  replace H : (spec_partners.l1 kj9 l0 l1 y117 x6_1 x7_1 x9_2 (wrap64 (x9_2 + 1))) = some r := by first | (rw [hy117]; with_reducible exact H) | (have H2_ := (q7_ _ _).symm.trans H; rw [hy117]; with_reducible exact H2_) | (have H2_ := (q7_ _ _).symm.trans H; with_reducible exact H2_) | with_reducible exact H | (rw [hy117]; exact H) | exact H
                  have Ny117 := am_ hy117
                  clear hy117
                  have H' := am_ H
                  clear H
                  obtain ⟨Ao23, co23, eo23⟩ := Kd.R_slice HO_5.out
                  subst eo23
                  have p114 : 0 ≤ (x9_2 : Int) := of_decide_eq_true (by first | (with_reducible assumption) | assumption)
                  have q114 : x9_2 < (x5_2.length : Int) := of_decide_eq_true (by first | (with_reducible assumption) | assumption)
                  obtain ⟨ad114, e114, hx114_0⟩ := Kd.at_bool (Kd.R_reads' HO_5.out).2.2 x9_2 p114 q114
                  (try rw [← Nbq15.out] at hx114_0)
                  cases e114
                  replace p114 := eq_true p114
                  replace q114 := eq_true q114
                  have p115 : 0 ≤ (x7_1 : Int) := of_decide_eq_true (by first | (with_reducible assumption) | assumption)
                  have q115 : x7_1 < (l0.length : Int) := of_decide_eq_true (by first | (with_reducible assumption) | assumption)
                  obtain ⟨ad115, e115, hx115_0, hx115_1, hx115_2, hx115_3⟩ := at_T33 HR0.out x7_1 p115 q115
                  cases e115
                  replace hx115_0 := (HB.out.cell (World.block_lt_of_cell? w _ hx115_0)).trans hx115_0
                  replace hx115_1 := (HB.out.cell (World.block_lt_of_cell? w _ hx115_1)).trans hx115_1
                  replace hx115_2 := (HB.out.cell (World.block_lt_of_cell? w _ hx115_2)).trans hx115_2
                  replace hx115_3 := (HB.out.cell (World.block_lt_of_cell? w _ hx115_3)).trans hx115_3
                  replace p115 := eq_true p115
                  replace q115 := eq_true q115
                  have p116 : 0 ≤ (x9_2 : Int) := of_decide_eq_true (by first | (with_reducible assumption) | assumption)
                  have q116 : x9_2 < (l1.length : Int) := of_decide_eq_true (by first | (with_reducible assumption) | assumption)
                  obtain ⟨ad116, e116, hx116_0, hx116_1, hx116_2, hx116_3⟩ := at_T33 HR1.out x9_2 p116 q116
                  cases e116
                  replace hx116_0 := (HB.out.cell (World.block_lt_of_cell? w _ hx116_0)).trans hx116_0
                  replace hx116_1 := (HB.out.cell (World.block_lt_of_cell? w _ hx116_1)).trans hx116_1
                  replace hx116_2 := (HB.out.cell (World.block_lt_of_cell? w _ hx116_2)).trans hx116_2
                  replace hx116_3 := (HB.out.cell (World.block_lt_of_cell? w _ hx116_3)).trans hx116_3
                  replace p116 := eq_true p116
                  replace q116 := eq_true q116
                  have p22 : 0 ≤ (x9_2 : Int) := of_decide_eq_true (by first | (with_reducible assumption) | assumption)
                  have q22 : (x9_2 : Int) < ((x5_2.length : Int) : Int) := of_decide_eq_true (by first | (with_reducible assumption) | assumption)
                  obtain ⟨go22, co22, eo22, gb22, gl22, cl22, HG22⟩ := Kd.R_form HO_5.out (by omega)
                  (first | cases eo22 | (injection eo22 with ea_ en_ ec_; (first | subst ea_ | (injection ea_ with ea_; subst ea_)); subst ec_; clear en_))
                  have GB22 := am_ gb22
                  have GG22 := am_ HG22
                  clear gb22 gl22 HG22
                  (first | simp only [add_plain] at hx114_0 | skip)
                  obtain ⟨hx22_0, hf22_0⟩ := Kd.R_celln false HO_5.out (x9_2 : Int) p22 q22
                  replace p22 := eq_true p22
                  replace q22 := eq_true q22
                  have HP24 := Kd.R_putg HO_5.out (x9_2 : Int) true
                  go_wp2_with (first | ((with_reducible refine gate_store (t := 4) (p := 49) rfl ?_); (try (rw [drewN_self wc]; generalize hq_ : World.drewN wc _ = wc; have n0_ := am_ (Kd.R_at hq_ HO_5.out); have n1_ := am_ (Kd.R_at hq_ HO_6.out); have n2_ := am_ (below_at hq_ HB.out); clear hq_ HO_5 HO_6 HB; have HO_5 := n0_; have HO_6 := n1_; have HB := n2_; clear n0_ n1_ n2_; (try (have HP24 := Kd.R_putg HO_5.out (x9_2 : Int) true)))); obtain ⟨hx22_0, hf22_0⟩ := Kd.R_celln false HO_5.out (x9_2 : Int) (of_eq_true p22) (of_eq_true q22); refine store_event (t := 4) (p := 49) (v := ?vo_w25) (w1 := (wc.setCell ⟨go22, (x9_2 : Int).toNat, none⟩ (.bool true))) ?hg ?ho ?hn ?hr ?_; (case ho => rfl); (case hg => rfl); (case hn => rfl); (case hr => first | (go_simp; done) | (go_simp; rfl)); intro w25 hw; have hg : wc.grownBy w25 (some go22) := (by rw [hw]; exact HP24.2); have hp_ : Kd.R Kd.bool 4 w25 w.heap.size (fun _ => True) (.slice (some ⟨go22, 0, none⟩) x5_2.length co23) y117 := (by rw [hw, Ny117.out]; exact HP24.1); clear HP24; have n0_ := am_ (hp_); have n1_ := am_ (Kd.R_over' (v := (.slice (some ⟨go22, 0, none⟩) x5_2.length co23)) (by (with_reducible repeat (first | apply ra_ | apply rn_ | apply re_)); exact HO_6.out) (Kd.R_typed HO_5.out) (by decide) hg); have n2_ := am_ ((by rw [hw]; exact ws_ (HB.out) GB22.out : Below w.heap.size w w25)); clear HO_5 HO_6 HB; have HO_5 := n0_; have HO_6 := n1_; have HB := n2_; clear n0_ n1_ n2_; clear hg hw hp_))
                  repeat (go_quiet (first | ((with_reducible refine gate_store (t := 4) (p := 49) rfl ?_); (try (rw [drewN_self wc]; generalize hq_ : World.drewN wc _ = wc; have n0_ := am_ (Kd.R_at hq_ HO_5.out); have n1_ := am_ (Kd.R_at hq_ HO_6.out); have n2_ := am_ (below_at hq_ HB.out); clear hq_ HO_5 HO_6 HB; have HO_5 := n0_; have HO_6 := n1_; have HB := n2_; clear n0_ n1_ n2_; (try (have HP24 := Kd.R_putg HO_5.out (x9_2 : Int) true)))); obtain ⟨hx22_0, hf22_0⟩ := Kd.R_celln false HO_5.out (x9_2 : Int) (of_eq_true p22) (of_eq_true q22); refine store_event (t := 4) (p := 49) (v := ?vo_w25) (w1 := (wc.setCell ⟨go22, (x9_2 : Int).toNat, none⟩ (.bool true))) ?hg ?ho ?hn ?hr ?_; (case ho => rfl); (case hg => rfl); (case hn => rfl); (case hr => first | (go_simp; done) | (go_simp; rfl)); intro w25 hw; have hg : wc.grownBy w25 (some go22) := (by rw [hw]; exact HP24.2); have hp_ : Kd.R Kd.bool 4 w25 w.heap.size (fun _ => True) (.slice (some ⟨go22, 0, none⟩) x5_2.length co23) y117 := (by rw [hw, Ny117.out]; exact HP24.1); clear HP24; have n0_ := am_ (hp_); have n1_ := am_ (Kd.R_over' (v := (.slice (some ⟨go22, 0, none⟩) x5_2.length co23)) (by (with_reducible repeat (first | apply ra_ | apply rn_ | apply re_)); exact HO_6.out) (Kd.R_typed HO_5.out) (by decide) hg); have n2_ := am_ ((by rw [hw]; exact ws_ (HB.out) GB22.out : Below w.heap.size w w25)); clear HO_5 HO_6 HB; have HO_5 := n0_; have HO_6 := n1_; have HB := n2_; clear n0_ n1_ n2_; clear hg hw hp_)); try go_wp2_with (first | ((with_reducible refine gate_store (t := 4) (p := 49) rfl ?_); (try (rw [drewN_self wc]; generalize hq_ : World.drewN wc _ = wc; have n0_ := am_ (Kd.R_at hq_ HO_5.out); have n1_ := am_ (Kd.R_at hq_ HO_6.out); have n2_ := am_ (below_at hq_ HB.out); clear hq_ HO_5 HO_6 HB; have HO_5 := n0_; have HO_6 := n1_; have HB := n2_; clear n0_ n1_ n2_; (try (have HP24 := Kd.R_putg HO_5.out (x9_2 : Int) true)))); obtain ⟨hx22_0, hf22_0⟩ := Kd.R_celln false HO_5.out (x9_2 : Int) (of_eq_true p22) (of_eq_true q22); refine store_event (t := 4) (p := 49) (v := ?vo_w25) (w1 := (wc.setCell ⟨go22, (x9_2 : Int).toNat, none⟩ (.bool true))) ?hg ?ho ?hn ?hr ?_; (case ho => rfl); (case hg => rfl); (case hn => rfl); (case hr => first | (go_simp; done) | (go_simp; rfl)); intro w25 hw; have hg : wc.grownBy w25 (some go22) := (by rw [hw]; exact HP24.2); have hp_ : Kd.R Kd.bool 4 w25 w.heap.size (fun _ => True) (.slice (some ⟨go22, 0, none⟩) x5_2.length co23) y117 := (by rw [hw, Ny117.out]; exact HP24.1); clear HP24; have n0_ := am_ (hp_); have n1_ := am_ (Kd.R_over' (v := (.slice (some ⟨go22, 0, none⟩) x5_2.length co23)) (by (with_reducible repeat (first | apply ra_ | apply rn_ | apply re_)); exact HO_6.out) (Kd.R_typed HO_5.out) (by decide) hg); have n2_ := am_ ((by rw [hw]; exact ws_ (HB.out) GB22.out : Below w.heap.size w w25)); clear HO_5 HO_6 HB; have HO_5 := n0_; have HO_6 := n1_; have HB := n2_; clear n0_ n1_ n2_; clear hg hw hp_)))
                  go_roundg kj9
                  case measure => have := HK1.out; have := HK2.out; have := HJ9.out; omega
                  case rel => exact ⟨(y117), (x9_2), (wrap64 (x9_2 + 1)), (by first | rfl | (simp; done) | (simp [*]; done)), (by first | rfl | (simp; done) | (simp [*]; done)), H', ⟨by have := HK1.out; have := HK2.out; have := HJ9.out; omega⟩, ⟨by (with_reducible repeat (first | apply ra_ | apply rn_ | apply re_)); exact HO_5.out⟩, ⟨by (with_reducible repeat (first | apply ra_ | apply rn_ | apply re_)); exact HO_6.out⟩, ⟨by repeat (first | (with_reducible first | exact HB.out | apply wa_ | apply wn_ | apply w1_) | exact HB.out)⟩⟩
                 ·rw [if_neg c21] at H
                  have c21b0 : (((rd_T33 l0 x7_1).f0) == ((rd_T33 l1 x9_2).f0) && (((rd_T33 l0 x7_1).f1) == ((rd_T33 l1 x9_2).f1) && (((rd_T33 l0 x7_1).f2) == ((rd_T33 l1 x9_2).f2) && (((rd_T33 l0 x7_1).f3) == ((rd_T33 l1 x9_2).f3))))) = false := by simpa using c21
                  (try (have c21b1 : decide (((rd_T33 l0 x7_1).f0) = ((rd_T33 l1 x9_2).f0) && (((rd_T33 l0 x7_1).f1) == ((rd_T33 l1 x9_2).f1) && (((rd_T33 l0 x7_1).f2) == ((rd_T33 l1 x9_2).f2) && (((rd_T33 l0 x7_1).f3) == ((rd_T33 l1 x9_2).f3))))) = false := by simpa using c21))
                  (try (have c21b2 : (((rd_T33 l0 x7_1).f0) == ((rd_T33 l1 x9_2).f0) && (((rd_T33 l0 x7_1).f1) == ((rd_T33 l1 x9_2).f1) && (((rd_T33 l0 x7_1).f2) == ((rd_T33 l1 x9_2).f2) && (((rd_T33 l0 x7_1).f3) == ((rd_T33 l1 x9_2).f3))))) = false := by simpa using c21))
                  (try (have c21b3 : ¬ (((rd_T33 l0 x7_1).f0) = ((rd_T33 l1 x9_2).f0) && (((rd_T33 l0 x7_1).f1) == ((rd_T33 l1 x9_2).f1) && (((rd_T33 l0 x7_1).f2) == ((rd_T33 l1 x9_2).f2) && (((rd_T33 l0 x7_1).f3) == ((rd_T33 l1 x9_2).f3))))) := by simpa using c21))
                  clear c21
                  have H' := am_ H
                  clear H
                  obtain ⟨Ao26, co26, eo26⟩ := Kd.R_slice HO_5.out
                  subst eo26
                  have p114 : 0 ≤ (x9_2 : Int) := of_decide_eq_true (by first | (with_reducible assumption) | assumption)
                  have q114 : x9_2 < (x5_2.length : Int) := of_decide_eq_true (by first | (with_reducible assumption) | assumption)
                  obtain ⟨ad114, e114, hx114_0⟩ := Kd.at_bool (Kd.R_reads' HO_5.out).2.2 x9_2 p114 q114
                  (try rw [← Nbq15.out] at hx114_0)
                  cases e114
                  replace p114 := eq_true p114
                  replace q114 := eq_true q114
                  have p115 : 0 ≤ (x7_1 : Int) := of_decide_eq_true (by first | (with_reducible assumption) | assumption)
                  have q115 : x7_1 < (l0.length : Int) := of_decide_eq_true (by first | (with_reducible assumption) | assumption)
                  obtain ⟨ad115, e115, hx115_0, hx115_1, hx115_2, hx115_3⟩ := at_T33 HR0.out x7_1 p115 q115
                  cases e115
                  replace hx115_0 := (HB.out.cell (World.block_lt_of_cell? w _ hx115_0)).trans hx115_0
                  replace hx115_1 := (HB.out.cell (World.block_lt_of_cell? w _ hx115_1)).trans hx115_1
                  replace hx115_2 := (HB.out.cell (World.block_lt_of_cell? w _ hx115_2)).trans hx115_2
                  replace hx115_3 := (HB.out.cell (World.block_lt_of_cell? w _ hx115_3)).trans hx115_3
                  replace p115 := eq_true p115
                  replace q115 := eq_true q115
                  have p116 : 0 ≤ (x9_2 : Int) := of_decide_eq_true (by first | (with_reducible assumption) | assumption)
                  have q116 : x9_2 < (l1.length : Int) := of_decide_eq_true (by first | (with_reducible assumption) | assumption)
                  obtain ⟨ad116, e116, hx116_0, hx116_1, hx116_2, hx116_3⟩ := at_T33 HR1.out x9_2 p116 q116
                  cases e116
                  replace hx116_0 := (HB.out.cell (World.block_lt_of_cell? w _ hx116_0)).trans hx116_0
                  replace hx116_1 := (HB.out.cell (World.block_lt_of_cell? w _ hx116_1)).trans hx116_1
                  replace hx116_2 := (HB.out.cell (World.block_lt_of_cell? w _ hx116_2)).trans hx116_2
                  replace hx116_3 := (HB.out.cell (World.block_lt_of_cell? w _ hx116_3)).trans hx116_3
                  replace p116 := eq_true p116
                  replace q116 := eq_true q116
                  go_wp2
                  repeat (go_quiet (fail); try go_wp2)
                  go_roundg kj9
                  case measure => have := HK1.out; have := HK2.out; have := HJ9.out; omega
                  case rel => exact ⟨(x5_2), (x8_2), (wrap64 (x9_2 + 1)), (by first | rfl | (simp; done) | (simp [*]; done)), (by first | rfl | (simp; done) | (simp [*]; done)), H', ⟨by have := HK1.out; have := HK2.out; have := HJ9.out; omega⟩, ⟨by (with_reducible repeat (first | apply ra_ | apply rn_ | apply re_)); exact HO_5.out⟩, ⟨by (with_reducible repeat (first | apply ra_ | apply rn_ | apply re_)); exact HO_6.out⟩, ⟨by repeat (first | (with_reducible first | exact HB.out | apply wa_ | apply wn_ | apply w1_) | exact HB.out)⟩⟩
                ·rw [if_neg c20] at H
                 exact absurd H (by simp)
               ·rw [if_neg c19] at H
                exact absurd H (by simp)
              ·rw [if_neg c18] at H
               exact absurd H (by simp)
            ·rw [if_neg c14] at H
             exact absurd H (by simp)
           ·rw [if_neg c13] at H
            exact absurd H (by simp)
          ·replace c12 := Bool.eq_false_iff.mpr c12
           subst c12
           have H1 : (if x6_1.length < 17592186044416 then (spec_partners.l0 kj9 l0 l1 x5_2 (x6_1 ++ [x8_2]) (wrap64 (x7_1 + 1))) else (none)) = some r := by rw [if_neg (show ¬ (false = true) by decide)] at H; exact H
           clear H
           have H := H1
           clear H1
           by_cases c27 : x6_1.length < 17592186044416
           ·rw [if_pos c27] at H
            have LMc27 := am_ c27
            clear c27
            obtain ⟨y118, hy118⟩ : ∃ y_ : List Int, y_ = (x6_1 ++ [x8_2]) := ⟨_, rfl⟩
            replace H : (spec_partners.l0 kj9 l0 l1 x5_2 y118 (wrap64 (x7_1 + 1))) = some r := by first | (rw [hy118]; with_reducible exact H) | (have H2_ := (q7_ _ _).symm.trans H; rw [hy118]; with_reducible exact H2_) | (have H2_ := (q7_ _ _).symm.trans H; with_reducible exact H2_) | with_reducible exact H | (rw [hy118]; exact H) | exact H
            have Ny118 := am_ hy118
            clear hy118
            have H' := am_ H
            clear H
            go_wp2_with (first | ((with_reducible refine gate_builtin (b := .append) (xs := #[.tmp 50, .tmp 52]) rfl ?_); at_builtin; refine Kd.R_append (Kd.int .i64) (w0 := w) w.heap.size rfl (.tmp 50) (.tmp 52) 28 3 (.int .i64 0) 8 rfl Try.underlying28 info3 rfl (by decide) (by omega) u6 x6_1 x8_2 [.int .i64 x8_2] (fun _ => True) (fun _ => False) rfl rfl ?aP (fun _ hk => hk.elim) ?aF ?aO ?aB ?aS ?aL ?_; (case aP => exact rfl); (case aB => exact (by repeat (first | (with_reducible first | exact HB.out | apply wa_ | apply wn_ | apply w1_) | exact HB.out))); (case aF => exact (fun _ _ => trivial)); (case aO => exact (by (with_reducible repeat (first | apply ra_ | apply rn_ | apply re_)); exact HO_6.out)); (case aS => exact (below_size (by repeat (first | (with_reducible first | exact HB.out | apply wa_ | apply wn_ | apply w1_) | exact HB.out)))); (case aL => have := LMc27.out; omega); intro v119 w28 ho hb hg hat; rw [← Ny118.out] at ho; have n0_ := am_ (Kd.R_over' (by (with_reducible repeat (first | apply ra_ | apply rn_ | apply re_)); exact HO_5.out) (Kd.R_typed (by (with_reducible repeat (first | apply ra_ | apply rn_ | apply re_)); exact HO_6.out)) (by decide) hg); have n1_ := am_ (hb); have n2_ := am_ (ho); clear HO_5 HB HO_6; have HO_5 := n0_; have HB := n1_; have HO120 := n2_; clear n0_ n1_ n2_; clear ho hb hg hat))
            repeat (go_quiet (first | ((with_reducible refine gate_builtin (b := .append) (xs := #[.tmp 50, .tmp 52]) rfl ?_); at_builtin; refine Kd.R_append (Kd.int .i64) (w0 := w) w.heap.size rfl (.tmp 50) (.tmp 52) 28 3 (.int .i64 0) 8 rfl Try.underlying28 info3 rfl (by decide) (by omega) u6 x6_1 x8_2 [.int .i64 x8_2] (fun _ => True) (fun _ => False) rfl rfl ?aP (fun _ hk => hk.elim) ?aF ?aO ?aB ?aS ?aL ?_; (case aP => exact rfl); (case aB => exact (by repeat (first | (with_reducible first | exact HB.out | apply wa_ | apply wn_ | apply w1_) | exact HB.out))); (case aF => exact (fun _ _ => trivial)); (case aO => exact (by (with_reducible repeat (first | apply ra_ | apply rn_ | apply re_)); exact HO_6.out)); (case aS => exact (below_size (by repeat (first | (with_reducible first | exact HB.out | apply wa_ | apply wn_ | apply w1_) | exact HB.out)))); (case aL => have := LMc27.out; omega); intro v119 w28 ho hb hg hat; rw [← Ny118.out] at ho; have n0_ := am_ (Kd.R_over' (by (with_reducible repeat (first | apply ra_ | apply rn_ | apply re_)); exact HO_5.out) (Kd.R_typed (by (with_reducible repeat (first | apply ra_ | apply rn_ | apply re_)); exact HO_6.out)) (by decide) hg); have n1_ := am_ (hb); have n2_ := am_ (ho); clear HO_5 HB HO_6; have HO_5 := n0_; have HB := n1_; have HO120 := n2_; clear n0_ n1_ n2_; clear ho hb hg hat)); try go_wp2_with (first | ((with_reducible refine gate_builtin (b := .append) (xs := #[.tmp 50, .tmp 52]) rfl ?_); at_builtin; refine Kd.R_append (Kd.int .i64) (w0 := w) w.heap.size rfl (.tmp 50) (.tmp 52) 28 3 (.int .i64 0) 8 rfl Try.underlying28 info3 rfl (by decide) (by omega) u6 x6_1 x8_2 [.int .i64 x8_2] (fun _ => True) (fun _ => False) rfl rfl ?aP (fun _ hk => hk.elim) ?aF ?aO ?aB ?aS ?aL ?_; (case aP => exact rfl); (case aB => exact (by repeat (first | (with_reducible first | exact HB.out | apply wa_ | apply wn_ | apply w1_) | exact HB.out))); (case aF => exact (fun _ _ => trivial)); (case aO => exact (by (with_reducible repeat (first | apply ra_ | apply rn_ | apply re_)); exact HO_6.out)); (case aS => exact (below_size (by repeat (first | (with_reducible first | exact HB.out | apply wa_ | apply wn_ | apply w1_) | exact HB.out)))); (case aL => have := LMc27.out; omega); intro v119 w28 ho hb hg hat; rw [← Ny118.out] at ho; have n0_ := am_ (Kd.R_over' (by (with_reducible repeat (first | apply ra_ | apply rn_ | apply re_)); exact HO_5.out) (Kd.R_typed (by (with_reducible repeat (first | apply ra_ | apply rn_ | apply re_)); exact HO_6.out)) (by decide) hg); have n1_ := am_ (hb); have n2_ := am_ (ho); clear HO_5 HB HO_6; have HO_5 := n0_; have HB := n1_; have HO120 := n2_; clear n0_ n1_ n2_; clear ho hb hg hat)))
            go_roundg kj9
            case measure => have := HK1.out; have := HK2.out; have := HJ9.out; omega
            case rel => exact ⟨(x5_2), (y118), (wrap64 (x7_1 + 1)), (by first | rfl | (simp; done) | (simp [*]; done)), H', ⟨by have := HK1.out; have := HK2.out; have := HJ9.out; omega⟩, ⟨by (with_reducible repeat (first | apply ra_ | apply rn_ | apply re_)); exact HO_5.out⟩, ⟨by (with_reducible repeat (first | apply ra_ | apply rn_ | apply re_)); exact HO120.out⟩, ⟨by repeat (first | (with_reducible first | exact HB.out | apply wa_ | apply wn_ | apply w1_) | exact HB.out)⟩⟩
           ·rw [if_neg c27] at H
            exact absurd H (by simp)
     ·rw [if_neg c9] at H
      have c9b0 : decide (x7_1 < (l0.length : Int)) = false := decide_eq_false c9
      clear c9
      obtain rfl := Option.some.inj H
      go_wp2
      repeat (go_quiet (fail); try go_wp2)
      go_ret
      exact ⟨_, by first | rfl | (simp [errW_none, errW_some] <;> rfl) | (simp [*, errW_none, errW_some] <;> rfl), by (with_reducible repeat (first | apply ra_ | apply rn_ | apply re_)); exact HO_6.out, by repeat (first | (with_reducible first | exact HB.out | apply wa_ | apply wn_ | apply w1_) | exact HB.out)⟩
  ·rw [if_neg c4] at H
   exact absurd H (by simp)
 ·rw [if_neg c3] at H
  exact absurd H (by simp)

/-! ### spec_onlyIn: function 53 -/
def spec_onlyIn.l0 : Nat → List (S33) → List (S33) → List Int → Int → Option ((List (S33)))
 | 0, _, _, _, _ => none
 | k + 1, x0, x5, x6, x7 => if x7 < (x6.length : Int) then (if 0 ≤ x7 then (if (rd x6 x7) < 0 then (if x7 < (x0.length : Int) then (if x5.length < 4398046511104 then (spec_onlyIn.l0 k x0 (x5 ++ [(⟨(rd_T33 x0 x7).f0, (rd_T33 x0 x7).f1, (rd_T33 x0 x7).f2, (rd_T33 x0 x7).f3⟩ : S33)]) x6 (wrap64 (x7 + 1))) else (none)) else (none)) else (spec_onlyIn.l0 k x0 x5 x6 (wrap64 (x7 + 1)))) else (none)) else (some x5)
def spec_onlyIn.f (k : Nat) (l0 : List (S33)) (l1 : List (S33)) : Option ((List (S33))) := (spec_partners.f k l0 l1).bind fun t132 => (spec_onlyIn.l0 k l0 (([] : List (S33))) t132 0)
theorem spec_onlyIn.mono_l : ∀ k, (∀ y0 y1 y2 y3, LeO (spec_onlyIn.l0 k y0 y1 y2 y3) (spec_onlyIn.l0 (k + 1) y0 y1 y2 y3))
 | 0 => fun _ _ _ _ r h => by simp [spec_onlyIn.l0] at h
 | k + 1 => by
  have ih0 := spec_onlyIn.mono_l k
  ·intro y0 y1 y2 y3
   unfold spec_onlyIn.l0
   repeat' first
   | (with_reducible exact ih0 _ _ _ _)
   | (with_reducible exact spec_partners.mono _ _ _)
   | (with_reducible exact LeO.refl _)
   | (with_reducible exact LeO.none _)
   | (with_reducible refine LeO.ite ?_ ?_)
   | (with_reducible refine LeO.bind ?_ (fun _ => ?_))
   | exact ih0 _ _ _ _
   | exact spec_partners.mono _ _ _
   | exact LeO.none _
   | refine LeO.ite ?_ ?_
   | refine LeO.bind ?_ (fun _ => ?_)
theorem spec_onlyIn.mono : ∀ a0 a1 k, LeO (spec_onlyIn.f k a0 a1) (spec_onlyIn.f (k + 1) a0 a1) := by
 intro a0 a1 k
 have ih0 := spec_onlyIn.mono_l k
 unfold spec_onlyIn.f
 repeat' first
   | (with_reducible exact ih0 _ _ _ _)
   | (with_reducible exact spec_partners.mono _ _ _)
   | (with_reducible exact LeO.refl _)
   | (with_reducible exact LeO.none _)
   | (with_reducible refine LeO.ite ?_ ?_)
   | (with_reducible refine LeO.bind ?_ (fun _ => ?_))
   | exact ih0 _ _ _ _
   | exact spec_partners.mono _ _ _
   | exact LeO.none _
   | refine LeO.ite ?_ ?_
   | refine LeO.bind ?_ (fun _ => ?_)
set_option maxHeartbeats 8000000 in
set_option maxRecDepth 100000 in
theorem spec_onlyIn.calls (k : Nat) (A0 : Option Addr) (c0 : Nat) (l0 : List (S33)) (A1 : Option Addr) (c1 : Nat) (l1 : List (S33)) (r : List (S33)) (w : World) (hr0 : Kd.C k33 w A0 l0.length l0) (hc0 : l0.length ≤ c0) (hr1 : Kd.C k33 w A1 l1.length l1) (hc1 : l1.length ≤ c1) (h : spec_onlyIn.f k l0 l1 = some r) :
  Calls Try.prog 53 #[.slice A0 l0.length c0, .slice A1 l1.length c1] w fun e w' => ∃ v0_ : Value, e = .returned (v0_) ∧ Kd.R k33 33 w' w.heap.size (fun _ => True) v0_ r ∧ Below w.heap.size w w' := by
 have hu33 := Try.underlying33
 have HR0 := am_ hr0
 have HC0 := am_ hc0
 clear hr0 hc0
 have HR1 := am_ hr1
 have HC1 := am_ hc1
 clear hr1 hc1
 have HB := am_ (Below.refl w.heap.size w)
 have H : ((spec_partners.f k l0 l1).bind fun t132 => (spec_onlyIn.l0 k l0 (([] : List (S33))) t132 0)) = some r := h
 clear h
 obtain ⟨y129, hy129⟩ : ∃ y_ : List (S33), y_ = (([] : List (S33))) := ⟨_, rfl⟩
 replace H : ((spec_partners.f k l0 l1).bind fun t132 => (spec_onlyIn.l0 k l0 y129 t132 0)) = some r := by first | (rw [hy129]; with_reducible exact H) | (have H2_ := (q7_ _ _).symm.trans H; rw [hy129]; with_reducible exact H2_) | (have H2_ := (q7_ _ _).symm.trans H; with_reducible exact H2_) | with_reducible exact H | (rw [hy129]; exact H) | exact H
 have Ny129 := am_ hy129
 clear hy129
 replace H := Option.bind_eq_some_iff.mp H
 obtain ⟨t132, A30, H⟩ := H
 replace H : (spec_onlyIn.l0 k l0 y129 t132 0) = some r := H
 have A3 := am_ A30
 clear A30
 have H' := am_ H
 clear H
 go_enter Try.func53, Try.ntmps53
 go_wp2_with (first | ((with_reducible refine gate_dst (N := 8) rfl ?_); refine Kd.R_lit k33 _ 33 ?hg (N := 8) ?hd (xs := ([] : List (S33))) (inner := []) (ok := fun _ => True) (okp := fun _ => True) ?hr ?hp (fun _ hk => hk) trivial (Below.refl _ _) (Nat.le_refl _) (by simp) ?_; (case hd => rfl); (case hg => rfl); (case hr => first | (go_simp; done) | (go_simp; rfl)); (case hp => exact (Reps.none _ _)); intro v130 w4 ho5 hb hg_ hnew_; clear hg_ hnew_; (first | rw [← Ny129.out] at ho5 | (simp only [Int.reduceToNat] at ho5; rw [← Ny129.out] at ho5)); have n0_ := am_ (Kd.R_lower ho5 (below_size (by repeat (first | (with_reducible first | exact HB.out | apply wa_ | apply wn_ | apply w1_) | exact HB.out)))); have n1_ := am_ (below_step (by repeat (first | (with_reducible first | exact HB.out | apply wa_ | apply wn_ | apply w1_) | exact HB.out)) hb); clear HB; have HO131 := n0_; have HB := n1_; clear n0_ n1_; clear hb ho5) | ((with_reducible refine gate_callee (f := 50) rfl ?_); refine goesL_ (some 11) rfl rfl Try.func50 (by kernel_rfl) rfl #[.slice A0 l0.length c0, .slice A1 l1.length c1] rfl (by (try simp only [q4_, q5_, q6_]); first | done | rfl | (simp only [List.length_drop, List.length_take]; rfl)) ?_; (with_reducible refine (spec_partners.calls k _ _ l0 _ _ l1 t132 _ ?side1 ?side2 ?side3 ?side4 A3.out).mono ?_); (case side1 => repeat (first | exact (Kd.C_below HR0.out HB.out) | (with_reducible refine Kd.C_alloc ?_ _) | (with_reducible refine Kd.C_drewN ?_ _) | (with_reducible refine Kd.C_drew ?_))); (case side2 => exact HC0.out); (case side3 => repeat (first | exact (Kd.C_below HR1.out HB.out) | (with_reducible refine Kd.C_alloc ?_ _) | (with_reducible refine Kd.C_drewN ?_ _) | (with_reducible refine Kd.C_drew ?_))); (case side4 => exact HC1.out); rintro e w6 ⟨v133, rfl, ho0, hb⟩; refine ⟨_, rfl, ?_⟩; have n0_ := am_ (Kd.R_below (by (with_reducible repeat (first | apply ra_ | apply rn_ | apply re_)); exact HO131.out) hb); have n1_ := am_ (Kd.R_lower ho0 (below_size (by repeat (first | (with_reducible first | exact HB.out | apply wa_ | apply wn_ | apply w1_) | exact HB.out)))); have n2_ := am_ (below_step (by repeat (first | (with_reducible first | exact HB.out | apply wa_ | apply wn_ | apply w1_) | exact HB.out)) hb); clear HO131 HB; have HO131 := n0_; have HO134 := n1_; have HB := n2_; clear n0_ n1_ n2_; (try clear hb); (try clear hb2); (try clear hk); (try clear hi); (try clear ho0)))
 go_loopg [5, 7] k (fun kq v5 v7 w' => ∃ (x5_1 : List (S33)) (x7_1 : Int), v7 = .int .i64 x7_1 ∧ Aside0 (spec_onlyIn.l0 kq l0 x5_1 t132 x7_1 = some r) ∧ Aside0 (kq ≤ k) ∧ Aside0 (Kd.R k33 33 w' w.heap.size (fun _ => True) v5 x5_1) ∧ Aside0 (Kd.R (Kd.int .i64) 3 w' w.heap.size (fun _ => True) v133 t132) ∧ Aside0 (Below w.heap.size w w'))
 case atStart => exact ⟨(y129), (0), (by first | rfl | (simp; done) | (simp [*]; done)), H', ⟨Nat.le_refl _⟩, ⟨by (with_reducible repeat (first | apply ra_ | apply rn_ | apply re_)); exact HO131.out⟩, ⟨by (with_reducible repeat (first | apply ra_ | apply rn_ | apply re_)); exact HO134.out⟩, ⟨by repeat (first | (with_reducible first | exact HB.out | apply wa_ | apply wn_ | apply w1_) | exact HB.out)⟩⟩
 case round =>
  clear H'
  try clear c1; try clear p2; try clear c5
  obtain ⟨x5_1, x7_1, rfl, HA, HK1, HO_5, HO_6, HB⟩ := hrel
  cases gk with
  | zero => exact absurd HA.out (by simp [spec_onlyIn.l0])
  | succ k1 =>
   have H := HA.out
   clear HA
   simp only [spec_onlyIn.l0] at H
   by_cases c7 : x7_1 < (t132.length : Int)
   ·rw [if_pos c7] at H
    have c7b0 : decide (x7_1 < (t132.length : Int)) = true := decide_eq_true c7
    clear c7
    by_cases c8 : 0 ≤ x7_1
    ·rw [if_pos c8] at H
     have c8b0 : decide (0 ≤ x7_1) = true := decide_eq_true c8
     clear c8
     by_cases c9 : (rd t132 x7_1) < 0
     ·rw [if_pos c9] at H
      have c9b0 : decide ((rd t132 x7_1) < 0) = true := decide_eq_true c9
      clear c9
      by_cases c10 : x7_1 < (l0.length : Int)
      ·rw [if_pos c10] at H
       have c10b0 : decide (x7_1 < (l0.length : Int)) = true := decide_eq_true c10
       clear c10
       by_cases c11 : x5_1.length < 4398046511104
       ·rw [if_pos c11] at H
        have LMc11 := am_ c11
        clear c11
        obtain ⟨y137, hy137⟩ : ∃ y_ : List (S33), y_ = (x5_1 ++ [(⟨(rd_T33 l0 x7_1).f0, (rd_T33 l0 x7_1).f1, (rd_T33 l0 x7_1).f2, (rd_T33 l0 x7_1).f3⟩ : S33)]) := ⟨_, rfl⟩
        replace H : (spec_onlyIn.l0 k1 l0 y137 t132 (wrap64 (x7_1 + 1))) = some r := by first | (rw [hy137]; with_reducible exact H) | (have H2_ := (q7_ _ _).symm.trans H; rw [hy137]; with_reducible exact H2_) | (have H2_ := (q7_ _ _).symm.trans H; with_reducible exact H2_) | with_reducible exact H | (rw [hy137]; exact H) | exact H
        have Ny137 := am_ hy137
        clear hy137
        have H' := am_ H
        clear H
        obtain ⟨Ao12, co12, eo12⟩ := Kd.R_slice HO_6.out
        subst eo12
        have p135 : 0 ≤ (x7_1 : Int) := of_decide_eq_true (by first | (with_reducible assumption) | assumption)
        have q135 : x7_1 < (t132.length : Int) := of_decide_eq_true (by first | (with_reducible assumption) | assumption)
        obtain ⟨ad135, e135, hx135_0⟩ := Kd.at_int (Kd.R_reads' HO_6.out).2.2 x7_1 p135 q135
        cases e135
        replace p135 := eq_true p135
        replace q135 := eq_true q135
        have p136 : 0 ≤ (x7_1 : Int) := of_decide_eq_true (by first | (with_reducible assumption) | assumption)
        have q136 : x7_1 < (l0.length : Int) := of_decide_eq_true (by first | (with_reducible assumption) | assumption)
        obtain ⟨ad136, e136, hx136_0, hx136_1, hx136_2, hx136_3⟩ := at_T33 HR0.out x7_1 p136 q136
        cases e136
        replace hx136_0 := (HB.out.cell (World.block_lt_of_cell? w _ hx136_0)).trans hx136_0
        replace hx136_1 := (HB.out.cell (World.block_lt_of_cell? w _ hx136_1)).trans hx136_1
        replace hx136_2 := (HB.out.cell (World.block_lt_of_cell? w _ hx136_2)).trans hx136_2
        replace hx136_3 := (HB.out.cell (World.block_lt_of_cell? w _ hx136_3)).trans hx136_3
        replace p136 := eq_true p136
        replace q136 := eq_true q136
        go_wp2_with (first | ((with_reducible refine gate_builtin (b := .append) (xs := #[.tmp 23, .tmp 28]) rfl ?_); at_builtin; refine Kd.R_append k33 (w0 := w) w.heap.size rfl (.tmp 23) (.tmp 28) 23 33 (.agg #[(.int .i64 0), (.int .i64 0), (.int .i64 0), (.int .i64 0)]) 32 rfl Try.underlying23 info33 rfl (by decide) (by omega) u5 x5_1 (⟨(rd_T33 l0 x7_1).f0, (rd_T33 l0 x7_1).f1, (rd_T33 l0 x7_1).f2, (rd_T33 l0 x7_1).f3⟩ : S33) [.int .i64 ((rd_T33 l0 x7_1).f0), .int .i64 ((rd_T33 l0 x7_1).f1), .int .i64 ((rd_T33 l0 x7_1).f2), .int .i64 ((rd_T33 l0 x7_1).f3)] (fun _ => True) (fun _ => False) rfl rfl ?aP (fun _ hk => hk.elim) ?aF ?aO ?aB ?aS ?aL ?_; (case aP => exact k33_mkM _ _ _ (⟨(rd_T33 l0 x7_1).f0, (rd_T33 l0 x7_1).f1, (rd_T33 l0 x7_1).f2, (rd_T33 l0 x7_1).f3⟩ : S33)); (case aB => exact (by repeat (first | (with_reducible first | exact HB.out | apply wa_ | apply wn_ | apply w1_) | exact HB.out))); (case aF => exact (fun _ _ => trivial)); (case aO => exact (by (with_reducible repeat (first | apply ra_ | apply rn_ | apply re_)); exact HO_5.out)); (case aS => exact (below_size (by repeat (first | (with_reducible first | exact HB.out | apply wa_ | apply wn_ | apply w1_) | exact HB.out)))); (case aL => have := LMc11.out; omega); intro v138 w13 ho hb hg hat; rw [← Ny137.out] at ho; have n0_ := am_ (Kd.R_over' (by (with_reducible repeat (first | apply ra_ | apply rn_ | apply re_)); exact HO_6.out) (Kd.R_typed (by (with_reducible repeat (first | apply ra_ | apply rn_ | apply re_)); exact HO_5.out)) (by decide) hg); have n1_ := am_ (hb); have n2_ := am_ (ho); clear HO_6 HB HO_5; have HO_6 := n0_; have HB := n1_; have HO139 := n2_; clear n0_ n1_ n2_; clear ho hb hg hat))
        go_roundg k1
        case measure => have := HK1.out; omega
        case rel => exact ⟨(y137), (wrap64 (x7_1 + 1)), (by first | rfl | (simp; done) | (simp [*]; done)), H', ⟨by have := HK1.out; omega⟩, ⟨by (with_reducible repeat (first | apply ra_ | apply rn_ | apply re_)); exact HO139.out⟩, ⟨by (with_reducible repeat (first | apply ra_ | apply rn_ | apply re_)); exact HO_6.out⟩, ⟨by repeat (first | (with_reducible first | exact HB.out | apply wa_ | apply wn_ | apply w1_) | exact HB.out)⟩⟩
       ·rw [if_neg c11] at H
        exact absurd H (by simp)
      ·rw [if_neg c10] at H
       exact absurd H (by simp)
     ·rw [if_neg c9] at H
      have c9b0 : decide ((rd t132 x7_1) < 0) = false := decide_eq_false c9
      clear c9
      have H' := am_ H
      clear H
      obtain ⟨Ao14, co14, eo14⟩ := Kd.R_slice HO_6.out
      subst eo14
      have p135 : 0 ≤ (x7_1 : Int) := of_decide_eq_true (by first | (with_reducible assumption) | assumption)
      have q135 : x7_1 < (t132.length : Int) := of_decide_eq_true (by first | (with_reducible assumption) | assumption)
      obtain ⟨ad135, e135, hx135_0⟩ := Kd.at_int (Kd.R_reads' HO_6.out).2.2 x7_1 p135 q135
      cases e135
      replace p135 := eq_true p135
      replace q135 := eq_true q135
      go_wp2
      go_roundg k1
      case measure => have := HK1.out; omega
      case rel => exact ⟨(x5_1), (wrap64 (x7_1 + 1)), (by first | rfl | (simp; done) | (simp [*]; done)), H', ⟨by have := HK1.out; omega⟩, ⟨by (with_reducible repeat (first | apply ra_ | apply rn_ | apply re_)); exact HO_5.out⟩, ⟨by (with_reducible repeat (first | apply ra_ | apply rn_ | apply re_)); exact HO_6.out⟩, ⟨by repeat (first | (with_reducible first | exact HB.out | apply wa_ | apply wn_ | apply w1_) | exact HB.out)⟩⟩
    ·rw [if_neg c8] at H
     exact absurd H (by simp)
   ·rw [if_neg c7] at H
    have c7b0 : decide (x7_1 < (t132.length : Int)) = false := decide_eq_false c7
    clear c7
    obtain rfl := Option.some.inj H
    obtain ⟨Ao15, co15, eo15⟩ := Kd.R_slice HO_6.out
    subst eo15
    go_wp2
    go_ret
    exact ⟨_, by first | rfl | (simp [errW_none, errW_some] <;> rfl) | (simp [*, errW_none, errW_some] <;> rfl), by (with_reducible repeat (first | apply ra_ | apply rn_ | apply re_)); exact HO_5.out, by repeat (first | (with_reducible first | exact HB.out | apply wa_ | apply wn_ | apply w1_) | exact HB.out)⟩

/-! ### spec_OnlyIn: function 28 -/
def spec_OnlyIn.f (k : Nat) (l0 : List (S33)) (l1 : List (S33)) : Option ((List (S33))) := (spec_validEntries.f k l0).bind fun t140 => (if t140 = true then ((spec_validEntries.f k l1).bind fun t141 => (if t141 = true then ((spec_onlyIn.f k l0 l1).bind fun t142 => (some t142)) else (some ([] : List (S33))))) else (some ([] : List (S33))))
theorem spec_OnlyIn.mono : ∀ a0 a1 k, LeO (spec_OnlyIn.f k a0 a1) (spec_OnlyIn.f (k + 1) a0 a1) := by
 intro a0 a1 k
 unfold spec_OnlyIn.f
 repeat' first
   | (with_reducible exact spec_onlyIn.mono _ _ _)
   | (with_reducible exact spec_validEntries.mono _ _)
   | (with_reducible exact LeO.refl _)
   | (with_reducible exact LeO.none _)
   | (with_reducible refine LeO.ite ?_ ?_)
   | (with_reducible refine LeO.bind ?_ (fun _ => ?_))
   | exact spec_onlyIn.mono _ _ _
   | exact spec_validEntries.mono _ _
   | exact LeO.none _
   | refine LeO.ite ?_ ?_
   | refine LeO.bind ?_ (fun _ => ?_)
set_option maxHeartbeats 8000000 in
set_option maxRecDepth 100000 in
theorem spec_OnlyIn.calls (k : Nat) (A0 : Option Addr) (c0 : Nat) (l0 : List (S33)) (A1 : Option Addr) (c1 : Nat) (l1 : List (S33)) (r : List (S33)) (w : World) (hr0 : Kd.C k33 w A0 l0.length l0) (hc0 : l0.length ≤ c0) (hr1 : Kd.C k33 w A1 l1.length l1) (hc1 : l1.length ≤ c1) (h : spec_OnlyIn.f k l0 l1 = some r) :
  Calls Try.prog 28 #[.slice A0 l0.length c0, .slice A1 l1.length c1] w fun e w' => ∃ v0_ : Value, e = .returned (v0_) ∧ Kd.R k33 33 w' w.heap.size (fun _ => True) v0_ r ∧ Below w.heap.size w w' := by
 have HR0 := am_ hr0
 have HC0 := am_ hc0
 clear hr0 hc0
 have HR1 := am_ hr1
 have HC1 := am_ hc1
 clear hr1 hc1
 have HB := am_ (Below.refl w.heap.size w)
 have H : ((spec_validEntries.f k l0).bind fun t140 => (if t140 = true then ((spec_validEntries.f k l1).bind fun t141 => (if t141 = true then ((spec_onlyIn.f k l0 l1).bind fun t142 => (some t142)) else (some ([] : List (S33))))) else (some ([] : List (S33))))) = some r := h
 clear h
 replace H := Option.bind_eq_some_iff.mp H
 obtain ⟨t140, A30, H⟩ := H
 replace H : (if t140 = true then ((spec_validEntries.f k l1).bind fun t141 => (if t141 = true then ((spec_onlyIn.f k l0 l1).bind fun t142 => (some t142)) else (some ([] : List (S33))))) else (some ([] : List (S33)))) = some r := H
 have A3 := am_ A30
 clear A30
 by_cases c4 : t140 = true
 ·subst c4
  have H1 : ((spec_validEntries.f k l1).bind fun t141 => (if t141 = true then ((spec_onlyIn.f k l0 l1).bind fun t142 => (some t142)) else (some ([] : List (S33))))) = some r := by rw [if_pos rfl] at H; exact H
  clear H
  have H := H1
  clear H1
  replace H := Option.bind_eq_some_iff.mp H
  obtain ⟨t141, A50, H⟩ := H
  replace H : (if t141 = true then ((spec_onlyIn.f k l0 l1).bind fun t142 => (some t142)) else (some ([] : List (S33)))) = some r := H
  have A5 := am_ A50
  clear A50
  by_cases c6 : t141 = true
  ·subst c6
   have H1 : ((spec_onlyIn.f k l0 l1).bind fun t142 => (some t142)) = some r := by rw [if_pos rfl] at H; exact H
   clear H
   have H := H1
   clear H1
   replace H := Option.bind_eq_some_iff.mp H
   obtain ⟨t142, A70, H⟩ := H
   replace H : (some t142) = some r := H
   have A7 := am_ A70
   clear A70
   obtain rfl := Option.some.inj H
   go_enter Try.func28, Try.ntmps28
   go_wp2_with (first | ((with_reducible refine gate_callee (f := 40) rfl ?_); refine goesL_ (some 6) rfl rfl Try.func40 (by kernel_rfl) rfl #[.slice A0 l0.length c0] rfl (by (try simp only [q4_, q5_, q6_]); first | done | rfl | (simp only [List.length_drop, List.length_take]; rfl)) ?_; (with_reducible refine (spec_validEntries.calls k _ _ l0 true _ ?side1 ?side2 A3.out).mono ?_); (case side1 => repeat (first | exact HR0.out | (with_reducible refine Kd.C_alloc ?_ _) | (with_reducible refine Kd.C_drewN ?_ _) | (with_reducible refine Kd.C_drew ?_))); (case side2 => exact HC0.out); rintro e w8 ⟨rfl, hb⟩; refine ⟨_, rfl, ?_⟩; have n0_ := am_ (below_step (by repeat (first | (with_reducible first | exact HB.out | apply wa_ | apply wn_ | apply w1_) | exact HB.out)) hb); clear HB; have HB := n0_; clear n0_; (try clear hb); (try clear hb2); (try clear hk); (try clear hi)) | (go_at_call 40; (with_reducible refine (spec_validEntries.calls k _ _ l1 true _ ?side1 ?side2 A5.out).mono ?_); (case side1 => repeat (first | exact (Kd.C_below HR1.out HB.out) | (with_reducible refine Kd.C_alloc ?_ _) | (with_reducible refine Kd.C_drewN ?_ _) | (with_reducible refine Kd.C_drew ?_))); (case side2 => exact HC1.out); rintro e w9 ⟨rfl, hb⟩; have n0_ := am_ (below_step (by repeat (first | (with_reducible first | exact HB.out | apply wa_ | apply wn_ | apply w1_) | exact HB.out)) hb); clear HB; have HB := n0_; clear n0_; (try clear hb); (try clear hb2); (try clear hk); (try clear hi)) | ((with_reducible refine gate_callee (f := 53) rfl ?_); refine goesL_ (some 15) rfl rfl Try.func53 (by kernel_rfl) rfl #[.slice A0 l0.length c0, .slice A1 l1.length c1] rfl (by (try simp only [q4_, q5_, q6_]); first | done | rfl | (simp only [List.length_drop, List.length_take]; rfl)) ?_; (with_reducible refine (spec_onlyIn.calls k _ _ l0 _ _ l1 t142 _ ?side1 ?side2 ?side3 ?side4 A7.out).mono ?_); (case side1 => repeat (first | exact (Kd.C_below HR0.out HB.out) | (with_reducible refine Kd.C_alloc ?_ _) | (with_reducible refine Kd.C_drewN ?_ _) | (with_reducible refine Kd.C_drew ?_))); (case side2 => exact HC0.out); (case side3 => repeat (first | exact (Kd.C_below HR1.out HB.out) | (with_reducible refine Kd.C_alloc ?_ _) | (with_reducible refine Kd.C_drewN ?_ _) | (with_reducible refine Kd.C_drew ?_))); (case side4 => exact HC1.out); rintro e w10 ⟨v143, rfl, ho0, hb⟩; refine ⟨_, rfl, ?_⟩; have n0_ := am_ (Kd.R_lower ho0 (below_size (by repeat (first | (with_reducible first | exact HB.out | apply wa_ | apply wn_ | apply w1_) | exact HB.out)))); have n1_ := am_ (below_step (by repeat (first | (with_reducible first | exact HB.out | apply wa_ | apply wn_ | apply w1_) | exact HB.out)) hb); clear HB; have HO144 := n0_; have HB := n1_; clear n0_ n1_; (try clear hb); (try clear hb2); (try clear hk); (try clear hi); (try clear ho0)))
   go_ret
   exact ⟨_, by first | rfl | (simp [errW_none, errW_some] <;> rfl) | (simp [*, errW_none, errW_some] <;> rfl), by (with_reducible repeat (first | apply ra_ | apply rn_ | apply re_)); exact HO144.out, by repeat (first | (with_reducible first | exact HB.out | apply wa_ | apply wn_ | apply w1_) | exact HB.out)⟩
  ·replace c6 := Bool.eq_false_iff.mpr c6
   subst c6
   have H1 : (some ([] : List (S33))) = some r := by rw [if_neg (show ¬ (false = true) by decide)] at H; exact H
   clear H
   have H := H1
   clear H1
   obtain rfl := Option.some.inj H
   go_enter Try.func28, Try.ntmps28
   go_wp2_with (first | ((with_reducible refine gate_callee (f := 40) rfl ?_); refine goesL_ (some 6) rfl rfl Try.func40 (by kernel_rfl) rfl #[.slice A0 l0.length c0] rfl (by (try simp only [q4_, q5_, q6_]); first | done | rfl | (simp only [List.length_drop, List.length_take]; rfl)) ?_; (with_reducible refine (spec_validEntries.calls k _ _ l0 true _ ?side1 ?side2 A3.out).mono ?_); (case side1 => repeat (first | exact HR0.out | (with_reducible refine Kd.C_alloc ?_ _) | (with_reducible refine Kd.C_drewN ?_ _) | (with_reducible refine Kd.C_drew ?_))); (case side2 => exact HC0.out); rintro e w11 ⟨rfl, hb⟩; refine ⟨_, rfl, ?_⟩; have n0_ := am_ (below_step (by repeat (first | (with_reducible first | exact HB.out | apply wa_ | apply wn_ | apply w1_) | exact HB.out)) hb); clear HB; have HB := n0_; clear n0_; (try clear hb); (try clear hb2); (try clear hk); (try clear hi)) | (go_at_call 40; (with_reducible refine (spec_validEntries.calls k _ _ l1 false _ ?side1 ?side2 A5.out).mono ?_); (case side1 => repeat (first | exact (Kd.C_below HR1.out HB.out) | (with_reducible refine Kd.C_alloc ?_ _) | (with_reducible refine Kd.C_drewN ?_ _) | (with_reducible refine Kd.C_drew ?_))); (case side2 => exact HC1.out); rintro e w12 ⟨rfl, hb⟩; have n0_ := am_ (below_step (by repeat (first | (with_reducible first | exact HB.out | apply wa_ | apply wn_ | apply w1_) | exact HB.out)) hb); clear HB; have HB := n0_; clear n0_; (try clear hb); (try clear hb2); (try clear hk); (try clear hi)))
   go_ret
   exact ⟨_, by first | rfl | (simp [errW_none, errW_some] <;> rfl) | (simp [*, errW_none, errW_some] <;> rfl), by first | exact Kd.R_nil _ _ _ _ _ | exact Kd.N_nil _ _ _ _ _ | exact Kd.V_nil _ _ _ _ _ | exact Kd.Q_nil _ _ _ _ _ | exact Kd.S_nil _ _ _ _ _, by repeat (first | (with_reducible first | exact HB.out | apply wa_ | apply wn_ | apply w1_) | exact HB.out)⟩
 ·replace c4 := Bool.eq_false_iff.mpr c4
  subst c4
  have H1 : (some ([] : List (S33))) = some r := by rw [if_neg (show ¬ (false = true) by decide)] at H; exact H
  clear H
  have H := H1
  clear H1
  obtain rfl := Option.some.inj H
  go_enter Try.func28, Try.ntmps28
  go_wp2_with (first | ((with_reducible refine gate_callee (f := 40) rfl ?_); refine goesL_ (some 6) rfl rfl Try.func40 (by kernel_rfl) rfl #[.slice A0 l0.length c0] rfl (by (try simp only [q4_, q5_, q6_]); first | done | rfl | (simp only [List.length_drop, List.length_take]; rfl)) ?_; (with_reducible refine (spec_validEntries.calls k _ _ l0 false _ ?side1 ?side2 A3.out).mono ?_); (case side1 => repeat (first | exact HR0.out | (with_reducible refine Kd.C_alloc ?_ _) | (with_reducible refine Kd.C_drewN ?_ _) | (with_reducible refine Kd.C_drew ?_))); (case side2 => exact HC0.out); rintro e w13 ⟨rfl, hb⟩; refine ⟨_, rfl, ?_⟩; have n0_ := am_ (below_step (by repeat (first | (with_reducible first | exact HB.out | apply wa_ | apply wn_ | apply w1_) | exact HB.out)) hb); clear HB; have HB := n0_; clear n0_; (try clear hb); (try clear hb2); (try clear hk); (try clear hi)))
  go_ret
  exact ⟨_, by first | rfl | (simp [errW_none, errW_some] <;> rfl) | (simp [*, errW_none, errW_some] <;> rfl), by first | exact Kd.R_nil _ _ _ _ _ | exact Kd.N_nil _ _ _ _ _ | exact Kd.V_nil _ _ _ _ _ | exact Kd.Q_nil _ _ _ _ _ | exact Kd.S_nil _ _ _ _ _, by repeat (first | (with_reducible first | exact HB.out | apply wa_ | apply wn_ | apply w1_) | exact HB.out)⟩

end Go.Proofs.Ytgapjelooefofaa.PFnOnlyIn

-- Written for this claim (gp.py).
import Derived.Test.YtgapjelooefofaaMFnOnlyInx0
import Derived.Test.YtgapjelooefofaaMFnOnlyInx1
import Derived.Test.YtgapjelooefofaaMFnOnlyInx2
namespace Go.Proofs.Ytgapjelooefofaa.PFnOnlyIn
open Go.RowKit Go.Proofs.YtgapjelooefofaaW.PrintWords Go.Proofs.YtgapjelooefofaaW.PrintLast Go.Proofs.YtgapjelooefofaaW.PrintMore
attribute [local go_sem] max2_int min2_int max_two min_two max_three min_three max_four min_four   -- for this text's walks alone
open Go.Proofs.YtgapjelooefofaaW.PrintWords renaming keep_drewN → kn_, keep_drew → kd_, keep_alloc → ka_, keep_far → kf_, keep_size → kz_, blk_cell → bc_
open Go.Proofs.YtgapjelooefofaaW.PrintWords.KeepBut renaming set_ → k1_
open List renaming map_toArray → q4_, map_cons → q5_, map_nil → q6_
open Option renaming bind_some → q7_
open Go.Proofs.YtgapjelooefofaaW.PrintWords renaming blk_drewN → bn_, blk_alloc → bl_, blk_drew → bd_, blk_below → bb_, blk_far → bf_, pw_below_drewN → wn_, below_drew1 → w1_, below_alloc → wa_, below_set → ws_
open Go.Proofs.YtgapjelooefofaaW.PrintWords.Kd renaming R_alloc → ra_, R_drewN → rn_, R_drew → re_
open Go.Proofs.YtgapjelooefofaaW.PrintWords.Aside0 renaming mk → am_
set_option linter.unusedVariables false
set_option linter.unusedSimpArgs false

attribute [local go_sem high] eqA33
/-! ### impl_MatchBooks: function 22 -/
mutual
def impl_MatchBooks.j0 : Nat → List (S33) → List (S33) → Bool → Option (List Int)
 | 0, _, _, _ => none
 | k + 1, x0, x1, x19 => if x19 = true then (some ([] : List Int)) else (if 0 ≤ (x1.length : Int) then (if ((x1.length : Int) : Int).toNat ≤ 281474976710656 then (impl_MatchBooks.l0 k x1 (List.replicate ((x1.length : Int) : Int).toNat false) ([] : List Int) x0 (x0.length : Int) 0) else (none)) else (none))
def impl_MatchBooks.l0 : Nat → List (S33) → List Bool → List Int → List (S33) → Int → Int → Option (List Int)
 | 0, _, _, _, _, _, _ => none
 | k + 1, x1, x5, x6, x23, x24, x25 => if x25 < x24 then (if 0 ≤ x25 then (if x25 < (x23.length : Int) then (impl_MatchBooks.l1 k x1 x5 x6 (-1) x23 x24 x25 x1 (x1.length : Int) 0 ((rd_T33 x23 x25).f0) ((rd_T33 x23 x25).f1) ((rd_T33 x23 x25).f2) ((rd_T33 x23 x25).f3)) else (none)) else (none)) else (some x6)
def impl_MatchBooks.l1 : Nat → List (S33) → List Bool → List Int → Int → List (S33) → Int → Int → List (S33) → Int → Int → Int → Int → Int → Int → Option (List Int)
 | 0, _, _, _, _, _, _, _, _, _, _, _, _, _, _ => none
 | k + 1, x1, x5, x6, x9, x23, x24, x25, x29, x30, x31, x152000, x152001, x152002, x152003 => if x31 < x30 then (if 0 ≤ x31 then (if x31 < (x29.length : Int) then (if x31 < (x5.length : Int) then (if rdOf false x5 x31 = true then (impl_MatchBooks.l1 k x1 x5 x6 x9 x23 x24 x25 x29 x30 (wrap64 (x31 + 1)) x152000 x152001 x152002 x152003) else (if (((rd_T33 x29 x31).f0) == x152000 && (((rd_T33 x29 x31).f1) == x152001 && (((rd_T33 x29 x31).f2) == x152002 && (((rd_T33 x29 x31).f3) == x152003)))) = true then (if x6.length < 17592186044416 then (impl_MatchBooks.l0 k x1 (x5.set (x31 : Int).toNat true) (x6 ++ [x31]) x23 x24 (wrap64 (x25 + 1))) else (none)) else (impl_MatchBooks.l1 k x1 x5 x6 x9 x23 x24 x25 x29 x30 (wrap64 (x31 + 1)) x152000 x152001 x152002 x152003))) else (none)) else (none)) else (none)) else (if x6.length < 17592186044416 then (impl_MatchBooks.l0 k x1 x5 (x6 ++ [x9]) x23 x24 (wrap64 (x25 + 1))) else (none))
end
def impl_MatchBooks.f (k : Nat) (l0 : List (S33)) (l1 : List (S33)) : Option (List Int) := (impl_ValidEntries.f k l0).bind fun t145 => (if t145 = true then ((impl_ValidEntries.f k l1).bind fun t146 => (impl_MatchBooks.j0 k l0 l1 (!t146))) else (impl_MatchBooks.j0 k l0 l1 true))
theorem impl_MatchBooks.mono_l : ∀ k, (∀ y0 y1 y2, LeO (impl_MatchBooks.j0 k y0 y1 y2) (impl_MatchBooks.j0 (k + 1) y0 y1 y2)) ∧ (∀ y0 y1 y2 y3 y4 y5, LeO (impl_MatchBooks.l0 k y0 y1 y2 y3 y4 y5) (impl_MatchBooks.l0 (k + 1) y0 y1 y2 y3 y4 y5)) ∧ (∀ y0 y1 y2 y3 y4 y5 y6 y7 y8 y9 y10 y11 y12 y13, LeO (impl_MatchBooks.l1 k y0 y1 y2 y3 y4 y5 y6 y7 y8 y9 y10 y11 y12 y13) (impl_MatchBooks.l1 (k + 1) y0 y1 y2 y3 y4 y5 y6 y7 y8 y9 y10 y11 y12 y13))
 | 0 => ⟨fun _ _ _ r h => by simp [impl_MatchBooks.j0] at h, fun _ _ _ _ _ _ r h => by simp [impl_MatchBooks.l0] at h, fun _ _ _ _ _ _ _ _ _ _ _ _ _ _ r h => by simp [impl_MatchBooks.l1] at h⟩
 | k + 1 => by
  obtain ⟨ih0, ih1, ih2⟩ := impl_MatchBooks.mono_l k
  refine ⟨?_, ?_, ?_⟩
  ·intro y0 y1 y2
   unfold impl_MatchBooks.j0
   repeat' first
   | (with_reducible exact ih0 _ _ _)
   | (with_reducible exact ih1 _ _ _ _ _ _)
   | (with_reducible exact ih2 _ _ _ _ _ _ _ _ _ _ _ _ _ _)
   | (with_reducible exact impl_ValidEntries.mono _ _)
   | (with_reducible exact LeO.refl _)
   | (with_reducible exact LeO.none _)
   | (with_reducible refine LeO.ite ?_ ?_)
   | (with_reducible refine LeO.bind ?_ (fun _ => ?_))
   | exact ih0 _ _ _
   | exact ih1 _ _ _ _ _ _
   | exact ih2 _ _ _ _ _ _ _ _ _ _ _ _ _ _
   | exact impl_ValidEntries.mono _ _
   | exact LeO.none _
   | refine LeO.ite ?_ ?_
   | refine LeO.bind ?_ (fun _ => ?_)
  ·intro y0 y1 y2 y3 y4 y5
   unfold impl_MatchBooks.l0
   repeat' first
   | (with_reducible exact ih0 _ _ _)
   | (with_reducible exact ih1 _ _ _ _ _ _)
   | (with_reducible exact ih2 _ _ _ _ _ _ _ _ _ _ _ _ _ _)
   | (with_reducible exact impl_ValidEntries.mono _ _)
   | (with_reducible exact LeO.refl _)
   | (with_reducible exact LeO.none _)
   | (with_reducible refine LeO.ite ?_ ?_)
   | (with_reducible refine LeO.bind ?_ (fun _ => ?_))
   | exact ih0 _ _ _
   | exact ih1 _ _ _ _ _ _
   | exact ih2 _ _ _ _ _ _ _ _ _ _ _ _ _ _
   | exact impl_ValidEntries.mono _ _
   | exact LeO.none _
   | refine LeO.ite ?_ ?_
   | refine LeO.bind ?_ (fun _ => ?_)
  ·intro y0 y1 y2 y3 y4 y5 y6 y7 y8 y9 y10 y11 y12 y13
   unfold impl_MatchBooks.l1
   repeat' first
   | (with_reducible exact ih0 _ _ _)
   | (with_reducible exact ih1 _ _ _ _ _ _)
   | (with_reducible exact ih2 _ _ _ _ _ _ _ _ _ _ _ _ _ _)
   | (with_reducible exact impl_ValidEntries.mono _ _)
   | (with_reducible exact LeO.refl _)
   | (with_reducible exact LeO.none _)
   | (with_reducible refine LeO.ite ?_ ?_)
   | (with_reducible refine LeO.bind ?_ (fun _ => ?_))
   | exact ih0 _ _ _
   | exact ih1 _ _ _ _ _ _
   | exact ih2 _ _ _ _ _ _ _ _ _ _ _ _ _ _
   | exact impl_ValidEntries.mono _ _
   | exact LeO.none _
   | refine LeO.ite ?_ ?_
   | refine LeO.bind ?_ (fun _ => ?_)
theorem impl_MatchBooks.mono : ∀ a0 a1 k, LeO (impl_MatchBooks.f k a0 a1) (impl_MatchBooks.f (k + 1) a0 a1) := by
 intro a0 a1 k
 obtain ⟨ih0, ih1, ih2⟩ := impl_MatchBooks.mono_l k
 unfold impl_MatchBooks.f
 repeat' first
   | (with_reducible exact ih0 _ _ _)
   | (with_reducible exact ih1 _ _ _ _ _ _)
   | (with_reducible exact ih2 _ _ _ _ _ _ _ _ _ _ _ _ _ _)
   | (with_reducible exact impl_ValidEntries.mono _ _)
   | (with_reducible exact LeO.refl _)
   | (with_reducible exact LeO.none _)
   | (with_reducible refine LeO.ite ?_ ?_)
   | (with_reducible refine LeO.bind ?_ (fun _ => ?_))
   | exact ih0 _ _ _
   | exact ih1 _ _ _ _ _ _
   | exact ih2 _ _ _ _ _ _ _ _ _ _ _ _ _ _
   | exact impl_ValidEntries.mono _ _
   | exact LeO.none _
   | refine LeO.ite ?_ ?_
   | refine LeO.bind ?_ (fun _ => ?_)
set_option maxHeartbeats 8000000 in
set_option maxRecDepth 100000 in
theorem impl_MatchBooks.calls (k : Nat) (A0 : Option Addr) (c0 : Nat) (l0 : List (S33)) (A1 : Option Addr) (c1 : Nat) (l1 : List (S33)) (r : List Int) (w : World) (hr0 : Kd.C k33 w A0 l0.length l0) (hc0 : l0.length ≤ c0) (hr1 : Kd.C k33 w A1 l1.length l1) (hc1 : l1.length ≤ c1) (h : impl_MatchBooks.f k l0 l1 = some r) :
  Calls Try.prog 22 #[.slice A0 l0.length c0, .slice A1 l1.length c1] w fun e w' => ∃ v0_ : Value, e = .returned (v0_) ∧ Kd.R (Kd.int .i64) 3 w' w.heap.size (fun _ => True) v0_ r ∧ Below w.heap.size w w' := by
 have hu33 := Try.underlying33
 have HR0 := am_ hr0
 have HC0 := am_ hc0
 clear hr0 hc0
 have HR1 := am_ hr1
 have HC1 := am_ hc1
 clear hr1 hc1
 have HB := am_ (Below.refl w.heap.size w)
 have H : ((impl_ValidEntries.f k l0).bind fun t145 => (if t145 = true then ((impl_ValidEntries.f k l1).bind fun t146 => (impl_MatchBooks.j0 k l0 l1 (!t146))) else (impl_MatchBooks.j0 k l0 l1 true))) = some r := h
 clear h
 have HC3 := am_ H
 clear H
 go_enter Try.func22, Try.ntmps22
 go_upto_region 1 with (fail)
 go_cut [19] (fun v19 wc => ∃ (kq : Nat) (x19_2 : Bool), v19 = .bool x19_2 ∧ Aside0 (impl_MatchBooks.j0 kq l0 l1 x19_2 = some r) ∧ Aside0 (kq ≤ k) ∧ Aside0 (Below w.heap.size w wc))
 case first =>
  have H := HC3.out
  clear HC3
  replace H := Option.bind_eq_some_iff.mp H
  obtain ⟨t145, A40, H⟩ := H
  replace H : (if t145 = true then ((impl_ValidEntries.f k l1).bind fun t146 => (impl_MatchBooks.j0 k l0 l1 (!t146))) else (impl_MatchBooks.j0 k l0 l1 true)) = some r := H
  have A4 := am_ A40
  clear A40
  by_cases c5 : t145 = true
  ·subst c5
   have H1 : ((impl_ValidEntries.f k l1).bind fun t146 => (impl_MatchBooks.j0 k l0 l1 (!t146))) = some r := by rw [if_pos rfl] at H; exact H
   clear H
   have H := H1
   clear H1
   replace H := Option.bind_eq_some_iff.mp H
   obtain ⟨t146, A60, H⟩ := H
   replace H : (impl_MatchBooks.j0 k l0 l1 (!t146)) = some r := H
   have A6 := am_ A60
   clear A60
   have H' := am_ H
   clear H
   go_wp2_with (first | ((with_reducible refine gate_callee (f := 15) rfl ?_); refine goesL_ (some 13) rfl rfl Try.func15 (by kernel_rfl) rfl #[.slice A0 l0.length c0] rfl (by (try simp only [q4_, q5_, q6_]); first | done | rfl | (simp only [List.length_drop, List.length_take]; rfl)) ?_; (with_reducible refine (impl_ValidEntries.calls k _ _ l0 true _ ?side1 ?side2 A4.out).mono ?_); (case side1 => repeat (first | exact (Kd.C_below HR0.out HB.out) | (with_reducible refine Kd.C_alloc ?_ _) | (with_reducible refine Kd.C_drewN ?_ _) | (with_reducible refine Kd.C_drew ?_))); (case side2 => exact HC0.out); rintro e w7 ⟨rfl, hb⟩; refine ⟨_, rfl, ?_⟩; have n0_ := am_ (below_step (by repeat (first | (with_reducible first | exact HB.out | apply wa_ | apply wn_ | apply w1_) | exact HB.out)) hb); clear HB; have HB := n0_; clear n0_; (try clear hb); (try clear hb2); (try clear hk); (try clear hi)) | (go_at_call 15; (with_reducible refine (impl_ValidEntries.calls k _ _ l1 t146 _ ?side1 ?side2 A6.out).mono ?_); (case side1 => repeat (first | exact (Kd.C_below HR1.out HB.out) | (with_reducible refine Kd.C_alloc ?_ _) | (with_reducible refine Kd.C_drewN ?_ _) | (with_reducible refine Kd.C_drew ?_))); (case side2 => exact HC1.out); rintro e w8 ⟨rfl, hb⟩; have n0_ := am_ (below_step (by repeat (first | (with_reducible first | exact HB.out | apply wa_ | apply wn_ | apply w1_) | exact HB.out)) hb); clear HB; have HB := n0_; clear n0_; (try clear hb); (try clear hb2); (try clear hk); (try clear hi)))
   go_meet
   case rel => exact ⟨_, (!t146), (by first | rfl | (simp; done) | (simp [*]; done)), H', ⟨by first | omega | exact Nat.le_refl _⟩, ⟨by repeat (first | (with_reducible first | exact HB.out | apply wa_ | apply wn_ | apply w1_) | exact HB.out)⟩⟩
  ·replace c5 := Bool.eq_false_iff.mpr c5
   subst c5
   have H1 : (impl_MatchBooks.j0 k l0 l1 true) = some r := by rw [if_neg (show ¬ (false = true) by decide)] at H; exact H
   clear H
   have H := H1
   clear H1
   have H' := am_ H
   clear H
   go_wp2_with (first | ((with_reducible refine gate_callee (f := 15) rfl ?_); refine goesL_ (some 13) rfl rfl Try.func15 (by kernel_rfl) rfl #[.slice A0 l0.length c0] rfl (by (try simp only [q4_, q5_, q6_]); first | done | rfl | (simp only [List.length_drop, List.length_take]; rfl)) ?_; (with_reducible refine (impl_ValidEntries.calls k _ _ l0 false _ ?side1 ?side2 A4.out).mono ?_); (case side1 => repeat (first | exact (Kd.C_below HR0.out HB.out) | (with_reducible refine Kd.C_alloc ?_ _) | (with_reducible refine Kd.C_drewN ?_ _) | (with_reducible refine Kd.C_drew ?_))); (case side2 => exact HC0.out); rintro e w9 ⟨rfl, hb⟩; refine ⟨_, rfl, ?_⟩; have n0_ := am_ (below_step (by repeat (first | (with_reducible first | exact HB.out | apply wa_ | apply wn_ | apply w1_) | exact HB.out)) hb); clear HB; have HB := n0_; clear n0_; (try clear hb); (try clear hb2); (try clear hk); (try clear hi)))
   go_meet
   case rel => exact ⟨_, (true), (by first | rfl | (simp; done) | (simp [*]; done)), H', ⟨by first | omega | exact Nat.le_refl _⟩, ⟨by repeat (first | (with_reducible first | exact HB.out | apply wa_ | apply wn_ | apply w1_) | exact HB.out)⟩⟩
 case rest =>
  clear HC3
  try clear c1; try clear c2; try clear p2; try clear c5
  obtain ⟨kq, x19_2, rfl, HA, HJ2, HB⟩ := hcut
  cases kq with
  | zero => exact absurd HA.out (by simp [impl_MatchBooks.j0])
  | succ kj2 =>
   have H := HA.out
   clear HA
   simp only [impl_MatchBooks.j0] at H
   by_cases c10 : x19_2 = true
   ·subst c10
    have H1 : (some ([] : List Int)) = some r := by rw [if_pos rfl] at H; exact H
    clear H
    have H := H1
    clear H1
    obtain rfl := Option.some.inj H
    go_wp2
    go_ret
    exact ⟨_, by first | rfl | (simp [errW_none, errW_some] <;> rfl) | (simp [*, errW_none, errW_some] <;> rfl), by first | exact Kd.R_nil _ _ _ _ _ | exact Kd.N_nil _ _ _ _ _ | exact Kd.V_nil _ _ _ _ _ | exact Kd.Q_nil _ _ _ _ _ | exact Kd.S_nil _ _ _ _ _, by repeat (first | (with_reducible first | exact HB.out | apply wa_ | apply wn_ | apply w1_) | exact HB.out)⟩
   ·replace c10 := Bool.eq_false_iff.mpr c10
    subst c10
    have H1 : (if 0 ≤ (l1.length : Int) then (if ((l1.length : Int) : Int).toNat ≤ 281474976710656 then (impl_MatchBooks.l0 kj2 l1 (List.replicate ((l1.length : Int) : Int).toNat false) ([] : List Int) l0 (l0.length : Int) 0) else (none)) else (none)) = some r := by rw [if_neg (show ¬ (false = true) by decide)] at H; exact H
    clear H
    have H := H1
    clear H1
    by_cases c11 : 0 ≤ (l1.length : Int)
    ·rw [if_pos c11] at H
     have c11b0 := eq_true c11
     have c11b1 : decide (0 ≤ (l1.length : Int)) = true := decide_eq_true c11
     clear c11
     by_cases c12 : ((l1.length : Int) : Int).toNat ≤ 281474976710656
     ·rw [if_pos c12] at H
      have c12b0 := eq_true c12
      have c12b1 : decide (((l1.length : Int) : Int).toNat ≤ 281474976710656) = true := decide_eq_true c12
      clear c12
      obtain ⟨y147, hy147⟩ : ∃ y_ : List Bool, y_ = (List.replicate ((l1.length : Int) : Int).toNat false) := ⟨_, rfl⟩
      replace H : (impl_MatchBooks.l0 kj2 l1 y147 ([] : List Int) l0 (l0.length : Int) 0) = some r := by first | (rw [hy147]; with_reducible exact H) | (have H2_ := (q7_ _ _).symm.trans H; rw [hy147]; with_reducible exact H2_) | (have H2_ := (q7_ _ _).symm.trans H; with_reducible exact H2_) | with_reducible exact H | (rw [hy147]; exact H) | exact H
      have Ny147 := am_ hy147
      clear hy147
      have H' := am_ H
      clear H
      go_wp2_with (first | ((with_reducible refine gate_dst (N := 22) rfl ?_); refine Kd.R_make Kd.bool _ 4 rfl (N := 22) rfl 61 _ _ rfl (l1.length : Int) rfl rfl Try.underlying61 (.bool false) 1 info4 rfl (by decide) (by omega) false (ok := fun _ => True) (okp := fun _ => True) rfl (fun _ hk => hk) trivial (of_decide_eq_true (by first | (with_reducible assumption) | assumption)) (Nat.le_trans (Nat.mul_le_mul_right _ (of_decide_eq_true (by first | (with_reducible assumption) | assumption) : (l1.length : Int).toNat ≤ 281474976710656)) (by omega)) (Below.refl _ _) (Nat.le_refl _) ?_; intro v148 w13 ho14 hb hg_ hnew_; clear hg_ hnew_; (first | rw [← Ny147.out] at ho14 | (simp only [Int.reduceToNat] at ho14; rw [← Ny147.out] at ho14)); have n0_ := am_ (Kd.R_lower ho14 (below_size (by repeat (first | (with_reducible first | exact HB.out | apply wa_ | apply wn_ | apply w1_) | exact HB.out)))); have n1_ := am_ (below_step (by repeat (first | (with_reducible first | exact HB.out | apply wa_ | apply wn_ | apply w1_) | exact HB.out)) hb); clear HB; have HO149 := n0_; have HB := n1_; clear n0_ n1_; clear hb ho14))
      go_loopg [6, 25] kj2 (fun kq v6 v25 w' => ∃ (x5_2 : List Bool) (x6_2 : List Int) (x25_2 : Int), v25 = .int .i64 x25_2 ∧ Aside0 (impl_MatchBooks.l0 kq l1 x5_2 x6_2 l0 (l0.length : Int) x25_2 = some r) ∧ Aside0 (kq ≤ kj2) ∧ Aside0 (Kd.R Kd.bool 4 w' w.heap.size (fun _ => True) v148 x5_2) ∧ Aside0 (Kd.R (Kd.int .i64) 3 w' w.heap.size (fun _ => True) v6 x6_2) ∧ Aside0 (Below w.heap.size w w'))
      case atStart => exact ⟨(y147), (([] : List Int)), (0), (by first | rfl | (simp; done) | (simp [*]; done)), H', ⟨Nat.le_refl _⟩, ⟨by (with_reducible repeat (first | apply ra_ | apply rn_ | apply re_)); exact HO149.out⟩, ⟨by first | exact Kd.R_nil _ _ _ _ _ | exact Kd.N_nil _ _ _ _ _ | exact Kd.V_nil _ _ _ _ _ | exact Kd.Q_nil _ _ _ _ _ | exact Kd.S_nil _ _ _ _ _⟩, ⟨by repeat (first | (with_reducible first | exact HB.out | apply wa_ | apply wn_ | apply w1_) | exact HB.out)⟩⟩
      case round =>
       clear H'
       try clear c1; try clear c2; try clear p2; try clear c5; try clear c10; try clear c11; try clear c11b0; try clear c11b1; try clear c12; try clear c12b0; try clear c12b1; try clear p2
       obtain ⟨x5_2, x6_2, x25_2, rfl, HA, HK2, HO_5, HO_6, HB⟩ := hrel
       cases gk with
       | zero => exact absurd HA.out (by simp [impl_MatchBooks.l0])
       | succ k2 =>
        have H := HA.out
        clear HA
        simp only [impl_MatchBooks.l0] at H
        by_cases c15 : x25_2 < (l0.length : Int)
        ·rw [if_pos c15] at H
         have c15b0 : decide (x25_2 < (l0.length : Int)) = true := decide_eq_true c15
         clear c15
         by_cases c16 : 0 ≤ x25_2
         ·rw [if_pos c16] at H
          have c16b0 : decide (0 ≤ x25_2) = true := decide_eq_true c16
          clear c16
          by_cases c17 : x25_2 < (l0.length : Int)
          ·rw [if_pos c17] at H
           have c17b0 : decide (x25_2 < (l0.length : Int)) = true := decide_eq_true c17
           clear c17
           have H' := am_ H
           clear H
           have p150 : 0 ≤ (x25_2 : Int) := of_decide_eq_true (by first | (with_reducible assumption) | assumption)
           have q150 : x25_2 < (l0.length : Int) := of_decide_eq_true (by first | (with_reducible assumption) | assumption)
           obtain ⟨ad150, e150, hx150_0, hx150_1, hx150_2, hx150_3⟩ := at_T33 HR0.out x25_2 p150 q150
           cases e150
           replace hx150_0 := (HB.out.cell (World.block_lt_of_cell? w _ hx150_0)).trans hx150_0
           replace hx150_1 := (HB.out.cell (World.block_lt_of_cell? w _ hx150_1)).trans hx150_1
           replace hx150_2 := (HB.out.cell (World.block_lt_of_cell? w _ hx150_2)).trans hx150_2
           replace hx150_3 := (HB.out.cell (World.block_lt_of_cell? w _ hx150_3)).trans hx150_3
           replace p150 := eq_true p150
           replace q150 := eq_true q150
           go_wp2_with (first | ((with_reducible refine gate_dst (N := 8) rfl ?_); refine box_event ?hg (N := 8) ?hd (cs := #[.int .i64 0, .int .i64 0, .int .i64 0, .int .i64 0]) (t := 33) ?hr ?_; (case hd => rfl); (case hg => rfl); (case hr => first | (go_simp; done) | (go_simp; rfl)); intro gb151 hg w18 hbox hb; have n0_ := am_ (Kd.R_below (by (with_reducible repeat (first | apply ra_ | apply rn_ | apply re_)); exact HO_5.out) hb); have n1_ := am_ (Kd.R_below (by (with_reducible repeat (first | apply ra_ | apply rn_ | apply re_)); exact HO_6.out) hb); have n2_ := am_ (below_step (by repeat (first | (with_reducible first | exact HB.out | apply wa_ | apply wn_ | apply w1_) | exact HB.out)) hb); have n3_ := am_ (hbox); have n4_ := am_ ((by rw [hg]; exact (below_size (by repeat (first | (with_reducible first | exact HB.out | apply wa_ | apply wn_ | apply w1_) | exact HB.out))) : w.heap.size ≤ gb151)); have n5_ := am_ ((by rw [hg]; exact (below_size (by repeat (first | (with_reducible first | exact HB.out | apply wa_ | apply wn_ | apply w1_) | exact HB.out))) : w.heap.size ≤ gb151)); clear HO_5 HO_6 HB; have HO_5 := n0_; have HO_6 := n1_; have HB := n2_; have BK151 := n3_; have GW151 := n4_; have GE151 := n5_; clear n0_ n1_ n2_ n3_ n4_ n5_; clear hb hbox hg; have hcz19_0 : w18.cell? ⟨gb151, 0, none⟩ = some (.int .i64 0) := (bc_ BK151.out 0).trans rfl; have hcz19_1 : w18.cell? ⟨gb151, 1, none⟩ = some (.int .i64 0) := (bc_ BK151.out 1).trans rfl; have hcz19_2 : w18.cell? ⟨gb151, 2, none⟩ = some (.int .i64 0) := (bc_ BK151.out 2).trans rfl; have hcz19_3 : w18.cell? ⟨gb151, 3, none⟩ = some (.int .i64 0) := (bc_ BK151.out 3).trans rfl; have hfz19_0 := blk_frozen BK151.out 0; have hfz19_1 := blk_frozen BK151.out 1; have hfz19_2 := blk_frozen BK151.out 2; have hfz19_3 := blk_frozen BK151.out 3))
           go_loopg [9, 31] k2 (fun kq v9 v31 w' => ∃ (x5_3 : List Bool) (x9_3 : Int) (x31_3 : Int), v9 = .int .i64 x9_3 ∧ v31 = .int .i64 x31_3 ∧ Aside0 (impl_MatchBooks.l1 kq l1 x5_3 x6_2 x9_3 l0 (l0.length : Int) x25_2 l1 (l1.length : Int) x31_3 ((rd_T33 l0 x25_2).f0) ((rd_T33 l0 x25_2).f1) ((rd_T33 l0 x25_2).f2) ((rd_T33 l0 x25_2).f3) = some r) ∧ Aside0 (kq ≤ k2) ∧ Aside0 (Kd.R Kd.bool 4 w' w.heap.size (fun _ => True) v148 x5_3) ∧ Aside0 (Kd.R (Kd.int .i64) 3 w' w.heap.size (fun _ => True) u6 x6_2) ∧ Aside0 (w'.heap[gb151]? = some (.cells #[.int .i64 ((rd_T33 l0 x25_2).f0), .int .i64 ((rd_T33 l0 x25_2).f1), .int .i64 ((rd_T33 l0 x25_2).f2), .int .i64 ((rd_T33 l0 x25_2).f3)] 33 (0, 0))) ∧ Aside0 (Below w.heap.size w w'))
           case atStart => exact ⟨(x5_2), ((-1)), (0), (by first | rfl | (simp; done) | (simp [*]; done)), (by first | rfl | (simp; done) | (simp [*]; done)), H', ⟨Nat.le_refl _⟩, ⟨by (with_reducible repeat (first | apply ra_ | apply rn_ | apply re_)); exact Kd.R_mono (Kd.R_far (p := ⟨gb151, 3, none⟩) (Kd.R_far (p := ⟨gb151, 2, none⟩) (Kd.R_far (p := ⟨gb151, 1, none⟩) (Kd.R_far (p := ⟨gb151, 0, none⟩) (Kd.R_types HO_5.out BK151.out (by decide)) (fun _ hk => hk.2) (.int .i64 ((rd_T33 l0 x25_2).f0))) (fun _ hk => hk.2) (.int .i64 ((rd_T33 l0 x25_2).f1))) (fun _ hk => hk.2) (.int .i64 ((rd_T33 l0 x25_2).f2))) (fun _ hk => hk.2) (.int .i64 ((rd_T33 l0 x25_2).f3))) (fun _ hk => trivial)⟩, ⟨by (with_reducible repeat (first | apply ra_ | apply rn_ | apply re_)); exact Kd.R_mono (Kd.R_far (p := ⟨gb151, 3, none⟩) (Kd.R_far (p := ⟨gb151, 2, none⟩) (Kd.R_far (p := ⟨gb151, 1, none⟩) (Kd.R_far (p := ⟨gb151, 0, none⟩) (Kd.R_types HO_6.out BK151.out (by decide)) (fun _ hk => hk.2) (.int .i64 ((rd_T33 l0 x25_2).f0))) (fun _ hk => hk.2) (.int .i64 ((rd_T33 l0 x25_2).f1))) (fun _ hk => hk.2) (.int .i64 ((rd_T33 l0 x25_2).f2))) (fun _ hk => hk.2) (.int .i64 ((rd_T33 l0 x25_2).f3))) (fun _ hk => trivial)⟩, ⟨by (with_reducible repeat (first | refine bn_ ?_ _ | refine bd_ ?_ | refine bl_ ?_ _)); refine blk_put (cs := #[.int .i64 ((rd_T33 l0 x25_2).f0), .int .i64 ((rd_T33 l0 x25_2).f1), .int .i64 ((rd_T33 l0 x25_2).f2), .int .i64 0]) ?_ 3 _ rfl; (with_reducible repeat (first | refine bn_ ?_ _ | refine bd_ ?_ | refine bl_ ?_ _)); refine blk_put (cs := #[.int .i64 ((rd_T33 l0 x25_2).f0), .int .i64 ((rd_T33 l0 x25_2).f1), .int .i64 0, .int .i64 0]) ?_ 2 _ rfl; (with_reducible repeat (first | refine bn_ ?_ _ | refine bd_ ?_ | refine bl_ ?_ _)); refine blk_put (cs := #[.int .i64 ((rd_T33 l0 x25_2).f0), .int .i64 0, .int .i64 0, .int .i64 0]) ?_ 1 _ rfl; (with_reducible repeat (first | refine bn_ ?_ _ | refine bd_ ?_ | refine bl_ ?_ _)); refine blk_put (cs := #[.int .i64 0, .int .i64 0, .int .i64 0, .int .i64 0]) ?_ 0 _ rfl; (with_reducible repeat (first | refine bn_ ?_ _ | refine bd_ ?_ | refine bl_ ?_ _)); exact BK151.out⟩, ⟨by repeat (first | (with_reducible first | exact HB.out | apply wa_ | apply wn_ | apply w1_ | refine ws_ ?_ GE151.out) | exact HB.out)⟩⟩
           case round =>
            clear H'
            try clear c1; try clear p1; try clear q1; try clear hx1; try clear c2; try clear p2; try clear c5; try clear c10; try clear c11; try clear c11b0; try clear c11b1; try clear c12; try clear c12b0; try clear c12b1; try clear c15; try clear c15b0; try clear p15; try clear q15; try clear hx15; try clear c16; try clear c16b0; try clear c17; try clear c17b0; try clear hcz19_0; try clear hcz19_1; try clear hcz19_2; try clear hcz19_3; try clear hfz19_0; try clear hfz19_1; try clear hfz19_2; try clear hfz19_3; try clear hx150_0; try clear hx150_1; try clear hx150_2; try clear hx150_3; try clear p150; try clear p2; try clear q150
            obtain ⟨x5_3, x9_3, x31_3, rfl, rfl, HA, HK3, HO_5, HO_6, BK151, HB⟩ := hrel
            cases gk with
            | zero => exact absurd HA.out (by simp [impl_MatchBooks.l1])
            | succ k3 =>
             have H := HA.out
             clear HA
             simp only [impl_MatchBooks.l1] at H
             by_cases c20 : x31_3 < (l1.length : Int)
             ·rw [if_pos c20] at H
              have c20b0 : decide (x31_3 < (l1.length : Int)) = true := decide_eq_true c20
              clear c20
              by_cases c21 : 0 ≤ x31_3
              ·rw [if_pos c21] at H
               have c21b0 : decide (0 ≤ x31_3) = true := decide_eq_true c21
               clear c21
               by_cases c22 : x31_3 < (l1.length : Int)
               ·rw [if_pos c22] at H
                have c22b0 : decide (x31_3 < (l1.length : Int)) = true := decide_eq_true c22
                clear c22
                by_cases c23 : x31_3 < (x5_3.length : Int)
                ·rw [if_pos c23] at H
                 have c23b0 : decide (x31_3 < (x5_3.length : Int)) = true := decide_eq_true c23
                 clear c23
                 obtain ⟨bq24, hbq24⟩ : ∃ b_ : Bool, b_ = (rdOf false x5_3 x31_3) := ⟨_, rfl⟩
                 replace H : (if bq24 = true then (impl_MatchBooks.l1 k3 l1 x5_3 x6_2 x9_3 l0 (l0.length : Int) x25_2 l1 (l1.length : Int) (wrap64 (x31_3 + 1)) ((rd_T33 l0 x25_2).f0) ((rd_T33 l0 x25_2).f1) ((rd_T33 l0 x25_2).f2) ((rd_T33 l0 x25_2).f3)) else (if (((rd_T33 l1 x31_3).f0) == ((rd_T33 l0 x25_2).f0) && (((rd_T33 l1 x31_3).f1) == ((rd_T33 l0 x25_2).f1) && (((rd_T33 l1 x31_3).f2) == ((rd_T33 l0 x25_2).f2) && (((rd_T33 l1 x31_3).f3) == ((rd_T33 l0 x25_2).f3))))) = true then (if x6_2.length < 17592186044416 then (impl_MatchBooks.l0 k3 l1 (x5_3.set (x31_3 : Int).toNat true) (x6_2 ++ [x31_3]) l0 (l0.length : Int) (wrap64 (x25_2 + 1))) else (none)) else (impl_MatchBooks.l1 k3 l1 x5_3 x6_2 x9_3 l0 (l0.length : Int) x25_2 l1 (l1.length : Int) (wrap64 (x31_3 + 1)) ((rd_T33 l0 x25_2).f0) ((rd_T33 l0 x25_2).f1) ((rd_T33 l0 x25_2).f2) ((rd_T33 l0 x25_2).f3)))) = some r := by rw [← hbq24] at H; exact H
                 have Nbq24 := am_ hbq24
                 clear hbq24
                 by_cases c25 : bq24 = true
                 ·subst c25
                  have H1 : (impl_MatchBooks.l1 k3 l1 x5_3 x6_2 x9_3 l0 (l0.length : Int) x25_2 l1 (l1.length : Int) (wrap64 (x31_3 + 1)) ((rd_T33 l0 x25_2).f0) ((rd_T33 l0 x25_2).f1) ((rd_T33 l0 x25_2).f2) ((rd_T33 l0 x25_2).f3)) = some r := by rw [if_pos rfl] at H; exact H
                  clear H
                  have H := H1
                  clear H1
                  have H' := am_ H
                  clear H
                  have p152 : 0 ≤ (x31_3 : Int) := of_decide_eq_true (by first | (with_reducible assumption) | assumption)
                  have q152 : x31_3 < (l1.length : Int) := of_decide_eq_true (by first | (with_reducible assumption) | assumption)
                  obtain ⟨ad152, e152, hx152_0, hx152_1, hx152_2, hx152_3⟩ := at_T33 HR1.out x31_3 p152 q152
                  cases e152
                  replace hx152_0 := (HB.out.cell (World.block_lt_of_cell? w _ hx152_0)).trans hx152_0
                  replace hx152_1 := (HB.out.cell (World.block_lt_of_cell? w _ hx152_1)).trans hx152_1
                  replace hx152_2 := (HB.out.cell (World.block_lt_of_cell? w _ hx152_2)).trans hx152_2
                  replace hx152_3 := (HB.out.cell (World.block_lt_of_cell? w _ hx152_3)).trans hx152_3
                  replace p152 := eq_true p152
                  replace q152 := eq_true q152
                  go_wp2_with (first | ((with_reducible refine gate_dst (N := 11) rfl ?_); refine box_event ?hg (N := 11) ?hd (cs := #[.int .i64 0, .int .i64 0, .int .i64 0, .int .i64 0]) (t := 33) ?hr ?_; (case hd => rfl); (case hg => rfl); (case hr => first | (go_simp; done) | (go_simp; rfl)); intro gb153 hg w26 hbox hb; have n0_ := am_ (Kd.R_below (by (with_reducible repeat (first | apply ra_ | apply rn_ | apply re_)); exact HO_5.out) hb); have n1_ := am_ (Kd.R_below (by (with_reducible repeat (first | apply ra_ | apply rn_ | apply re_)); exact HO_6.out) hb); have n2_ := am_ (bb_ (g := gb151) (o := .cells #[.int .i64 ((rd_T33 l0 x25_2).f0), .int .i64 ((rd_T33 l0 x25_2).f1), .int .i64 ((rd_T33 l0 x25_2).f2), .int .i64 ((rd_T33 l0 x25_2).f3)] 33 (0, 0)) (by (with_reducible repeat (first | refine bn_ ?_ _ | refine bd_ ?_ | refine bl_ ?_ _)); exact BK151.out) hb); have n3_ := am_ (below_step (by repeat (first | (with_reducible first | exact HB.out | apply wa_ | apply wn_ | apply w1_ | refine ws_ ?_ GE151.out) | exact HB.out)) hb); have n4_ := am_ (hbox); have n5_ := am_ ((by rw [hg]; exact (below_size (by repeat (first | (with_reducible first | exact HB.out | apply wa_ | apply wn_ | apply w1_ | refine ws_ ?_ GE151.out) | exact HB.out))) : w.heap.size ≤ gb153)); have n6_ := am_ ((by rw [hg]; exact (below_size (by repeat (first | (with_reducible first | exact HB.out | apply wa_ | apply wn_ | apply w1_ | refine ws_ ?_ GE151.out) | exact HB.out))) : w.heap.size ≤ gb153)); have n7_ := am_ ((by rw [hg]; exact Nat.ne_of_lt (blk_lt (g := gb151) (o := .cells #[.int .i64 ((rd_T33 l0 x25_2).f0), .int .i64 ((rd_T33 l0 x25_2).f1), .int .i64 ((rd_T33 l0 x25_2).f2), .int .i64 ((rd_T33 l0 x25_2).f3)] 33 (0, 0)) (by (with_reducible repeat (first | refine bn_ ?_ _ | refine bd_ ?_ | refine bl_ ?_ _)); exact BK151.out)) : gb151 ≠ gb153)); have n8_ := am_ ((by rw [hg]; exact Nat.ne_of_gt (blk_lt (g := gb151) (o := .cells #[.int .i64 ((rd_T33 l0 x25_2).f0), .int .i64 ((rd_T33 l0 x25_2).f1), .int .i64 ((rd_T33 l0 x25_2).f2), .int .i64 ((rd_T33 l0 x25_2).f3)] 33 (0, 0)) (by (with_reducible repeat (first | refine bn_ ?_ _ | refine bd_ ?_ | refine bl_ ?_ _)); exact BK151.out)) : gb153 ≠ gb151)); clear HO_5 HO_6 BK151 HB; have HO_5 := n0_; have HO_6 := n1_; have BK151 := n2_; have HB := n3_; have BK153 := n4_; have GW153 := n5_; have GE153 := n6_; have NB151_153 := n7_; have NB153_151 := n8_; clear n0_ n1_ n2_ n3_ n4_ n5_ n6_ n7_ n8_; clear hb hbox hg; have hnb27 := NB153_151.out; have hnc27 := NB151_153.out; have hcz28_0 : w26.cell? ⟨gb153, 0, none⟩ = some (.int .i64 0) := (bc_ BK153.out 0).trans rfl; have hcz28_1 : w26.cell? ⟨gb153, 1, none⟩ = some (.int .i64 0) := (bc_ BK153.out 1).trans rfl; have hcz28_2 : w26.cell? ⟨gb153, 2, none⟩ = some (.int .i64 0) := (bc_ BK153.out 2).trans rfl; have hcz28_3 : w26.cell? ⟨gb153, 3, none⟩ = some (.int .i64 0) := (bc_ BK153.out 3).trans rfl; have hfz28_0 := blk_frozen BK153.out 0; have hfz28_1 := blk_frozen BK153.out 1; have hfz28_2 := blk_frozen BK153.out 2; have hfz28_3 := blk_frozen BK153.out 3; obtain ⟨Ao29, co29, eo29⟩ := Kd.R_slice HO_5.out; subst eo29; have p154 : 0 ≤ (x31_3 : Int) := of_decide_eq_true (by first | (with_reducible assumption) | assumption); have q154 : x31_3 < (x5_3.length : Int) := of_decide_eq_true (by first | (with_reducible assumption) | assumption); obtain ⟨ad154, e154, hx154_0⟩ := Kd.at_bool (Kd.R_reads' HO_5.out).2.2 x31_3 p154 q154; (try rw [← Nbq24.out] at hx154_0); cases e154; have hn154_0 : ad154.block ≠ gb153 := Kd.own_blk (Kd.R_ne HO_5.out BK153.out (by decide)); have hn154_1 : ad154.block ≠ gb153 := Kd.own_blk (Kd.R_ne HO_5.out BK153.out (by decide)); have hn154_2 : ad154.block ≠ gb153 := Kd.own_blk (Kd.R_ne HO_5.out BK153.out (by decide)); have hn154_3 : ad154.block ≠ gb153 := Kd.own_blk (Kd.R_ne HO_5.out BK153.out (by decide)); replace hx154_0 := (cell_far (p := ⟨gb153, 0, none⟩) (by first | (rw [add_block]; exact hn154_0) | (show (Addr.add _ _).block ≠ _; rw [add_block]; exact hn154_0) | exact hn154_0) (.int .i64 ((rd_T33 l1 x31_3).f0))).trans hx154_0; replace hx154_0 := (cell_far (p := ⟨gb153, 1, none⟩) (by first | (rw [add_block]; exact hn154_1) | (show (Addr.add _ _).block ≠ _; rw [add_block]; exact hn154_1) | exact hn154_1) (.int .i64 ((rd_T33 l1 x31_3).f1))).trans hx154_0; replace hx154_0 := (cell_far (p := ⟨gb153, 2, none⟩) (by first | (rw [add_block]; exact hn154_2) | (show (Addr.add _ _).block ≠ _; rw [add_block]; exact hn154_2) | exact hn154_2) (.int .i64 ((rd_T33 l1 x31_3).f2))).trans hx154_0; replace hx154_0 := (cell_far (p := ⟨gb153, 3, none⟩) (by first | (rw [add_block]; exact hn154_3) | (show (Addr.add _ _).block ≠ _; rw [add_block]; exact hn154_3) | exact hn154_3) (.int .i64 ((rd_T33 l1 x31_3).f3))).trans hx154_0; clear hn154_0 hn154_1 hn154_2 hn154_3; replace p154 := eq_true p154; replace q154 := eq_true q154))
                  go_roundg k3
                  case measure => have := HJ2.out; have := HK2.out; have := HK3.out; omega
                  case rel => exact ⟨(x5_3), (x9_3), (wrap64 (x31_3 + 1)), (by first | rfl | (simp; done) | (simp [*]; done)), (by first | rfl | (simp; done) | (simp [*]; done)), H', ⟨by have := HJ2.out; have := HK2.out; have := HK3.out; omega⟩, ⟨by (with_reducible repeat (first | apply ra_ | apply rn_ | apply re_)); exact Kd.R_mono (Kd.R_far (p := ⟨gb153, 3, none⟩) (Kd.R_far (p := ⟨gb153, 2, none⟩) (Kd.R_far (p := ⟨gb153, 1, none⟩) (Kd.R_far (p := ⟨gb153, 0, none⟩) (Kd.R_types HO_5.out BK153.out (by decide)) (fun _ hk => hk.2) (.int .i64 ((rd_T33 l1 x31_3).f0))) (fun _ hk => hk.2) (.int .i64 ((rd_T33 l1 x31_3).f1))) (fun _ hk => hk.2) (.int .i64 ((rd_T33 l1 x31_3).f2))) (fun _ hk => hk.2) (.int .i64 ((rd_T33 l1 x31_3).f3))) (fun _ hk => trivial)⟩, ⟨by (with_reducible repeat (first | apply ra_ | apply rn_ | apply re_)); exact Kd.R_mono (Kd.R_far (p := ⟨gb153, 3, none⟩) (Kd.R_far (p := ⟨gb153, 2, none⟩) (Kd.R_far (p := ⟨gb153, 1, none⟩) (Kd.R_far (p := ⟨gb153, 0, none⟩) (Kd.R_types HO_6.out BK153.out (by decide)) (fun _ hk => hk.2) (.int .i64 ((rd_T33 l1 x31_3).f0))) (fun _ hk => hk.2) (.int .i64 ((rd_T33 l1 x31_3).f1))) (fun _ hk => hk.2) (.int .i64 ((rd_T33 l1 x31_3).f2))) (fun _ hk => hk.2) (.int .i64 ((rd_T33 l1 x31_3).f3))) (fun _ hk => trivial)⟩, ⟨by (with_reducible repeat (first | refine bn_ ?_ _ | refine bd_ ?_ | refine bl_ ?_ _)); refine bf_ ?_ NB151_153.out _; (with_reducible repeat (first | refine bn_ ?_ _ | refine bd_ ?_ | refine bl_ ?_ _)); refine bf_ ?_ NB151_153.out _; (with_reducible repeat (first | refine bn_ ?_ _ | refine bd_ ?_ | refine bl_ ?_ _)); refine bf_ ?_ NB151_153.out _; (with_reducible repeat (first | refine bn_ ?_ _ | refine bd_ ?_ | refine bl_ ?_ _)); refine bf_ ?_ NB151_153.out _; (with_reducible repeat (first | refine bn_ ?_ _ | refine bd_ ?_ | refine bl_ ?_ _)); exact BK151.out⟩, ⟨by repeat (first | (with_reducible first | exact HB.out | apply wa_ | apply wn_ | apply w1_ | refine ws_ ?_ GE151.out | refine ws_ ?_ GE153.out) | exact HB.out)⟩⟩
                 ·replace c25 := Bool.eq_false_iff.mpr c25
                  subst c25
                  have H1 : (if (((rd_T33 l1 x31_3).f0) == ((rd_T33 l0 x25_2).f0) && (((rd_T33 l1 x31_3).f1) == ((rd_T33 l0 x25_2).f1) && (((rd_T33 l1 x31_3).f2) == ((rd_T33 l0 x25_2).f2) && (((rd_T33 l1 x31_3).f3) == ((rd_T33 l0 x25_2).f3))))) = true then (if x6_2.length < 17592186044416 then (impl_MatchBooks.l0 k3 l1 (x5_3.set (x31_3 : Int).toNat true) (x6_2 ++ [x31_3]) l0 (l0.length : Int) (wrap64 (x25_2 + 1))) else (none)) else (impl_MatchBooks.l1 k3 l1 x5_3 x6_2 x9_3 l0 (l0.length : Int) x25_2 l1 (l1.length : Int) (wrap64 (x31_3 + 1)) ((rd_T33 l0 x25_2).f0) ((rd_T33 l0 x25_2).f1) ((rd_T33 l0 x25_2).f2) ((rd_T33 l0 x25_2).f3))) = some r := by rw [if_neg (show ¬ (false = true) by decide)] at H; exact H
                  clear H
                  have H := H1
                  clear H1
                  by_cases c30 : (((rd_T33 l1 x31_3).f0) == ((rd_T33 l0 x25_2).f0) && (((rd_T33 l1 x31_3).f1) == ((rd_T33 l0 x25_2).f1) && (((rd_T33 l1 x31_3).f2) == ((rd_T33 l0 x25_2).f2) && (((rd_T33 l1 x31_3).f3) == ((rd_T33 l0 x25_2).f3))))) = true
                  ·rw [if_pos c30] at H
                   have c30b0 : (((rd_T33 l1 x31_3).f0) == ((rd_T33 l0 x25_2).f0) && (((rd_T33 l1 x31_3).f1) == ((rd_T33 l0 x25_2).f1) && (((rd_T33 l1 x31_3).f2) == ((rd_T33 l0 x25_2).f2) && (((rd_T33 l1 x31_3).f3) == ((rd_T33 l0 x25_2).f3))))) = true := c30
                   (try (have c30b1 : decide (((rd_T33 l1 x31_3).f0) = ((rd_T33 l0 x25_2).f0) && (((rd_T33 l1 x31_3).f1) == ((rd_T33 l0 x25_2).f1) && (((rd_T33 l1 x31_3).f2) == ((rd_T33 l0 x25_2).f2) && (((rd_T33 l1 x31_3).f3) == ((rd_T33 l0 x25_2).f3))))) = true := by simpa using c30))
                   (try (have c30b2 : (((rd_T33 l1 x31_3).f0) == ((rd_T33 l0 x25_2).f0) && (((rd_T33 l1 x31_3).f1) == ((rd_T33 l0 x25_2).f1) && (((rd_T33 l1 x31_3).f2) == ((rd_T33 l0 x25_2).f2) && (((rd_T33 l1 x31_3).f3) == ((rd_T33 l0 x25_2).f3))))) = true := by simpa using c30))
                   clear c30
                   obtain ⟨y155, hy155⟩ : ∃ y_ : List Bool, y_ = (x5_3.set (x31_3 : Int).toNat true) := ⟨_, rfl⟩
                   replace H : (if x6_2.length < 17592186044416 then (impl_MatchBooks.l0 k3 l1 y155 (x6_2 ++ [x31_3]) l0 (l0.length : Int) (wrap64 (x25_2 + 1))) else (none)) = some r := by first | (rw [hy155]; with_reducible exact H) | (have H2_ := (q7_ _ _).symm.trans H; rw [hy155]; with_reducible exact H2_) | (have H2_ := (q7_ _ _).symm.trans H; with_reducible exact H2_) | with_reducible exact H | (rw [hy155]; exact H) | exact H
                   have Ny155 := am_ hy155
                   clear hy155
                   by_cases c32 : x6_2.length < 17592186044416
                   ·rw [if_pos c32] at H
                    have LMc32 := am_ c32
                    clear c32
                    obtain ⟨y156, hy156⟩ : ∃ y_ : List Int, y_ = (x6_2 ++ [x31_3]) := ⟨_, rfl⟩
                    replace H : (impl_MatchBooks.l0 k3 l1 y155 y156 l0 (l0.length : Int) (wrap64 (x25_2 + 1))) = some r := by first | (rw [hy156]; with_reducible exact H) | (have H2_ := (q7_ _ _).symm.trans H; rw [hy156]; with_reducible exact H2_) | (have H2_ := (q7_ _ _).symm.trans H; with_reducible exact H2_) | with_reducible exact H | (rw [hy156]; exact H) | exact H
                    have Ny156 := am_ hy156
                    clear hy156
                    have H' := am_ H
                    clear H
                    have p152 : 0 ≤ (x31_3 : Int) := of_decide_eq_true (by first | (with_reducible assumption) | assumption)
                    have q152 : x31_3 < (l1.length : Int) := of_decide_eq_true (by first | (with_reducible assumption) | assumption)
                    obtain ⟨ad152, e152, hx152_0, hx152_1, hx152_2, hx152_3⟩ := at_T33 HR1.out x31_3 p152 q152
                    cases e152
                    replace hx152_0 := (HB.out.cell (World.block_lt_of_cell? w _ hx152_0)).trans hx152_0
                    replace hx152_1 := (HB.out.cell (World.block_lt_of_cell? w _ hx152_1)).trans hx152_1
                    replace hx152_2 := (HB.out.cell (World.block_lt_of_cell? w _ hx152_2)).trans hx152_2
                    replace hx152_3 := (HB.out.cell (World.block_lt_of_cell? w _ hx152_3)).trans hx152_3
                    replace p152 := eq_true p152
                    replace q152 := eq_true q152
                    go_wp2_with (first | ((with_reducible refine gate_dst (N := 11) rfl ?_); refine box_event ?hg (N := 11) ?hd (cs := #[.int .i64 0, .int .i64 0, .int .i64 0, .int .i64 0]) (t := 33) ?hr ?_; (case hd => rfl); (case hg => rfl); (case hr => first | (go_simp; done) | (go_simp; rfl)); intro gb153 hg w33 hbox hb; have n0_ := am_ (Kd.R_below (by (with_reducible repeat (first | apply ra_ | apply rn_ | apply re_)); exact HO_5.out) hb); have n1_ := am_ (Kd.R_below (by (with_reducible repeat (first | apply ra_ | apply rn_ | apply re_)); exact HO_6.out) hb); have n2_ := am_ (bb_ (g := gb151) (o := .cells #[.int .i64 ((rd_T33 l0 x25_2).f0), .int .i64 ((rd_T33 l0 x25_2).f1), .int .i64 ((rd_T33 l0 x25_2).f2), .int .i64 ((rd_T33 l0 x25_2).f3)] 33 (0, 0)) (by (with_reducible repeat (first | refine bn_ ?_ _ | refine bd_ ?_ | refine bl_ ?_ _)); exact BK151.out) hb); have n3_ := am_ (below_step (by repeat (first | (with_reducible first | exact HB.out | apply wa_ | apply wn_ | apply w1_ | refine ws_ ?_ GE151.out) | exact HB.out)) hb); have n4_ := am_ (hbox); have n5_ := am_ ((by rw [hg]; exact (below_size (by repeat (first | (with_reducible first | exact HB.out | apply wa_ | apply wn_ | apply w1_ | refine ws_ ?_ GE151.out) | exact HB.out))) : w.heap.size ≤ gb153)); have n6_ := am_ ((by rw [hg]; exact (below_size (by repeat (first | (with_reducible first | exact HB.out | apply wa_ | apply wn_ | apply w1_ | refine ws_ ?_ GE151.out) | exact HB.out))) : w.heap.size ≤ gb153)); have n7_ := am_ ((by rw [hg]; exact Nat.ne_of_lt (blk_lt (g := gb151) (o := .cells #[.int .i64 ((rd_T33 l0 x25_2).f0), .int .i64 ((rd_T33 l0 x25_2).f1), .int .i64 ((rd_T33 l0 x25_2).f2), .int .i64 ((rd_T33 l0 x25_2).f3)] 33 (0, 0)) (by (with_reducible repeat (first | refine bn_ ?_ _ | refine bd_ ?_ | refine bl_ ?_ _)); exact BK151.out)) : gb151 ≠ gb153)); have n8_ := am_ ((by rw [hg]; exact Nat.ne_of_gt (blk_lt (g := gb151) (o := .cells #[.int .i64 ((rd_T33 l0 x25_2).f0), .int .i64 ((rd_T33 l0 x25_2).f1), .int .i64 ((rd_T33 l0 x25_2).f2), .int .i64 ((rd_T33 l0 x25_2).f3)] 33 (0, 0)) (by (with_reducible repeat (first | refine bn_ ?_ _ | refine bd_ ?_ | refine bl_ ?_ _)); exact BK151.out)) : gb153 ≠ gb151)); clear HO_5 HO_6 BK151 HB; have HO_5 := n0_; have HO_6 := n1_; have BK151 := n2_; have HB := n3_; have BK153 := n4_; have GW153 := n5_; have GE153 := n6_; have NB151_153 := n7_; have NB153_151 := n8_; clear n0_ n1_ n2_ n3_ n4_ n5_ n6_ n7_ n8_; clear hb hbox hg; have hnb34 := NB153_151.out; have hnc34 := NB151_153.out; have hcz35_0 : w33.cell? ⟨gb153, 0, none⟩ = some (.int .i64 0) := (bc_ BK153.out 0).trans rfl; have hcz35_1 : w33.cell? ⟨gb153, 1, none⟩ = some (.int .i64 0) := (bc_ BK153.out 1).trans rfl; have hcz35_2 : w33.cell? ⟨gb153, 2, none⟩ = some (.int .i64 0) := (bc_ BK153.out 2).trans rfl; have hcz35_3 : w33.cell? ⟨gb153, 3, none⟩ = some (.int .i64 0) := (bc_ BK153.out 3).trans rfl; have hfz35_0 := blk_frozen BK153.out 0; have hfz35_1 := blk_frozen BK153.out 1; have hfz35_2 := blk_frozen BK153.out 2; have hfz35_3 := blk_frozen BK153.out 3) | ((with_reducible refine gate_store (t := 33) (p := 11) rfl ?_); refine store_event (t := 33) (p := 11) (v := ?vo_w36) (w1 := ((((w33.setCell ⟨gb153, 0, none⟩ (.int .i64 ((rd_T33 l1 x31_3).f0))).setCell ⟨gb153, 1, none⟩ (.int .i64 ((rd_T33 l1 x31_3).f1))).setCell ⟨gb153, 2, none⟩ (.int .i64 ((rd_T33 l1 x31_3).f2))).setCell ⟨gb153, 3, none⟩ (.int .i64 ((rd_T33 l1 x31_3).f3)))) ?hg ?ho ?hn ?hr ?_; (case ho => rfl); (case hg => rfl); (case hn => rfl); (case hr => first | (go_simp; done) | (go_simp; rfl)); intro w36 hw; have n0_ : Aside0 (Kd.R Kd.bool 4 w36 w.heap.size (fun _ => True) v148 x5_3) := ⟨(by rw [hw]; exact (by (with_reducible repeat (first | apply ra_ | apply rn_ | apply re_)); exact Kd.R_mono (Kd.R_far (p := ⟨gb153, 3, none⟩) (Kd.R_far (p := ⟨gb153, 2, none⟩) (Kd.R_far (p := ⟨gb153, 1, none⟩) (Kd.R_far (p := ⟨gb153, 0, none⟩) (Kd.R_types HO_5.out BK153.out (by decide)) (fun _ hk => hk.2) (.int .i64 ((rd_T33 l1 x31_3).f0))) (fun _ hk => hk.2) (.int .i64 ((rd_T33 l1 x31_3).f1))) (fun _ hk => hk.2) (.int .i64 ((rd_T33 l1 x31_3).f2))) (fun _ hk => hk.2) (.int .i64 ((rd_T33 l1 x31_3).f3))) (fun _ hk => trivial)))⟩; have n1_ : Aside0 (Kd.R (Kd.int .i64) 3 w36 w.heap.size (fun _ => True) u6 x6_2) := ⟨(by rw [hw]; exact (by (with_reducible repeat (first | apply ra_ | apply rn_ | apply re_)); exact Kd.R_mono (Kd.R_far (p := ⟨gb153, 3, none⟩) (Kd.R_far (p := ⟨gb153, 2, none⟩) (Kd.R_far (p := ⟨gb153, 1, none⟩) (Kd.R_far (p := ⟨gb153, 0, none⟩) (Kd.R_types HO_6.out BK153.out (by decide)) (fun _ hk => hk.2) (.int .i64 ((rd_T33 l1 x31_3).f0))) (fun _ hk => hk.2) (.int .i64 ((rd_T33 l1 x31_3).f1))) (fun _ hk => hk.2) (.int .i64 ((rd_T33 l1 x31_3).f2))) (fun _ hk => hk.2) (.int .i64 ((rd_T33 l1 x31_3).f3))) (fun _ hk => trivial)))⟩; have n2_ : Aside0 (w36.heap[gb151]? = some (.cells #[.int .i64 ((rd_T33 l0 x25_2).f0), .int .i64 ((rd_T33 l0 x25_2).f1), .int .i64 ((rd_T33 l0 x25_2).f2), .int .i64 ((rd_T33 l0 x25_2).f3)] 33 (0, 0))) := ⟨(by rw [hw]; exact (by (with_reducible repeat (first | refine bn_ ?_ _ | refine bd_ ?_ | refine bl_ ?_ _)); refine bf_ ?_ NB151_153.out _; (with_reducible repeat (first | refine bn_ ?_ _ | refine bd_ ?_ | refine bl_ ?_ _)); refine bf_ ?_ NB151_153.out _; (with_reducible repeat (first | refine bn_ ?_ _ | refine bd_ ?_ | refine bl_ ?_ _)); refine bf_ ?_ NB151_153.out _; (with_reducible repeat (first | refine bn_ ?_ _ | refine bd_ ?_ | refine bl_ ?_ _)); refine bf_ ?_ NB151_153.out _; (with_reducible repeat (first | refine bn_ ?_ _ | refine bd_ ?_ | refine bl_ ?_ _)); exact BK151.out))⟩; have n3_ : Aside0 (w36.heap[gb153]? = some (.cells #[.int .i64 ((rd_T33 l1 x31_3).f0), .int .i64 ((rd_T33 l1 x31_3).f1), .int .i64 ((rd_T33 l1 x31_3).f2), .int .i64 ((rd_T33 l1 x31_3).f3)] 33 (0, 0))) := ⟨(by rw [hw]; exact (by (with_reducible repeat (first | refine bn_ ?_ _ | refine bd_ ?_ | refine bl_ ?_ _)); refine blk_put (cs := #[.int .i64 ((rd_T33 l1 x31_3).f0), .int .i64 ((rd_T33 l1 x31_3).f1), .int .i64 ((rd_T33 l1 x31_3).f2), .int .i64 0]) ?_ 3 _ rfl; (with_reducible repeat (first | refine bn_ ?_ _ | refine bd_ ?_ | refine bl_ ?_ _)); refine blk_put (cs := #[.int .i64 ((rd_T33 l1 x31_3).f0), .int .i64 ((rd_T33 l1 x31_3).f1), .int .i64 0, .int .i64 0]) ?_ 2 _ rfl; (with_reducible repeat (first | refine bn_ ?_ _ | refine bd_ ?_ | refine bl_ ?_ _)); refine blk_put (cs := #[.int .i64 ((rd_T33 l1 x31_3).f0), .int .i64 0, .int .i64 0, .int .i64 0]) ?_ 1 _ rfl; (with_reducible repeat (first | refine bn_ ?_ _ | refine bd_ ?_ | refine bl_ ?_ _)); refine blk_put (cs := #[.int .i64 0, .int .i64 0, .int .i64 0, .int .i64 0]) ?_ 0 _ rfl; (with_reducible repeat (first | refine bn_ ?_ _ | refine bd_ ?_ | refine bl_ ?_ _)); exact BK153.out))⟩; have n4_ : Aside0 (Below w.heap.size w w36) := ⟨(by rw [hw]; exact (by repeat (first | (with_reducible first | exact HB.out | apply wa_ | apply wn_ | apply w1_ | refine ws_ ?_ GE151.out | refine ws_ ?_ GE153.out) | exact HB.out)))⟩; clear hw HO_5 HO_6 BK151 BK153 HB; have HO_5 := n0_; have HO_6 := n1_; have BK151 := n2_; have BK153 := n3_; have HB := n4_; clear n0_ n1_ n2_ n3_ n4_; obtain ⟨Ao37, co37, eo37⟩ := Kd.R_slice HO_5.out; subst eo37; have p154 : 0 ≤ (x31_3 : Int) := of_decide_eq_true (by first | (with_reducible assumption) | assumption); have q154 : x31_3 < (x5_3.length : Int) := of_decide_eq_true (by first | (with_reducible assumption) | assumption); obtain ⟨ad154, e154, hx154_0⟩ := Kd.at_bool (Kd.R_reads' HO_5.out).2.2 x31_3 p154 q154; (try rw [← Nbq24.out] at hx154_0); cases e154; replace p154 := eq_true p154; replace q154 := eq_true q154; have hcz38_0 : w36.cell? ⟨gb153, 0, none⟩ = some (.int .i64 ((rd_T33 l1 x31_3).f0)) := (bc_ BK153.out 0).trans rfl; have hcz38_1 : w36.cell? ⟨gb153, 1, none⟩ = some (.int .i64 ((rd_T33 l1 x31_3).f1)) := (bc_ BK153.out 1).trans rfl; have hcz38_2 : w36.cell? ⟨gb153, 2, none⟩ = some (.int .i64 ((rd_T33 l1 x31_3).f2)) := (bc_ BK153.out 2).trans rfl; have hcz38_3 : w36.cell? ⟨gb153, 3, none⟩ = some (.int .i64 ((rd_T33 l1 x31_3).f3)) := (bc_ BK153.out 3).trans rfl; have hfz38_0 := blk_frozen BK153.out 0; have hfz38_1 := blk_frozen BK153.out 1; have hfz38_2 := blk_frozen BK153.out 2; have hfz38_3 := blk_frozen BK153.out 3; have hcz39_0 : w36.cell? ⟨gb151, 0, none⟩ = some (.int .i64 ((rd_T33 l0 x25_2).f0)) := (bc_ BK151.out 0).trans rfl; have hcz39_1 : w36.cell? ⟨gb151, 1, none⟩ = some (.int .i64 ((rd_T33 l0 x25_2).f1)) := (bc_ BK151.out 1).trans rfl; have hcz39_2 : w36.cell? ⟨gb151, 2, none⟩ = some (.int .i64 ((rd_T33 l0 x25_2).f2)) := (bc_ BK151.out 2).trans rfl; have hcz39_3 : w36.cell? ⟨gb151, 3, none⟩ = some (.int .i64 ((rd_T33 l0 x25_2).f3)) := (bc_ BK151.out 3).trans rfl; have hfz39_0 := blk_frozen BK151.out 0; have hfz39_1 := blk_frozen BK151.out 1; have hfz39_2 := blk_frozen BK151.out 2; have hfz39_3 := blk_frozen BK151.out 3; have p31 : 0 ≤ (x31_3 : Int) := of_decide_eq_true (by first | (with_reducible assumption) | assumption); have q31 : (x31_3 : Int) < ((x5_3.length : Int) : Int) := of_decide_eq_true (by first | (with_reducible assumption) | assumption); obtain ⟨go31, co31, eo31, gb31, gl31, cl31, HG31⟩ := Kd.R_form HO_5.out (by omega); (first | cases eo31 | (injection eo31 with ea_ en_ ec_; (first | subst ea_ | (injection ea_ with ea_; subst ea_)); subst ec_; clear en_)); have GB31 := am_ gb31; have GG31 := am_ HG31; clear gb31 gl31 HG31; (first | simp only [add_plain] at hx154_0 | skip); obtain ⟨hx31_0, hf31_0⟩ := Kd.R_celln false HO_5.out (x31_3 : Int) p31 q31; replace p31 := eq_true p31; replace q31 := eq_true q31; obtain ⟨hy40_, hz40_⟩ := Kd.R_celln false HO_5.out (x31_3 : Int) (of_decide_eq_true (by first | (with_reducible assumption) | assumption)) (of_decide_eq_true (by first | (with_reducible assumption) | assumption)); have HP40 := Kd.R_putg HO_5.out (x31_3 : Int) true) | ((with_reducible refine gate_store (t := 4) (p := 48) rfl ?_); refine store_event (t := 4) (p := 48) (v := ?vo_w41) (w1 := (w36.setCell ⟨go31, (x31_3 : Int).toNat, none⟩ (.bool true))) ?hg ?ho ?hn ?hr ?_; (case ho => rfl); (case hg => rfl); (case hn => rfl); (case hr => first | (go_simp; done) | (go_simp; rfl)); intro w41 hw; have hg : w36.grownBy w41 (some go31) := (by rw [hw]; exact HP40.2); have hp_ : Kd.R Kd.bool 4 w41 w.heap.size (fun _ => True) (.slice (some ⟨go31, 0, none⟩) x5_3.length co37) y155 := (by rw [hw, Ny155.out]; exact HP40.1); clear HP40; have n0_ := am_ (hp_); have n1_ := am_ (Kd.R_over' (v := (.slice (some ⟨go31, 0, none⟩) x5_3.length co37)) (by (with_reducible repeat (first | apply ra_ | apply rn_ | apply re_)); exact HO_6.out) (Kd.R_typed HO_5.out) (by decide) hg); have n2_ := am_ (blk_grown (g := gb151) (o := .cells #[.int .i64 ((rd_T33 l0 x25_2).f0), .int .i64 ((rd_T33 l0 x25_2).f1), .int .i64 ((rd_T33 l0 x25_2).f2), .int .i64 ((rd_T33 l0 x25_2).f3)] 33 (0, 0)) (by (with_reducible repeat (first | refine bn_ ?_ _ | refine bd_ ?_ | refine bl_ ?_ _)); exact BK151.out) hg (Kd.R_ne HO_5.out BK151.out (by decide))); have n3_ := am_ (blk_grown (g := gb153) (o := .cells #[.int .i64 ((rd_T33 l1 x31_3).f0), .int .i64 ((rd_T33 l1 x31_3).f1), .int .i64 ((rd_T33 l1 x31_3).f2), .int .i64 ((rd_T33 l1 x31_3).f3)] 33 (0, 0)) (by (with_reducible repeat (first | refine bn_ ?_ _ | refine bd_ ?_ | refine bl_ ?_ _)); exact BK153.out) hg (Kd.R_ne HO_5.out BK153.out (by decide))); have n4_ := am_ ((by rw [hw]; exact ws_ (HB.out) GB31.out : Below w.heap.size w w41)); clear HO_5 HO_6 BK151 BK153 HB; have HO_5 := n0_; have HO_6 := n1_; have BK151 := n2_; have BK153 := n3_; have HB := n4_; clear n0_ n1_ n2_ n3_ n4_; clear hg hw hp_) | ((with_reducible refine gate_builtin (b := .append) (xs := #[.tmp 51, .tmp 53]) rfl ?_); at_builtin; refine Kd.R_append (Kd.int .i64) (w0 := w) w.heap.size rfl (.tmp 51) (.tmp 53) 28 3 (.int .i64 0) 8 rfl Try.underlying28 info3 rfl (by decide) (by omega) u6 x6_2 x31_3 [.int .i64 x31_3] (fun _ => True) (fun _ => False) rfl rfl ?aP (fun _ hk => hk.elim) ?aF ?aO ?aB ?aS ?aL ?_; (case aP => exact rfl); (case aB => exact (by repeat (first | (with_reducible first | exact HB.out | apply wa_ | apply wn_ | apply w1_ | refine ws_ ?_ GE151.out | refine ws_ ?_ GE153.out) | exact HB.out))); (case aF => exact (fun _ _ => trivial)); (case aO => exact (by (with_reducible repeat (first | apply ra_ | apply rn_ | apply re_)); exact HO_6.out)); (case aS => exact (below_size (by repeat (first | (with_reducible first | exact HB.out | apply wa_ | apply wn_ | apply w1_ | refine ws_ ?_ GE151.out | refine ws_ ?_ GE153.out) | exact HB.out)))); (case aL => have := LMc32.out; omega); intro v157 w42 ho hb hg hat; rw [← Ny156.out] at ho; have n0_ := am_ (Kd.R_over' (by (with_reducible repeat (first | apply ra_ | apply rn_ | apply re_)); exact HO_5.out) (Kd.R_typed (by (with_reducible repeat (first | apply ra_ | apply rn_ | apply re_)); exact HO_6.out)) (by decide) hg); have n1_ := am_ (blk_grown (g := gb151) (o := .cells #[.int .i64 ((rd_T33 l0 x25_2).f0), .int .i64 ((rd_T33 l0 x25_2).f1), .int .i64 ((rd_T33 l0 x25_2).f2), .int .i64 ((rd_T33 l0 x25_2).f3)] 33 (0, 0)) (by (with_reducible repeat (first | refine bn_ ?_ _ | refine bd_ ?_ | refine bl_ ?_ _)); exact BK151.out) hg (Kd.R_ne HO_6.out BK151.out (by decide))); have n2_ := am_ (blk_grown (g := gb153) (o := .cells #[.int .i64 ((rd_T33 l1 x31_3).f0), .int .i64 ((rd_T33 l1 x31_3).f1), .int .i64 ((rd_T33 l1 x31_3).f2), .int .i64 ((rd_T33 l1 x31_3).f3)] 33 (0, 0)) (by (with_reducible repeat (first | refine bn_ ?_ _ | refine bd_ ?_ | refine bl_ ?_ _)); exact BK153.out) hg (Kd.R_ne HO_6.out BK153.out (by decide))); have n3_ := am_ (hb); have n4_ := am_ (ho); clear HO_5 BK151 BK153 HB HO_6; have HO_5 := n0_; have BK151 := n1_; have BK153 := n2_; have HB := n3_; have HO158 := n4_; clear n0_ n1_ n2_ n3_ n4_; clear ho hb hg hat))
                    go_roundg k3
                    case measure => have := HJ2.out; have := HK2.out; have := HK3.out; omega
                    case rel => exact ⟨(y155), (y156), (wrap64 (x25_2 + 1)), (by first | rfl | (simp; done) | (simp [*]; done)), H', ⟨by have := HJ2.out; have := HK2.out; have := HK3.out; omega⟩, ⟨by (with_reducible repeat (first | apply ra_ | apply rn_ | apply re_)); exact HO_5.out⟩, ⟨by (with_reducible repeat (first | apply ra_ | apply rn_ | apply re_)); exact HO158.out⟩, ⟨by repeat (first | (with_reducible first | exact HB.out | apply wa_ | apply wn_ | apply w1_ | refine ws_ ?_ GE151.out | refine ws_ ?_ GE153.out) | exact HB.out)⟩⟩
                   ·rw [if_neg c32] at H
                    exact absurd H (by simp)
                  ·rw [if_neg c30] at H
                   have c30b0 : (((rd_T33 l1 x31_3).f0) == ((rd_T33 l0 x25_2).f0) && (((rd_T33 l1 x31_3).f1) == ((rd_T33 l0 x25_2).f1) && (((rd_T33 l1 x31_3).f2) == ((rd_T33 l0 x25_2).f2) && (((rd_T33 l1 x31_3).f3) == ((rd_T33 l0 x25_2).f3))))) = false := by simpa using c30
                   (try (have c30b1 : decide (((rd_T33 l1 x31_3).f0) = ((rd_T33 l0 x25_2).f0) && (((rd_T33 l1 x31_3).f1) == ((rd_T33 l0 x25_2).f1) && (((rd_T33 l1 x31_3).f2) == ((rd_T33 l0 x25_2).f2) && (((rd_T33 l1 x31_3).f3) == ((rd_T33 l0 x25_2).f3))))) = false := by simpa using c30))
                   (try (have c30b2 : (((rd_T33 l1 x31_3).f0) == ((rd_T33 l0 x25_2).f0) && (((rd_T33 l1 x31_3).f1) == ((rd_T33 l0 x25_2).f1) && (((rd_T33 l1 x31_3).f2) == ((rd_T33 l0 x25_2).f2) && (((rd_T33 l1 x31_3).f3) == ((rd_T33 l0 x25_2).f3))))) = false := by simpa using c30))
                   (try (have c30b3 : ¬ (((rd_T33 l1 x31_3).f0) = ((rd_T33 l0 x25_2).f0) && (((rd_T33 l1 x31_3).f1) == ((rd_T33 l0 x25_2).f1) && (((rd_T33 l1 x31_3).f2) == ((rd_T33 l0 x25_2).f2) && (((rd_T33 l1 x31_3).f3) == ((rd_T33 l0 x25_2).f3))))) := by simpa using c30))
                   clear c30
                   have H' := am_ H
                   clear H
                   have p152 : 0 ≤ (x31_3 : Int) := of_decide_eq_true (by first | (with_reducible assumption) | assumption)
                   have q152 : x31_3 < (l1.length : Int) := of_decide_eq_true (by first | (with_reducible assumption) | assumption)
                   obtain ⟨ad152, e152, hx152_0, hx152_1, hx152_2, hx152_3⟩ := at_T33 HR1.out x31_3 p152 q152
                   cases e152
                   replace hx152_0 := (HB.out.cell (World.block_lt_of_cell? w _ hx152_0)).trans hx152_0
                   replace hx152_1 := (HB.out.cell (World.block_lt_of_cell? w _ hx152_1)).trans hx152_1
                   replace hx152_2 := (HB.out.cell (World.block_lt_of_cell? w _ hx152_2)).trans hx152_2
                   replace hx152_3 := (HB.out.cell (World.block_lt_of_cell? w _ hx152_3)).trans hx152_3
                   replace p152 := eq_true p152
                   replace q152 := eq_true q152
                   go_wp2_with (first | ((with_reducible refine gate_dst (N := 11) rfl ?_); refine box_event ?hg (N := 11) ?hd (cs := #[.int .i64 0, .int .i64 0, .int .i64 0, .int .i64 0]) (t := 33) ?hr ?_; (case hd => rfl); (case hg => rfl); (case hr => first | (go_simp; done) | (go_simp; rfl)); intro gb153 hg w43 hbox hb; have n0_ := am_ (Kd.R_below (by (with_reducible repeat (first | apply ra_ | apply rn_ | apply re_)); exact HO_5.out) hb); have n1_ := am_ (Kd.R_below (by (with_reducible repeat (first | apply ra_ | apply rn_ | apply re_)); exact HO_6.out) hb); have n2_ := am_ (bb_ (g := gb151) (o := .cells #[.int .i64 ((rd_T33 l0 x25_2).f0), .int .i64 ((rd_T33 l0 x25_2).f1), .int .i64 ((rd_T33 l0 x25_2).f2), .int .i64 ((rd_T33 l0 x25_2).f3)] 33 (0, 0)) (by (with_reducible repeat (first | refine bn_ ?_ _ | refine bd_ ?_ | refine bl_ ?_ _)); exact BK151.out) hb); have n3_ := am_ (below_step (by repeat (first | (with_reducible first | exact HB.out | apply wa_ | apply wn_ | apply w1_ | refine ws_ ?_ GE151.out) | exact HB.out)) hb); have n4_ := am_ (hbox); have n5_ := am_ ((by rw [hg]; exact (below_size (by repeat (first | (with_reducible first | exact HB.out | apply wa_ | apply wn_ | apply w1_ | refine ws_ ?_ GE151.out) | exact HB.out))) : w.heap.size ≤ gb153)); have n6_ := am_ ((by rw [hg]; exact (below_size (by repeat (first | (with_reducible first | exact HB.out | apply wa_ | apply wn_ | apply w1_ | refine ws_ ?_ GE151.out) | exact HB.out))) : w.heap.size ≤ gb153)); have n7_ := am_ ((by rw [hg]; exact Nat.ne_of_lt (blk_lt (g := gb151) (o := .cells #[.int .i64 ((rd_T33 l0 x25_2).f0), .int .i64 ((rd_T33 l0 x25_2).f1), .int .i64 ((rd_T33 l0 x25_2).f2), .int .i64 ((rd_T33 l0 x25_2).f3)] 33 (0, 0)) (by (with_reducible repeat (first | refine bn_ ?_ _ | refine bd_ ?_ | refine bl_ ?_ _)); exact BK151.out)) : gb151 ≠ gb153)); have n8_ := am_ ((by rw [hg]; exact Nat.ne_of_gt (blk_lt (g := gb151) (o := .cells #[.int .i64 ((rd_T33 l0 x25_2).f0), .int .i64 ((rd_T33 l0 x25_2).f1), .int .i64 ((rd_T33 l0 x25_2).f2), .int .i64 ((rd_T33 l0 x25_2).f3)] 33 (0, 0)) (by (with_reducible repeat (first | refine bn_ ?_ _ | refine bd_ ?_ | refine bl_ ?_ _)); exact BK151.out)) : gb153 ≠ gb151)); clear HO_5 HO_6 BK151 HB; have HO_5 := n0_; have HO_6 := n1_; have BK151 := n2_; have HB := n3_; have BK153 := n4_; have GW153 := n5_; have GE153 := n6_; have NB151_153 := n7_; have NB153_151 := n8_; clear n0_ n1_ n2_ n3_ n4_ n5_ n6_ n7_ n8_; clear hb hbox hg; have hnb44 := NB153_151.out; have hnc44 := NB151_153.out; have hcz45_0 : w43.cell? ⟨gb153, 0, none⟩ = some (.int .i64 0) := (bc_ BK153.out 0).trans rfl; have hcz45_1 : w43.cell? ⟨gb153, 1, none⟩ = some (.int .i64 0) := (bc_ BK153.out 1).trans rfl; have hcz45_2 : w43.cell? ⟨gb153, 2, none⟩ = some (.int .i64 0) := (bc_ BK153.out 2).trans rfl; have hcz45_3 : w43.cell? ⟨gb153, 3, none⟩ = some (.int .i64 0) := (bc_ BK153.out 3).trans rfl; have hfz45_0 := blk_frozen BK153.out 0; have hfz45_1 := blk_frozen BK153.out 1; have hfz45_2 := blk_frozen BK153.out 2; have hfz45_3 := blk_frozen BK153.out 3; obtain ⟨Ao46, co46, eo46⟩ := Kd.R_slice HO_5.out; subst eo46; have p154 : 0 ≤ (x31_3 : Int) := of_decide_eq_true (by first | (with_reducible assumption) | assumption); have q154 : x31_3 < (x5_3.length : Int) := of_decide_eq_true (by first | (with_reducible assumption) | assumption); obtain ⟨ad154, e154, hx154_0⟩ := Kd.at_bool (Kd.R_reads' HO_5.out).2.2 x31_3 p154 q154; (try rw [← Nbq24.out] at hx154_0); cases e154; have hn154_0 : ad154.block ≠ gb153 := Kd.own_blk (Kd.R_ne HO_5.out BK153.out (by decide)); have hn154_1 : ad154.block ≠ gb153 := Kd.own_blk (Kd.R_ne HO_5.out BK153.out (by decide)); have hn154_2 : ad154.block ≠ gb153 := Kd.own_blk (Kd.R_ne HO_5.out BK153.out (by decide)); have hn154_3 : ad154.block ≠ gb153 := Kd.own_blk (Kd.R_ne HO_5.out BK153.out (by decide)); replace hx154_0 := (cell_far (p := ⟨gb153, 0, none⟩) (by first | (rw [add_block]; exact hn154_0) | (show (Addr.add _ _).block ≠ _; rw [add_block]; exact hn154_0) | exact hn154_0) (.int .i64 ((rd_T33 l1 x31_3).f0))).trans hx154_0; replace hx154_0 := (cell_far (p := ⟨gb153, 1, none⟩) (by first | (rw [add_block]; exact hn154_1) | (show (Addr.add _ _).block ≠ _; rw [add_block]; exact hn154_1) | exact hn154_1) (.int .i64 ((rd_T33 l1 x31_3).f1))).trans hx154_0; replace hx154_0 := (cell_far (p := ⟨gb153, 2, none⟩) (by first | (rw [add_block]; exact hn154_2) | (show (Addr.add _ _).block ≠ _; rw [add_block]; exact hn154_2) | exact hn154_2) (.int .i64 ((rd_T33 l1 x31_3).f2))).trans hx154_0; replace hx154_0 := (cell_far (p := ⟨gb153, 3, none⟩) (by first | (rw [add_block]; exact hn154_3) | (show (Addr.add _ _).block ≠ _; rw [add_block]; exact hn154_3) | exact hn154_3) (.int .i64 ((rd_T33 l1 x31_3).f3))).trans hx154_0; clear hn154_0 hn154_1 hn154_2 hn154_3; replace p154 := eq_true p154; replace q154 := eq_true q154; have hcz47_0 : w43.cell? ⟨gb151, 0, none⟩ = some (.int .i64 ((rd_T33 l0 x25_2).f0)) := (bc_ BK151.out 0).trans rfl; have hcz47_1 : w43.cell? ⟨gb151, 1, none⟩ = some (.int .i64 ((rd_T33 l0 x25_2).f1)) := (bc_ BK151.out 1).trans rfl; have hcz47_2 : w43.cell? ⟨gb151, 2, none⟩ = some (.int .i64 ((rd_T33 l0 x25_2).f2)) := (bc_ BK151.out 2).trans rfl; have hcz47_3 : w43.cell? ⟨gb151, 3, none⟩ = some (.int .i64 ((rd_T33 l0 x25_2).f3)) := (bc_ BK151.out 3).trans rfl; have hfz47_0 := blk_frozen BK151.out 0; have hfz47_1 := blk_frozen BK151.out 1; have hfz47_2 := blk_frozen BK151.out 2; have hfz47_3 := blk_frozen BK151.out 3))
                   go_roundg k3
                   case measure => have := HJ2.out; have := HK2.out; have := HK3.out; omega
                   case rel => exact ⟨(x5_3), (x9_3), (wrap64 (x31_3 + 1)), (by first | rfl | (simp; done) | (simp [*]; done)), (by first | rfl | (simp; done) | (simp [*]; done)), H', ⟨by have := HJ2.out; have := HK2.out; have := HK3.out; omega⟩, ⟨by (with_reducible repeat (first | apply ra_ | apply rn_ | apply re_)); exact Kd.R_mono (Kd.R_far (p := ⟨gb153, 3, none⟩) (Kd.R_far (p := ⟨gb153, 2, none⟩) (Kd.R_far (p := ⟨gb153, 1, none⟩) (Kd.R_far (p := ⟨gb153, 0, none⟩) (Kd.R_types HO_5.out BK153.out (by decide)) (fun _ hk => hk.2) (.int .i64 ((rd_T33 l1 x31_3).f0))) (fun _ hk => hk.2) (.int .i64 ((rd_T33 l1 x31_3).f1))) (fun _ hk => hk.2) (.int .i64 ((rd_T33 l1 x31_3).f2))) (fun _ hk => hk.2) (.int .i64 ((rd_T33 l1 x31_3).f3))) (fun _ hk => trivial)⟩, ⟨by (with_reducible repeat (first | apply ra_ | apply rn_ | apply re_)); exact Kd.R_mono (Kd.R_far (p := ⟨gb153, 3, none⟩) (Kd.R_far (p := ⟨gb153, 2, none⟩) (Kd.R_far (p := ⟨gb153, 1, none⟩) (Kd.R_far (p := ⟨gb153, 0, none⟩) (Kd.R_types HO_6.out BK153.out (by decide)) (fun _ hk => hk.2) (.int .i64 ((rd_T33 l1 x31_3).f0))) (fun _ hk => hk.2) (.int .i64 ((rd_T33 l1 x31_3).f1))) (fun _ hk => hk.2) (.int .i64 ((rd_T33 l1 x31_3).f2))) (fun _ hk => hk.2) (.int .i64 ((rd_T33 l1 x31_3).f3))) (fun _ hk => trivial)⟩, ⟨by (with_reducible repeat (first | refine bn_ ?_ _ | refine bd_ ?_ | refine bl_ ?_ _)); refine bf_ ?_ NB151_153.out _; (with_reducible repeat (first | refine bn_ ?_ _ | refine bd_ ?_ | refine bl_ ?_ _)); refine bf_ ?_ NB151_153.out _; (with_reducible repeat (first | refine bn_ ?_ _ | refine bd_ ?_ | refine bl_ ?_ _)); refine bf_ ?_ NB151_153.out _; (with_reducible repeat (first | refine bn_ ?_ _ | refine bd_ ?_ | refine bl_ ?_ _)); refine bf_ ?_ NB151_153.out _; (with_reducible repeat (first | refine bn_ ?_ _ | refine bd_ ?_ | refine bl_ ?_ _)); exact BK151.out⟩, ⟨by repeat (first | (with_reducible first | exact HB.out | apply wa_ | apply wn_ | apply w1_ | refine ws_ ?_ GE151.out | refine ws_ ?_ GE153.out) | exact HB.out)⟩⟩
                ·rw [if_neg c23] at H
                 exact absurd H (by simp)
               ·rw [if_neg c22] at H
                exact absurd H (by simp)
              ·rw [if_neg c21] at H
               exact absurd H (by simp)
             ·rw [if_neg c20] at H
              have c20b0 : decide (x31_3 < (l1.length : Int)) = false := decide_eq_false c20
              clear c20
              by_cases c48 : x6_2.length < 17592186044416
              ·rw [if_pos c48] at H
               have LMc48 := am_ c48
               clear c48
               obtain ⟨y159, hy159⟩ : ∃ y_ : List Int, y_ = (x6_2 ++ [x9_3]) := ⟨_, rfl⟩
               replace H : (impl_MatchBooks.l0 k3 l1 x5_3 y159 l0 (l0.length : Int) (wrap64 (x25_2 + 1))) = some r := by first | (rw [hy159]; with_reducible exact H) | (have H2_ := (q7_ _ _).symm.trans H; rw [hy159]; with_reducible exact H2_) | (have H2_ := (q7_ _ _).symm.trans H; with_reducible exact H2_) | with_reducible exact H | (rw [hy159]; exact H) | exact H
               have Ny159 := am_ hy159
               clear hy159
               have H' := am_ H
               clear H
               go_wp2_with (first | ((with_reducible refine gate_builtin (b := .append) (xs := #[.tmp 51, .tmp 53]) rfl ?_); at_builtin; refine Kd.R_append (Kd.int .i64) (w0 := w) w.heap.size rfl (.tmp 51) (.tmp 53) 28 3 (.int .i64 0) 8 rfl Try.underlying28 info3 rfl (by decide) (by omega) u6 x6_2 x9_3 [.int .i64 x9_3] (fun _ => True) (fun _ => False) rfl rfl ?aP (fun _ hk => hk.elim) ?aF ?aO ?aB ?aS ?aL ?_; (case aP => exact rfl); (case aB => exact (by repeat (first | (with_reducible first | exact HB.out | apply wa_ | apply wn_ | apply w1_ | refine ws_ ?_ GE151.out) | exact HB.out))); (case aF => exact (fun _ _ => trivial)); (case aO => exact (by (with_reducible repeat (first | apply ra_ | apply rn_ | apply re_)); exact HO_6.out)); (case aS => exact (below_size (by repeat (first | (with_reducible first | exact HB.out | apply wa_ | apply wn_ | apply w1_ | refine ws_ ?_ GE151.out) | exact HB.out)))); (case aL => have := LMc48.out; omega); intro v160 w49 ho hb hg hat; rw [← Ny159.out] at ho; have n0_ := am_ (Kd.R_over' (by (with_reducible repeat (first | apply ra_ | apply rn_ | apply re_)); exact HO_5.out) (Kd.R_typed (by (with_reducible repeat (first | apply ra_ | apply rn_ | apply re_)); exact HO_6.out)) (by decide) hg); have n1_ := am_ (blk_grown (g := gb151) (o := .cells #[.int .i64 ((rd_T33 l0 x25_2).f0), .int .i64 ((rd_T33 l0 x25_2).f1), .int .i64 ((rd_T33 l0 x25_2).f2), .int .i64 ((rd_T33 l0 x25_2).f3)] 33 (0, 0)) (by (with_reducible repeat (first | refine bn_ ?_ _ | refine bd_ ?_ | refine bl_ ?_ _)); exact BK151.out) hg (Kd.R_ne HO_6.out BK151.out (by decide))); have n2_ := am_ (hb); have n3_ := am_ (ho); clear HO_5 BK151 HB HO_6; have HO_5 := n0_; have BK151 := n1_; have HB := n2_; have HO161 := n3_; clear n0_ n1_ n2_ n3_; clear ho hb hg hat))
               go_roundg k3
               case measure => have := HJ2.out; have := HK2.out; have := HK3.out; omega
               case rel => exact ⟨(x5_3), (y159), (wrap64 (x25_2 + 1)), (by first | rfl | (simp; done) | (simp [*]; done)), H', ⟨by have := HJ2.out; have := HK2.out; have := HK3.out; omega⟩, ⟨by (with_reducible repeat (first | apply ra_ | apply rn_ | apply re_)); exact HO_5.out⟩, ⟨by (with_reducible repeat (first | apply ra_ | apply rn_ | apply re_)); exact HO161.out⟩, ⟨by repeat (first | (with_reducible first | exact HB.out | apply wa_ | apply wn_ | apply w1_ | refine ws_ ?_ GE151.out) | exact HB.out)⟩⟩
              ·rw [if_neg c48] at H
               exact absurd H (by simp)
          ·rw [if_neg c17] at H
           exact absurd H (by simp)
         ·rw [if_neg c16] at H
          exact absurd H (by simp)
        ·rw [if_neg c15] at H
         have c15b0 : decide (x25_2 < (l0.length : Int)) = false := decide_eq_false c15
         clear c15
         obtain rfl := Option.some.inj H
         go_wp2
         go_ret
         exact ⟨_, by first | rfl | (simp [errW_none, errW_some] <;> rfl) | (simp [*, errW_none, errW_some] <;> rfl), by (with_reducible repeat (first | apply ra_ | apply rn_ | apply re_)); exact HO_6.out, by repeat (first | (with_reducible first | exact HB.out | apply wa_ | apply wn_ | apply w1_) | exact HB.out)⟩
     ·rw [if_neg c12] at H
      exact absurd H (by simp)
    ·rw [if_neg c11] at H
     exact absurd H (by simp)

/-! ### impl_OnlyIn: function 29 -/
def impl_OnlyIn.l0 : Nat → List (S33) → List (S33) → List Int → Int → Int → Option ((List (S33)))
 | 0, _, _, _, _, _ => none
 | k + 1, x0, x5, x10, x11, x12 => if x12 < x11 then (if 0 ≤ x12 then (if x12 < (x10.length : Int) then (if (rd x10 x12) < 0 then (if x12 < (x0.length : Int) then (if x5.length < 4398046511104 then (impl_OnlyIn.l0 k x0 (x5 ++ [(⟨(rd_T33 x0 x12).f0, (rd_T33 x0 x12).f1, (rd_T33 x0 x12).f2, (rd_T33 x0 x12).f3⟩ : S33)]) x10 x11 (wrap64 (x12 + 1))) else (none)) else (none)) else (impl_OnlyIn.l0 k x0 x5 x10 x11 (wrap64 (x12 + 1)))) else (none)) else (none)) else (some x5)
def impl_OnlyIn.f (k : Nat) (l0 : List (S33)) (l1 : List (S33)) : Option ((List (S33))) := (impl_MatchBooks.f k l0 l1).bind fun t162 => (impl_OnlyIn.l0 k l0 ([] : List (S33)) t162 (t162.length : Int) 0)
theorem impl_OnlyIn.mono_l : ∀ k, (∀ y0 y1 y2 y3 y4, LeO (impl_OnlyIn.l0 k y0 y1 y2 y3 y4) (impl_OnlyIn.l0 (k + 1) y0 y1 y2 y3 y4))
 | 0 => fun _ _ _ _ _ r h => by simp [impl_OnlyIn.l0] at h
 | k + 1 => by
  have ih0 := impl_OnlyIn.mono_l k
  ·intro y0 y1 y2 y3 y4
   unfold impl_OnlyIn.l0
   repeat' first
   | (with_reducible exact ih0 _ _ _ _ _)
   | (with_reducible exact impl_MatchBooks.mono _ _ _)
   | (with_reducible exact LeO.refl _)
   | (with_reducible exact LeO.none _)
   | (with_reducible refine LeO.ite ?_ ?_)
   | (with_reducible refine LeO.bind ?_ (fun _ => ?_))
   | exact ih0 _ _ _ _ _
   | exact impl_MatchBooks.mono _ _ _
   | exact LeO.none _
   | refine LeO.ite ?_ ?_
   | refine LeO.bind ?_ (fun _ => ?_)
theorem impl_OnlyIn.mono : ∀ a0 a1 k, LeO (impl_OnlyIn.f k a0 a1) (impl_OnlyIn.f (k + 1) a0 a1) := by
 intro a0 a1 k
 have ih0 := impl_OnlyIn.mono_l k
 unfold impl_OnlyIn.f
 repeat' first
   | (with_reducible exact ih0 _ _ _ _ _)
   | (with_reducible exact impl_MatchBooks.mono _ _ _)
   | (with_reducible exact LeO.refl _)
   | (with_reducible exact LeO.none _)
   | (with_reducible refine LeO.ite ?_ ?_)
   | (with_reducible refine LeO.bind ?_ (fun _ => ?_))
   | exact ih0 _ _ _ _ _
   | exact impl_MatchBooks.mono _ _ _
   | exact LeO.none _
   | refine LeO.ite ?_ ?_
   | refine LeO.bind ?_ (fun _ => ?_)
set_option maxHeartbeats 8000000 in
set_option maxRecDepth 100000 in
theorem impl_OnlyIn.calls (k : Nat) (A0 : Option Addr) (c0 : Nat) (l0 : List (S33)) (A1 : Option Addr) (c1 : Nat) (l1 : List (S33)) (r : List (S33)) (w : World) (hr0 : Kd.C k33 w A0 l0.length l0) (hc0 : l0.length ≤ c0) (hr1 : Kd.C k33 w A1 l1.length l1) (hc1 : l1.length ≤ c1) (h : impl_OnlyIn.f k l0 l1 = some r) :
  Calls Try.prog 29 #[.slice A0 l0.length c0, .slice A1 l1.length c1] w fun e w' => ∃ v0_ : Value, e = .returned (v0_) ∧ Kd.R k33 33 w' w.heap.size (fun _ => True) v0_ r ∧ Below w.heap.size w w' := by
 have hu33 := Try.underlying33
 have HR0 := am_ hr0
 have HC0 := am_ hc0
 clear hr0 hc0
 have HR1 := am_ hr1
 have HC1 := am_ hc1
 clear hr1 hc1
 have HB := am_ (Below.refl w.heap.size w)
 have H : ((impl_MatchBooks.f k l0 l1).bind fun t162 => (impl_OnlyIn.l0 k l0 ([] : List (S33)) t162 (t162.length : Int) 0)) = some r := h
 clear h
 replace H := Option.bind_eq_some_iff.mp H
 obtain ⟨t162, A30, H⟩ := H
 replace H : (impl_OnlyIn.l0 k l0 ([] : List (S33)) t162 (t162.length : Int) 0) = some r := H
 have A3 := am_ A30
 clear A30
 have H' := am_ H
 clear H
 go_enter Try.func29, Try.ntmps29
 go_wp2_with (first | ((with_reducible refine gate_callee (f := 22) rfl ?_); refine goesL_ (some 10) rfl rfl Try.func22 (by kernel_rfl) rfl #[.slice A0 l0.length c0, .slice A1 l1.length c1] rfl (by (try simp only [q4_, q5_, q6_]); first | done | rfl | (simp only [List.length_drop, List.length_take]; rfl)) ?_; (with_reducible refine (impl_MatchBooks.calls k _ _ l0 _ _ l1 t162 _ ?side1 ?side2 ?side3 ?side4 A3.out).mono ?_); (case side1 => repeat (first | exact HR0.out | (with_reducible refine Kd.C_alloc ?_ _) | (with_reducible refine Kd.C_drewN ?_ _) | (with_reducible refine Kd.C_drew ?_))); (case side2 => exact HC0.out); (case side3 => repeat (first | exact HR1.out | (with_reducible refine Kd.C_alloc ?_ _) | (with_reducible refine Kd.C_drewN ?_ _) | (with_reducible refine Kd.C_drew ?_))); (case side4 => exact HC1.out); rintro e w4 ⟨v163, rfl, ho0, hb⟩; refine ⟨_, rfl, ?_⟩; have n0_ := am_ (Kd.R_lower ho0 (below_size (by repeat (first | (with_reducible first | exact HB.out | apply wa_ | apply wn_ | apply w1_) | exact HB.out)))); have n1_ := am_ (below_step (by repeat (first | (with_reducible first | exact HB.out | apply wa_ | apply wn_ | apply w1_) | exact HB.out)) hb); clear HB; have HO164 := n0_; have HB := n1_; clear n0_ n1_; (try clear hb); (try clear hb2); (try clear hk); (try clear hi); (try clear ho0); obtain ⟨Ao5, co5, eo5⟩ := Kd.R_slice HO164.out; subst eo5))
 go_loopg [5, 12] k (fun kq v5 v12 w' => ∃ (x5_1 : List (S33)) (x12_1 : Int), v12 = .int .i64 x12_1 ∧ Aside0 (impl_OnlyIn.l0 kq l0 x5_1 t162 (t162.length : Int) x12_1 = some r) ∧ Aside0 (kq ≤ k) ∧ Aside0 (Kd.R k33 33 w' w.heap.size (fun _ => True) v5 x5_1) ∧ Aside0 (Kd.R (Kd.int .i64) 3 w' w.heap.size (fun _ => True) (.slice Ao5 t162.length co5) t162) ∧ Aside0 (Below w.heap.size w w'))
 case atStart => exact ⟨(([] : List (S33))), (0), (by first | rfl | (simp; done) | (simp [*]; done)), H', ⟨Nat.le_refl _⟩, ⟨by first | exact Kd.R_nil _ _ _ _ _ | exact Kd.N_nil _ _ _ _ _ | exact Kd.V_nil _ _ _ _ _ | exact Kd.Q_nil _ _ _ _ _ | exact Kd.S_nil _ _ _ _ _⟩, ⟨by (with_reducible repeat (first | apply ra_ | apply rn_ | apply re_)); exact HO164.out⟩, ⟨by repeat (first | (with_reducible first | exact HB.out | apply wa_ | apply wn_ | apply w1_) | exact HB.out)⟩⟩
 case round =>
  clear H'
  try clear c1; try clear c2; try clear p2
  obtain ⟨x5_1, x12_1, rfl, HA, HK1, HO_5, HO_10, HB⟩ := hrel
  cases gk with
  | zero => exact absurd HA.out (by simp [impl_OnlyIn.l0])
  | succ k1 =>
   have H := HA.out
   clear HA
   simp only [impl_OnlyIn.l0] at H
   by_cases c6 : x12_1 < (t162.length : Int)
   ·rw [if_pos c6] at H
    have c6b0 : decide (x12_1 < (t162.length : Int)) = true := decide_eq_true c6
    clear c6
    by_cases c7 : 0 ≤ x12_1
    ·rw [if_pos c7] at H
     have c7b0 : decide (0 ≤ x12_1) = true := decide_eq_true c7
     clear c7
     by_cases c8 : x12_1 < (t162.length : Int)
     ·rw [if_pos c8] at H
      have c8b0 : decide (x12_1 < (t162.length : Int)) = true := decide_eq_true c8
      clear c8
      by_cases c9 : (rd t162 x12_1) < 0
      ·rw [if_pos c9] at H
       have c9b0 : decide ((rd t162 x12_1) < 0) = true := decide_eq_true c9
       clear c9
       by_cases c10 : x12_1 < (l0.length : Int)
       ·rw [if_pos c10] at H
        have c10b0 : decide (x12_1 < (l0.length : Int)) = true := decide_eq_true c10
        clear c10
        by_cases c11 : x5_1.length < 4398046511104
        ·rw [if_pos c11] at H
         have LMc11 := am_ c11
         clear c11
         obtain ⟨y167, hy167⟩ : ∃ y_ : List (S33), y_ = (x5_1 ++ [(⟨(rd_T33 l0 x12_1).f0, (rd_T33 l0 x12_1).f1, (rd_T33 l0 x12_1).f2, (rd_T33 l0 x12_1).f3⟩ : S33)]) := ⟨_, rfl⟩
         replace H : (impl_OnlyIn.l0 k1 l0 y167 t162 (t162.length : Int) (wrap64 (x12_1 + 1))) = some r := by first | (rw [hy167]; with_reducible exact H) | (have H2_ := (q7_ _ _).symm.trans H; rw [hy167]; with_reducible exact H2_) | (have H2_ := (q7_ _ _).symm.trans H; with_reducible exact H2_) | with_reducible exact H | (rw [hy167]; exact H) | exact H
         have Ny167 := am_ hy167
         clear hy167
         have H' := am_ H
         clear H
         have p165 : 0 ≤ (x12_1 : Int) := of_decide_eq_true (by first | (with_reducible assumption) | assumption)
         have q165 : x12_1 < (t162.length : Int) := of_decide_eq_true (by first | (with_reducible assumption) | assumption)
         obtain ⟨ad165, e165, hx165_0⟩ := Kd.at_int (Kd.R_reads' HO_10.out).2.2 x12_1 p165 q165
         cases e165
         replace p165 := eq_true p165
         replace q165 := eq_true q165
         have p166 : 0 ≤ (x12_1 : Int) := of_decide_eq_true (by first | (with_reducible assumption) | assumption)
         have q166 : x12_1 < (l0.length : Int) := of_decide_eq_true (by first | (with_reducible assumption) | assumption)
         obtain ⟨ad166, e166, hx166_0, hx166_1, hx166_2, hx166_3⟩ := at_T33 HR0.out x12_1 p166 q166
         cases e166
         replace hx166_0 := (HB.out.cell (World.block_lt_of_cell? w _ hx166_0)).trans hx166_0
         replace hx166_1 := (HB.out.cell (World.block_lt_of_cell? w _ hx166_1)).trans hx166_1
         replace hx166_2 := (HB.out.cell (World.block_lt_of_cell? w _ hx166_2)).trans hx166_2
         replace hx166_3 := (HB.out.cell (World.block_lt_of_cell? w _ hx166_3)).trans hx166_3
         replace p166 := eq_true p166
         replace q166 := eq_true q166
         go_wp2_with (first | ((with_reducible refine gate_builtin (b := .append) (xs := #[.tmp 19, .tmp 24]) rfl ?_); at_builtin; refine Kd.R_append k33 (w0 := w) w.heap.size rfl (.tmp 19) (.tmp 24) 23 33 (.agg #[(.int .i64 0), (.int .i64 0), (.int .i64 0), (.int .i64 0)]) 32 rfl Try.underlying23 info33 rfl (by decide) (by omega) u5 x5_1 (⟨(rd_T33 l0 x12_1).f0, (rd_T33 l0 x12_1).f1, (rd_T33 l0 x12_1).f2, (rd_T33 l0 x12_1).f3⟩ : S33) [.int .i64 ((rd_T33 l0 x12_1).f0), .int .i64 ((rd_T33 l0 x12_1).f1), .int .i64 ((rd_T33 l0 x12_1).f2), .int .i64 ((rd_T33 l0 x12_1).f3)] (fun _ => True) (fun _ => False) rfl rfl ?aP (fun _ hk => hk.elim) ?aF ?aO ?aB ?aS ?aL ?_; (case aP => exact k33_mkM _ _ _ (⟨(rd_T33 l0 x12_1).f0, (rd_T33 l0 x12_1).f1, (rd_T33 l0 x12_1).f2, (rd_T33 l0 x12_1).f3⟩ : S33)); (case aB => exact (by repeat (first | (with_reducible first | exact HB.out | apply wa_ | apply wn_ | apply w1_) | exact HB.out))); (case aF => exact (fun _ _ => trivial)); (case aO => exact (by (with_reducible repeat (first | apply ra_ | apply rn_ | apply re_)); exact HO_5.out)); (case aS => exact (below_size (by repeat (first | (with_reducible first | exact HB.out | apply wa_ | apply wn_ | apply w1_) | exact HB.out)))); (case aL => have := LMc11.out; omega); intro v168 w12 ho hb hg hat; rw [← Ny167.out] at ho; have n0_ := am_ (Kd.R_over' (by (with_reducible repeat (first | apply ra_ | apply rn_ | apply re_)); exact HO_10.out) (Kd.R_typed (by (with_reducible repeat (first | apply ra_ | apply rn_ | apply re_)); exact HO_5.out)) (by decide) hg); have n1_ := am_ (hb); have n2_ := am_ (ho); clear HO_10 HB HO_5; have HO_10 := n0_; have HB := n1_; have HO169 := n2_; clear n0_ n1_ n2_; clear ho hb hg hat))
         go_roundg k1
         case measure => have := HK1.out; omega
         case rel => exact ⟨(y167), (wrap64 (x12_1 + 1)), (by first | rfl | (simp; done) | (simp [*]; done)), H', ⟨by have := HK1.out; omega⟩, ⟨by (with_reducible repeat (first | apply ra_ | apply rn_ | apply re_)); exact HO169.out⟩, ⟨by (with_reducible repeat (first | apply ra_ | apply rn_ | apply re_)); exact HO_10.out⟩, ⟨by repeat (first | (with_reducible first | exact HB.out | apply wa_ | apply wn_ | apply w1_) | exact HB.out)⟩⟩
        ·rw [if_neg c11] at H
         exact absurd H (by simp)
       ·rw [if_neg c10] at H
        exact absurd H (by simp)
      ·rw [if_neg c9] at H
       have c9b0 : decide ((rd t162 x12_1) < 0) = false := decide_eq_false c9
       clear c9
       have H' := am_ H
       clear H
       have p165 : 0 ≤ (x12_1 : Int) := of_decide_eq_true (by first | (with_reducible assumption) | assumption)
       have q165 : x12_1 < (t162.length : Int) := of_decide_eq_true (by first | (with_reducible assumption) | assumption)
       obtain ⟨ad165, e165, hx165_0⟩ := Kd.at_int (Kd.R_reads' HO_10.out).2.2 x12_1 p165 q165
       cases e165
       replace p165 := eq_true p165
       replace q165 := eq_true q165
       go_wp2
       go_roundg k1
       case measure => have := HK1.out; omega
       case rel => exact ⟨(x5_1), (wrap64 (x12_1 + 1)), (by first | rfl | (simp; done) | (simp [*]; done)), H', ⟨by have := HK1.out; omega⟩, ⟨by (with_reducible repeat (first | apply ra_ | apply rn_ | apply re_)); exact HO_5.out⟩, ⟨by (with_reducible repeat (first | apply ra_ | apply rn_ | apply re_)); exact HO_10.out⟩, ⟨by repeat (first | (with_reducible first | exact HB.out | apply wa_ | apply wn_ | apply w1_) | exact HB.out)⟩⟩
     ·rw [if_neg c8] at H
      exact absurd H (by simp)
    ·rw [if_neg c7] at H
     exact absurd H (by simp)
   ·rw [if_neg c6] at H
    have c6b0 : decide (x12_1 < (t162.length : Int)) = false := decide_eq_false c6
    clear c6
    obtain rfl := Option.some.inj H
    go_wp2
    go_ret
    exact ⟨_, by first | rfl | (simp [errW_none, errW_some] <;> rfl) | (simp [*, errW_none, errW_some] <;> rfl), by (with_reducible repeat (first | apply ra_ | apply rn_ | apply re_)); exact HO_5.out, by repeat (first | (with_reducible first | exact HB.out | apply wa_ | apply wn_ | apply w1_) | exact HB.out)⟩

/-- A state of type 65 at block g of W; what its slices lead to came in by w0. -/
def IsS65 (w0 W : World) (g : Nat) (f0 : List Int) (f1 : Int) : Prop := ∃ A0 c0, W.heap[g]? = some (.cells #[.slice A0 f0.length c0, .int .i64 f1] 65 (0, 0)) ∧ w0.heap.size ≤ g ∧ Kd.C (Kd.int .u8) w0 A0 f0.length f0
theorem IsS65.grown {w0 W : World} {g : Nat} {f0 : List Int} {f1 : Int} {W1 : World} {row : Option Nat} (h : IsS65 w0 W g f0 f1) (hw : W.grownBy W1 row) (hne : some g ≠ row) : IsS65 w0 W1 g f0 f1 := by
 obtain ⟨A0, c0, hb, hg, hr0⟩ := h
 exact ⟨A0, c0, blk_grown hb hw hne, hg, hr0⟩
theorem IsS65.own_neN {w0 W : World} {g : Nat} {f0 : List Int} {f1 : Int} {α : Type} {d : Kd α} {e : Nat} {base : Nat} {ok : Nat → Prop} {v : Value} {xs : List α} (h : IsS65 w0 W g f0 f1) (ho : Kd.N d e W base ok v xs) (ht : e ≠ 65) : some g ≠ v.ownBlock := by
 obtain ⟨A0, c0, hb, hg, hr0⟩ := h
 exact Kd.N_ne ho hb ht
theorem IsS65.fresh {w0 W : World} {g : Nat} {f0 : List Int} {f1 : Int} (h : IsS65 w0 W g f0 f1) : ∀ k, W.heap.size ≤ k → k ≠ g := by
 obtain ⟨A0, c0, hb, hg, hr0⟩ := h
 exact Kd.freshB hb
theorem IsS65.kept {w0 W : World} {g : Nat} {f0 : List Int} {f1 : Int} {W1 : World} {S : Nat → Prop} (h : IsS65 w0 W g f0 f1) (hk : Kept W W1 S) (hne : ¬ S g) : IsS65 w0 W1 g f0 f1 := by
 obtain ⟨A0, c0, hb, hg, hr0⟩ := h
 exact ⟨A0, c0, blk_kept hb hk hne, hg, hr0⟩
theorem IsS65.below {w0 W : World} {g : Nat} {f0 : List Int} {f1 : Int} {W1 : World} (h : IsS65 w0 W g f0 f1) (hw : Below W.heap.size W W1) : IsS65 w0 W1 g f0 f1 := h.grown (grown_of_below hw none) (by simp)
theorem IsS65.alloc {w0 W : World} {g : Nat} {f0 : List Int} {f1 : Int} (h : IsS65 w0 W g f0 f1) (o : Obj) : IsS65 w0 (W.alloc o) g f0 f1 := h.below (wa_ (Below.refl _ _) o)
theorem IsS65.drewN {w0 W : World} {g : Nat} {f0 : List Int} {f1 : Int} (h : IsS65 w0 W g f0 f1) (m : Nat) : IsS65 w0 (W.drewN m) g f0 f1 := h
theorem IsS65.drew {w0 W : World} {g : Nat} {f0 : List Int} {f1 : Int} (h : IsS65 w0 W g f0 f1) : IsS65 w0 W.drew g f0 f1 := h
theorem IsS65.at_ {w0 W : World} {g : Nat} {f0 : List Int} {f1 : Int} {w' : World} {m : Nat} (hq : W.drewN m = w') (h : IsS65 w0 W g f0 f1) : IsS65 w0 w' g f0 f1 := by subst hq; exact IsS65.drewN h m
theorem IsS65.apart {w0 W : World} {g : Nat} {f0 : List Int} {f1 : Int} {α : Type} {d : Kd α} {e : Nat} {base : Nat} {ok : Nat → Prop} {v : Value} {xs : List α} (h : IsS65 w0 W g f0 f1) (ho : d.R e W base ok v xs) (ht : ∀ q, q ∈ e :: d.E → q ≠ 65) : d.R e W base (fun k => ok k ∧ k ≠ g) v xs := by
 obtain ⟨A0, c0, hb, hg, hr0⟩ := h
 exact Kd.R_types ho hb ht
theorem IsS65.own_ne {w0 W : World} {g : Nat} {f0 : List Int} {f1 : Int} {α : Type} {d : Kd α} {e : Nat} {base : Nat} {ok : Nat → Prop} {v : Value} {xs : List α} (h : IsS65 w0 W g f0 f1) (ho : d.R e W base ok v xs) (ht : e ≠ 65) : some g ≠ v.ownBlock := by
 obtain ⟨A0, c0, hb, hg, hr0⟩ := h
 exact Kd.R_ne ho hb ht
theorem IsS65.apartQ {w0 W : World} {g : Nat} {f0 : List Int} {f1 : Int} {α : Type} {d : Kd α} {e : Nat} {base : Nat} {ok : Nat → Prop} {v : Value} {xs : List α} (h : IsS65 w0 W g f0 f1) (ho : d.Q e W base ok v xs) (ht : ∀ q, q ∈ e :: d.E → q ≠ 65) : d.Q e W base (fun k => ok k ∧ k ≠ g) v xs := by
 obtain ⟨A0, c0, hb, hg, hr0⟩ := h
 exact Kd.Q_types ho hb ht
theorem IsS65.own_neQ {w0 W : World} {g : Nat} {f0 : List Int} {f1 : Int} {α : Type} {d : Kd α} {e : Nat} {base : Nat} {ok : Nat → Prop} {v : Value} {xs : List α} (h : IsS65 w0 W g f0 f1) (ho : d.Q e W base ok v xs) (ht : e ≠ 65) : some g ≠ v.ownBlock := by
 obtain ⟨A0, c0, hb, hg, hr0⟩ := h
 exact Kd.Q_ne ho hb ht
theorem IsS65.apartS {w0 W : World} {g : Nat} {f0 : List Int} {f1 : Int} {α : Type} {d : Kd α} {e : Nat} {base : Nat} {ok : Nat → Prop} {v : Value} {xs : List α} (h : IsS65 w0 W g f0 f1) (ho : d.S e W base ok v xs) (ht : ∀ q, q ∈ e :: d.E → q ≠ 65) : d.S e W base (fun k => ok k ∧ k ≠ g) v xs := by
 obtain ⟨A0, c0, hb, hg, hr0⟩ := h
 exact Kd.S_types ho hb ht
theorem IsS65.own_neS {w0 W : World} {g : Nat} {f0 : List Int} {f1 : Int} {α : Type} {d : Kd α} {e : Nat} {base : Nat} {ok : Nat → Prop} {v : Value} {xs : List α} (h : IsS65 w0 W g f0 f1) (ho : d.S e W base ok v xs) (ht : e ≠ 65) : some g ≠ v.ownBlock := by
 obtain ⟨A0, c0, hb, hg, hr0⟩ := h
 exact Kd.S_ne ho hb ht
theorem IsS65.lt {w0 W : World} {g : Nat} {f0 : List Int} {f1 : Int} (h : IsS65 w0 W g f0 f1) : g < W.heap.size := by
 obtain ⟨A0, c0, hb, hg, hr0⟩ := h
 exact blk_lt hb
theorem IsS65.ge {w0 W : World} {g : Nat} {f0 : List Int} {f1 : Int} (h : IsS65 w0 W g f0 f1) : w0.heap.size ≤ g := by
 obtain ⟨A0, c0, hb, hg, hr0⟩ := h
 exact hg
theorem IsS65.ne_blk {w0 W : World} {g : Nat} {f0 : List Int} {f1 : Int} {a : Nat} {cs : Array Value} {t : TypeId} {fr : Nat × Nat} (h : IsS65 w0 W g f0 f1) (hb2 : W.heap[a]? = some (.cells cs t fr)) (ht : t ≠ 65) : g ≠ a := by
 obtain ⟨A0, c0, hb, hg, hr0⟩ := h
 rintro rfl
 rw [hb] at hb2
 injection hb2 with hb2
 injection hb2 with _ ht2
 exact ht ht2.symm
theorem IsS65.far {w0 W : World} {g : Nat} {f0 : List Int} {f1 : Int} {p : Addr} (h : IsS65 w0 W g f0 f1) (hne : g ≠ p.block) (u : Value) : IsS65 w0 (W.setCell p u) g f0 f1 := by
 obtain ⟨A0, c0, hb, hg, hr0⟩ := h
 exact ⟨A0, c0, bf_ hb hne u, hg, hr0⟩
theorem cellS65_0 {W : World} {g : Nat} {A0 : Option Addr} {c0 : Nat} {f0 : List Int} {f1 : Int} (h : W.heap[g]? = some (.cells #[.slice A0 f0.length c0, .int .i64 f1] 65 (0, 0))) : W.cell? ⟨g, 0, none⟩ = some (.slice A0 f0.length c0) := (bc_ h 0).trans rfl
theorem cellS65_1 {W : World} {g : Nat} {A0 : Option Addr} {c0 : Nat} {f0 : List Int} {f1 : Int} (h : W.heap[g]? = some (.cells #[.slice A0 f0.length c0, .int .i64 f1] 65 (0, 0))) : W.cell? ⟨g, 1, none⟩ = some (.int .i64 f1) := (bc_ h 1).trans rfl
theorem IsS65.set_1 {w0 W : World} {g : Nat} {f0 : List Int} {f1 : Int} (h : IsS65 w0 W g f0 f1) (x : Int) : IsS65 w0 (W.setCell ⟨g, 1, none⟩ (.int .i64 x)) g f0 x := by
 obtain ⟨A0, c0, hb, hg, hr0⟩ := h
 exact ⟨A0, c0, by simpa using blk_set hb 1 (.int .i64 x), hg, hr0⟩
theorem IsS65.new (w0 W : World) (A0 : Option Addr) (c0 : Nat) (f0 : List Int) (f1 : Int) (hB : Below w0.heap.size w0 W) (hr0 : Kd.C (Kd.int .u8) w0 A0 f0.length f0) : IsS65 w0 (W.alloc (.cells #[.slice A0 f0.length c0, .int .i64 f1] 65)) W.heap.size f0 f1 := ⟨A0, c0, by simpa using heap_alloc_new W _, hB.size, hr0⟩

/-! ### spec_newReader: function 36 -/
def spec_newReader.f (l0 : List Int) : Option (List Int × Int) := if (l0.length : Int) > 2000 then (if 2000 ≤ (l0.length : Int) then (some (l0.take 2000, 0)) else (none)) else (some (l0, 0))
set_option maxHeartbeats 8000000 in
set_option maxRecDepth 100000 in
theorem spec_newReader.calls (A0 : Option Addr) (c0 : Nat) (l0 : List Int) (r1 : List Int) (r2 : Int) (w0 w : World) (hB : Below w0.heap.size w0 w) (hr0 : Kd.C (Kd.int .u8) w0 A0 l0.length l0) (hc0 : l0.length ≤ c0) (h : spec_newReader.f l0 = some (r1, r2)) :
  Calls Try.prog 36 #[.slice A0 l0.length c0] w fun e w' => ∃ g_ : Nat, e = .returned (.pointer (some ⟨g_, 0, none⟩)) ∧ IsS65 w0 w' g_ r1 r2 ∧ Below w0.heap.size w0 w' ∧ Below w.heap.size w w' := by
 have hu65 := Try.underlying65
 have HR0 := am_ hr0
 have HC0 := am_ hc0
 clear hr0 hc0
 have HBW := am_ (Below.refl w.heap.size w)
 have HW0 := am_ hB.size
 have HB := am_ hB
 clear hB
 have H : (if (l0.length : Int) > 2000 then (if 2000 ≤ (l0.length : Int) then (some (l0.take 2000, 0)) else (none)) else (some (l0, 0))) = some (r1, r2) := h
 clear h
 by_cases c2 : (l0.length : Int) > 2000
 ·rw [if_pos c2] at H
  have c2b0 : decide (2000 < (l0.length : Int)) = true := decide_eq_true c2
  have c2b1 : decide (2000 < l0.length) = true := decide_eq_true (by omega)
  clear c2
  by_cases c3 : 2000 ≤ (l0.length : Int)
  ·rw [if_pos c3] at H
   have c3b0 := eq_true c3
   have c3b1 : decide (2000 ≤ (l0.length : Int)) = true := decide_eq_true c3
   clear c3
   simp only [Option.some.injEq, Prod.mk.injEq] at H
   obtain ⟨rfl, rfl⟩ := H
   obtain ⟨i04, hi04, _, hsz4, _⟩ := info_parts info5
   obtain ⟨hcut4, hA4, hC4⟩ := print_take_of (P := Try.prog) (Value.int .u8) 0 22 5 .i64 Try.underlying22 hi04 hsz4 A0 c0 l0 2000 (by omega) (of_decide_eq_true (by first | (with_reducible assumption) | assumption)) HC0.out
   have HR170 := am_ (Kd.C_of_reads (h1 := fun _ => rfl) (hA4 _ (Kd.reads_of_C HR0.out)))
   have HC170 := am_ hC4
   clear hA4 hC4 hi04 hsz4
   go_enter Try.func36, Try.ntmps36
   go_wp2_with (first | ((with_reducible refine gate_dst (N := 10) rfl ?_); refine box_event ?hg (N := 10) ?hd (cs := #[.slice A0 (l0.take 2000).length c0, .int .i64 0]) (t := 65) ?hr ?_; (case hd => rfl); (case hg => rfl); (case hr => first | (go_simp; done) | (go_simp; rfl)); intro gb171 hg w5 hbox hb; have n0_ := am_ (below_step HBW.out hb); have n1_ := am_ (below_step (by repeat (first | (with_reducible first | exact HB.out | apply wa_ | apply wn_ | apply w1_) | exact HB.out)) hb); have n2_ := am_ (hbox); have n3_ := am_ ((by rw [hg]; exact (below_size (by repeat (first | (with_reducible first | exact HBW.out | apply wa_ | apply wn_ | apply w1_) | exact HBW.out))) : w.heap.size ≤ gb171)); have n4_ := am_ ((Nat.le_trans HW0.out (by rw [hg]; exact (below_size (by repeat (first | (with_reducible first | exact HBW.out | apply wa_ | apply wn_ | apply w1_) | exact HBW.out))) : w.heap.size ≤ gb171) : w0.heap.size ≤ gb171)); clear HBW HB; have HBW := n0_; have HB := n1_; have BK171 := n2_; have GW171 := n3_; have GE171 := n4_; clear n0_ n1_ n2_ n3_ n4_; clear hb hbox hg))
   go_ret
   exact ⟨_, rfl, (show IsS65 w0 _ gb171 (l0.take 2000) 0 from ⟨_, _, by (with_reducible repeat (first | refine bn_ ?_ _ | refine bd_ ?_ | refine bl_ ?_ _)); exact BK171.out, GE171.out, HR170.out⟩), by repeat (first | (with_reducible first | exact HB.out | apply wa_ | apply wn_ | apply w1_ | refine ws_ ?_ GE171.out) | exact HB.out), by repeat (first | (with_reducible first | exact HBW.out | apply wa_ | apply wn_ | apply w1_ | refine ws_ ?_ GW171.out) | exact HBW.out)⟩
  ·rw [if_neg c3] at H
   exact absurd H (by simp)
 ·rw [if_neg c2] at H
  have c2b0 : decide (2000 < (l0.length : Int)) = false := decide_eq_false c2
  have c2b1 : decide (2000 < l0.length) = false := decide_eq_false (by omega)
  clear c2
  simp only [Option.some.injEq, Prod.mk.injEq] at H
  obtain ⟨rfl, rfl⟩ := H
  go_enter Try.func36, Try.ntmps36
  go_wp2_with (first | ((with_reducible refine gate_dst (N := 10) rfl ?_); refine box_event ?hg (N := 10) ?hd (cs := #[.slice A0 l0.length c0, .int .i64 0]) (t := 65) ?hr ?_; (case hd => rfl); (case hg => rfl); (case hr => first | (go_simp; done) | (go_simp; rfl)); intro gb172 hg w6 hbox hb; have n0_ := am_ (below_step HBW.out hb); have n1_ := am_ (below_step (by repeat (first | (with_reducible first | exact HB.out | apply wa_ | apply wn_ | apply w1_) | exact HB.out)) hb); have n2_ := am_ (hbox); have n3_ := am_ ((by rw [hg]; exact (below_size (by repeat (first | (with_reducible first | exact HBW.out | apply wa_ | apply wn_ | apply w1_) | exact HBW.out))) : w.heap.size ≤ gb172)); have n4_ := am_ ((Nat.le_trans HW0.out (by rw [hg]; exact (below_size (by repeat (first | (with_reducible first | exact HBW.out | apply wa_ | apply wn_ | apply w1_) | exact HBW.out))) : w.heap.size ≤ gb172) : w0.heap.size ≤ gb172)); clear HBW HB; have HBW := n0_; have HB := n1_; have BK172 := n2_; have GW172 := n3_; have GE172 := n4_; clear n0_ n1_ n2_ n3_ n4_; clear hb hbox hg))
  go_ret
  exact ⟨_, rfl, (show IsS65 w0 _ gb172 l0 0 from ⟨_, _, by (with_reducible repeat (first | refine bn_ ?_ _ | refine bd_ ?_ | refine bl_ ?_ _)); exact BK172.out, GE172.out, HR0.out⟩), by repeat (first | (with_reducible first | exact HB.out | apply wa_ | apply wn_ | apply w1_ | refine ws_ ?_ GE172.out) | exact HB.out), by repeat (first | (with_reducible first | exact HBW.out | apply wa_ | apply wn_ | apply w1_ | refine ws_ ?_ GW172.out) | exact HBW.out)⟩

end Go.Proofs.Ytgapjelooefofaa.PFnOnlyIn
